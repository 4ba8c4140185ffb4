/- PuUnk: equations of the functions of this seat as the executor tells them, or plain facts about them. Conditions: none here. -/
import Derived.Test.YtbgaejnkjmjkhaaGreatDoorPuWords
set_option linter.all false
namespace Go.Den.S
open Go Go.Den
set_option maxRecDepth 100000
theorem qjN : strings_Fields q0Q = some (cmds, ()) := (wK _).trans (by kernel_rfl)
theorem f_0 : strings_Fields q50 = some (ar0, ()) := (wK _).trans (by kernel_rfl)
theorem f_1 : strings_Fields q5q = some (ar1, ()) := (wK _).trans (by kernel_rfl)
theorem f_2 : strings_Fields q53 = some (ar2, ()) := (wK _).trans (by kernel_rfl)
theorem f_3 : strings_Fields qb2 = some (ar3, ()) := (wK _).trans (by kernel_rfl)
theorem f_4 : strings_Fields q88 = some (ar4, ()) := (wK _).trans (by kernel_rfl)
theorem f_5 : strings_Fields q4X = some (ar5, ()) := (wK _).trans (by kernel_rfl)
theorem qbX {names : BA} : jT [] names = some (false, ()) := by
 rw [qaZ]
 simp
theorem q12 {a : BA} {r : List BA} {names : BA} {l : List BA} (hf : strings_Fields names = some (l, ())) (ha : a.size <= 2097152) (hl : l.length <= 2097152) : jT (a :: r) names = some (memB (upB a) l, ()) := by
 rw [qaZ, hf]
 have k1 : decide ((((a :: r).length : Nat) : Int) > 0) = true := dYT (by simp only [List.length_cons]; omega)
 have k2 : decide ((0 : Int) < (((a :: r).length : Nat) : Int)) = true := dYT (by simp only [List.length_cons]; omega)
 have k3 : decide ((0 : Int) <= 0) = true := rfl
 simp only [k1, k2, Int.le_refl, decide_true, Bool.and_self, cT, oB]
 rw [show List.getD (a :: r) (Int.toNat 0) eB = a from rfl, q2M a (by omega), oB, q9K l _ hl, oB]
def arB (u : BA) (n : Int) : Bool :=
 bif memB u ar0 then n == 0 else bif memB u ar1 then n == 1 else bif memB u ar2 then n == 2 else bif memB u ar3 then n == 3 else bif memB u ar4 then decide (n >= 1) else bif memB u ar5 then decide (n >= 2) else (n == 2 || (n == 4 || n == 6))
def j5 : List BA -> Bool
 | [] => false
 | a :: r => memB (upB a) cmds && arB (upB a) (r.length : Int)
theorem wlen {a : BA} {r : List BA} (h : r.length <= 2097152) : w64 (((a :: r).length : Int) - 1) = (r.length : Int) := by
 show IntKind.i64.wrap _ = _
 rw [ql (by simp only [List.length_cons]; omega) (by simp only [List.length_cons]; omega)]
 simp only [List.length_cons]; omega
theorem q9u (args : List BA) (hl : args.length <= 2097152) (hs : ∀ s ∈ args, s.size <= 2097152) : q6c args = some (j5 args, ()) := by
 rw [qeL]
 match args, hl, hs with
 | [], _, _ => rw [qbX]; rfl
 | a :: r, hl, hs =>
  have ha := hs a (List.mem_cons_self ..)
  have hr : r.length <= 2097152 := by simp only [List.length_cons] at hl; omega
  simp only [q12 qjN ha (by decide), q12 f_0 ha (by decide), q12 f_1 ha (by decide), q12 f_2 ha (by decide), q12 f_3 ha (by decide), q12 f_4 ha (by decide), q12 f_5 ha (by decide), oB, wlen hr, j5, arB]
  generalize memB (upB a) cmds = b
  generalize memB (upB a) ar0 = b0
  generalize memB (upB a) ar1 = b1
  generalize memB (upB a) ar2 = b2
  generalize memB (upB a) ar3 = b3
  generalize memB (upB a) ar4 = b4
  generalize memB (upB a) ar5 = b5
  cases b <;> cases b0 <;> cases b1 <;> cases b2 <;> cases b3 <;> cases b4 <;> cases b5 <;> simp only [Bool.not_true, Bool.not_false, cT, cF, Bool.false_and, Bool.true_and]
  all_goals
   generalize ((r.length : Int) == 2) = e2
   generalize ((r.length : Int) == 4) = e4
   cases e2 <;> cases e4 <;> rfl
theorem kinds : (cmds.all fun u => (memB u ar1 == (!(memB u ar0) && (!(memB u ar2) && (!(memB u ar3) && (!(memB u ar4) && (!(memB u ar5) && !(decide (u = w9)))))))) && (!(memB u ar1 && memB u ar0))) = true := by decide +kernel
theorem qmR {u : BA} (h : memB u cmds = true) : memB u ar1 = (!(memB u ar0) && (!(memB u ar2) && (!(memB u ar3) && (!(memB u ar4) && (!(memB u ar5) && !(decide (u = w9))))))) := by
 have := List.all_eq_true.1 kinds u (wQ.1 h)
 simp only [Bool.and_eq_true, beq_iff_eq] at this
 exact this.1
theorem q9o (args : List BA) (hl : args.length <= 2097152) (hs : ∀ s ∈ args, s.size <= 2097152) : q67 args = some (j5 args, ()) := by
 rw [qdR]
 match args, hl, hs with
 | [], _, _ => rfl
 | a :: r, hl, hs =>
  have ha := hs a (List.mem_cons_self ..)
  have hr : r.length <= 2097152 := by simp only [List.length_cons] at hl; omega
  have k1 : (((a :: r).length : Int) == 0) = false := by simp only [List.length_cons]; simp; omega
  have k2 : decide ((0 : Int) < (((a :: r).length : Nat) : Int)) = true := dYT (by simp only [List.length_cons]; omega)
  have k3 : decide ((0 : Int) <= 0) = true := rfl
  have k4 : yH (List.getD (a :: r) (Int.toNat 0) eB) = some (upB a, ()) := zC a (by omega)
  simp only [k1, k2, Int.le_refl, decide_true, k4, Bool.and_self, cT, cF, q2s, oB, qM, wlen hr, j5, arB,
   q4e cmds _ (by decide), q4e [wX, zo, yS, yF] _ (by decide), q4e [q0x, j4, zw, zn, q0F, zX, yj, zu, jQ, wD] _ (by decide), q4e [jk, jG] _ (by decide), q4e [ze, wG, qZ] _ (by decide), q4e [zN, zP, q0I, jP, q0d] _ (by decide)]
  have hk := qmR (u := upB a)
  revert hk
  generalize memB (upB a) cmds = b
  generalize memB (upB a) ar0 = b0
  generalize memB (upB a) ar1 = b1
  generalize memB (upB a) ar2 = b2
  generalize memB (upB a) ar3 = b3
  generalize memB (upB a) ar4 = b4
  generalize memB (upB a) ar5 = b5
  generalize decide (upB a = w9) = b6
  intro hk
  cases b
  ·rfl
  ·have hk := hk rfl
   subst hk
   cases b0 <;> cases b2 <;> cases b3 <;> cases b4 <;> cases b5 <;> cases b6 <;> try rfl
   all_goals
    simp only [Bool.not_true, Bool.not_false, cT, cF, Bool.false_and, Bool.true_and]
    generalize ((r.length : Int) == 2) = e2
    generalize ((r.length : Int) == 4) = e4
    cases e2 <;> cases e4 <;> rfl
def y8 (s : BA) : BA := (j6 ++ s) ++ qB
theorem q4l (s : BA) (h : s.size <= 2097152) : q46 s = some (y8 s, ()) := by
 rw [qgQ]
 have e1 : (j6 : BA).size = 1 := rfl
 have e2 : (qB : BA).size = 2 := rfl
 have k1 : limS (ByteArray.size j6 + ByteArray.size s) = true := yJ (by omega)
 have k2 : limS (ByteArray.size (j6 ++ s) + ByteArray.size qB) = true := yJ (by rw [ByteArray.size_append]; omega)
 simp only [k1, k2, cT]
 rfl
theorem q2L (s : BA) (h : s.size <= 2097152) : q1W s = some (y8 s, ()) := by
 rw [qgR]
 have e1 : (j6 : BA).size = 1 := rfl
 have e2 : (qB : BA).size = 2 := rfl
 have k1 : limS (ByteArray.size j6 + ByteArray.size s) = true := yJ (by omega)
 have k2 : limS (ByteArray.size (j6 ++ s) + ByteArray.size qB) = true := yJ (by rw [ByteArray.size_append]; omega)
 simp only [k1, k2, cT]
 rfl
def unkB (args : List BA) : BA := match args with
 | [] => y8 jH
 | a :: _ => bif memB (upB a) cmds then (bif j5 args then eB else y8 q17) else y8 jH
theorem qeG (args : List BA) (hl : args.length <= 2097152) (hs : ∀ s ∈ args, s.size <= 2097152) : q91 args = some (unkB args, ()) := by
 rw [qeS]
 match args, hl, hs with
 | [], _, _ => rw [qbX, oB, q4l _ (by decide)]; rfl
 | a :: r, hl, hs =>
  rw [q12 qjN (hs a (List.mem_cons_self ..)) (by decide), oB, q4l _ (by decide), q4l _ (by decide), q9u _ hl hs]
  simp only [oB, unkB]
  cases memB (upB a) cmds <;> cases j5 (a :: r) <;> rfl
theorem q9n (args : List BA) (hl : args.length <= 2097152) (hs : ∀ s ∈ args, s.size <= 2097152) : q6D args = some (unkB args, ()) := by
 rw [qdE]
 match args, hl, hs with
 | [], _, _ => rw [q2L _ (by decide)]; rfl
 | a :: r, hl, hs =>
  have ha := hs a (List.mem_cons_self ..)
  have k1 : (((a :: r).length : Int) == 0) = false := by simp only [List.length_cons]; simp; omega
  have k2 : decide ((0 : Int) < (((a :: r).length : Nat) : Int)) = true := dYT (by simp only [List.length_cons]; omega)
  have k3 : decide ((0 : Int) <= 0) = true := rfl
  have k4 : yH (List.getD (a :: r) (Int.toNat 0) eB) = some (upB a, ()) := zC a (by omega)
  simp only [k1, k2, Int.le_refl, decide_true, k4, Bool.and_self, cT, cF, q2s, oB, q4e cmds _ (by decide), q2L jH (by decide), q2L q17 (by decide), q9o _ hl hs, unkB]
  cases memB (upB a) cmds <;> cases j5 (a :: r) <;> rfl
end Go.Den.S
