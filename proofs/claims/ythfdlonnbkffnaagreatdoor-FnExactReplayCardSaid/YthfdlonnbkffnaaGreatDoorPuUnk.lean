/- PuUnk: equations of the functions of this seat as the executor tells them, or plain facts about them. Conditions: none here. -/
import Derived.Test.YthfdlonnbkffnaaGreatDoorPuWords
set_option linter.all false
namespace Go.Den.S
open Go Go.Den
set_option maxRecDepth 100000
theorem qm5 : strings_Fields q1C = some (cmds, ()) := (wu _).trans (by kernel_rfl)
theorem f_0 : strings_Fields q4A = some (ar0, ()) := (wu _).trans (by kernel_rfl)
theorem f_1 : strings_Fields q5u = some (ar1, ()) := (wu _).trans (by kernel_rfl)
theorem f_2 : strings_Fields q4B = some (ar2, ()) := (wu _).trans (by kernel_rfl)
theorem f_3 : strings_Fields qbA = some (ar3, ()) := (wu _).trans (by kernel_rfl)
theorem f_4 : strings_Fields q8T = some (ar4, ()) := (wu _).trans (by kernel_rfl)
theorem f_5 : strings_Fields q4H = some (ar5, ()) := (wu _).trans (by kernel_rfl)
theorem qcf {names : BA} : q09 [] names = some (false, ()) := by
 rw [qbE]
 simp
theorem q1H {a : BA} {r : List BA} {names : BA} {l : List BA} (hf : strings_Fields names = some (l, ())) (ha : a.size <= 2097152) (hl : l.length <= 2097152) : q09 (a :: r) names = some (memB (upB a) l, ()) := by
 rw [qbE, hf]
 have k1 : decide ((((a :: r).length : Nat) : Int) > 0) = true := dYT (by simp only [List.length_cons]; omega)
 have k2 : decide ((0 : Int) < (((a :: r).length : Nat) : Int)) = true := dYT (by simp only [List.length_cons]; omega)
 have k3 : decide ((0 : Int) <= 0) = true := rfl
 simp only [k1, k2, Int.le_refl, decide_true, Bool.and_self, cT, oB]
 rw [show List.getD (a :: r) (Int.toNat 0) eB = a from rfl, q2v a (by omega), oB, qar l _ hl, oB]
def arB (u : BA) (n : Int) : Bool :=
 bif memB u ar0 then n == 0 else bif memB u ar1 then n == 1 else bif memB u ar2 then n == 2 else bif memB u ar3 then n == 3 else bif memB u ar4 then decide (n >= 1) else bif memB u ar5 then decide (n >= 2) else (n == 2 || (n == 4 || n == 6))
def jY : List BA -> Bool
 | [] => false
 | a :: r => memB (upB a) cmds && arB (upB a) (r.length : Int)
theorem wlen {a : BA} {r : List BA} (h : r.length <= 2097152) : w64 (((a :: r).length : Int) - 1) = (r.length : Int) := by
 show IntKind.i64.wrap _ = _
 rw [qj (by simp only [List.length_cons]; omega) (by simp only [List.length_cons]; omega)]
 simp only [List.length_cons]; omega
theorem q9T (args : List BA) (hl : args.length <= 2097152) (hs : ∀ s ∈ args, s.size <= 2097152) : q6N args = some (jY args, ()) := by
 rw [qe3]
 match args, hl, hs with
 | [], _, _ => rw [qcf]; rfl
 | a :: r, hl, hs =>
  have ha := hs a (List.mem_cons_self ..)
  have hr : r.length <= 2097152 := by simp only [List.length_cons] at hl; omega
  simp only [q1H qm5 ha (by decide), q1H f_0 ha (by decide), q1H f_1 ha (by decide), q1H f_2 ha (by decide), q1H f_3 ha (by decide), q1H f_4 ha (by decide), q1H f_5 ha (by decide), oB, wlen hr, jY, arB]
  generalize memB (upB a) cmds = b
  generalize memB (upB a) ar0 = b0
  generalize memB (upB a) ar1 = b1
  generalize memB (upB a) ar2 = b2
  generalize memB (upB a) ar3 = b3
  generalize memB (upB a) ar4 = b4
  generalize memB (upB a) ar5 = b5
  cases b <;> cases b0 <;> cases b1 <;> cases b2 <;> cases b3 <;> cases b4 <;> cases b5 <;> simp only [Bool.not_true, Bool.not_false, cT, cF, Bool.false_and, Bool.true_and]
  all_goals
   generalize ((r.length : Int) == 2) = e2
   generalize ((r.length : Int) == 4) = e4
   cases e2 <;> cases e4 <;> rfl
theorem kinds : (cmds.all fun u => (memB u ar1 == (!(memB u ar0) && (!(memB u ar2) && (!(memB u ar3) && (!(memB u ar4) && (!(memB u ar5) && !(decide (u = zI)))))))) && (!(memB u ar1 && memB u ar0))) = true := by decide +kernel
theorem qmj {u : BA} (h : memB u cmds = true) : memB u ar1 = (!(memB u ar0) && (!(memB u ar2) && (!(memB u ar3) && (!(memB u ar4) && (!(memB u ar5) && !(decide (u = zI))))))) := by
 have := List.all_eq_true.1 kinds u (wP.1 h)
 simp only [Bool.and_eq_true, beq_iff_eq] at this
 exact this.1
theorem q9W (args : List BA) (hl : args.length <= 2097152) (hs : ∀ s ∈ args, s.size <= 2097152) : q6E args = some (jY args, ()) := by
 rw [qes]
 match args, hl, hs with
 | [], _, _ => rfl
 | a :: r, hl, hs =>
  have ha := hs a (List.mem_cons_self ..)
  have hr : r.length <= 2097152 := by simp only [List.length_cons] at hl; omega
  have k1 : (((a :: r).length : Int) == 0) = false := by simp only [List.length_cons]; simp; omega
  have k2 : decide ((0 : Int) < (((a :: r).length : Nat) : Int)) = true := dYT (by simp only [List.length_cons]; omega)
  have k3 : decide ((0 : Int) <= 0) = true := rfl
  have k4 : yF (List.getD (a :: r) (Int.toNat 0) eB) = some (upB a, ()) := zo a (by omega)
  simp only [k1, k2, Int.le_refl, decide_true, k4, Bool.and_self, cT, cF, q9B, oB, qG, wlen hr, jY, arB,
   q4F cmds _ (by decide), q4F [q0f, q0i, zM, wM] _ (by decide), q4F [q0L, zN, z8, za, q0C, zO, zD, zn, jL, wz] _ (by decide), q4F [je, jH] _ (by decide), q4F [zR, zh, wm] _ (by decide), q4F [zH, zF, q0H, jK, q02] _ (by decide)]
  have hk := qmj (u := upB a)
  revert hk
  generalize memB (upB a) cmds = b
  generalize memB (upB a) ar0 = b0
  generalize memB (upB a) ar1 = b1
  generalize memB (upB a) ar2 = b2
  generalize memB (upB a) ar3 = b3
  generalize memB (upB a) ar4 = b4
  generalize memB (upB a) ar5 = b5
  generalize decide (upB a = zI) = b6
  intro hk
  cases b
  ·rfl
  ·have hk := hk rfl
   subst hk
   cases b0 <;> cases b2 <;> cases b3 <;> cases b4 <;> cases b5 <;> cases b6 <;> try rfl
   all_goals
    simp only [Bool.not_true, Bool.not_false, cT, cF, Bool.false_and, Bool.true_and]
    generalize ((r.length : Int) == 2) = e2
    generalize ((r.length : Int) == 4) = e4
    cases e2 <;> cases e4 <;> rfl
def yw (s : BA) : BA := (zJ ++ s) ++ qy
theorem q4f (s : BA) (h : s.size <= 2097152) : q3H s = some (yw s, ()) := by
 rw [qgy]
 have e1 : (zJ : BA).size = 1 := rfl
 have e2 : (qy : BA).size = 2 := rfl
 have k1 : limS (ByteArray.size zJ + ByteArray.size s) = true := yj (by omega)
 have k2 : limS (ByteArray.size (zJ ++ s) + ByteArray.size qy) = true := yj (by rw [ByteArray.size_append]; omega)
 simp only [k1, k2, cT]
 rfl
theorem q2y (s : BA) (h : s.size <= 2097152) : q1B s = some (yw s, ()) := by
 rw [qgC]
 have e1 : (zJ : BA).size = 1 := rfl
 have e2 : (qy : BA).size = 2 := rfl
 have k1 : limS (ByteArray.size zJ + ByteArray.size s) = true := yj (by omega)
 have k2 : limS (ByteArray.size (zJ ++ s) + ByteArray.size qy) = true := yj (by rw [ByteArray.size_append]; omega)
 simp only [k1, k2, cT]
 rfl
def unkB (args : List BA) : BA := match args with
 | [] => yw q1q
 | a :: _ => bif memB (upB a) cmds then (bif jY args then eB else yw q2W) else yw q1q
theorem qeA (args : List BA) (hl : args.length <= 2097152) (hs : ∀ s ∈ args, s.size <= 2097152) : q9q args = some (unkB args, ()) := by
 rw [qei]
 match args, hl, hs with
 | [], _, _ => rw [qcf, oB, q4f _ (by decide)]; rfl
 | a :: r, hl, hs =>
  rw [q1H qm5 (hs a (List.mem_cons_self ..)) (by decide), oB, q4f _ (by decide), q4f _ (by decide), q9T _ hl hs]
  simp only [oB, unkB]
  cases memB (upB a) cmds <;> cases jY (a :: r) <;> rfl
theorem qel (args : List BA) (hl : args.length <= 2097152) (hs : ∀ s ∈ args, s.size <= 2097152) : q9z args = some (unkB args, ()) := by
 rw [qeq]
 match args, hl, hs with
 | [], _, _ => rw [q2y _ (by decide)]; rfl
 | a :: r, hl, hs =>
  have ha := hs a (List.mem_cons_self ..)
  have k1 : (((a :: r).length : Int) == 0) = false := by simp only [List.length_cons]; simp; omega
  have k2 : decide ((0 : Int) < (((a :: r).length : Nat) : Int)) = true := dYT (by simp only [List.length_cons]; omega)
  have k3 : decide ((0 : Int) <= 0) = true := rfl
  have k4 : yF (List.getD (a :: r) (Int.toNat 0) eB) = some (upB a, ()) := zo a (by omega)
  simp only [k1, k2, Int.le_refl, decide_true, k4, Bool.and_self, cT, cF, q9B, oB, q4F cmds _ (by decide), q2y q1q (by decide), q2y q2W (by decide), q9W _ hl hs, unkB]
  cases memB (upB a) cmds <;> cases jY (a :: r) <;> rfl
end Go.Den.S
