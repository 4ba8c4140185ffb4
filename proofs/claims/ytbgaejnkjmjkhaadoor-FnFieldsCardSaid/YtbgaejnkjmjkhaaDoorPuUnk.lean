/- PuUnk: equations of the functions of this seat as the executor tells them, or plain facts about them. Conditions: none here. -/
import Derived.Test.YtbgaejnkjmjkhaaDoorPuWords
set_option linter.all false
namespace Go.Den.S
open Go Go.Den
set_option maxRecDepth 100000
theorem qfK : strings_Fields q0W = some (cmds, ()) := (yR _).trans (by kernel_rfl)
theorem f_0 : strings_Fields q14 = some (ar0, ()) := (yR _).trans (by kernel_rfl)
theorem f_1 : strings_Fields q1x = some (ar1, ()) := (yR _).trans (by kernel_rfl)
theorem f_2 : strings_Fields q12 = some (ar2, ()) := (yR _).trans (by kernel_rfl)
theorem f_3 : strings_Fields q5r = some (ar3, ()) := (yR _).trans (by kernel_rfl)
theorem f_4 : strings_Fields q3m = some (ar4, ()) := (yR _).trans (by kernel_rfl)
theorem f_5 : strings_Fields q15 = some (ar5, ()) := (yR _).trans (by kernel_rfl)
theorem q8D {names : BA} : zB [] names = some (false, ()) := by
 rw [q5t]
 simp
theorem jU {a : BA} {r : List BA} {names : BA} {l : List BA} (hf : strings_Fields names = some (l, ())) (ha : a.size <= 2097152) (hl : l.length <= 2097152) : zB (a :: r) names = some (memB (upB a) l, ()) := by
 rw [q5t, hf]
 have k1 : decide ((((a :: r).length : Nat) : Int) > 0) = true := dYT (by simp only [List.length_cons]; omega)
 have k2 : decide ((0 : Int) < (((a :: r).length : Nat) : Int)) = true := dYT (by simp only [List.length_cons]; omega)
 have k3 : decide ((0 : Int) <= 0) = true := rfl
 simp only [k1, k2, Int.le_refl, decide_true, Bool.and_self, cT, oB]
 rw [show List.getD (a :: r) (Int.toNat 0) eB = a from rfl, q3k a (by omega), oB, q4m l _ hl, oB]
def arB (u : BA) (n : Int) : Bool :=
 bif memB u ar0 then n == 0 else bif memB u ar1 then n == 1 else bif memB u ar2 then n == 2 else bif memB u ar3 then n == 3 else bif memB u ar4 then decide (n >= 1) else bif memB u ar5 then decide (n >= 2) else (n == 2 || (n == 4 || n == 6))
def q28 : List BA -> Bool
 | [] => false
 | a :: r => memB (upB a) cmds && arB (upB a) (r.length : Int)
theorem wlen {a : BA} {r : List BA} (h : r.length <= 2097152) : w64 (((a :: r).length : Int) - 1) = (r.length : Int) := by
 show IntKind.i64.wrap _ = _
 rw [qG (by simp only [List.length_cons]; omega) (by simp only [List.length_cons]; omega)]
 simp only [List.length_cons]; omega
theorem q7r (args : List BA) (hl : args.length <= 2097152) (hs : ∀ s ∈ args, s.size <= 2097152) : q3S args = some (q28 args, ()) := by
 rw [q7J]
 match args, hl, hs with
 | [], _, _ => rw [q8D]; rfl
 | a :: r, hl, hs =>
  have ha := hs a (List.mem_cons_self ..)
  have hr : r.length <= 2097152 := by simp only [List.length_cons] at hl; omega
  simp only [jU qfK ha (by decide), jU f_0 ha (by decide), jU f_1 ha (by decide), jU f_2 ha (by decide), jU f_3 ha (by decide), jU f_4 ha (by decide), jU f_5 ha (by decide), oB, wlen hr, q28, arB]
  generalize memB (upB a) cmds = b
  generalize memB (upB a) ar0 = b0
  generalize memB (upB a) ar1 = b1
  generalize memB (upB a) ar2 = b2
  generalize memB (upB a) ar3 = b3
  generalize memB (upB a) ar4 = b4
  generalize memB (upB a) ar5 = b5
  cases b <;> cases b0 <;> cases b1 <;> cases b2 <;> cases b3 <;> cases b4 <;> cases b5 <;> simp only [Bool.not_true, Bool.not_false, cT, cF, Bool.false_and, Bool.true_and]
  all_goals
   generalize ((r.length : Int) == 2) = e2
   generalize ((r.length : Int) == 4) = e4
   cases e2 <;> cases e4 <;> rfl
def q2a (s : BA) : BA := (zU ++ s) ++ qm
theorem q9l (s : BA) (h : s.size <= 2097152) : q52 s = some (q2a s, ()) := by
 rw [q9d]
 have e1 : (zU : BA).size = 1 := rfl
 have e2 : (qm : BA).size = 2 := rfl
 have k1 : limS (ByteArray.size zU + ByteArray.size s) = true := yx (by omega)
 have k2 : limS (ByteArray.size (zU ++ s) + ByteArray.size qm) = true := yx (by rw [ByteArray.size_append]; omega)
 simp only [k1, k2, cT]
 rfl
end Go.Den.S
