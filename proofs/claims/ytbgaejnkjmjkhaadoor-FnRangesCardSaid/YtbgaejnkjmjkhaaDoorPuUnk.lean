/- PuUnk: equations of the functions of this seat as the executor tells them, or plain facts about them. Conditions: none here. -/
import Derived.Test.YtbgaejnkjmjkhaaDoorPuWords
set_option linter.all false
namespace Go.Den.S
open Go Go.Den
set_option maxRecDepth 100000
theorem qdl : strings_Fields q0c = some (cmds, ()) := (yN _).trans (by kernel_rfl)
theorem f_0 : strings_Fields q0l = some (ar0, ()) := (yN _).trans (by kernel_rfl)
theorem f_1 : strings_Fields q0B = some (ar1, ()) := (yN _).trans (by kernel_rfl)
theorem f_2 : strings_Fields q0j = some (ar2, ()) := (yN _).trans (by kernel_rfl)
theorem f_3 : strings_Fields q3L = some (ar3, ()) := (yN _).trans (by kernel_rfl)
theorem f_4 : strings_Fields q25 = some (ar4, ()) := (yN _).trans (by kernel_rfl)
theorem f_5 : strings_Fields q0e = some (ar5, ()) := (yN _).trans (by kernel_rfl)
theorem q7e {names : BA} : wN [] names = some (false, ()) := by
 rw [q3K]
 simp
theorem j4 {a : BA} {r : List BA} {names : BA} {l : List BA} (hf : strings_Fields names = some (l, ())) (ha : a.size <= 2097152) (hl : l.length <= 2097152) : wN (a :: r) names = some (memB (upB a) l, ()) := by
 rw [q3K, hf]
 have k1 : decide ((((a :: r).length : Nat) : Int) > 0) = true := dYT (by simp only [List.length_cons]; omega)
 have k2 : decide ((0 : Int) < (((a :: r).length : Nat) : Int)) = true := dYT (by simp only [List.length_cons]; omega)
 have k3 : decide ((0 : Int) <= 0) = true := rfl
 simp only [k1, k2, Int.le_refl, decide_true, Bool.and_self, cT, oB]
 rw [show List.getD (a :: r) (Int.toNat 0) eB = a from rfl, q3M a (by omega), oB, q8V l _ hl, oB]
def arB (u : BA) (n : Int) : Bool :=
 bif memB u ar0 then n == 0 else bif memB u ar1 then n == 1 else bif memB u ar2 then n == 2 else bif memB u ar3 then n == 3 else bif memB u ar4 then decide (n >= 1) else bif memB u ar5 then decide (n >= 2) else (n == 2 || (n == 4 || n == 6))
def q2y : List BA -> Bool
 | [] => false
 | a :: r => memB (upB a) cmds && arB (upB a) (r.length : Int)
theorem wlen {a : BA} {r : List BA} (h : r.length <= 2097152) : w64 (((a :: r).length : Int) - 1) = (r.length : Int) := by
 show IntKind.i64.wrap _ = _
 rw [qx (by simp only [List.length_cons]; omega) (by simp only [List.length_cons]; omega)]
 simp only [List.length_cons]; omega
theorem q5S (args : List BA) (hl : args.length <= 2097152) (hs : ∀ s ∈ args, s.size <= 2097152) : q2C args = some (q2y args, ()) := by
 rw [q5u]
 match args, hl, hs with
 | [], _, _ => rw [q7e]; rfl
 | a :: r, hl, hs =>
  have ha := hs a (List.mem_cons_self ..)
  have hr : r.length <= 2097152 := by simp only [List.length_cons] at hl; omega
  simp only [j4 qdl ha (by decide), j4 f_0 ha (by decide), j4 f_1 ha (by decide), j4 f_2 ha (by decide), j4 f_3 ha (by decide), j4 f_4 ha (by decide), j4 f_5 ha (by decide), oB, wlen hr, q2y, arB]
  generalize memB (upB a) cmds = b
  generalize memB (upB a) ar0 = b0
  generalize memB (upB a) ar1 = b1
  generalize memB (upB a) ar2 = b2
  generalize memB (upB a) ar3 = b3
  generalize memB (upB a) ar4 = b4
  generalize memB (upB a) ar5 = b5
  cases b <;> cases b0 <;> cases b1 <;> cases b2 <;> cases b3 <;> cases b4 <;> cases b5 <;> simp only [Bool.not_true, Bool.not_false, cT, cF, Bool.false_and, Bool.true_and]
  all_goals
   generalize ((r.length : Int) == 2) = e2
   generalize ((r.length : Int) == 4) = e4
   cases e2 <;> cases e4 <;> rfl
def q0f (s : BA) : BA := (zi ++ s) ++ ql
theorem q7p (s : BA) (h : s.size <= 2097152) : q3j s = some (q0f s, ()) := by
 rw [q7l]
 have e1 : (zi : BA).size = 1 := rfl
 have e2 : (ql : BA).size = 2 := rfl
 have k1 : limS (ByteArray.size zi + ByteArray.size s) = true := qW (by omega)
 have k2 : limS (ByteArray.size (zi ++ s) + ByteArray.size ql) = true := qW (by rw [ByteArray.size_append]; omega)
 simp only [k1, k2, cT]
 rfl
end Go.Den.S
