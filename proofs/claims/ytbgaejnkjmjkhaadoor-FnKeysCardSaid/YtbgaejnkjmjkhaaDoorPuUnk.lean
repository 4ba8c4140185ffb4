/- PuUnk: equations of the functions of this seat as the executor tells them, or plain facts about them. Conditions: none here. -/
import Derived.Test.YtbgaejnkjmjkhaaDoorPuWords
set_option linter.all false
namespace Go.Den.S
open Go Go.Den
set_option maxRecDepth 100000
theorem qdy : strings_Fields q0c = some (cmds, ()) := (yL _).trans (by kernel_rfl)
theorem f_0 : strings_Fields q0q = some (ar0, ()) := (yL _).trans (by kernel_rfl)
theorem f_1 : strings_Fields q0I = some (ar1, ()) := (yL _).trans (by kernel_rfl)
theorem f_2 : strings_Fields q0g = some (ar2, ()) := (yL _).trans (by kernel_rfl)
theorem f_3 : strings_Fields q3U = some (ar3, ()) := (yL _).trans (by kernel_rfl)
theorem f_4 : strings_Fields q2e = some (ar4, ()) := (yL _).trans (by kernel_rfl)
theorem f_5 : strings_Fields q0o = some (ar5, ()) := (yL _).trans (by kernel_rfl)
theorem q71 {names : BA} : wO [] names = some (false, ()) := by
 rw [q3V]
 simp
theorem j4 {a : BA} {r : List BA} {names : BA} {l : List BA} (hf : strings_Fields names = some (l, ())) (ha : a.size <= 2097152) (hl : l.length <= 2097152) : wO (a :: r) names = some (memB (upB a) l, ()) := by
 rw [q3V, hf]
 have k1 : decide ((((a :: r).length : Nat) : Int) > 0) = true := dYT (by simp only [List.length_cons]; omega)
 have k2 : decide ((0 : Int) < (((a :: r).length : Nat) : Int)) = true := dYT (by simp only [List.length_cons]; omega)
 have k3 : decide ((0 : Int) <= 0) = true := rfl
 simp only [k1, k2, Int.le_refl, decide_true, Bool.and_self, cT, oB]
 rw [show List.getD (a :: r) (Int.toNat 0) eB = a from rfl, q3W a (by omega), oB, q8Z l _ hl, oB]
def arB (u : BA) (n : Int) : Bool :=
 bif memB u ar0 then n == 0 else bif memB u ar1 then n == 1 else bif memB u ar2 then n == 2 else bif memB u ar3 then n == 3 else bif memB u ar4 then decide (n >= 1) else bif memB u ar5 then decide (n >= 2) else (n == 2 || (n == 4 || n == 6))
def q2D : List BA -> Bool
 | [] => false
 | a :: r => memB (upB a) cmds && arB (upB a) (r.length : Int)
theorem wlen {a : BA} {r : List BA} (h : r.length <= 2097152) : w64 (((a :: r).length : Int) - 1) = (r.length : Int) := by
 show IntKind.i64.wrap _ = _
 rw [qH (by simp only [List.length_cons]; omega) (by simp only [List.length_cons]; omega)]
 simp only [List.length_cons]; omega
theorem q5X (args : List BA) (hl : args.length <= 2097152) (hs : ∀ s ∈ args, s.size <= 2097152) : q2C args = some (q2D args, ()) := by
 rw [q5K]
 match args, hl, hs with
 | [], _, _ => rw [q71]; rfl
 | a :: r, hl, hs =>
  have ha := hs a (List.mem_cons_self ..)
  have hr : r.length <= 2097152 := by simp only [List.length_cons] at hl; omega
  simp only [j4 qdy ha (by decide), j4 f_0 ha (by decide), j4 f_1 ha (by decide), j4 f_2 ha (by decide), j4 f_3 ha (by decide), j4 f_4 ha (by decide), j4 f_5 ha (by decide), oB, wlen hr, q2D, arB]
  generalize memB (upB a) cmds = b
  generalize memB (upB a) ar0 = b0
  generalize memB (upB a) ar1 = b1
  generalize memB (upB a) ar2 = b2
  generalize memB (upB a) ar3 = b3
  generalize memB (upB a) ar4 = b4
  generalize memB (upB a) ar5 = b5
  cases b <;> cases b0 <;> cases b1 <;> cases b2 <;> cases b3 <;> cases b4 <;> cases b5 <;> simp only [Bool.not_true, Bool.not_false, cT, cF, Bool.false_and, Bool.true_and]
  all_goals
   generalize ((r.length : Int) == 2) = e2
   generalize ((r.length : Int) == 4) = e4
   cases e2 <;> cases e4 <;> rfl
def q3Z (s : BA) : BA := (zl ++ s) ++ qh
theorem q7y (s : BA) (h : s.size <= 2097152) : q3G s = some (q3Z s, ()) := by
 rw [q7t]
 have e1 : (zl : BA).size = 1 := rfl
 have e2 : (qh : BA).size = 2 := rfl
 have k1 : limS (ByteArray.size zl + ByteArray.size s) = true := qN (by omega)
 have k2 : limS (ByteArray.size (zl ++ s) + ByteArray.size qh) = true := qN (by rw [ByteArray.size_append]; omega)
 simp only [k1, k2, cT]
 rfl
end Go.Den.S
