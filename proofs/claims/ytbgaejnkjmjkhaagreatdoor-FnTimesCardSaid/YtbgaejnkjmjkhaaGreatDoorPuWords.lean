/- PuWords: equations of the functions of this seat as the executor tells them, or plain facts about them. Conditions: none here. -/
import Derived.Test.YtbgaejnkjmjkhaaGreatDoorEqD0
import Derived.Test.YtbgaejnkjmjkhaaGreatDoorEqD1
import Derived.Test.YtbgaejnkjmjkhaaGreatDoorDenFour
set_option linter.all false
namespace Go.Den.S
open Go Go.Den
theorem qlm {n : Int} (h0 : 0 <= n) (h : 97 <= n /\ n <= 122) : IntKind.u8.wrap (n - 32) = upN n := by
 rw [qgf (by omega) (by omega)]
 unfold upN; rw [if_pos h]
theorem qes {n : Int} (h : ¬ (97 <= n /\ n <= 122)) : upN n = n := by unfold upN; rw [if_neg h]
theorem q7K (s : BA) : (yR s).length = s.size := q69 s
theorem q2M (s : BA) (hs : s.size <= 9223372036854775806) : zI s = some (upB s, ()) := by
 rw [qgw]
 have hl := q7K s
 refine (qbg (fun out i => q0B ((yR s).length : Int) i out) (yR s) upN fun out i hi ho hg => ?_).trans ?_
 ·show q0B _ (i : Int) out = q0B _ ((i : Int) + 1) (out.set i (upN ((yR s).getD i 0)))
  rw [q90]
  have k1 : decide ((i : Int) < ((yR s).length : Int)) = true := dYT (by omega)
  have k2 : decide ((i : Int) < (out.length : Int)) = true := dYT (by omega)
  have k3 : decide (0 <= (i : Int)) = true := dYT (by omega)
  have k4 : w64 ((i : Int) + 1) = (i : Int) + 1 := ql (by omega) (by omega)
  have hm := qey (yg (d := 0) hi)
  simp only [k1, k2, k3, k4, Bool.and_self, cT, Int.toNat_natCast, hg]
  by_cases h1 : (yR s).getD i 0 >= 97
  ·by_cases h2 : (yR s).getD i 0 <= 122
   ·simp only [dYT h1, dYT h2, cT, qlm hm.1 ⟨h1, h2⟩]
   ·simp only [dYT h1, dYF h2, cT, cF]
    rw [qes (by omega), <- hg, qak (by omega)]
  ·simp only [dYF h1, cF]
   rw [qes (by omega), <- hg, qak (by omega)]
 ·show q0B _ _ _ = _
  rw [q90]
  have k1 : decide (((yR s).length : Int) < ((yR s).length : Int)) = false := dYF (by omega)
  simp only [k1, cF]
  rfl
theorem zC (s : BA) (hs : s.size <= 9223372036854775806) : yH s = some (upB s, ()) := by
 rw [qgH]
 have hl := q7K s
 refine (qbg (fun out i => q0A out i) (yR s) upN fun out i hi ho hg => ?_).trans ?_
 ·show q0A out (i : Int) = q0A (out.set i (upN ((yR s).getD i 0))) ((i : Int) + 1)
  rw [q93]
  have k2 : decide ((i : Int) < (out.length : Int)) = true := dYT (by omega)
  have k3 : decide (0 <= (i : Int)) = true := dYT (by omega)
  have k4 : w64 ((i : Int) + 1) = (i : Int) + 1 := ql (by omega) (by omega)
  have hm := qey (yg (d := 0) hi)
  simp only [k2, k3, k4, Bool.and_self, cT, Int.toNat_natCast, hg]
  by_cases h1 : (yR s).getD i 0 >= 97
  ·by_cases h2 : (yR s).getD i 0 <= 122
   ·simp only [dYT h1, dYT h2, cT, qlm hm.1 ⟨h1, h2⟩]
   ·simp only [dYT h1, dYF h2, cT, cF]
    rw [qes (by omega), <- hg, qak (by omega)]
  ·simp only [dYF h1, cF]
   rw [qes (by omega), <- hg, qak (by omega)]
 ·show q0A _ _ = _
  rw [q93]
  have k1 : decide (((yR s).length : Int) < (((yR s).map upN).length : Int)) = false := dYF (by simp)
  simp only [k1, cF]
  rfl
theorem qmq (l : List BA) (x : BA) (hl : l.length <= 2097152) : ∃ n : Int, q1k l x = some (n, ()) /\ (0 <= n ↔ x ∈ l) := by
 rw [q5N]
 refine q77 l eB (fun i r => ∃ n : Int, jB l x (l.length : Int) (i : Int) = some (n, ()) /\ (0 <= n ↔ x ∈ r)) ?_ fun i y r hi hy hm ih => ?_
 ·rw [q1F]
  exact ⟨-1, by simp, by simp⟩
 ·rw [q1F]
  have k1 : decide ((i : Int) < (l.length : Int)) = true := dYT (by omega)
  have k3 : decide (0 <= (i : Int)) = true := dYT (by omega)
  have k4 : w64 ((i : Int) + 1) = ((i + 1 : Nat) : Int) := qA (by omega)
  simp only [k1, k3, k4, Bool.and_self, cT, Int.toNat_natCast, hy, qM]
  by_cases h : x = y
  ·exact ⟨i, by simp only [dYT h, cT], by simp [h]⟩
  ·obtain ⟨n, e1, e2⟩ := ih
   exact ⟨n, by simp only [dYF h, cF, e1], by simp [e2, h]⟩
theorem q9K (l : List BA) (x : BA) (hl : l.length <= 2097152) : wS l x = some (memB x l, ()) := by
 obtain ⟨n, e1, e2⟩ := qmq l x hl
 rw [q5o, e1, oB]
 have : decide (n >= 0) = memB x l := by
  by_cases h : x ∈ l
  ·rw [wQ.2 h, dYT (e2.2 h)]
  ·rw [q6f.2 h, dYF fun h' => h (e2.1 h')]
 rw [this]
theorem q4e (l : List BA) (x : BA) (hl : l.length <= 2097152) : jc l x = some (memB x l, ()) := by
 rw [qgP]
 refine q77 l eB (fun i r => q5E l x (i : Int) = some (memB x r, ())) ?_ fun i y r hi hy hm ih => ?_
 ·rw [q9a]
  simp [memB]
 ·rw [q9a]
  have k1 : decide ((i : Int) < (l.length : Int)) = true := dYT (by omega)
  have k3 : decide (0 <= (i : Int)) = true := dYT (by omega)
  have k4 : w64 ((i : Int) + 1) = ((i + 1 : Nat) : Int) := qA (by omega)
  simp only [k1, k3, k4, Bool.and_self, cT, Int.toNat_natCast, hy, qM]
  by_cases h : y = x
  ·subst h; simp [memB]
  ·have : x ≠ y := fun e => h e.symm
   simp only [dYF h, cF, ih, memB, dYF this, Bool.false_or]
abbrev cmds : List BA := [wX, zD, jC, q0x, j4, zw, zn, yT, jh, jA, q0F, zX, ze, w9, wG, qZ, jr, yj, zZ, wZ, zo, yS, yF, zN, zP, q2o, q1n, q1O, jk, zu, jG, jQ, q0I, q1P, jM, q59, jP, q0d, wD, q0a, q0y]
theorem q2s : q1i = some (cmds, ()) := qd8
abbrev ar0 : List BA := [wX, zo, yS, yF]
abbrev ar1 : List BA := [zD, jC, yT, jh, jA, jr, zZ, wZ, q2o, q1n, q1O, q1P, jM, q59, q0a, q0y]
abbrev ar2 : List BA := [q0x, j4, zw, zn, q0F, zX, yj, zu, jQ, wD]
abbrev ar3 : List BA := [jk, jG]
abbrev ar4 : List BA := [ze, wG, qZ]
abbrev ar5 : List BA := [zN, zP, q0I, jP, q0d]
end Go.Den.S
