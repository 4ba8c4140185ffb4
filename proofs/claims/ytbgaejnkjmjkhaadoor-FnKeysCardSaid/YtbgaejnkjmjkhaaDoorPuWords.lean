/- PuWords: equations of the functions of this seat as the executor tells them, or plain facts about them. Conditions: none here. -/
import Derived.Test.YtbgaejnkjmjkhaaDoorPuFam
set_option linter.all false
namespace Go.Den.S
open Go Go.Den
theorem qds {n : Int} (h0 : 0 <= n) (h : 97 <= n /\ n <= 122) : IntKind.u8.wrap (n - 32) = upN n := by
 rw [q7j (by omega) (by omega)]
 unfold upN; rw [if_pos h]
theorem qbi {n : Int} (h : ¬ (97 <= n /\ n <= 122)) : upN n = n := by unfold upN; rw [if_neg h]
theorem q45 (s : BA) : (qV s).length = s.size := q17 s
theorem q3W (s : BA) (hs : s.size <= 9223372036854775806) : q0C s = some (upB s, ()) := by
 rw [q7B]
 have hl := q45 s
 refine (q7K (fun out i => wG ((qV s).length : Int) i out) (qV s) upN fun out i hi ho hg => ?_).trans ?_
 ·show wG _ (i : Int) out = wG _ ((i : Int) + 1) (out.set i (upN ((qV s).getD i 0)))
  rw [q2F]
  have k1 : decide ((i : Int) < ((qV s).length : Int)) = true := dYT (by omega)
  have k2 : decide ((i : Int) < (out.length : Int)) = true := dYT (by omega)
  have k3 : decide (0 <= (i : Int)) = true := dYT (by omega)
  have k4 : w64 ((i : Int) + 1) = (i : Int) + 1 := qH (by omega) (by omega)
  have hm := qa3 (q0k (d := 0) hi)
  simp only [k1, k2, k3, k4, Bool.and_self, cT, Int.toNat_natCast, hg]
  by_cases h1 : (qV s).getD i 0 >= 97
  ·by_cases h2 : (qV s).getD i 0 <= 122
   ·simp only [dYT h1, dYT h2, cT, qds hm.1 ⟨h1, h2⟩]
   ·simp only [dYT h1, dYF h2, cT, cF]
    rw [qbi (by omega), <- hg, q80 (by omega)]
  ·simp only [dYF h1, cF]
   rw [qbi (by omega), <- hg, q80 (by omega)]
 ·show wG _ _ _ = _
  rw [q2F]
  have k1 : decide (((qV s).length : Int) < ((qV s).length : Int)) = false := dYF (by omega)
  simp only [k1, cF]
  rfl
theorem qbJ (l : List BA) (x : BA) (hl : l.length <= 2097152) : ∃ n : Int, wW l x = some (n, ()) /\ (0 <= n ↔ x ∈ l) := by
 rw [q0T]
 refine q5n l eB (fun i r => ∃ n : Int, yE l x (l.length : Int) (i : Int) = some (n, ()) /\ (0 <= n ↔ x ∈ r)) ?_ fun i y r hi hy hm ih => ?_
 ·rw [zu]
  exact ⟨-1, by simp, by simp⟩
 ·rw [zu]
  have k1 : decide ((i : Int) < (l.length : Int)) = true := dYT (by omega)
  have k3 : decide (0 <= (i : Int)) = true := dYT (by omega)
  have k4 : w64 ((i : Int) + 1) = ((i + 1 : Nat) : Int) := qR (by omega)
  simp only [k1, k3, k4, Bool.and_self, cT, Int.toNat_natCast, hy, jf]
  by_cases h : x = y
  ·exact ⟨i, by simp only [dYT h, cT], by simp [h]⟩
  ·obtain ⟨n, e1, e2⟩ := ih
   exact ⟨n, by simp only [dYF h, cF, e1], by simp [e2, h]⟩
theorem q8Z (l : List BA) (x : BA) (hl : l.length <= 2097152) : wH l x = some (memB x l, ()) := by
 obtain ⟨n, e1, e2⟩ := qbJ l x hl
 rw [q0u, e1, oB]
 have : decide (n >= 0) = memB x l := by
  by_cases h : x ∈ l
  ·rw [q3D.2 h, dYT (e2.2 h)]
  ·rw [qar.2 h, dYF fun h' => h (e2.1 h')]
 rw [this]
abbrev cmds : List BA := [wY, q0L, qco, qcx, q9r, q8z, q7Y, q8Q, qbl, qaP, q8k, q8J, qbf, qdr, zh, wZ, wI, zP, q3E, q4i, wX, yM, yG, q9M, q9x, q8N, q8m, q81, q86, q89, qbk, qaX, qby, qbs, q70, q9R, qb1, qaR, q57, q9F, q5Y]
abbrev ar0 : List BA := [wY, wX, yM, yG]
abbrev ar1 : List BA := [q0L, qco, q8Q, qbl, qaP, wI, q3E, q4i, q8N, q8m, q81, qbs, q70, q9R, q9F, q5Y]
abbrev ar2 : List BA := [qcx, q9r, q8z, q7Y, q8k, q8J, zP, q89, qaX, q57]
abbrev ar3 : List BA := [q86, qbk]
abbrev ar4 : List BA := [qbf, zh, wZ]
abbrev ar5 : List BA := [q9M, q9x, qby, qb1, qaR]
end Go.Den.S
