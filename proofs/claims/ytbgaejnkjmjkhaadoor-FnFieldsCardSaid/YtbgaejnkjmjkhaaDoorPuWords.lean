/- PuWords: equations of the functions of this seat as the executor tells them, or plain facts about them. Conditions: none here. -/
import Derived.Test.YtbgaejnkjmjkhaaDoorPuFam
set_option linter.all false
namespace Go.Den.S
open Go Go.Den
theorem qfo {n : Int} (h0 : 0 <= n) (h : 97 <= n /\ n <= 122) : IntKind.u8.wrap (n - 32) = upN n := by
 rw [q8X (by omega) (by omega)]
 unfold upN; rw [if_pos h]
theorem qcU {n : Int} (h : ¬ (97 <= n /\ n <= 122)) : upN n = n := by unfold upN; rw [if_neg h]
theorem q5T (s : BA) : (yg s).length = s.size := q29 s
theorem q3k (s : BA) (hs : s.size <= 9223372036854775806) : ji s = some (upB s, ()) := by
 rw [q90]
 have hl := q5T s
 refine (qa6 (fun out i => zf ((yg s).length : Int) i out) (yg s) upN fun out i hi ho hg => ?_).trans ?_
 ·show zf _ (i : Int) out = zf _ ((i : Int) + 1) (out.set i (upN ((yg s).getD i 0)))
  rw [q3Y]
  have k1 : decide ((i : Int) < ((yg s).length : Int)) = true := dYT (by omega)
  have k2 : decide ((i : Int) < (out.length : Int)) = true := dYT (by omega)
  have k3 : decide (0 <= (i : Int)) = true := dYT (by omega)
  have k4 : w64 ((i : Int) + 1) = (i : Int) + 1 := qG (by omega) (by omega)
  have hm := qcE (zK (d := 0) hi)
  simp only [k1, k2, k3, k4, Bool.and_self, cT, Int.toNat_natCast, hg]
  by_cases h1 : (yg s).getD i 0 >= 97
  ·by_cases h2 : (yg s).getD i 0 <= 122
   ·simp only [dYT h1, dYT h2, cT, qfo hm.1 ⟨h1, h2⟩]
   ·simp only [dYT h1, dYF h2, cT, cF]
    rw [qcU (by omega), <- hg, qaz (by omega)]
  ·simp only [dYF h1, cF]
   rw [qcU (by omega), <- hg, qaz (by omega)]
 ·show zf _ _ _ = _
  rw [q3Y]
  have k1 : decide (((yg s).length : Int) < ((yg s).length : Int)) = false := dYF (by omega)
  simp only [k1, cF]
  rfl
theorem qe5 (l : List BA) (x : BA) (hl : l.length <= 2097152) : ∃ n : Int, zH l x = some (n, ()) /\ (0 <= n ↔ x ∈ l) := by
 rw [q1O]
 refine q58 l eB (fun i r => ∃ n : Int, yZ l x (l.length : Int) (i : Int) = some (n, ()) /\ (0 <= n ↔ x ∈ r)) ?_ fun i y r hi hy hm ih => ?_
 ·rw [zZ]
  exact ⟨-1, by simp, by simp⟩
 ·rw [zZ]
  have k1 : decide ((i : Int) < (l.length : Int)) = true := dYT (by omega)
  have k3 : decide (0 <= (i : Int)) = true := dYT (by omega)
  have k4 : w64 ((i : Int) + 1) = ((i + 1 : Nat) : Int) := qM (by omega)
  simp only [k1, k3, k4, Bool.and_self, cT, Int.toNat_natCast, hy, wC]
  by_cases h : x = y
  ·exact ⟨i, by simp only [dYT h, cT], by simp [h]⟩
  ·obtain ⟨n, e1, e2⟩ := ih
   exact ⟨n, by simp only [dYF h, cF, e1], by simp [e2, h]⟩
theorem q4m (l : List BA) (x : BA) (hl : l.length <= 2097152) : qZ l x = some (memB x l, ()) := by
 obtain ⟨n, e1, e2⟩ := qe5 l x hl
 rw [q1p, e1, oB]
 have : decide (n >= 0) = memB x l := by
  by_cases h : x ∈ l
  ·rw [jc.2 h, dYT (e2.2 h)]
  ·rw [q5k.2 h, dYF fun h' => h (e2.1 h')]
 rw [this]
abbrev cmds : List BA := [qcS, qda, qet, qew, qb1, q9E, qa9, q9p, qdi, qd0, q9F, qaB, qd6, qfD, qer, q9Y, qcP, qay, qeu, q8O, qdm, q9P, q7w, qbc, qb0, qdb, qcX, qdD, qan, qaI, wN, wM, za, zI, yQ, zY, yP, wZ, qV, wS, w9]
abbrev ar0 : List BA := [qcS, qdm, q9P, q7w]
abbrev ar1 : List BA := [qda, qet, q9p, qdi, qd0, qcP, qeu, q8O, qdb, qcX, qdD, zI, yQ, zY, wS, w9]
abbrev ar2 : List BA := [qew, qb1, q9E, qa9, q9F, qaB, qay, qaI, wM, qV]
abbrev ar3 : List BA := [qan, wN]
abbrev ar4 : List BA := [qd6, qer, q9Y]
abbrev ar5 : List BA := [qbc, qb0, za, yP, wZ]
end Go.Den.S
