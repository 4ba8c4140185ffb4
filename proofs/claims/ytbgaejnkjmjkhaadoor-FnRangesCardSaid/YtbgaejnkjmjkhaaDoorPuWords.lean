/- PuWords: equations of the functions of this seat as the executor tells them, or plain facts about them. Conditions: none here. -/
import Derived.Test.YtbgaejnkjmjkhaaDoorPuFam
set_option linter.all false
namespace Go.Den.S
open Go Go.Den
theorem qcY {n : Int} (h0 : 0 <= n) (h : 97 <= n /\ n <= 122) : IntKind.u8.wrap (n - 32) = upN n := by
 rw [q7a (by omega) (by omega)]
 unfold upN; rw [if_pos h]
theorem qaC {n : Int} (h : ¬ (97 <= n /\ n <= 122)) : upN n = n := by unfold upN; rw [if_neg h]
theorem q41 (s : BA) : (qQ s).length = s.size := q1l s
theorem q3M (s : BA) (hs : s.size <= 9223372036854775806) : q0q s = some (upB s, ()) := by
 rw [q7A]
 have hl := q41 s
 refine (q8N (fun out i => wI ((qQ s).length : Int) i out) (qQ s) upN fun out i hi ho hg => ?_).trans ?_
 ·show wI _ (i : Int) out = wI _ ((i : Int) + 1) (out.set i (upN ((qQ s).getD i 0)))
  rw [q2q]
  have k1 : decide ((i : Int) < ((qQ s).length : Int)) = true := dYT (by omega)
  have k2 : decide ((i : Int) < (out.length : Int)) = true := dYT (by omega)
  have k3 : decide (0 <= (i : Int)) = true := dYT (by omega)
  have k4 : w64 ((i : Int) + 1) = (i : Int) + 1 := qx (by omega) (by omega)
  have hm := qac (wT (d := 0) hi)
  simp only [k1, k2, k3, k4, Bool.and_self, cT, Int.toNat_natCast, hg]
  by_cases h1 : (qQ s).getD i 0 >= 97
  ·by_cases h2 : (qQ s).getD i 0 <= 122
   ·simp only [dYT h1, dYT h2, cT, qcY hm.1 ⟨h1, h2⟩]
   ·simp only [dYT h1, dYF h2, cT, cF]
    rw [qaC (by omega), <- hg, q8f (by omega)]
  ·simp only [dYF h1, cF]
   rw [qaC (by omega), <- hg, q8f (by omega)]
 ·show wI _ _ _ = _
  rw [q2q]
  have k1 : decide (((qQ s).length : Int) < ((qQ s).length : Int)) = false := dYF (by omega)
  simp only [k1, cF]
  rfl
theorem qbG (l : List BA) (x : BA) (hl : l.length <= 2097152) : ∃ n : Int, wX l x = some (n, ()) /\ (0 <= n ↔ x ∈ l) := by
 rw [q0O]
 refine q5f l eB (fun i r => ∃ n : Int, yK l x (l.length : Int) (i : Int) = some (n, ()) /\ (0 <= n ↔ x ∈ r)) ?_ fun i y r hi hy hm ih => ?_
 ·rw [zo]
  exact ⟨-1, by simp, by simp⟩
 ·rw [zo]
  have k1 : decide ((i : Int) < (l.length : Int)) = true := dYT (by omega)
  have k3 : decide (0 <= (i : Int)) = true := dYT (by omega)
  have k4 : w64 ((i : Int) + 1) = ((i + 1 : Nat) : Int) := yB (by omega)
  simp only [k1, k3, k4, Bool.and_self, cT, Int.toNat_natCast, hy, zy]
  by_cases h : x = y
  ·exact ⟨i, by simp only [dYT h, cT], by simp [h]⟩
  ·obtain ⟨n, e1, e2⟩ := ih
   exact ⟨n, by simp only [dYF h, cF, e1], by simp [e2, h]⟩
theorem q8V (l : List BA) (x : BA) (hl : l.length <= 2097152) : wK l x = some (memB x l, ()) := by
 obtain ⟨n, e1, e2⟩ := qbG l x hl
 rw [q0y, e1, oB]
 have : decide (n >= 0) = memB x l := by
  by_cases h : x ∈ l
  ·rw [q2D.2 h, dYT (e2.2 h)]
  ·rw [qao.2 h, dYF fun h' => h (e2.1 h')]
 rw [this]
abbrev cmds : List BA := [qaJ, qaV, qc9, qce, q9I, q8F, q85, q7W, qbw, qaM, q8j, q80, qb1, qdb, qci, q8y, qbd, q7H, qcj, q75, qaW, q8s, q6b, yw, yu, yR, wo, wO, yj, qV, qb0, qb8, qbk, qbs, q7c, q9u, qaD, qaI, q59, q9p, q5q]
abbrev ar0 : List BA := [qaJ, qaW, q8s, q6b]
abbrev ar1 : List BA := [qaV, qc9, q7W, qbw, qaM, qbd, qcj, q75, yR, wo, wO, qbs, q7c, q9u, q9p, q5q]
abbrev ar2 : List BA := [qce, q9I, q8F, q85, q8j, q80, q7H, qV, qb8, q59]
abbrev ar3 : List BA := [yj, qb0]
abbrev ar4 : List BA := [qb1, qci, q8y]
abbrev ar5 : List BA := [yw, yu, qbk, qaD, qaI]
end Go.Den.S
