/- PvB: equations of the functions of this seat as the executor tells them, or plain facts about them. Conditions: none here. -/
import Derived.Test.YtbgaejnkjmjkhaaDoorPvA
import Derived.Test.YtbgaejnkjmjkhaaDoorPwC
set_option linter.all false
namespace Go.Den.S
open Go Go.Den
def q5t : List BA := [c_a, c_b, c_c, c_d, c_e, c_f]
theorem qaH : (q5t.all fun s => decide (1 <= s.size) && decide (s.size <= 60)) = true := by decide +kernel
theorem q9f {s : BA} (h : s ∈ q5t) : s.size <= 60 := by
 have := List.all_eq_true.1 qaH s h
 simp only [Bool.and_eq_true, decide_eq_true_eq] at this
 exact this.2
theorem q6Y : ∀ (m i : Nat) (l : List BA) (c : Cur), m + i = 6 -> l.length = i -> (∀ x ∈ l, x ∈ q5t) -> Cu c -> ∃ q, jP l (i : Int) c.1 c.2.1 c.2.2 = some (q, ()) /\ (1 <= i \/ 1 <= q.length) /\ i <= q.length /\ q.length <= 6 /\ ∀ x ∈ q, x ∈ q5t
 | m, i, l, c, hm, hp, ha, hc => by
  obtain ⟨x, c1, e1, a1, b1, k1⟩ := q5j hc 6 (by omega) (by omega)
  have e1 : zx (c.1, (c.2.1, c.2.2)) 6 = some (x, (c1, ())) := e1
  have w1 : w64 (1 + x) = 1 + x := qx (by omega) (by omega)
  rw [q3Q]
  simp only [e1, oB, w1]
  by_cases hi : (i : Int) < 1 + x
  ·match m, hm with
   | 0, hm => omega
   | m + 1, hm =>
    obtain ⟨y, c2, e2, a2, k2⟩ := qcN k1 [c_a, c_b, c_c, c_d, c_e, c_f] (by decide) (by decide)
    simp only [dYT hi, cT, e2, oB, wQ (show (l.length + 1) * 16 <= 140737488355328 by omega), show w64 ((i : Int) + 1) = ((i + 1 : Nat) : Int) from yB (by omega)]
    obtain ⟨q, f1, f2, f3, f4, f5⟩ := q6Y m (i + 1) (l ++ [y]) c2 (by omega) (by simp [hp]) (fun z hz => by
     rcases List.mem_append.1 hz with hz | hz
     ·exact ha z hz
     ·rw [List.mem_singleton] at hz; subst hz; exact a2) k2
    exact ⟨q, f1, .inr (by omega), by omega, f4, f5⟩
  ·simp only [dYF hi, cF]
   exact ⟨l, rfl, .inl (by omega), by omega, by omega, ha⟩
theorem q51 (code : List Int) (hl : code.length <= 1048576) : ∃ l : List BA, q0J code = some (l, ()) /\ 1 <= l.length /\ l.length <= 6 /\ ∀ x ∈ l, x ∈ q5t := by
 obtain ⟨c, e, k⟩ := qaT code hl
 rw [q5l, e]
 simp only [oB]
 obtain ⟨q, h1, h2, h3, h4, h5⟩ := q6Y 6 0 [] c rfl rfl (fun x h => by cases h) k
 exact ⟨q, h1, h2.resolve_left (by omega), h4, h5⟩
theorem kq : 1 <= c_q.size /\ c_q.size <= 20 := ⟨by decide, by decide⟩
theorem qbF (l : List BA) (h1 : 1 <= l.length) (h2 : l.length <= 1000) : q3J l = some (oneT c_q 2 l, ()) := by
 have hne : l ≠ [] := by intro h; rw [h] at h1; simp at h1
 rw [q7t, q2H hne]
 simp only [wQ (show (0 + l.length) * 16 <= 140737488355328 by omega), cT]
 rfl
end Go.Den.S
