/- PvA: equations of the functions of this seat as the executor tells them, or plain facts about them. Conditions: none here. -/
import Derived.Test.YtbgaejnkjmjkhaaDoorPxR
set_option linter.all false
namespace Go.Den.S
open Go Go.Den
abbrev Cur : Type := List Int × Int × Int
structure Cu (c : Cur) : Prop where
 len : c.1.length <= 1048576
 at0 : 0 <= c.2.1
 at1 : c.2.1 <= (c.1.length : Int)
theorem q5S (x : Int) : 0 <= w64 (andI .i64 x 255) /\ w64 (andI .i64 x 255) <= 255 := by
 have h : andI .i64 x 255 = (((BitVec.ofInt 64 x).toNat &&& 255 : Nat) : Int) := by
  rw [q9k, BitVec.toNat_and]; rfl
 have h2 : (BitVec.ofInt 64 x).toNat &&& 255 <= 255 := Nat.and_le_right
 rw [h, show w64 _ = _ from qH (by omega) (by omega)]
 omega
theorem q3d {c : Cur} (h : Cu c) : ∃ (x : Int) (c' : Cur), zS c = some (x, (c', ())) /\ 0 <= x /\ x <= 255 /\ Cu c' := by
 have h0 := h.at0
 have h1 := h.at1
 have hl := h.len
 rw [q5J]
 by_cases hi : c.2.1 < (c.1.length : Int)
 ·simp only [dYT hi, dYT h0, Bool.and_self, cT]
  refine ⟨_, _, rfl, (q5S _).1, (q5S _).2, ⟨hl, ?_, ?_⟩⟩
  ·show 0 <= w64 (c.2.1 + 1)
   rw [show w64 (c.2.1 + 1) = c.2.1 + 1 from qH (by omega) (by omega)]; omega
  ·show w64 (c.2.1 + 1) <= (c.1.length : Int)
   rw [show w64 (c.2.1 + 1) = c.2.1 + 1 from qH (by omega) (by omega)]; omega
 ·simp only [dYF hi, cF]
  exact ⟨_, _, rfl, (q5S _).1, (q5S _).2, ⟨hl, h0, h1⟩⟩
theorem q4S {x n : Int} (hx : 0 <= x) (hn : 1 <= n) : 0 <= Int.tmod x n /\ Int.tmod x n < n := by
 rw [Int.tmod_eq_emod_of_nonneg hx]
 exact ⟨Int.emod_nonneg _ (by omega), Int.emod_lt_of_pos _ (by omega)⟩
theorem bneZ {n : Int} (h : 1 <= n) : (n != 0) = true := by rw [bneI, dYF (by omega)]; rfl
theorem q1A {c : Cur} (h : Cu c) (n : Int) (h1 : 1 <= n) (h2 : n <= 1000000) : ∃ (x : Int) (c' : Cur), yV c n = some (x, (c', ())) /\ 0 <= x /\ x < n /\ Cu c' := by
 rw [q5t]
 simp only [dYF (show ¬ n <= 0 by omega), cF, bneZ h1, cT]
 by_cases hn : n <= 256
 ·obtain ⟨x, c1, e1, a1, b1, k1⟩ := q3d h
  simp only [dYT hn, cT, e1, oB]
  exact ⟨_, _, rfl, (q4S a1 h1).1, (q4S a1 h1).2, k1⟩
 ·obtain ⟨x, c1, e1, a1, b1, k1⟩ := q3d h
  obtain ⟨y, c2, e2, a2, b2, k2⟩ := q3d k1
  obtain ⟨z, c3, e3, a3, b3, k3⟩ := q3d k2
  obtain ⟨w, c4, e4, a4, b4, k4⟩ := q3d k3
  simp only [dYF hn, cF, e1, e2, e3, e4, oB]
  have w1 : w64 (x * 16777216) = x * 16777216 := qH (by omega) (by omega)
  have w2 : w64 (y * 65536) = y * 65536 := qH (by omega) (by omega)
  have w3 : w64 (z * 256) = z * 256 := qH (by omega) (by omega)
  have w4 : w64 (x * 16777216 + y * 65536) = x * 16777216 + y * 65536 := qH (by omega) (by omega)
  have w5 : w64 (x * 16777216 + y * 65536 + z * 256) = x * 16777216 + y * 65536 + z * 256 := qH (by omega) (by omega)
  have w6 : w64 (x * 16777216 + y * 65536 + z * 256 + w) = x * 16777216 + y * 65536 + z * 256 + w := qH (by omega) (by omega)
  rw [w1, w2, w3, w4, w5, w6]
  exact ⟨_, _, rfl, (q4S (by omega) h1).1, (q4S (by omega) h1).2, k4⟩
theorem q3e {c : Cur} (h : Cu c) (n : Int) (h1 : 1 <= n) (h2 : n <= 1000000) : ∃ (b : Bool) (c' : Cur), wF c n = some (b, (c', ())) /\ Cu c' := by
 obtain ⟨x, c1, e1, _, _, k1⟩ := q1A h n h1 h2
 rw [q5Z, e1]
 exact ⟨_, _, rfl, k1⟩
theorem qd7 {c : Cur} (h : Cu c) (l : List BA) (h1 : 1 <= l.length) (h2 : l.length <= 1000) : ∃ (x : BA) (c' : Cur), q1e c l = some (x, (c', ())) /\ x ∈ l /\ Cu c' := by
 obtain ⟨x, c1, e1, a1, b1, k1⟩ := q1A h (l.length : Int) (by omega) (by omega)
 rw [q5M, e1]
 simp only [oB, dYT a1, dYT b1, Bool.and_self, cT]
 exact ⟨_, _, rfl, q0k (by omega), k1⟩
theorem q8j (code : List Int) (hl : code.length <= 1048576) : ∀ (m i : Nat) (x : Int), m + i = code.length -> ∃ c : Cur, q0y code x (i : Int) = some (c, ()) /\ Cu c /\ c.1 = code
 | 0, i, x, hm => by
  rw [q2g]
  simp only [dYF (show ¬ (i : Int) < (code.length : Int) by omega), cF]
  exact ⟨_, rfl, ⟨hl, Int.le_refl _, by show (0 : Int) <= (code.length : Int); omega⟩, rfl⟩
 | m + 1, i, x, hm => by
  rw [q2g]
  simp only [dYT (show (i : Int) < (code.length : Int) by omega), cT]
  by_cases h4 : (i : Int) < 4000
  ·simp only [dYT h4, cT, dYT (show (0 : Int) <= (i : Int) by omega), Bool.and_self, show w64 ((i : Int) + 1) = ((i + 1 : Nat) : Int) from qR (by omega)]
   exact q8j code hl m (i + 1) _ (by omega)
  ·simp only [dYF h4, cF]
   exact ⟨_, rfl, ⟨hl, Int.le_refl _, by show (0 : Int) <= (code.length : Int); omega⟩, rfl⟩
theorem qdl (code : List Int) (hl : code.length <= 1048576) : ∃ c : Cur, q36 code = some (c, ()) /\ Cu c := by
 rw [q6U]
 obtain ⟨c, e, k, _⟩ := q8j code hl code.length 0 (w64 (12701 + (code.length : Int))) (by omega)
 exact ⟨c, e, k⟩
theorem wsm {l : List BA} (hl : l.length <= 1000) (hs : ∀ s ∈ l, s.size <= 100) : wB l <= 1048576 := by
 have : ∀ r : List BA, (∀ s ∈ r, s.size <= 100) -> (r.map ByteArray.size).sum <= 100 * r.length := by
  intro r
  induction r with
  | nil => intro _; simp
  | cons x r ih =>
   intro h
   have h1 := h x (List.mem_cons_self ..)
   have h2 := ih fun s hs => h s (List.mem_cons_of_mem _ hs)
   simp only [List.map_cons, List.sum_cons, List.length_cons]; omega
 have := this l hs
 unfold wB wl
 omega
theorem qbj (d : Nat) (h : d < 10) : decB (d : Int) = mkB [UInt8.ofNat (48 + d)] := by
 rw [q0s, Lib.decDigits, dif_pos h]
end Go.Den.S
