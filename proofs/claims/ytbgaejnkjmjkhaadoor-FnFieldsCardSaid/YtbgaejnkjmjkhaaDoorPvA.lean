/- PvA: equations of the functions of this seat as the executor tells them, or plain facts about them. Conditions: none here. -/
import Derived.Test.YtbgaejnkjmjkhaaDoorPxR
set_option linter.all false
namespace Go.Den.S
open Go Go.Den
abbrev Cur : Type := List Int × Int × Int
structure Cu (c : Cur) : Prop where
 len : c.1.length <= 1048576
 at0 : 0 <= c.2.1
 at1 : c.2.1 <= (c.1.length : Int)
theorem q7Q (x : Int) : 0 <= w64 (andI .i64 x 255) /\ w64 (andI .i64 x 255) <= 255 := by
 have h : andI .i64 x 255 = (((BitVec.ofInt 64 x).toNat &&& 255 : Nat) : Int) := by
  rw [qbu, BitVec.toNat_and]; rfl
 have h2 : (BitVec.ofInt 64 x).toNat &&& 255 <= 255 := Nat.and_le_right
 rw [h, show w64 _ = _ from qG (by omega) (by omega)]
 omega
theorem q4H {c : Cur} (h : Cu c) : ∃ (x : Int) (c' : Cur), jI c = some (x, (c', ())) /\ 0 <= x /\ x <= 255 /\ Cu c' := by
 have h0 := h.at0
 have h1 := h.at1
 have hl := h.len
 rw [q7U]
 by_cases hi : c.2.1 < (c.1.length : Int)
 ·simp only [dYT hi, dYT h0, Bool.and_self, cT]
  refine ⟨_, _, rfl, (q7Q _).1, (q7Q _).2, ⟨hl, ?_, ?_⟩⟩
  ·show 0 <= w64 (c.2.1 + 1)
   rw [show w64 (c.2.1 + 1) = c.2.1 + 1 from qG (by omega) (by omega)]; omega
  ·show w64 (c.2.1 + 1) <= (c.1.length : Int)
   rw [show w64 (c.2.1 + 1) = c.2.1 + 1 from qG (by omega) (by omega)]; omega
 ·simp only [dYF hi, cF]
  exact ⟨_, _, rfl, (q7Q _).1, (q7Q _).2, ⟨hl, h0, h1⟩⟩
theorem q6d {x n : Int} (hx : 0 <= x) (hn : 1 <= n) : 0 <= Int.tmod x n /\ Int.tmod x n < n := by
 rw [Int.tmod_eq_emod_of_nonneg hx]
 exact ⟨Int.emod_nonneg _ (by omega), Int.emod_lt_of_pos _ (by omega)⟩
theorem bneZ {n : Int} (h : 1 <= n) : (n != 0) = true := by rw [bneI, dYF (by omega)]; rfl
theorem qai {c : Cur} (h : Cu c) (n : Int) (h1 : 1 <= n) (h2 : n <= 1000000) : ∃ (x : Int) (c' : Cur), q0P c n = some (x, (c', ())) /\ 0 <= x /\ x < n /\ Cu c' := by
 rw [q72]
 simp only [dYF (show ¬ n <= 0 by omega), cF, bneZ h1, cT]
 by_cases hn : n <= 256
 ·obtain ⟨x, c1, e1, a1, b1, k1⟩ := q4H h
  simp only [dYT hn, cT, e1, oB]
  exact ⟨_, _, rfl, (q6d a1 h1).1, (q6d a1 h1).2, k1⟩
 ·obtain ⟨x, c1, e1, a1, b1, k1⟩ := q4H h
  obtain ⟨y, c2, e2, a2, b2, k2⟩ := q4H k1
  obtain ⟨z, c3, e3, a3, b3, k3⟩ := q4H k2
  obtain ⟨w, c4, e4, a4, b4, k4⟩ := q4H k3
  simp only [dYF hn, cF, e1, e2, e3, e4, oB]
  have w1 : w64 (x * 16777216) = x * 16777216 := qG (by omega) (by omega)
  have w2 : w64 (y * 65536) = y * 65536 := qG (by omega) (by omega)
  have w3 : w64 (z * 256) = z * 256 := qG (by omega) (by omega)
  have w4 : w64 (x * 16777216 + y * 65536) = x * 16777216 + y * 65536 := qG (by omega) (by omega)
  have w5 : w64 (x * 16777216 + y * 65536 + z * 256) = x * 16777216 + y * 65536 + z * 256 := qG (by omega) (by omega)
  have w6 : w64 (x * 16777216 + y * 65536 + z * 256 + w) = x * 16777216 + y * 65536 + z * 256 + w := qG (by omega) (by omega)
  rw [w1, w2, w3, w4, w5, w6]
  exact ⟨_, _, rfl, (q6d (by omega) h1).1, (q6d (by omega) h1).2, k4⟩
theorem qf3 {c : Cur} (h : Cu c) (l : List BA) (h1 : 1 <= l.length) (h2 : l.length <= 1000) : ∃ (x : BA) (c' : Cur), q3T c l = some (x, (c', ())) /\ x ∈ l /\ Cu c' := by
 obtain ⟨x, c1, e1, a1, b1, k1⟩ := qai h (l.length : Int) (by omega) (by omega)
 rw [q7R, e1]
 simp only [oB, dYT a1, dYT b1, Bool.and_self, cT]
 exact ⟨_, _, rfl, zK (by omega), k1⟩
theorem q9H (code : List Int) (hl : code.length <= 1048576) : ∀ (m i : Nat) (x : Int), m + i = code.length -> ∃ c : Cur, q1k code x (i : Int) = some (c, ()) /\ Cu c /\ c.1 = code
 | 0, i, x, hm => by
  rw [q3o]
  simp only [dYF (show ¬ (i : Int) < (code.length : Int) by omega), cF]
  exact ⟨_, rfl, ⟨hl, Int.le_refl _, by show (0 : Int) <= (code.length : Int); omega⟩, rfl⟩
 | m + 1, i, x, hm => by
  rw [q3o]
  simp only [dYT (show (i : Int) < (code.length : Int) by omega), cT]
  by_cases h4 : (i : Int) < 4000
  ·simp only [dYT h4, cT, dYT (show (0 : Int) <= (i : Int) by omega), Bool.and_self, show w64 ((i : Int) + 1) = ((i + 1 : Nat) : Int) from qM (by omega)]
   exact q9H code hl m (i + 1) _ (by omega)
  ·simp only [dYF h4, cF]
   exact ⟨_, rfl, ⟨hl, Int.le_refl _, by show (0 : Int) <= (code.length : Int); omega⟩, rfl⟩
theorem qfp (code : List Int) (hl : code.length <= 1048576) : ∃ c : Cur, q4F code = some (c, ()) /\ Cu c := by
 rw [q8c]
 obtain ⟨c, e, k, _⟩ := q9H code hl code.length 0 (w64 (12701 + (code.length : Int))) (by omega)
 exact ⟨c, e, k⟩
theorem qaf (a b : List BA) (ha : a.length <= 1000000000) : q2F a b = some (decide (a = b), ()) := by
 rw [q6D]
 by_cases hl : a.length = b.length
 ·have e : ((a.length : Int) != (b.length : Int)) = false := by simp [hl]
  simp only [e, cF]
  refine qbl (fun i => q04 a b i) a b eB hl (fun i hi => ?_) ?_
  ·rw [q21]
   have e : w64 ((i : Int) + 1) = (i : Int) + 1 := qG (by omega) (by omega)
   have h1 : decide ((i : Int) < (a.length : Int)) = true := dYT (by omega)
   have h2 : decide ((i : Int) < (b.length : Int)) = true := dYT (by omega)
   have h3 : decide (0 <= (i : Int)) = true := dYT (by omega)
   simp only [h1, h2, h3, e, Bool.and_self, cT, Int.toNat_natCast, wC]
   by_cases h : a.getD i eB = b.getD i eB <;> simp only [h, decide_true, decide_false, Bool.not_true, Bool.not_false, cT, cF, if_true, if_false]
  ·rw [q21]
   simp
 ·have e : ((a.length : Int) != (b.length : Int)) = true := by simp; omega
  simp only [e, cT]
  have : a ≠ b := fun h => hl (by rw [h])
  simp [this]
theorem qcb (a b : DV) (ha : a.2.2.2.length <= 1000000000) : q3P a b = some (decide (a = b), ()) := by
 rw [q7X, qaf _ _ ha]
 obtain ⟨a1, a2, a3, a4⟩ := a
 obtain ⟨b1, b2, b3, b4⟩ := b
 simp only [oB, wC, Prod.mk.injEq]
 simp only [q3K]
 by_cases h1 : a1 = b1 <;> by_cases h2 : a2 = b2 <;> by_cases h3 : a3 = b3 <;> by_cases h4 : a4 = b4 <;> simp [h1, h2, h3, h4]
theorem qav (a b : List DE) (ha : a.length <= 1000000000) (hi : ∀ e ∈ a, e.2.2.2.2.length <= 1000000000) : q2Q a b = some (decide (a = b), ()) := by
 rw [q6F]
 by_cases hl : a.length = b.length
 ·have e : ((a.length : Int) != (b.length : Int)) = false := by simp [hl]
  simp only [e, cF]
  refine qbl (fun i => q05 a b i) a b dflt hl (fun i hi' => ?_) ?_
  ·rw [q2d]
   have e : w64 ((i : Int) + 1) = (i : Int) + 1 := qG (by omega) (by omega)
   have h1 : decide ((i : Int) < (a.length : Int)) = true := dYT (by omega)
   have h2 : decide ((i : Int) < (b.length : Int)) = true := dYT (by omega)
   have h3 : decide (0 <= (i : Int)) = true := dYT (by omega)
   have hm := hi _ (zK (d := dflt) hi')
   simp only [h1, h2, h3, e, Bool.and_self, cT, Int.toNat_natCast, wC, qcb (a.getD i dflt).2 (b.getD i dflt).2 hm, oB]
   generalize a.getD i dflt = x
   generalize b.getD i dflt = y
   obtain ⟨x1, x2⟩ := x
   obtain ⟨y1, y2⟩ := y
   simp only [Prod.mk.injEq]
   by_cases hx : x1 = y1 <;> by_cases hy : x2 = y2 <;> simp [hx, hy]
  ·rw [q2d]
   simp
 ·have e : ((a.length : Int) != (b.length : Int)) = true := by simp; omega
  simp only [e, cT]
  have : a ≠ b := fun h => hl (by rw [h])
  simp [this]
theorem wsm {l : List BA} (hl : l.length <= 1000) (hs : ∀ s ∈ l, s.size <= 100) : wB l <= 1048576 := by
 have : ∀ r : List BA, (∀ s ∈ r, s.size <= 100) -> (r.map ByteArray.size).sum <= 100 * r.length := by
  intro r
  induction r with
  | nil => intro _; simp
  | cons x r ih =>
   intro h
   have h1 := h x (List.mem_cons_self ..)
   have h2 := ih fun s hs => h s (List.mem_cons_of_mem _ hs)
   simp only [List.map_cons, List.sum_cons, List.length_cons]; omega
 have := this l hs
 unfold wB wl
 omega
theorem q8W (d : Nat) (h : d < 10) : decB (d : Int) = mkB [UInt8.ofNat (48 + d)] := by
 rw [q75, Lib.decDigits, dif_pos h]
end Go.Den.S
