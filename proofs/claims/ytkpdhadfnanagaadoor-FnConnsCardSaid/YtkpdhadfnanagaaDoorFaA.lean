/- FaA: equations of the functions of this seat as the executor tells them, or plain facts about them. Conditions: none here. -/
import Derived.Test.YtkpdhadfnanagaaDoorPuTake
set_option linter.all false
namespace Go.Den.S
open Go Go.Den
/-! ### a number and CR LF -/
def dg (s : ByteArray) (i : Nat) : Prop := i < s.size ∧ 48 ≤ bt s i ∧ bt s i ≤ 57
instance (s : ByteArray) (i : Nat) : Decidable (dg s i) := inferInstanceAs (Decidable (_ ∧ _))
/-- What stands behind the figures: CR LF. -/
def tailP (s : ByteArray) (a k : Nat) (n : Int) : Int × Int × Int :=
  if k = s.size then (0, 0, 0) else if k = a ∨ bt s k ≠ 13 then (0, 0, 2) else if k + 1 = s.size then (0, 0, 0) else if bt s (k + 1) ≠ 10 then (0, 0, 2) else (n, ((k + 2 : Nat) : Int), 1)
def numP (s : ByteArray) (a : Nat) (most : Int) : Int × Int × Int :=
  if ¬ dg s a then tailP s a a 0
  else if ¬ dg s (a + 1) then (if bt s a - 48 > most then (0, 0, 2) else tailP s a (a + 1) (bt s a - 48))
  else if bt s a = 48 ∨ 10 * (bt s a - 48) + (bt s (a + 1) - 48) > most ∨ dg s (a + 2) then (0, 0, 2)
  else tailP s a (a + 2) (10 * (bt s a - 48) + (bt s (a + 1) - 48))
theorem decT {p : Prop} [Decidable p] (h : p) : decide p = true := decide_eq_true h
theorem decF {p : Prop} [Decidable p] (h : ¬ p) : decide p = false := decide_eq_false h
theorem w64_id {n : Int} (h0 : -9223372036854775808 ≤ n) (h1 : n ≤ 9223372036854775807) : w64 n = n := wrap64_id h0 h1
theorem fig_ok {x : Int} (h0 : 48 ≤ x) (h1 : x ≤ 57) : w64 (IntKind.u8.wrap (x - 48)) = x - 48 := by rw [wrapU8_id (by omega) (by omega)]; exact w64_id (by omega) (by omega)
theorem eqT {a b : Int} (h : a = b) : (a == b) = true := by rw [h]; exact beq_self_eq_true _
theorem eqF {a b : Int} (h : ¬ a = b) : (a == b) = false := by rw [beq_eq_false_iff_ne]; exact h
theorem neT {a b : Int} (h : ¬ a = b) : (a != b) = true := by rw [bne, eqF h]; rfl
theorem neF {a b : Int} (h : a = b) : (a != b) = false := by rw [bne, eqT h]; rfl
theorem cnt_end {s : ByteArray} {a k : Nat} {most n : Int} (hs : s.size ≤ 1000000) (hk : k ≤ s.size) (h : ¬ dg s k) : impl_countAt_L0 s (a : Int) most n (k : Int) = some (tailP s a k n, ()) := by
  rw [impl_countAt_L0_eq]
  unfold dg at h
  have e1 : w64 ((k : Int) + 1) = (k : Int) + 1 := w64_id (by omega) (by omega)
  have e2 : w64 ((k : Int) + 2) = ((k + 2 : Nat) : Int) := (w64_id (by omega) (by omega)).trans (by omega)
  have e3 : ((k : Int) + 1).toNat = k + 1 := by omega
  simp only [e1, e2, e3, Int.toNat_natCast]
  unfold tailP
  grind
theorem cnt_dig {s : ByteArray} {a k : Nat} {most n : Int} (hs : s.size ≤ 1000000) (h : dg s k) (h0 : 0 ≤ n) (h1 : n ≤ 1000) : impl_countAt_L0 s (a : Int) most n (k : Int) =
    if a < k ∧ n = 0 ∨ 10 * n + (bt s k - 48) > most then some ((0, (0, 2)), ()) else impl_countAt_L0 s (a : Int) most (10 * n + (bt s k - 48)) ((k + 1 : Nat) : Int) := by
  rw [impl_countAt_L0_eq]
  obtain ⟨h3, h4, h5⟩ := h
  have e1 : w64 ((k : Int) + 1) = ((k + 1 : Nat) : Int) := wrap_succ (by omega)
  have e2 : w64 (10 * n) = 10 * n := w64_id (by omega) (by omega)
  have e4 : w64 (10 * n + (bt s k - 48)) = 10 * n + (bt s k - 48) := w64_id (by omega) (by omega)
  simp only [e1, e2, Int.toNat_natCast, fig_ok h4 h5, e4]
  grind
theorem impl_countAt_ok (s : ByteArray) (a : Nat) (most : Int) (hs : s.size ≤ 1000000) (ha : a ≤ s.size) (h0 : 0 ≤ most) (h1 : most ≤ 99) : impl_countAt s (a : Int) most = some (numP s a most, ()) := by
  rw [impl_countAt_eq]
  unfold numP
  by_cases d0 : dg s a
  · rw [cnt_dig hs d0 (by omega) (by omega)]
    have := d0.2
    by_cases d1 : dg s (a + 1)
    · have := d1.2
      have := d1.1
      by_cases c1 : (0:Int) + (bt s a - 48) > most
      · grind
      · rw [if_neg (by omega), cnt_dig hs d1 (by omega) (by omega)]
        by_cases d2 : dg s (a + 2)
        · have := d2.2
          have := d2.1
          by_cases c2 : bt s a = 48 ∨ 10 * (bt s a - 48) + (bt s (a + 1) - 48) > most
          · grind
          · rw [if_neg (by omega), cnt_dig hs d2 (by omega) (by omega)]
            grind
        · rw [cnt_end hs (by omega) d2]
          grind
    · rw [cnt_end hs (by have := d0.1; omega) d1]
      grind
  · rw [cnt_end hs ha d0, if_pos d0]
end Go.Den.S
