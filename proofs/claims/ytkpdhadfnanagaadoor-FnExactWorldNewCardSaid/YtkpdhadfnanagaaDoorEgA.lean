/- EgA: equations of the functions of this seat as the executor tells them, or plain facts about them. Conditions: none here. -/
import Derived.Test.YtkpdhadfnanagaaDoorDenFour
set_option linter.all false
namespace Go.Den.S
open Go Go.Den
/-! ### numbers in base 128 -/
def vL (n : Nat) : List UInt8 := if h : n < 128 then [UInt8.ofNat n] else UInt8.ofNat (n % 128 + 128) :: vL (n / 128)
termination_by n
theorem vL_lt {n : Nat} (h : n < 128) : vL n = [UInt8.ofNat n] := by rw [vL, dif_pos h]
theorem vL_ge {n : Nat} (h : ¬ n < 128) : vL n = UInt8.ofNat (n % 128 + 128) :: vL (n / 128) := by rw [vL, dif_neg h]
theorem u8_nat {n : Nat} (h : n < 256) : (UInt8.ofNat n).toNat = n := by
  rw [UInt8.toNat_ofNat']
  omega
theorem vL_ne (n : Nat) : vL n ≠ [] := by
  rw [vL]
  split <;> simp
theorem vL_pos (n : Nat) : 0 < (vL n).length := List.length_pos_iff.2 (vL_ne n)
theorem vL_len (k : Nat) : ∀ n, n < 128 ^ (k + 1) → (vL n).length ≤ k + 1 := by
  induction k with
  | zero => intro n h; rw [vL_lt (by simpa using h)]; simp
  | succ k ih =>
    intro n h
    by_cases hn : n < 128
    · rw [vL_lt hn]; simp
    · rw [vL_ge hn, List.length_cons]
      have := ih (n / 128) (by rw [Nat.pow_succ] at h; omega)
      omega
theorem vL_len5 {n : Nat} (h : n ≤ 1000000000) : (vL n).length ≤ 5 := vL_len 4 n (Nat.lt_of_le_of_lt h (by decide))
/-- A number that stands in front, from digit i on: what it tells, how many digits there are in all. -/
def rvG : (i acc : Nat) → List UInt8 → Option (Nat × Nat)
  | _, _, [] => none
  | i, acc, c :: r => if 5 ≤ i then none else
    if c.toNat < 128 then (if acc + c.toNat % 128 * 128 ^ i ≤ 1000000000 ∧ (vL (acc + c.toNat % 128 * 128 ^ i)).length = i + 1 then some (acc + c.toNat % 128 * 128 ^ i, i + 1) else none)
    else rvG (i + 1) (acc + c.toNat % 128 * 128 ^ i) r
def rvar (l : List UInt8) : Option (Nat × Nat) := rvG 0 0 l
end Go.Den.S
