/- EgA: equations of the functions of this seat as the executor tells them, or plain facts about them. Conditions: none here. -/
import Derived.Test.YtkpdhadfnanagaaDoorDenFour
set_option linter.all false
namespace Go.Den.S
open Go Go.Den
/-! ### numbers in base 128 -/
def vL (n : Nat) : List UInt8 := if h : n < 128 then [UInt8.ofNat n] else UInt8.ofNat (n % 128 + 128) :: vL (n / 128)
termination_by n
/-- A number that stands in front, from digit i on: what it tells, how many digits there are in all. -/
def rvG : (i acc : Nat) → List UInt8 → Option (Nat × Nat)
  | _, _, [] => none
  | i, acc, c :: r => if 5 ≤ i then none else
    if c.toNat < 128 then (if acc + c.toNat % 128 * 128 ^ i ≤ 1000000000 ∧ (vL (acc + c.toNat % 128 * 128 ^ i)).length = i + 1 then some (acc + c.toNat % 128 * 128 ^ i, i + 1) else none)
    else rvG (i + 1) (acc + c.toNat % 128 * 128 ^ i) r
def rvar (l : List UInt8) : Option (Nat × Nat) := rvG 0 0 l
end Go.Den.S
