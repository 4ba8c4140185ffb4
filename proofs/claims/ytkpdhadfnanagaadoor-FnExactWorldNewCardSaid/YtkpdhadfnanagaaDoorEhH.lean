/- EhH: equations of the functions of this seat as the executor tells them, or plain facts about them. Conditions: none here. -/
import Derived.Test.YtkpdhadfnanagaaDoorEhG
set_option linter.all false
namespace Go.Den.S
open Go Go.Den
/-! ### numbers are read -/
theorem decB_nat (v : Nat) : decB (v : Int) = mkB (Lib.decDigits v) := by
  unfold decB Lib.itoa
  rw [if_neg (by omega), Int.toNat_natCast]
/-! ### .. and by the library -/
end Go.Den.S
