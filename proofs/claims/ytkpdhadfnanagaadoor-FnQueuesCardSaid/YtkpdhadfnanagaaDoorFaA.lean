/- FaA: equations of the functions of this seat as the executor tells them, or plain facts about them. Conditions: none here. -/
import Derived.Test.YtkpdhadfnanagaaDoorPuSettle
set_option linter.all false
namespace Go.Den.S
open Go Go.Den
/-! ### a number and CR LF -/
def dg (s : ByteArray) (i : Nat) : Prop := i < s.size ∧ 48 ≤ bt s i ∧ bt s i ≤ 57
instance (s : ByteArray) (i : Nat) : Decidable (dg s i) := inferInstanceAs (Decidable (_ ∧ _))
theorem decT {p : Prop} [Decidable p] (h : p) : decide p = true := decide_eq_true h
theorem decF {p : Prop} [Decidable p] (h : ¬ p) : decide p = false := decide_eq_false h
theorem eqF {a b : Int} (h : ¬ a = b) : (a == b) = false := by rw [beq_eq_false_iff_ne]; exact h
end Go.Den.S
