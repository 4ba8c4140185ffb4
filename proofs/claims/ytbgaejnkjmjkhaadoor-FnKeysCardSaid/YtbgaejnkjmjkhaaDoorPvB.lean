/- PvB: equations of the functions of this seat as the executor tells them, or plain facts about them. Conditions: none here. -/
import Derived.Test.YtbgaejnkjmjkhaaDoorPvA
import Derived.Test.YtbgaejnkjmjkhaaDoorPwC
set_option linter.all false
namespace Go.Den.S
open Go Go.Den
theorem kq : 1 <= c_q.size /\ c_q.size <= 20 := ⟨by decide, by decide⟩
theorem num1 : numB 1 = q1f := by
 unfold numB
 rw [show (1 : Int) = ((1 : Nat) : Int) from rfl, qbj 1 (by decide)]
 decide +kernel
end Go.Den.S
