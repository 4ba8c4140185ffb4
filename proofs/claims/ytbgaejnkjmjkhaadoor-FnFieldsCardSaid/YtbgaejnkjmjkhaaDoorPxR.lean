/- PxR: equations of the functions of this seat as the executor tells them, or plain facts about them. Conditions: none here. -/
import Derived.Test.YtbgaejnkjmjkhaaDoorPxO
set_option linter.all false
namespace Go.Den.S
open Go Go.Den
theorem bneI (a b : Int) : (a != b) = !decide (a = b) := by
 by_cases e : a = b
 ·simp [e]
 ·simp [e]
end Go.Den.S
