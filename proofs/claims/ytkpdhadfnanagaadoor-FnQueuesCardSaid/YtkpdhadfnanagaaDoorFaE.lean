/- FaE: equations of the functions of this seat as the executor tells them, or plain facts about them. Conditions: none here. -/
import Derived.Test.YtkpdhadfnanagaaDoorFaD
set_option linter.all false
namespace Go.Den.S
open Go Go.Den
/-! ### the next request -/
end Go.Den.S
