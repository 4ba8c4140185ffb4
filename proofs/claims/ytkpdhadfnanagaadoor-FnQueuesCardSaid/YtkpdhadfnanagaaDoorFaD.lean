/- FaD: equations of the functions of this seat as the executor tells them, or plain facts about them. Conditions: none here. -/
import Derived.Test.YtkpdhadfnanagaaDoorFaC
set_option linter.all false
namespace Go.Den.S
open Go Go.Den
/-! ### requests -/
end Go.Den.S
