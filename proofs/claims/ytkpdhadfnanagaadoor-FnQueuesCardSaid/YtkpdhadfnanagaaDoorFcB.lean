/- FcB: equations of the functions of this seat as the executor tells them, or plain facts about them. Conditions: none here. -/
import Derived.Test.YtkpdhadfnanagaaDoorFcA
set_option linter.all false
namespace Go.Den.S
open Go Go.Den
/-! ### a request's text is read back -/
/-! ### the text of a request -/
end Go.Den.S
