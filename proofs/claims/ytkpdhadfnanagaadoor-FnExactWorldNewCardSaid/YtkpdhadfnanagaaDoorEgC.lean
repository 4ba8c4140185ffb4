/- EgC: equations of the functions of this seat as the executor tells them, or plain facts about them. Conditions: none here. -/
import Derived.Test.YtkpdhadfnanagaaDoorEgB
set_option linter.all false
namespace Go.Den.S
open Go Go.Den
/-! ### reading one thing behind the other -/
/-! ### batches -/
end Go.Den.S
