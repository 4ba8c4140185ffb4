/- EhI: equations of the functions of this seat as the executor tells them, or plain facts about them. Conditions: none here. -/
import Derived.Test.YtkpdhadfnanagaaDoorEhH
set_option linter.all false
namespace Go.Den.S
open Go Go.Den
set_option maxRecDepth 4000
/-! ### names of segments, heads -/
/-! ### heads -/
end Go.Den.S
