/- EhA: equations of the functions of this seat as the executor tells them, or plain facts about them. Conditions: none here. -/
import Derived.Test.YtkpdhadfnanagaaDoorEqD0
import Derived.Test.YtkpdhadfnanagaaDoorEqD1
import Derived.Test.YtkpdhadfnanagaaDoorEgE
import Derived.Test.YtkpdhadfnanagaaDoorPuSettle
set_option linter.all false
namespace Go.Den.S
open Go Go.Den
set_option maxRecDepth 4000
/-! ### words: numbers, sums, frames -/
end Go.Den.S
