/- EgE: equations of the functions of this seat as the executor tells them, or plain facts about them. Conditions: none here. -/
import Derived.Test.YtkpdhadfnanagaaDoorEgD
set_option linter.all false
namespace Go.Den.S
open Go Go.Den
/-! ### files and acts -/
abbrev Act := Int × (ByteArray × (ByteArray × ByteArray))
/-! ### segments -/
end Go.Den.S
