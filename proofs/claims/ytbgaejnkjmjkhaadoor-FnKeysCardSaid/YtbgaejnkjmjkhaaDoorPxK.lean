/- PxK: equations of the functions of this seat as the executor tells them, or plain facts about them. Conditions: none here. -/
import Derived.Test.YtbgaejnkjmjkhaaDoorPxJ
set_option linter.all false
namespace Go.Den.S
open Go Go.Den
def q1K (P : List PF) : List BA := P.map Prod.fst
end Go.Den.S
