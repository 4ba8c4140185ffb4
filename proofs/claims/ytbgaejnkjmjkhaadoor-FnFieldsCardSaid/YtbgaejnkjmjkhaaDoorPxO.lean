/- PxO: equations of the functions of this seat as the executor tells them, or plain facts about them. Conditions: none here. -/
import Derived.Test.YtbgaejnkjmjkhaaDoorPxM
set_option linter.all false
namespace Go.Den.S
open Go Go.Den
abbrev nilR : BA := q0Z
end Go.Den.S
