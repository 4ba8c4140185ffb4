/- PvT: equations of the functions of this seat as the executor tells them, or plain facts about them. Conditions: none here. -/
import Derived.Test.YtbgaejnkjmjkhaaGreatDoorPvA
import Derived.Test.YtbgaejnkjmjkhaaGreatDoorPwD
set_option linter.all false
namespace Go.Den.S
open Go Go.Den
end Go.Den.S
