/- PxX: equations of the functions of this seat as the executor tells them, or plain facts about them. Conditions: none here. -/
import Derived.Test.YtbgaejnkjmjkhaaDoorPxR
set_option linter.all false
namespace Go.Den.S
open Go Go.Den
structure Ok2 (t : List DE) : Prop where
 bd : Bd t
 asc : Asc t
end Go.Den.S
