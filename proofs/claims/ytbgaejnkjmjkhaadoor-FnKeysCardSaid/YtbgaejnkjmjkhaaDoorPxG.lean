/- PxG: equations of the functions of this seat as the executor tells them, or plain facts about them. Conditions: none here. -/
import Derived.Test.YtbgaejnkjmjkhaaDoorPxF
set_option linter.all false
namespace Go.Den.S
open Go Go.Den
def AscS (l : List BA) : Prop := l.Pairwise fun a b => blt a b = true
end Go.Den.S
