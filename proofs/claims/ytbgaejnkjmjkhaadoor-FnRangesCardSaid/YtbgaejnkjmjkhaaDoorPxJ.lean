/- PxJ: equations of the functions of this seat as the executor tells them, or plain facts about them. Conditions: none here. -/
import Derived.Test.YtbgaejnkjmjkhaaDoorPxI
set_option linter.all false
namespace Go.Den.S
open Go Go.Den
abbrev PF : Type := BA × BA
def qcd (P : List PF) : List BA := P.flatMap fun p => [p.1, p.2]
end Go.Den.S
