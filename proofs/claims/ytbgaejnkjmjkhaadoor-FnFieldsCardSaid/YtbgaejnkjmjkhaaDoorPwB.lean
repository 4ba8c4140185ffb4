/- PwB: equations of the functions of this seat as the executor tells them, or plain facts about them. Conditions: none here. -/
import Derived.Test.YtbgaejnkjmjkhaaDoorPwA
set_option linter.all false
namespace Go.Den.S
open Go Go.Den
section
variable {k : BA} (hk : 1 <= k.size /\ k.size <= 20) {l : List BA} (hl : l = [] \/ valB (2, (0, (eB, l))) = true)
include hk hl
end
end Go.Den.S
