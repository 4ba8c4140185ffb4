/- PwC: equations of the functions of this seat as the executor tells them, or plain facts about them. Conditions: none here. -/
import Derived.Test.YtbgaejnkjmjkhaaDoorPwB
set_option linter.all false
namespace Go.Den.S
open Go Go.Den
section
variable {k : BA} (hk : 1 <= k.size /\ k.size <= 20) {P : List PF} (hl : yX P = [] \/ valB (3, (0, (eB, yX P))) = true)
include hk hl
end
end Go.Den.S
