/- PwD: equations of the functions of this seat as the executor tells them, or plain facts about them. Conditions: none here. -/
import Derived.Test.YtbgaejnkjmjkhaaGreatDoorPzE
import Derived.Test.YtbgaejnkjmjkhaaGreatDoorPwA
set_option linter.all false
namespace Go.Den.S
open Go Go.Den
section
variable {t:List DE} (ht:tabB t=true) {now:Int} (hn:0<=now/\now<=100000) (k:BA)
include ht hn
end
section
variable {k:BA} (hk:1<=k.size/\k.size<=20) (x:BA) (hx:x.size<=60)
end
end Go.Den.S
