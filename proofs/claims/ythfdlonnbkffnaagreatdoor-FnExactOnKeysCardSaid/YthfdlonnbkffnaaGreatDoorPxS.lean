/- PxS: equations of the functions of this seat as the executor tells them, or plain facts about them. Conditions: none here. -/
import Derived.Test.YthfdlonnbkffnaaGreatDoorPxR
set_option linter.all false
set_option linter.unusedSimpArgs false
set_option linter.unusedVariables false
namespace Go.Den.S
open Go Go.Den
/-- By how much a number goes up or down, and whether it can be told. -/
def byB (u : ByteArray) (vals : List ByteArray) : Int × Bool :=
  bif decide (u = c_INCR) then (1, true) else bif decide (u = c_DECR) then (-1, true) else bif decide (u = c_DECRBY) then (-(rdI (gi vals 0)).1, (rdI (gi vals 0)).2) else rdI (gi vals 0)
section
variable (t : List DE) (ht : tabB t = true) (k : ByteArray) (vals : List ByteArray) (hv : vals.length ≤ 2097152)
include ht hv
end
end Go.Den.S
