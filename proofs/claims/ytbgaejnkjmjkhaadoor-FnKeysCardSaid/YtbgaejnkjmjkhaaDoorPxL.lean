/- PxL: equations of the functions of this seat as the executor tells them, or plain facts about them. Conditions: none here. -/
import Derived.Test.YtbgaejnkjmjkhaaDoorPxK
set_option linter.all false
namespace Go.Den.S
open Go Go.Den
theorem qcX (l : List BA) (hl : l.length <= 1000) (hs : ∀ s ∈ l, s.size <= 60) : wB l <= 2097152 := by
 have : ∀ r : List BA, (∀ s ∈ r, s.size <= 60) -> (r.map ByteArray.size).sum <= 60 * r.length := by
  intro r
  induction r with
  | nil => intro _; simp
  | cons x r ih =>
   intro hr
   have h1 := hr x (List.mem_cons_self ..)
   have h2 := ih fun s hs => hr s (List.mem_cons_of_mem _ hs)
   simp only [List.map_cons, List.sum_cons, List.length_cons]; omega
 have := this _ hs
 unfold wB wl
 omega
section
variable (t : List DE) (ht : tabB t = true) (k : BA) (vals : List BA) (hv : vals.length <= 2097152)
include ht
end
end Go.Den.S
