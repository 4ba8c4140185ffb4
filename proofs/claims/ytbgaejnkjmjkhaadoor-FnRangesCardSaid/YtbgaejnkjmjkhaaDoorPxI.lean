/- PxI: equations of the functions of this seat as the executor tells them, or plain facts about them. Conditions: none here. -/
import Derived.Test.YtbgaejnkjmjkhaaDoorPxF
set_option linter.all false
namespace Go.Den.S
open Go Go.Den
def yG (t : List DE) (k : BA) (n : Int) : Bool := (fndB t k).2 && !(decide ((fndB t k).1.1 = n))
def undB (t : List DE) (k : BA) : Int × BA × List BA := (fndB t k).1.2
theorem qay (t : List DE) (k : BA) (n : Int) (h : Bd t) : yg (t, (eB, false)) k n = some ((((fndB t k).1.1, undB t k), (fndB t k).2), ((bif yG t k n then (t, (q0f zI, true)) else (t, (eB, false))), ())) :=
 (q8T (t, (eB, false)) k n h).trans rfl
theorem qbp {t : List DE} {k : BA} (h : tabB t = true) : (undB t k).2.2.length <= 24 /\ (undB t k).2.1.size <= 60 /\ ∀ s ∈ (undB t k).2.2, s.size <= 60 := by
 unfold undB
 cases hf : (fndB t k).2 with
 | true => exact q6p (q9e h hf).1
 | false =>
  have : (fndB t k).1 = (0, (0, (eB, []))) := by
   unfold fndB at hf ⊢
   cases hx : t.find? fun e => decide (e.1 = k) with
   | none => rfl
   | some e => rw [hx] at hf; cases hf
  rw [this]
  exact ⟨by simp, by decide, fun s hs => by cases hs⟩
section
variable (t : List DE) (ht : tabB t = true) (k : BA) (vals : List BA) (hv : vals.length <= 2097152)
include ht hv
end
theorem q2l : tabB [] = true := rfl
def Back (t : List DE) (r : RS) : Prop := (r.1 = t \/ tabB r.1 = true)
end Go.Den.S
