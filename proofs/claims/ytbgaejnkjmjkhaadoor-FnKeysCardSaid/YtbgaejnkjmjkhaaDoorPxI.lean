/- PxI: equations of the functions of this seat as the executor tells them, or plain facts about them. Conditions: none here. -/
import Derived.Test.YtbgaejnkjmjkhaaDoorPxG
set_option linter.all false
namespace Go.Den.S
open Go Go.Den
def undB (t : List DE) (k : BA) : Int × BA × List BA := (fndB t k).1.2
theorem qdk {t : List DE} {k : BA} (h : tabB t = true) : (undB t k).2.2.length <= 24 /\ (undB t k).2.1.size <= 60 /\ ∀ s ∈ (undB t k).2.2, s.size <= 60 := by
 unfold undB
 cases hf : (fndB t k).2 with
 | true => exact q6i (q6O h hf).1
 | false =>
  have : (fndB t k).1 = (0, (0, (eB, []))) := by
   unfold fndB at hf ⊢
   cases hx : t.find? fun e => decide (e.1 = k) with
   | none => rfl
   | some e => rw [hx] at hf; cases hf
  rw [this]
  exact ⟨by simp, by decide, fun s hs => by cases hs⟩
section
variable (t : List DE) (ht : tabB t = true) (k : BA) (vals : List BA) (hv : vals.length <= 2097152)
include ht hv
theorem q23 (r : BA) : q2l (t, (r, false)) t = (t, (r, true)) := by
 unfold q2l
 simp only [cF, ht, cT]
end
theorem q6T : tabB [] = true := rfl
def Back (t : List DE) (r : RS) : Prop := (r.1 = t \/ tabB r.1 = true)
end Go.Den.S
