/- PxI: equations of the functions of this seat as the executor tells them, or plain facts about them. Conditions: none here. -/
import Derived.Test.YthfdlonnbkffnaaGreatDoorPxF
set_option linter.all false
set_option linter.unusedSimpArgs false
set_option linter.unusedVariables false
namespace Go.Den.S
open Go Go.Den
/-- What is under a key: until when, its text, its items. -/
def undB (t : List DE) (k : ByteArray) : Int × ByteArray × List ByteArray := (fndB t k).1.2
theorem und_bd {t : List DE} {k : ByteArray} (h : tabB t = true) : (undB t k).2.2.length ≤ 24 ∧ (undB t k).2.1.size ≤ 60 ∧ ∀ s ∈ (undB t k).2.2, s.size ≤ 60 := by
  unfold undB
  cases hf : (fndB t k).2 with
  | true => exact val_its (fnd_val h hf).1
  | false =>
    have : (fndB t k).1 = (0, (0, (ByteArray.empty, []))) := by
      unfold fndB at hf ⊢
      cases hx : t.find? fun e => decide (e.1 = k) with
      | none => rfl
      | some e => rw [hx] at hf; cases hf
    rw [this]
    exact ⟨by simp, by decide, fun s hs => by cases hs⟩
section
variable (t : List DE) (ht : tabB t = true) (k : ByteArray) (vals : List ByteArray) (hv : vals.length ≤ 2097152)
include ht hv
theorem over_same (r : ByteArray) : overB (t, (r, false)) t = (t, (r, true)) := by
  unfold overB
  simp only [cond_false, ht, cond_true]
end
theorem nil_tab : tabB [] = true := rfl
/-- What is told of a table that comes back. -/
def Back (t : List DE) (r : RS) : Prop := (r.1 = t ∨ tabB r.1 = true)
theorem over_back (d : DD) (t : List DE) : Back t (overB d t) := by
  unfold Back overB
  cases d.2.2 with
  | true => exact .inl rfl
  | false =>
    cases h : tabB d.1 with
    | true => exact .inr h
    | false => exact .inl rfl
end Go.Den.S
