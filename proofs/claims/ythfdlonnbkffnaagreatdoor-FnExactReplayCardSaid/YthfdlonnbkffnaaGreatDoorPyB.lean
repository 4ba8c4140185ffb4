/- PyB: equations of the functions of this seat as the executor tells them, or plain facts about them. Conditions: none here. -/
import Derived.Test.YthfdlonnbkffnaaGreatDoorPyA
set_option linter.all false
namespace Go.Den.S
open Go Go.Den
theorem qmX (t : List DE) : cntE t <= 4 * wT t := by
 have : ∀ r : List DE, cntE r <= 4 * r.length + (r.map wE).sum := by
  intro r
  induction r with
  | nil => simp [cntE]
  | cons e r ih =>
   have h1 : e.2.2.2.2.length <= wE e := by unfold wE wV wl; omega
   have h2 : cntE (e :: r) = 4 + e.2.2.2.2.length + cntE r := by simp [cntE]
   rw [h2]
   simp only [List.map_cons, List.sum_cons, List.length_cons]; omega
 have := this t
 unfold wT wl
 omega
theorem qj2 : ∀ (t : List DE), (∀ e ∈ t, e.2.2.2.2.length <= 24) -> cntE t <= 28 * t.length
 | [], _ => by simp [cntE]
 | e :: r, h => by
  have h1 := h e (List.mem_cons_self ..)
  have h2 := qj2 r fun x hx => h x (List.mem_cons_of_mem _ hx)
  have h3 : cntE (e :: r) = 4 + e.2.2.2.2.length + cntE r := by simp [cntE]
  rw [h3, List.length_cons]; omega
structure Sm (t : List DE) : Prop where
 len : t.length <= 2097152
 its : ∀ e ∈ t, e.2.2.2.2.length <= 2097152
 cnt : cntE t <= 10000000
theorem sm_w {t : List DE} (h : wT t <= 2097152) : Sm t := by
 obtain ⟨h1, h2⟩ := qm8 h
 exact ⟨h1, fun e he => (h2 e he).2.2.1, by have := qmX t; omega⟩
theorem qev {t : List DE} (h : tabB t = true) : Sm t := by
 have h1 := q0N h
 have h2 : ∀ e ∈ t, e.2.2.2.2.length <= 24 := fun e he => (qaG (qaK h he).1).1
 exact ⟨by omega, fun e he => by have := h2 e he; omega, by have := qj2 t h2; omega⟩
theorem wf_t {a : List DE} (h : Wf (.sl qc) a) : a.length <= 9223372036854775807 /\ ∀ e ∈ a, WfE e := ⟨h.1, fun e he => wf_e (h.2 e he)⟩
end Go.Den.S
