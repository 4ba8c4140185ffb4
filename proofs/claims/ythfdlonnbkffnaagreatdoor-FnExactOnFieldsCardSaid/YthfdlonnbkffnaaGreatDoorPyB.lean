/- PyB: equations of the functions of this seat as the executor tells them, or plain facts about them. Conditions: none here. -/
import Derived.Test.YthfdlonnbkffnaaGreatDoorPyA
set_option linter.all false
set_option linter.unusedSimpArgs false
set_option linter.unusedVariables false
namespace Go.Den.S
open Go Go.Den
theorem cnt_le (t : List DE) : cntE t ≤ 4 * wT t := by
  have : ∀ r : List DE, cntE r ≤ 4 * r.length + (r.map wE).sum := by
    intro r
    induction r with
    | nil => simp [cntE]
    | cons e r ih =>
      have h1 : e.2.2.2.2.length ≤ wE e := by unfold wE wV wl; omega
      have h2 : cntE (e :: r) = 4 + e.2.2.2.2.length + cntE r := by simp [cntE]
      rw [h2]
      simp only [List.map_cons, List.sum_cons, List.length_cons]; omega
  have := this t
  unfold wT wl
  omega
theorem cnt_tab : ∀ (t : List DE), (∀ e ∈ t, e.2.2.2.2.length ≤ 24) → cntE t ≤ 28 * t.length
  | [], _ => by simp [cntE]
  | e :: r, h => by
    have h1 := h e (List.mem_cons_self ..)
    have h2 := cnt_tab r fun x hx => h x (List.mem_cons_of_mem _ hx)
    have h3 : cntE (e :: r) = 4 + e.2.2.2.2.length + cntE r := by simp [cntE]
    rw [h3, List.length_cons]; omega
structure Sm (t : List DE) : Prop where
  len : t.length ≤ 2097152
  its : ∀ e ∈ t, e.2.2.2.2.length ≤ 2097152
  cnt : cntE t ≤ 10000000
theorem sm_w {t : List DE} (h : wT t ≤ 2097152) : Sm t := by
  obtain ⟨h1, h2⟩ := w_mem h
  exact ⟨h1, fun e he => (h2 e he).2.2.1, by have := cnt_le t; omega⟩
theorem sm_tab {t : List DE} (h : tabB t = true) : Sm t := by
  have h1 := tab_len h
  have h2 : ∀ e ∈ t, e.2.2.2.2.length ≤ 24 := fun e he => (val_its (tab_val h he).1).1
  exact ⟨by omega, fun e he => by have := h2 e he; omega, by have := cnt_tab t h2; omega⟩
theorem sm_back {t : List DE} {r : RS} (h : Sm t) (hb : Back t r) : Sm r.1 := by
  rcases hb with hb | hb
  · rw [hb]; exact h
  · exact sm_tab hb
theorem wf_t {a : List DE} (h : Wf (.sl T_Entry) a) : a.length ≤ 9223372036854775807 ∧ ∀ e ∈ a, WfE e := ⟨h.1, fun e he => wf_e (h.2 e he)⟩
theorem law_OnSets (a : List DE) (t : List ByteArray) (hw : Wf (.sl T_Entry) a) (ht : Wf (.sl .str) t) : laws_FnExactOnSets a t = some (true, ()) := by
  rw [laws_FnExactOnSets_eq, szEntryS_ok a 1048576 (by omega) (by omega) (wf_t hw).1 (wf_t hw).2, Option.bind_some]
  by_cases hn : szv (wT a) 1048576 < 0
  · simp only [decide_eq_true hn, cond_true]
  · obtain ⟨k5, k6⟩ := szv_pos hn
    simp only [decide_eq_false hn, cond_false]
    rw [k6, szStringS_ok t _ (by omega) (by omega) ht.1 ht.2, Option.bind_some]
    by_cases hn2 : szv (wl ByteArray.size t) (1048576 - (wT a : Int)) < 0
    · simp only [decide_eq_true hn2, cond_true]
    · obtain ⟨k7, _⟩ := szv_pos hn2
      simp only [decide_eq_false hn2, cond_false]
      have hsa : Sm a := sm_w (by omega)
      have htl : t.length ≤ 1048576 := wl_len (f := ByteArray.size) (show wl ByteArray.size t ≤ 1048576 by omega)
      obtain ⟨r, hr, hr1, hr2⟩ := OnSets_ok a t (w_bd (by omega)) (show wl ByteArray.size t ≤ 1048576 by omega)
      have hsr := sm_back hsa hr
      have c1 := hsa.cnt
      have c2 := hsr.cnt
      have l1 := hsa.len
      have l2 := hsr.len
      simp only [toEntryS_ok a hsa.len hsa.its, toStringS_ok t (by omega), Option.bind_some, hr1, hr2, eqEntryS_ok r.1 r.1 (by omega) hsr.its, eqEntryS_ok a a (by omega) hsa.its, eqStringS_ok t t (by omega), bytes_eq, decide_true, Bool.not_true, Bool.not_false, beq_self_eq_true, bne_self_eq_false, cond_true, cond_false,
        markEntryS_ok a 1 (by omega) (by omega) (by omega), markStringS_ok t (1 + (cntE a : Int)) (by omega) (by omega), decide_eq_false (show ¬ (1 : Int) + (cntE a : Int) + (t.length : Int) < 0 by omega),
        markEntryS_ok r.1 1 (by omega) (by omega) (by omega), heldEntryS_ok r.1 1 (by omega) (by omega) (by omega), decide_eq_false (show ¬ (1 : Int) + (cntE r.1 : Int) < 0 by omega)]
end Go.Den.S
