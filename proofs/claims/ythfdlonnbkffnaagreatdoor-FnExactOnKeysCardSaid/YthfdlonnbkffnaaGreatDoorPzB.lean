/- PzB: equations of the functions of this seat as the executor tells them, or plain facts about them. Conditions: none here. -/
import Derived.Test.YthfdlonnbkffnaaGreatDoorPyB
import Derived.Test.YthfdlonnbkffnaaGreatDoorPzA
set_option linter.all false
set_option linter.unusedSimpArgs false
set_option linter.unusedVariables false
namespace Go.Den.S
open Go Go.Den
theorem law_OnKeys (a : List DE) (now : Int) (t : List ByteArray) (hw : Wf (.sl T_Entry) a) (ht : Wf (.sl .str) t) : laws_FnExactOnKeys a now t = some (true, ()) := by
  rw [laws_FnExactOnKeys_eq, szEntryS_ok a 1048576 (by omega) (by omega) (wf_t hw).1 (wf_t hw).2, Option.bind_some]
  by_cases hn : szv (wT a) 1048576 < 0
  · simp only [decide_eq_true hn, cond_true]
  · obtain ⟨k5, k6⟩ := szv_pos hn
    simp only [decide_eq_false hn, cond_false]
    rw [k6, szStringS_ok t _ (by omega) (by omega) ht.1 ht.2, Option.bind_some]
    by_cases hn2 : szv (wl ByteArray.size t) (1048576 - (wT a : Int)) < 0
    · simp only [decide_eq_true hn2, cond_true]
    · obtain ⟨k7, _⟩ := szv_pos hn2
      simp only [decide_eq_false hn2, cond_false]
      have hsa : Sm a := sm_w (by omega)
      have htl : t.length ≤ 1048576 := wl_len (f := ByteArray.size) (show wl ByteArray.size t ≤ 1048576 by omega)
      obtain ⟨r, hr, hr1, hr2⟩ := OnKeys_ok a now t (w_bd (by omega)) (show wl ByteArray.size t ≤ 1048576 by omega)
      have hsr := sm_back hsa hr
      have c1 := hsa.cnt
      have c2 := hsr.cnt
      have l1 := hsa.len
      have l2 := hsr.len
      simp only [toEntryS_ok a hsa.len hsa.its, toStringS_ok t (by omega), Option.bind_some, hr1, hr2, eqEntryS_ok r.1 r.1 (by omega) hsr.its, eqEntryS_ok a a (by omega) hsa.its, eqStringS_ok t t (by omega), bytes_eq, decide_true, Bool.not_true, Bool.not_false, beq_self_eq_true, bne_self_eq_false, cond_true, cond_false,
        markEntryS_ok a 1 (by omega) (by omega) (by omega), markStringS_ok t (1 + (cntE a : Int)) (by omega) (by omega), decide_eq_false (show ¬ (1 : Int) + (cntE a : Int) + (t.length : Int) < 0 by omega),
        markEntryS_ok r.1 1 (by omega) (by omega) (by omega), heldEntryS_ok r.1 1 (by omega) (by omega) (by omega), decide_eq_false (show ¬ (1 : Int) + (cntE r.1 : Int) < 0 by omega)]
end Go.Den.S
