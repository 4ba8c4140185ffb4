/- PuTry: equations of the functions of this seat as the executor tells them, or plain facts about them. Conditions: none here. -/
import Derived.Test.YtkpdhadfnanagaaEqTry
import Derived.Test.YtkpdhadfnanagaaDenFour
set_option linter.all false
set_option linter.unusedSimpArgs false
set_option linter.unusedVariables false
namespace Go.Den.STry
open Go Go.Den
theorem szIntS_ok (a : List Int) (left : Int) (ha : a.length ≤ 9223372036854775807) (h0 : 0 ≤ left) (h1 : left ≤ 1048576) :
    laws_szIntS a left = some (if left - (a.length : Int) < 0 then -1 else left - (a.length : Int), ()) := by
  rw [laws_szIntS_eq]
  have e : w64 (left - (a.length : Int)) = left - (a.length : Int) := wrap64_id (by omega) (by omega)
  rw [e]
  by_cases h : left - (a.length : Int) < 0 <;> simp [h]
theorem toIntS_ok (a : List Int) (ha : a.length ≤ 1048576) : laws_toIntS a = some (a, ()) := by
  rw [laws_toIntS_eq]
  have e : lim a.length 8 = true := lim_true (by omega)
  simp only [Int.le_refl, decide_true, Int.natCast_nonneg, Int.toNat_natCast, e, Bool.and_self, cond_true]
  refine (fill_loop (fun out i => laws_toIntS_L0 a out i) a 0 (List.replicate a.length 0) (by simp) fun out i hi hl => ?_).trans ?_
  case refine_2 =>
    show laws_toIntS_L0 a a (a.length : Int) = _
    rw [laws_toIntS_L0_eq]
    simp
  · show laws_toIntS_L0 a out i = _
    rw [laws_toIntS_L0_eq]
    have e : w64 ((i : Int) + 1) = (i : Int) + 1 := wrap64_id (by omega) (by omega)
    have h1 : decide ((i : Int) < (a.length : Int)) = true := decide_eq_true (by omega)
    have h2 : decide ((i : Int) < (out.length : Int)) = true := decide_eq_true (by omega)
    have h3 : decide (0 ≤ (i : Int)) = true := decide_eq_true (by omega)
    simp only [h1, h2, h3, e, Bool.and_self, cond_true, Int.toNat_natCast]
theorem eqIntS_ok (a b : List Int) (ha : a.length ≤ 1048576) : laws_eqIntS a b = some (decide (a = b), ()) := by
  rw [laws_eqIntS_eq]
  by_cases hl : a.length = b.length
  · have e : ((a.length : Int) != (b.length : Int)) = false := by simp [hl]
    simp only [e, cond_false]
    refine eq_loop (fun i => laws_eqIntS_L0 a b i) a b 0 hl (fun i hi => ?_) ?_
    · rw [laws_eqIntS_L0_eq]
      have e : w64 ((i : Int) + 1) = (i : Int) + 1 := wrap64_id (by omega) (by omega)
      have h1 : decide ((i : Int) < (a.length : Int)) = true := decide_eq_true (by omega)
      have h2 : decide ((i : Int) < (b.length : Int)) = true := decide_eq_true (by omega)
      have h3 : decide (0 ≤ (i : Int)) = true := decide_eq_true (by omega)
      simp only [h1, h2, h3, e, Bool.and_self, cond_true, Int.toNat_natCast]
      by_cases h : a.getD i 0 = b.getD i 0 <;> simp [h]
    · rw [laws_eqIntS_L0_eq]
      simp
  · have e : ((a.length : Int) != (b.length : Int)) = true := by simp; omega
    simp only [e, cond_true]
    have : a ≠ b := fun h => hl (by rw [h])
    simp [this]
theorem szEvent_ok (a : D_Event) (left : Int) (h0 : 0 ≤ left) (h1 : left ≤ 1048576) (hs : ByteArray.size a.2.2.1 ≤ 9223372036854775807) (hl : a.2.2.2.2.2.2.length ≤ 9223372036854775807) :
    ∃ n, laws_szEvent a left = some (n, ()) ∧ (0 ≤ n → ByteArray.size a.2.2.1 ≤ left ∧ (a.2.2.2.2.2.2.length : Int) ≤ left) := by
  rw [laws_szEvent_eq]
  have e : w64 (left - (ByteArray.size a.2.2.1 : Int)) = left - (ByteArray.size a.2.2.1 : Int) := wrap64_id (by omega) (by omega)
  rw [e]
  by_cases h : left - (ByteArray.size a.2.2.1 : Int) < 0
  · exact ⟨-1, by simp [h], fun h => by omega⟩
  · rw [szIntS_ok _ _ hl (by omega) (by omega)]
    by_cases h' : left - (ByteArray.size a.2.2.1 : Int) - (a.2.2.2.2.2.2.length : Int) < 0
    · exact ⟨-1, by simp [h, h'], fun h => by omega⟩
    · exact ⟨_, by simp [h, h']; rfl, fun _ => by omega⟩
theorem within_ok (a b c : Int) : impl_within a b c = some (decide (a ≥ b) && decide (a ≤ c), ()) := by
  rw [impl_within_eq]
  by_cases h : a ≥ b <;> simp [h]
theorem l01In_ok (a b c : Int) : spec_l01In a b c = some (decide (a ≥ b) && decide (a ≤ c), ()) := by
  rw [spec_l01In_eq]
  by_cases h : a ≥ b <;> simp [h]
theorem EventOk_same (a : D_Event) : impl_EventOk a = spec_EventOk a := by
  rw [impl_EventOk_eq, spec_EventOk_eq]
  simp only [within_ok, l01In_ok]
theorem EventOk_some (a : D_Event) : ∃ r, spec_EventOk a = some (r, ()) := by
  rw [spec_EventOk_eq]
  simp only [l01In_ok, Option.bind_some]
  generalize (decide (a.1 ≥ 1) && decide (a.1 ≤ 6)) = b1
  generalize (decide (a.2.1 ≥ 0) && decide (a.2.1 ≤ 2)) = b2
  generalize (decide (a.2.2.2.1 ≥ 0) && decide (a.2.2.2.1 ≤ 100)) = b3
  cases b1 <;> cases b2 <;> cases b3 <;> simp only [cond_true, cond_false] <;> try exact ⟨_, rfl⟩
  all_goals
    cases decide ((ByteArray.size a.2.2.1 : Int) ≤ 300) <;> simp only [cond_true, cond_false] <;> try exact ⟨_, rfl⟩
    try cases decide (a.2.2.2.2.2.1 ≥ 0) <;> simp only [cond_true, cond_false] <;> exact ⟨_, rfl⟩
theorem toEvent_ok (a : D_Event) (h : a.2.2.2.2.2.2.length ≤ 1048576) : laws_toEvent a = some (a, ()) := by
  rw [laws_toEvent_eq, toIntS_ok _ h]
  rfl
theorem eqEvent_ok (a : D_Event) (h : a.2.2.2.2.2.2.length ≤ 1048576) : laws_eqEvent a a = some (true, ()) := by
  rw [laws_eqEvent_eq, eqIntS_ok _ _ h]
  simp
theorem law (a : D_Event) (h : Wf T_Event a) : laws_FnExactEventOk a = some (true, ()) := by
  have hs : ByteArray.size a.2.2.1 ≤ 9223372036854775807 := h.2.2.1
  have hl : a.2.2.2.2.2.2.length ≤ 9223372036854775807 := h.2.2.2.2.2.2.1
  rw [laws_FnExactEventOk_eq]
  obtain ⟨n, hn, hb⟩ := szEvent_ok a 1048576 (by omega) (by omega) hs hl
  rw [hn, Option.bind_some]
  by_cases h0 : n < 0
  · simp [h0]
  · have hb := hb (by omega)
    have hlen : a.2.2.2.2.2.2.length ≤ 1048576 := by omega
    obtain ⟨r, hr⟩ := EventOk_some a
    simp only [toEvent_ok a hlen, Option.bind_some, EventOk_same, hr, eqEvent_ok a hlen]
    simp [h0]
end Go.Den.STry
