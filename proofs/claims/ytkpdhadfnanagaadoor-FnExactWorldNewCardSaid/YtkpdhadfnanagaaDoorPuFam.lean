/- PuFam: equations of the functions of this seat as the executor tells them, or plain facts about them. Conditions: none here. -/
import Derived.Test.YtkpdhadfnanagaaDoorEqD0
import Derived.Test.YtkpdhadfnanagaaDoorDenFour
set_option linter.all false
namespace Go.Den.S
open Go Go.Den
/-! families: measures, copies, comparisons -/
theorem eqStringS_ok (a b : List ByteArray) (ha : a.length ≤ 2097152) : laws_eqStringS a b = some (decide (a = b), ()) := by
  rw [laws_eqStringS_eq]
  by_cases hl : a.length = b.length
  · have e : ((a.length : Int) != (b.length : Int)) = false := by simp [hl]
    simp only [e, cond_false]
    refine eq_loop (fun i => laws_eqStringS_L0 a b i) a b ByteArray.empty hl (fun i hi => ?_) ?_
    · rw [laws_eqStringS_L0_eq]
      have e : w64 ((i : Int) + 1) = (i : Int) + 1 := wrap64_id (by omega) (by omega)
      have h1 : decide ((i : Int) < (a.length : Int)) = true := decide_eq_true (by omega)
      have h2 : decide ((i : Int) < (b.length : Int)) = true := decide_eq_true (by omega)
      have h3 : decide (0 ≤ (i : Int)) = true := decide_eq_true (by omega)
      simp only [h1, h2, h3, e, Bool.and_self, cond_true, Int.toNat_natCast, bytes_eq]
      by_cases h : a.getD i ByteArray.empty = b.getD i ByteArray.empty <;> simp only [h, decide_true, decide_false, Bool.not_true, Bool.not_false, cond_true, cond_false, if_true, if_false]
    · rw [laws_eqStringS_L0_eq]
      simp
  · have e : ((a.length : Int) != (b.length : Int)) = true := by simp; omega
    simp only [e, cond_true]
    have : a ≠ b := fun h => hl (by rw [h])
    simp [this]
theorem eqStringSS_ok (a b : List (List ByteArray)) (ha : wl (wl ByteArray.size) a ≤ 2097152) : laws_eqStringSS a b = some (decide (a = b), ()) := by
  have hlen : a.length ≤ 2097152 := wl_len ha
  rw [laws_eqStringSS_eq]
  by_cases hl : a.length = b.length
  · have e : ((a.length : Int) != (b.length : Int)) = false := by simp [hl]
    simp only [e, cond_false]
    refine eq_loop (fun i => laws_eqStringSS_L0 a b i) a b [] hl (fun i hi => ?_) ?_
    · rw [laws_eqStringSS_L0_eq]
      have e : w64 ((i : Int) + 1) = (i : Int) + 1 := wrap64_id (by omega) (by omega)
      have h1 : decide ((i : Int) < (a.length : Int)) = true := decide_eq_true (by omega)
      have h2 : decide ((i : Int) < (b.length : Int)) = true := decide_eq_true (by omega)
      have h3 : decide (0 ≤ (i : Int)) = true := decide_eq_true (by omega)
      simp only [h1, h2, h3, e, Bool.and_self, cond_true, Int.toNat_natCast, eqStringS_ok _ _ (wl_len (wl_mem ha (getD_mem hi))), Option.bind_some]
      by_cases h : a.getD i [] = b.getD i [] <;> simp only [h, decide_true, decide_false, Bool.not_true, Bool.not_false, cond_true, cond_false, if_true, if_false]
    · rw [laws_eqStringSS_L0_eq]
      simp
  · have e : ((a.length : Int) != (b.length : Int)) = true := by simp; omega
    simp only [e, cond_true]
    have : a ≠ b := fun h => hl (by rw [h])
    simp [this]
end Go.Den.S
