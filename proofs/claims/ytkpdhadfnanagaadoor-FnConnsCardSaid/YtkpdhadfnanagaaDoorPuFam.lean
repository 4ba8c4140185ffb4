/- PuFam: equations of the functions of this seat as the executor tells them, or plain facts about them. Conditions: none here. -/
import Derived.Test.YtkpdhadfnanagaaDoorEqD0
import Derived.Test.YtkpdhadfnanagaaDoorEqD1
import Derived.Test.YtkpdhadfnanagaaDoorDenFour
set_option linter.all false
namespace Go.Den.S
open Go Go.Den
/-! families: measures, copies, comparisons -/
theorem szStringS_ok (a : List ByteArray) (left : Int) (h0 : 0 ≤ left) (h1 : left ≤ 2097152) (hl : a.length ≤ 9223372036854775807) (hs : ∀ s ∈ a, ByteArray.size s ≤ 9223372036854775807) :
    laws_szStringS a left = some (szv (wl ByteArray.size a) left, ()) := by
  rw [laws_szStringS_eq]
  have e : w64 (left - (a.length : Int)) = left - (a.length : Int) := wrap64_id (by omega) (by omega)
  rw [e]
  rw [show wl ByteArray.size a = a.length + (a.map ByteArray.size).sum from rfl]
  by_cases h : left - (a.length : Int) < 0
  · simp only [decide_eq_true h, cond_true]
    unfold szv
    rw [if_neg (by omega)]
  · simp only [decide_eq_false h, cond_false]
    have key := list_ind a ByteArray.empty (fun i r => ∀ left : Int, 0 ≤ left → left ≤ 2097152 → laws_szStringS_L0 a left (i : Int) = some (szv ((r.map (ByteArray.size)).sum) left, ())) (fun left h0 h1 => by
      rw [laws_szStringS_L0_eq]
      simp [szv, h0]) (fun i x r hi hx hm ih left h0 h1 => by
      rw [laws_szStringS_L0_eq]
      have hx1 : ByteArray.size x ≤ 9223372036854775807 := hs x hm
      have k1 : decide ((i : Int) < (a.length : Int)) = true := decide_eq_true (by omega)
      have k2 : decide (0 ≤ (i : Int)) = true := decide_eq_true (by omega)
      have k3 : w64 (left - (ByteArray.size x : Int)) = left - (ByteArray.size x : Int) := wrap64_id (by omega) (by omega)
      have k4 : w64 ((i : Int) + 1) = ((i + 1 : Nat) : Int) := wrap_succ (by omega)
      simp only [k1, k2, Bool.and_self, cond_true, Int.toNat_natCast, hx, k3, k4, List.map_cons, List.sum_cons]
      by_cases hn : left - (ByteArray.size x : Int) < 0
      · simp only [decide_eq_true hn, cond_true]
        unfold szv
        rw [if_neg (by omega)]
      · simp only [decide_eq_false hn, cond_false]
        rw [ih _ (by omega) (by omega)]
        unfold szv
        split <;> split <;> first | rfl | omega | (congr 2; omega))
    refine (key _ (by omega) (by omega)).trans ?_
    unfold szv
    split <;> split <;> first | rfl | omega | (congr 2; omega)
theorem toStringS_ok (a : List ByteArray) (ha : a.length ≤ 2097152) : laws_toStringS a = some (a, ()) := by
  rw [laws_toStringS_eq]
  have e : lim a.length 16 = true := lim_true (by omega)
  simp only [Int.le_refl, decide_true, Int.natCast_nonneg, Int.toNat_natCast, e, Bool.and_self, cond_true]
  refine (fill_loop (fun out i => laws_toStringS_L0 a out i) a ByteArray.empty (List.replicate a.length ByteArray.empty) (by simp) fun out i hi hl => ?_).trans ?_
  · show laws_toStringS_L0 a out i = _
    rw [laws_toStringS_L0_eq]
    have e : w64 ((i : Int) + 1) = (i : Int) + 1 := wrap64_id (by omega) (by omega)
    have h1 : decide ((i : Int) < (a.length : Int)) = true := decide_eq_true (by omega)
    have h2 : decide ((i : Int) < (out.length : Int)) = true := decide_eq_true (by omega)
    have h3 : decide (0 ≤ (i : Int)) = true := decide_eq_true (by omega)
    simp only [h1, h2, h3, e, Bool.and_self, cond_true, Int.toNat_natCast]
  · show laws_toStringS_L0 a a (a.length : Int) = _
    rw [laws_toStringS_L0_eq]
    simp
theorem eqStringS_ok (a b : List ByteArray) (ha : a.length ≤ 2097152) : laws_eqStringS a b = some (decide (a = b), ()) := by
  rw [laws_eqStringS_eq]
  by_cases hl : a.length = b.length
  · have e : ((a.length : Int) != (b.length : Int)) = false := by simp [hl]
    simp only [e, cond_false]
    refine eq_loop (fun i => laws_eqStringS_L0 a b i) a b ByteArray.empty hl (fun i hi => ?_) ?_
    · rw [laws_eqStringS_L0_eq]
      have e : w64 ((i : Int) + 1) = (i : Int) + 1 := wrap64_id (by omega) (by omega)
      have h1 : decide ((i : Int) < (a.length : Int)) = true := decide_eq_true (by omega)
      have h2 : decide ((i : Int) < (b.length : Int)) = true := decide_eq_true (by omega)
      have h3 : decide (0 ≤ (i : Int)) = true := decide_eq_true (by omega)
      simp only [h1, h2, h3, e, Bool.and_self, cond_true, Int.toNat_natCast, bytes_eq]
      by_cases h : a.getD i ByteArray.empty = b.getD i ByteArray.empty <;> simp only [h, decide_true, decide_false, Bool.not_true, Bool.not_false, cond_true, cond_false, if_true, if_false]
    · rw [laws_eqStringS_L0_eq]
      simp
  · have e : ((a.length : Int) != (b.length : Int)) = true := by simp; omega
    simp only [e, cond_true]
    have : a ≠ b := fun h => hl (by rw [h])
    simp [this]
theorem szStringSS_ok (a : List (List ByteArray)) (left : Int) (h0 : 0 ≤ left) (h1 : left ≤ 2097152) (hl : a.length ≤ 9223372036854775807) (hs : ∀ l ∈ a, l.length ≤ 9223372036854775807 ∧ ∀ s ∈ l, ByteArray.size s ≤ 9223372036854775807) :
    laws_szStringSS a left = some (szv (wl (wl ByteArray.size) a) left, ()) := by
  rw [laws_szStringSS_eq]
  have e : w64 (left - (a.length : Int)) = left - (a.length : Int) := wrap64_id (by omega) (by omega)
  rw [e]
  rw [show wl (wl ByteArray.size) a = a.length + (a.map (wl ByteArray.size)).sum from rfl]
  by_cases h : left - (a.length : Int) < 0
  · simp only [decide_eq_true h, cond_true]
    unfold szv
    rw [if_neg (by omega)]
  · simp only [decide_eq_false h, cond_false]
    have key := list_ind a [] (fun i r => ∀ left : Int, 0 ≤ left → left ≤ 2097152 → laws_szStringSS_L0 a left (i : Int) = some (szv ((r.map (wl ByteArray.size)).sum) left, ())) (fun left h0 h1 => by
      rw [laws_szStringSS_L0_eq]
      simp [szv, h0]) (fun i x r hi hx hm ih left h0 h1 => by
      rw [laws_szStringSS_L0_eq]
      have k1 : decide ((i : Int) < (a.length : Int)) = true := decide_eq_true (by omega)
      have k2 : decide (0 ≤ (i : Int)) = true := decide_eq_true (by omega)
      have k4 : w64 ((i : Int) + 1) = ((i + 1 : Nat) : Int) := wrap_succ (by omega)
      simp only [k1, k2, Bool.and_self, cond_true, Int.toNat_natCast, hx, k4, List.map_cons, List.sum_cons, szStringS_ok x left h0 h1 (hs x hm).1 (hs x hm).2, Option.bind_some]
      by_cases hn : szv (wl ByteArray.size x) left < 0
      · simp only [decide_eq_true hn, cond_true]
        have := szv_neg hn h0
        unfold szv
        rw [if_neg (by omega)]
      · simp only [decide_eq_false hn, cond_false]
        obtain ⟨k5, k6⟩ := szv_pos hn
        rw [k6, ih _ (by omega) (by omega)]
        unfold szv
        split <;> split <;> first | rfl | omega | (congr 2; omega))
    refine (key _ (by omega) (by omega)).trans ?_
    unfold szv
    split <;> split <;> first | rfl | omega | (congr 2; omega)
theorem toStringSS_ok (a : List (List ByteArray)) (ha : wl (wl ByteArray.size) a ≤ 2097152) : laws_toStringSS a = some (a, ()) := by
  have hlen : a.length ≤ 2097152 := wl_len ha
  rw [laws_toStringSS_eq]
  have e : lim a.length 24 = true := lim_true (by omega)
  simp only [Int.le_refl, decide_true, Int.natCast_nonneg, Int.toNat_natCast, e, Bool.and_self, cond_true]
  refine (fill_loop (fun out i => laws_toStringSS_L0 a out i) a [] (List.replicate a.length []) (by simp) fun out i hi hl => ?_).trans ?_
  · show laws_toStringSS_L0 a out i = _
    rw [laws_toStringSS_L0_eq]
    have e : w64 ((i : Int) + 1) = (i : Int) + 1 := wrap64_id (by omega) (by omega)
    have h1 : decide ((i : Int) < (a.length : Int)) = true := decide_eq_true (by omega)
    have h2 : decide ((i : Int) < (out.length : Int)) = true := decide_eq_true (by omega)
    have h3 : decide (0 ≤ (i : Int)) = true := decide_eq_true (by omega)
    simp only [h1, h2, h3, e, Bool.and_self, cond_true, Int.toNat_natCast, toStringS_ok _ (wl_len (wl_mem ha (getD_mem hi))), Option.bind_some]
  · show laws_toStringSS_L0 a a (a.length : Int) = _
    rw [laws_toStringSS_L0_eq]
    simp
theorem eqStringSS_ok (a b : List (List ByteArray)) (ha : wl (wl ByteArray.size) a ≤ 2097152) : laws_eqStringSS a b = some (decide (a = b), ()) := by
  have hlen : a.length ≤ 2097152 := wl_len ha
  rw [laws_eqStringSS_eq]
  by_cases hl : a.length = b.length
  · have e : ((a.length : Int) != (b.length : Int)) = false := by simp [hl]
    simp only [e, cond_false]
    refine eq_loop (fun i => laws_eqStringSS_L0 a b i) a b [] hl (fun i hi => ?_) ?_
    · rw [laws_eqStringSS_L0_eq]
      have e : w64 ((i : Int) + 1) = (i : Int) + 1 := wrap64_id (by omega) (by omega)
      have h1 : decide ((i : Int) < (a.length : Int)) = true := decide_eq_true (by omega)
      have h2 : decide ((i : Int) < (b.length : Int)) = true := decide_eq_true (by omega)
      have h3 : decide (0 ≤ (i : Int)) = true := decide_eq_true (by omega)
      simp only [h1, h2, h3, e, Bool.and_self, cond_true, Int.toNat_natCast, eqStringS_ok _ _ (wl_len (wl_mem ha (getD_mem hi))), Option.bind_some]
      by_cases h : a.getD i [] = b.getD i [] <;> simp only [h, decide_true, decide_false, Bool.not_true, Bool.not_false, cond_true, cond_false, if_true, if_false]
    · rw [laws_eqStringSS_L0_eq]
      simp
  · have e : ((a.length : Int) != (b.length : Int)) = true := by simp; omega
    simp only [e, cond_true]
    have : a ≠ b := fun h => hl (by rw [h])
    simp [this]
end Go.Den.S
