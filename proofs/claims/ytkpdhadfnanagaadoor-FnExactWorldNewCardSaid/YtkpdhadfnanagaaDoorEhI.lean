/- EhI: equations of the functions of this seat as the executor tells them, or plain facts about them. Conditions: none here. -/
import Derived.Test.YtkpdhadfnanagaaDoorEhH
set_option linter.all false
namespace Go.Den.S
open Go Go.Den
set_option maxRecDepth 4000
/-! ### names of segments, heads -/
theorem nmL_dec {n : Nat} (h : n < 100) : c_b ++ decB (n : Int) = nmL n := by
  refine bl_inj ?_
  rw [bl_app, decB_nat]
  unfold nmL
  rw [bl_bOf]
  show 98 :: bl (mkB (Lib.decDigits n)) = _
  congr 1
  show (mkB (Lib.decDigits n)).data.toList = _
  rw [mkB_data]
  by_cases h10 : n < 10
  · rw [if_pos h10, Lib.decDigits, dif_pos h10]
  · rw [if_neg h10, decD_step n h10, Lib.decDigits, dif_pos (by omega)]; rfl
def nmO (n : Int) : ByteArray := if 0 ≤ n ∧ n ≤ 99 then nmL n.toNat else ByteArray.empty
theorem in_iff (a b c : Int) : inB a b c = decide (b ≤ a ∧ a ≤ c) := by
  unfold inB
  rw [Bool.eq_iff_iff]; simp
theorem impl_SegName_ok (n : Int) : impl_SegName n = some (nmO n, ()) := by
  rw [impl_SegName_eq, within_ok, in_iff]
  unfold nmO
  by_cases h : 0 ≤ n ∧ n ≤ 99
  · obtain ⟨m, rfl⟩ : ∃ m : Nat, n = (m : Int) := ⟨n.toNat, by omega⟩
    have hz := decB_size (m : Int) (by omega) (by omega)
    have k : limS ((c_b : ByteArray).size + (decB (m : Int)).size) = true := limS_true (by show 1 + _ ≤ _; omega)
    simp only [decide_eq_true h, Option.bind_some, Bool.not_true, cond_false, impl_Decimal_ok (m : Int) (by omega) (by omega), k, cond_true, if_pos h, Int.toNat_natCast, nmL_dec (show m < 100 by omega)]
  · simp only [decide_eq_false h, Option.bind_some, Bool.not_false, cond_true, if_neg h]
theorem spec_SegName_ok (n : Int) : spec_SegName n = some (nmO n, ()) := by
  rw [spec_SegName_eq, l01In_ok, in_iff]
  unfold nmO
  by_cases h : 0 ≤ n ∧ n ≤ 99
  · obtain ⟨m, rfl⟩ : ∃ m : Nat, n = (m : Int) := ⟨n.toNat, by omega⟩
    have hz := decB_size (m : Int) (by omega) (by omega)
    have k : limS ((c_b : ByteArray).size + (decB (m : Int)).size) = true := limS_true (by show 1 + _ ≤ _; omega)
    simp only [decide_eq_true h, Option.bind_some, Bool.not_true, cond_false, spec_Decimal_ok (m : Int) (by omega) (by omega), k, cond_true, if_pos h, Int.toNat_natCast, nmL_dec (show m < 100 by omega)]
  · simp only [decide_eq_false h, Option.bind_some, Bool.not_false, cond_true, if_neg h]
/-! ### heads -/
noncomputable def htO (n f : Int) : ByteArray × Bool := if 0 ≤ n ∧ n ≤ 99 ∧ 0 ≤ f ∧ f ≤ n then (bOf (headL n.toNat f.toNat), true) else (ByteArray.empty, false)
theorem hdT_parts (m k : Nat) : (c_H ++ bOf (vL m)) ++ bOf (vL k) = hdT m k := bl_inj (by
  rw [bl_app, bl_app, bl_bOf, bl_bOf]
  unfold hdT
  rw [bl_bOf, List.append_assoc]; rfl)
theorem frO_hd {m k : Nat} (hm : m ≤ 99) (hk : k ≤ m) : frO (hdT m k) = (bOf (headL m k), true) := by
  unfold frO
  have h : 1 ≤ (hdT m k).size ∧ (hdT m k).size ≤ 9000 := hdT_ok hm hk
  rw [if_pos h]; rfl
theorem spec_HeadText_ok (n f : Int) : spec_HeadText n f = some (htO n f, ()) := by
  rw [spec_HeadText_eq, l01In_ok, l01In_ok, in_iff, in_iff]
  unfold htO
  by_cases h : 0 ≤ n ∧ n ≤ 99
  · by_cases h2 : 0 ≤ f ∧ f ≤ n
    · obtain ⟨m, rfl⟩ : ∃ m : Nat, n = (m : Int) := ⟨n.toNat, by omega⟩
      obtain ⟨k, rfl⟩ : ∃ k : Nat, f = (k : Int) := ⟨f.toNat, by omega⟩
      have v1 := vL_len5 (show m ≤ 1000000000 by omega)
      have v2 := vL_len5 (show k ≤ 1000000000 by omega)
      have l1 : limS ((c_H : ByteArray).size + (bOf (vL m)).size) = true := limS_true (by rw [size_bOf (vL m)]; show 1 + _ ≤ _; omega)
      have l2 : limS ((c_H ++ bOf (vL m)).size + (bOf (vL k)).size) = true := limS_true (by rw [ByteArray.size_append, size_bOf (vL m), size_bOf (vL k)]; show 1 + _ + _ ≤ _; omega)
      simp only [decide_eq_true h, decide_eq_true h2, Option.bind_some, Bool.not_true, cond_false, spec_l01Var_ok (show m ≤ 1000000000000 by omega), spec_l01Var_ok (show k ≤ 1000000000000 by omega), l1, l2, cond_true, hdT_parts, spec_Frame_ok, frO_hd (show m ≤ 99 by omega) (show k ≤ m by omega)]
      rw [if_pos ⟨h.1, h.2, h2.1, h2.2⟩]; rfl
    · simp only [decide_eq_true h, decide_eq_false h2, Option.bind_some, Bool.not_true, cond_false, Bool.not_false, cond_true]
      rw [if_neg fun hh => h2 ⟨hh.2.2.1, hh.2.2.2⟩]
  · simp only [decide_eq_false h, Option.bind_some, Bool.not_false, cond_true]
    rw [if_neg fun hh => h ⟨hh.1, hh.2.1⟩]
theorem impl_vars2 (m n : Nat) (hm : m ≤ 1000000000) (hn : n ≤ 1000000000) : impl_vars [(m : Int), (n : Int)] = some ((bOf (vL m ++ vL n), true), ()) := by
  rw [impl_vars_eq]
  have v1 := vL_len5 hm
  have v2 := vL_len5 hn
  have hb : ∀ l : List UInt8, bytesL (bOf l) = l.map fun c => (c.toNat : Int) := fun l => rfl
  have l1 : lim (([] : List Int).length + (bytesL (bOf (vL m))).length) 1 = true := lim_true (by rw [hb, List.length_map]; simp; omega)
  have l2 : lim (([] ++ bytesL (bOf (vL m)) : List Int).length + (bytesL (bOf (vL n))).length) 1 = true := lim_true (by rw [hb, hb, List.length_append, List.length_map, List.length_map]; simp; omega)
  rw [impl_vars_L0_eq]
  simp only [show decide ((0 : Int) < (([(m : Int), (n : Int)] : List Int).length : Int)) = true from rfl, show decide ((0 : Int) ≤ 0) = true from rfl, Bool.and_self, cond_true, show List.getD [(m : Int), (n : Int)] (Int.toNat 0) 0 = (m : Int) from rfl, impl_VarText_ok, if_pos (show (0 : Int) ≤ (m : Int) ∧ (m : Int) ≤ 1000000000 by omega), Option.bind_some, Bool.not_true, cond_false, Int.toNat_natCast, l1, show w64 ((0 : Int) + 1) = 1 from rfl]
  rw [impl_vars_L0_eq]
  simp only [show decide ((1 : Int) < (([(m : Int), (n : Int)] : List Int).length : Int)) = true from rfl, show decide ((0 : Int) ≤ 1) = true from rfl, Bool.and_self, cond_true, show List.getD [(m : Int), (n : Int)] (Int.toNat 1) 0 = (n : Int) from rfl, impl_VarText_ok, if_pos (show (0 : Int) ≤ (n : Int) ∧ (n : Int) ≤ 1000000000 by omega), Option.bind_some, Bool.not_true, cond_false, Int.toNat_natCast, l2, show w64 ((1 : Int) + 1) = 2 from rfl]
  rw [impl_vars_L0_eq]
  simp only [show decide ((2 : Int) < (([(m : Int), (n : Int)] : List Int).length : Int)) = false from rfl, cond_false]
  have : ofNums (([] ++ bytesL (bOf (vL m))) ++ bytesL (bOf (vL n))) = bOf (vL m ++ vL n) := by
    rw [hb, hb, List.nil_append, ← List.map_append, ofNums_map]
  exact congrArg (fun x => some ((x, true), ())) this
theorem impl_HeadText_ok (n f : Int) : impl_HeadText n f = some (htO n f, ()) := by
  rw [impl_HeadText_eq, within_ok, within_ok, in_iff, in_iff]
  unfold htO
  by_cases h : 0 ≤ n ∧ n ≤ 99
  · by_cases h2 : 0 ≤ f ∧ f ≤ n
    · obtain ⟨m, rfl⟩ : ∃ m : Nat, n = (m : Int) := ⟨n.toNat, by omega⟩
      obtain ⟨k, rfl⟩ : ∃ k : Nat, f = (k : Int) := ⟨f.toNat, by omega⟩
      have v1 := vL_len5 (show m ≤ 1000000000 by omega)
      have v2 := vL_len5 (show k ≤ 1000000000 by omega)
      have l1 : limS ((c_H : ByteArray).size + (bOf (vL m ++ vL k)).size) = true := limS_true (by rw [size_bOf (vL m ++ vL k), List.length_append]; show 1 + _ ≤ _; omega)
      have e : c_H ++ bOf (vL m ++ vL k) = hdT m k := bl_inj (by
        rw [bl_app, bl_bOf]; unfold hdT; rw [bl_bOf]; rfl)
      simp only [decide_eq_true h, decide_eq_true h2, Option.bind_some, Bool.not_true, cond_false, impl_vars2 m k (by omega) (by omega), l1, cond_true, e, impl_Frame_ok, frO_hd (show m ≤ 99 by omega) (show k ≤ m by omega)]
      rw [if_pos ⟨h.1, h.2, h2.1, h2.2⟩]; rfl
    · simp only [decide_eq_true h, decide_eq_false h2, Option.bind_some, Bool.not_true, cond_false, Bool.not_false, cond_true]
      rw [if_neg fun hh => h2 ⟨hh.2.2.1, hh.2.2.2⟩]
  · simp only [decide_eq_false h, Option.bind_some, Bool.not_false, cond_true]
    rw [if_neg fun hh => h ⟨hh.1, hh.2.1⟩]
end Go.Den.S
