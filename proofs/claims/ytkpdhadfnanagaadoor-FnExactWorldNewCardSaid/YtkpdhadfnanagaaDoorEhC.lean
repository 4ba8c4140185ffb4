/- EhC: equations of the functions of this seat as the executor tells them, or plain facts about them. Conditions: none here. -/
import Derived.Test.YtkpdhadfnanagaaDoorEhB
set_option linter.all false
namespace Go.Den.S
open Go Go.Den
set_option maxRecDepth 4000
theorem impl_SumOf_ok (s : ByteArray) (hs : s.size ≤ 1000000000) : impl_SumOf s = some (sumL 4294967295 (bl s), ()) := by
  rw [impl_SumOf_eq, impl_SumMore_ok s hs]; rfl
theorem spec_SumOf_ok (s : ByteArray) (hs : s.size ≤ 1000000000) : spec_SumOf s = some (sumL 4294967295 (bl s), ()) := by
  rw [spec_SumOf_eq, spec_SumMore_ok s hs]; rfl
theorem shr0 (x : Int) : shrI .u32 x 0 = x := by
  rw [shrI_eq]
  show x.fdiv (2 ^ (min 0 IntKind.u32.bits)) = x
  rw [Nat.zero_min, Int.pow_zero, Int.fdiv_one]
theorem four_is (x : Int) : ofNums [IntKind.u8.wrap (shrI .u32 x 24), IntKind.u8.wrap (shrI .u32 x 16), IntKind.u8.wrap (shrI .u32 x 8), IntKind.u8.wrap x] = bOf (fourL x) := by
  unfold ofNums fourL
  simp only [List.map_cons, List.map_nil, shr0]
theorem spec_l02Four_ok (x : Int) : spec_l02Four x = some (bOf (fourL x), ()) := by
  rw [spec_l02Four_eq]
  exact congrArg (fun y => some (y, ())) (four_is x)
/-- A text's frame, if it has one. -/
noncomputable def frO (s : ByteArray) : ByteArray × Bool := if 1 ≤ s.size ∧ s.size ≤ 9000 then (bOf (frL s), true) else (ByteArray.empty, false)
theorem frL_parts (s : ByteArray) : (bOf (vL s.size) ++ bOf (fourL (sumL 4294967295 (bl s)))) ++ s = bOf (frL s) := bl_inj (by
  rw [bl_app, bl_app, bl_bOf, bl_bOf, bl_bOf]
  unfold frL
  rw [List.append_assoc])
theorem in_size (n : Nat) {a b : Nat} : inB (n : Int) (a : Int) (b : Int) = decide (a ≤ n ∧ n ≤ b) := by
  unfold inB
  rw [Bool.eq_iff_iff]
  simp only [Bool.and_eq_true, decide_eq_true_eq]
  omega
theorem spec_Frame_ok (s : ByteArray) : spec_Frame s = some (frO s, ()) := by
  rw [spec_Frame_eq, l01In_ok]
  unfold frO
  rw [show inB (s.size : Int) 1 9000 = decide (1 ≤ s.size ∧ s.size ≤ 9000) from in_size _]
  by_cases h : 1 ≤ s.size ∧ s.size ≤ 9000
  · have hv := vL_len5 (show s.size ≤ 1000000000 by omega)
    have k1 : limS ((bOf (vL s.size)).size + (bOf (fourL (sumL 4294967295 (bl s)))).size) = true := limS_true (by rw [size_bOf (vL s.size), size_bOf (fourL _), fourL_len]; omega)
    have k2 : limS ((bOf (vL s.size) ++ bOf (fourL (sumL 4294967295 (bl s)))).size + s.size) = true := limS_true (by rw [ByteArray.size_append, size_bOf (vL s.size), size_bOf (fourL _), fourL_len]; omega)
    simp only [decide_eq_true h, Option.bind_some, Bool.not_true, cond_false, spec_l01Var_ok (show s.size ≤ 1000000000000 by omega), spec_SumOf_ok s (by omega), spec_l02Four_ok, k1, k2, cond_true, frL_parts, if_pos h]
  · simp only [decide_eq_false h, Option.bind_some, Bool.not_false, cond_true, if_neg h]
theorem impl_Frame_ok (s : ByteArray) : impl_Frame s = some (frO s, ()) := by
  rw [impl_Frame_eq, within_ok]
  unfold frO
  rw [show inB (s.size : Int) 1 9000 = decide (1 ≤ s.size ∧ s.size ≤ 9000) from in_size _]
  by_cases h : 1 ≤ s.size ∧ s.size ≤ 9000
  · have hv := vL_len5 (show s.size ≤ 1000000000 by omega)
    have k1 : limS ((bOf (vL s.size)).size + (bOf (fourL (sumL 4294967295 (bl s)))).size) = true := limS_true (by rw [size_bOf (vL s.size), size_bOf (fourL _), fourL_len]; omega)
    have k2 : limS ((bOf (vL s.size) ++ bOf (fourL (sumL 4294967295 (bl s)))).size + s.size) = true := limS_true (by rw [ByteArray.size_append, size_bOf (vL s.size), size_bOf (fourL _), fourL_len]; omega)
    have hx : (⟨List.toArray (List.map (fun n => UInt8.ofNat (Int.toNat n)) [IntKind.u8.wrap (shrI .u32 (sumL 4294967295 (bl s)) 24), IntKind.u8.wrap (shrI .u32 (sumL 4294967295 (bl s)) 16), IntKind.u8.wrap (shrI .u32 (sumL 4294967295 (bl s)) 8), IntKind.u8.wrap (sumL 4294967295 (bl s))])⟩ : ByteArray) = bOf (fourL (sumL 4294967295 (bl s))) := four_is _
    simp only [decide_eq_true h, Option.bind_some, Bool.not_true, cond_false, impl_VarText_ok, impl_SumOf_ok s (show s.size ≤ 1000000000 by omega), if_pos (show (0 : Int) ≤ (s.size : Int) ∧ (s.size : Int) ≤ 1000000000 by omega), Int.toNat_natCast, hx, k1, k2, cond_true, frL_parts, if_pos h]
  · simp only [decide_eq_false h, Option.bind_some, Bool.not_false, cond_true, if_neg h]
end Go.Den.S
