/- PxX: equations of the functions of this seat as the executor tells them, or plain facts about them. Conditions: none here. -/
import Derived.Test.YthfdlonnbkffnaaGreatDoorPxV
set_option linter.all false
set_option linter.unusedSimpArgs false
set_option linter.unusedVariables false
namespace Go.Den.S
open Go Go.Den
/-! ### keys -/
/-- Keys are counted, and dropped if they are to be. -/
def cntK (del : Bool) (p : Int × List DE) (k : ByteArray) : Int × List DE := (bif (fndB p.2 k).2 then p.1 + 1 else p.1, bif del then dropB p.2 k else p.2)
structure Ok2 (t : List DE) : Prop where
  bd : Bd t
  asc : Asc t
theorem drop_ok2 {t : List DE} (h : Ok2 t) (k : ByteArray) : Ok2 (dropB t k) := ⟨drop_bd h.bd h.asc, drop_asc h.asc⟩
theorem cntK_ok2 {p : Int × List DE} (h : Ok2 p.2) (del : Bool) (k : ByteArray) : Ok2 (cntK del p k).2 := by
  unfold cntK
  cases del with
  | true => exact drop_ok2 h k
  | false => exact h
theorem counted_ok (del : Bool) (t : List DE) (r : ByteArray) (ks : List ByteArray) (h : Ok2 t) (hl : ks.length ≤ 2097152) : __loop_example_g00124_impl_desk__counted (t, (r, false)) ks del = some ((ks.foldl (cntK del) (0, t)).1, (((ks.foldl (cntK del) (0, t)).2, (r, false)), ())) := by
  rw [__loop_example_g00124_impl_desk__counted_eq]
  exact fold_loop (fun (acc : Int × List DE) i => __loop_example_g00124_impl_desk__counted_L0 del acc.1 ks (ks.length : Int) i acc.2 r false) ks ByteArray.empty (cntK del) (fun acc => some (acc.1, ((acc.2, (r, false)), ()))) (fun acc i => Ok2 acc.2 ∧ 0 ≤ acc.1 ∧ acc.1 ≤ i)
    (fun acc i hi hI => by
      constructor
      · conv => lhs; rw [__loop_example_g00124_impl_desk__counted_L0_eq]
        have e3 : w64 ((i : Int) + 1) = ((i + 1 : Nat) : Int) := wrap_succ (by omega)
        have e4 : w64 (acc.1 + 1) = acc.1 + 1 := wrap64_id (by omega) (by omega)
        simp only [decide_eq_true (show (i : Int) < (ks.length : Int) by omega), decide_eq_true (show (0 : Int) ≤ (i : Int) by omega), Bool.and_self, cond_true, Int.toNat_natCast, e3, e4, impl_Find_ok acc.2 _ hI.1.bd, Option.bind_some, impl_drop_ok (acc.2, (r, false)) _ hI.1.bd hI.1.asc]
        unfold cntK
        cases (fndB acc.2 (ks.getD i ByteArray.empty)).2 <;> cases del <;> simp only [cond_true, cond_false]
      · refine ⟨cntK_ok2 hI.1 del _, ?_, ?_⟩
        · show 0 ≤ (bif (fndB acc.2 (ks.getD i ByteArray.empty)).2 then acc.1 + 1 else acc.1)
          cases (fndB acc.2 (ks.getD i ByteArray.empty)).2 <;> simp only [cond_true, cond_false] <;> omega
        · show (bif (fndB acc.2 (ks.getD i ByteArray.empty)).2 then acc.1 + 1 else acc.1) ≤ _
          cases (fndB acc.2 (ks.getD i ByteArray.empty)).2 <;> simp only [cond_true, cond_false] <;> omega)
    (fun acc hI => by
      show __loop_example_g00124_impl_desk__counted_L0 del acc.1 ks (ks.length : Int) (ks.length : Int) acc.2 r false = _
      rw [__loop_example_g00124_impl_desk__counted_L0_eq]
      simp only [Int.lt_irrefl, decide_false, cond_false]) (0, t) ⟨h, by simp, by simp⟩
theorem many_ok (t0 t : List DE) (a : ByteArray) (ks : List ByteArray) (h : Ok2 t) (hl : ks.length ≤ 2097152) (ha : a.size ≤ 2097152) : spec_l17Many_L0 t0 (a :: ks) t 0 1 = (spec_Number (ks.foldl (cntK (decide (upB a = c_DEL))) (0, t)).1).bind fun r7 => (spec_l14Done t0 (ks.foldl (cntK (decide (upB a = c_DEL))) (0, t)).2 r7.1).bind fun r8 => some (r8.1, ()) := by
  have k0 : (decide ((0 : Int) ≤ 0) && decide ((0 : Int) < ((a :: ks).length : Int))) = true := by rw [decide_eq_true (show (0 : Int) < ((a :: ks).length : Int) by simp only [List.length_cons]; omega)]; rfl
  have g0 : spec_Upper (List.getD (a :: ks) (Int.toNat 0) ByteArray.empty) = some (upB a, ()) := spec_Upper_ok a (by omega)
  have := fold_loop (fun (acc : Int × List DE) i => spec_l17Many_L0 t0 (a :: ks) acc.2 acc.1 (i + 1)) ks ByteArray.empty (cntK (decide (upB a = c_DEL))) (fun acc => (spec_Number acc.1).bind fun r7 => (spec_l14Done t0 acc.2 r7.1).bind fun r8 => some (r8.1, ())) (fun acc i => Ok2 acc.2 ∧ 0 ≤ acc.1 ∧ acc.1 ≤ i)
    (fun acc i hi hI => by
      have hg : (a :: ks).getD (i + 1) ByteArray.empty = ks.getD i ByteArray.empty := rfl
      constructor
      · conv => lhs; rw [spec_l17Many_L0_eq]
        have e0 : (i : Int) + 1 = ((i + 1 : Nat) : Int) := rfl
        have e3 : w64 (((i + 1 : Nat) : Int) + 1) = ((i + 1 : Nat) : Int) + 1 := by rw [show w64 (((i + 1 : Nat) : Int) + 1) = ((i + 1 + 1 : Nat) : Int) from wrap_succ (by omega)]; rfl
        have e4 : w64 (acc.1 + 1) = acc.1 + 1 := wrap64_id (by omega) (by omega)
        simp only [e0, e3, e4, decide_eq_true (show ((i + 1 : Nat) : Int) < ((a :: ks).length : Int) by simp only [List.length_cons]; omega), decide_eq_true (show (0 : Int) ≤ ((i + 1 : Nat) : Int) by omega), Bool.and_self, cond_true, Int.toNat_natCast, hg, spec_Find_ok acc.2 _ hI.1.bd, Option.bind_some, k0, g0, bytes_eq, spec_put_ok acc.2 _ _ hI.1.bd, decide_true]
        unfold cntK
        have hnf : (fndB acc.2 (ks.getD i ByteArray.empty)).2 = false → dropB acc.2 (ks.getD i ByteArray.empty) = acc.2 := fun hf => by
          rw [← drop_filter acc.2 _ hI.1.asc]
          refine List.filter_eq_self.2 fun e he => ?_
          unfold fndB at hf
          cases hx : acc.2.find? fun e => decide (e.1 = ks.getD i ByteArray.empty) with
          | some e' => rw [hx] at hf; cases hf
          | none =>
            rw [List.find?_eq_none] at hx
            have := hx e he
            simpa using this
        cases hf : (fndB acc.2 (ks.getD i ByteArray.empty)).2 with
        | true => cases decide (upB a = c_DEL) <;> simp only [cond_true, cond_false]
        | false =>
          have := hnf hf
          cases decide (upB a = c_DEL) <;> simp only [cond_true, cond_false, this]
      · refine ⟨cntK_ok2 hI.1 _ _, ?_, ?_⟩
        · show 0 ≤ (bif (fndB acc.2 (ks.getD i ByteArray.empty)).2 then acc.1 + 1 else acc.1)
          cases (fndB acc.2 (ks.getD i ByteArray.empty)).2 <;> simp only [cond_true, cond_false] <;> omega
        · show (bif (fndB acc.2 (ks.getD i ByteArray.empty)).2 then acc.1 + 1 else acc.1) ≤ _
          cases (fndB acc.2 (ks.getD i ByteArray.empty)).2 <;> simp only [cond_true, cond_false] <;> omega)
    (fun acc hI => by
      show spec_l17Many_L0 t0 (a :: ks) acc.2 acc.1 ((ks.length : Int) + 1) = _
      rw [spec_l17Many_L0_eq]
      have e1 : decide ((ks.length : Int) + 1 < ((a :: ks).length : Int)) = false := decide_eq_false (by simp only [List.length_cons]; omega)
      simp only [e1, cond_false]) (0, t) ⟨h, by simp, by simp⟩
  exact this
end Go.Den.S
