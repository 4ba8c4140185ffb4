/- PxH: equations of the functions of this seat as the executor tells them, or plain facts about them. Conditions: none here. -/
import Derived.Test.YthfdlonnbkffnaaGreatDoorPxG
set_option linter.all false
set_option linter.unusedSimpArgs false
set_option linter.unusedVariables false
namespace Go.Den.S
open Go Go.Den
/-! ### OnSets -/
def setN : List ByteArray := [c_SADD, c_SREM, c_SISMEMBER, c_SCARD, c_SMEMBERS]
theorem f_set : strings_Fields c_SADD_SREM_SI_34_842407 = some (setN, ()) := (strings_Fields_eq _).trans (by kernel_rfl)
/-- A text is put into a set. -/
theorem add_ok (l : List ByteArray) (x : ByteArray) (h : AscS l) (hl : l.length ≤ 10000000) :
    ∃ n : Nat, slices_BinarySearch___string_string_ l x = some (((n : Int), memB x l), ()) ∧ spec_l16At l 1 x = some (((n : Int), memB x l), ()) ∧
      (memB x l = false → slices_Insert___string_string_ l (n : Int) [x] = some (addS l x, ()) ∧ spec_l16In l (n : Int) [x] = some (addS l x, ())) ∧ (memB x l = true → spec_l16Cut l (n : Int) 1 = some (delS l x, ())) := by
  obtain ⟨A, B, h1, h2, h3, h4, h5, h6, h7⟩ := set_at h x
  have hlen : l.length = A.length + B.length := by rw [h1, List.length_append]
  have e1 : l.take A.length = A := by rw [h1]; simp
  have e2 : l.drop A.length = B := by rw [h1]; simp
  refine ⟨A.length, by rw [bs_ok l x (by omega) h1 h2 h3, h4], by rw [l16At_one l x (by omega) h1 h2 h3, h4], fun hm => ⟨?_, ?_⟩, fun hm => ?_⟩
  · rw [Insert_ok l [x] A.length (by omega) (by simp) (by simp; omega), e1, e2, h5 (h4.trans hm)]
  · rw [l16In_ok l [x] A.length (by omega) (by simp; omega), e1, e2, h5 (h4.trans hm)]
  · obtain ⟨C, hC, _, h8⟩ := h6 (h4.trans hm)
    have := l16Cut_ok l A.length 1 (by rw [hC] at hlen; simp at hlen; omega) (by omega)
    rw [show ((1 : Nat) : Int) = 1 from rfl] at this
    rw [this, e1, ← List.drop_drop, e2, hC]
    unfold delS
    rw [h8]; rfl
theorem delS_none {l : List ByteArray} {x : ByteArray} (h : memB x l = false) : delS l x = l := List.filter_eq_self.2 fun s hs => by
  rw [decide_eq_false (fun e : s = x => (memB_false.1 h) (by rw [← e]; exact hs))]; rfl
theorem delS_asc {l : List ByteArray} (x : ByteArray) (h : AscS l) : AscS (delS l x) := List.Pairwise.filter _ h
theorem delS_len {l : List ByteArray} {x : ByteArray} (h : AscS l) (hm : memB x l = true) : (delS l x).length + 1 = l.length := by
  obtain ⟨A, B, h1, h2, h3, h4, h5, h6, h7⟩ := set_at h x
  obtain ⟨C, hC, _, h8⟩ := h6 (h4.trans hm)
  unfold delS
  rw [h8]
  conv => rhs; rw [h1, hC]
  simp only [List.length_append, List.length_cons]; omega
theorem set_L1_ok (k : ByteArray) (vals : List ByteArray) (d : DD) (n u : Int) (x : ByteArray) (l : List ByteArray) (x10 : Int) (h : AscS l) (hl : l.length + vals.length ≤ 5000000) :
    __loop_example_g00124_impl_desk__set_L1 k x10 vals (vals.length : Int) 0 d.1 d.2.1 d.2.2 n u x l = (__loop_example_g00124_impl_desk__put d k (n, (u, (x, addAll l vals)))).bind fun r14 =>
      (impl_Number (w64 (((addAll l vals).length : Int) - x10))).bind fun r15 => (__loop_example_g00124_impl_desk__say r14.2.1 r15.1).bind fun r16 => some ((), (r16.2.1, ())) :=
  fold_loop (fun acc i => __loop_example_g00124_impl_desk__set_L1 k x10 vals (vals.length : Int) i d.1 d.2.1 d.2.2 n u x acc) vals ByteArray.empty addS (fun acc => (__loop_example_g00124_impl_desk__put d k (n, (u, (x, acc)))).bind fun r14 =>
      (impl_Number (w64 ((acc.length : Int) - x10))).bind fun r15 => (__loop_example_g00124_impl_desk__say r14.2.1 r15.1).bind fun r16 => some ((), (r16.2.1, ()))) (fun acc i => AscS acc ∧ acc.length ≤ l.length + i)
    (fun acc i hi hI => by
      obtain ⟨m, k1, _, k3, _⟩ := add_ok acc (vals.getD i ByteArray.empty) hI.1 (by omega)
      obtain ⟨_, _, _, _, _, _, _, _, h7⟩ := set_at hI.1 (vals.getD i ByteArray.empty)
      have hlen := addS_len acc (vals.getD i ByteArray.empty) hI.1
      constructor
      · conv => lhs; rw [__loop_example_g00124_impl_desk__set_L1_eq]
        have e1 : decide ((i : Int) < (vals.length : Int)) = true := decide_eq_true (by omega)
        have e2 : decide (0 ≤ (i : Int)) = true := decide_eq_true (by omega)
        have e3 : w64 ((i : Int) + 1) = ((i + 1 : Nat) : Int) := wrap_succ (by omega)
        simp only [e1, e2, e3, Bool.and_self, cond_true, Int.toNat_natCast, k1, Option.bind_some]
        cases hm : memB (vals.getD i ByteArray.empty) acc with
        | true =>
          simp only [Bool.not_true, cond_false]
          have : addS acc (vals.getD i ByteArray.empty) = acc := by unfold addS; rw [hm, cond_true]
          rw [this]
        | false =>
          simp only [Bool.not_false, cond_true, (k3 hm).1, Option.bind_some]
      · refine ⟨h7, ?_⟩
        rw [hlen]
        have : (bif memB (vals.getD i ByteArray.empty) acc then 0 else 1) ≤ 1 := by cases memB (vals.getD i ByteArray.empty) acc <;> decide
        omega)
    (fun acc hI => by
      show __loop_example_g00124_impl_desk__set_L1 k x10 vals (vals.length : Int) (vals.length : Int) d.1 d.2.1 d.2.2 n u x acc = _
      rw [__loop_example_g00124_impl_desk__set_L1_eq]
      simp only [Int.lt_irrefl, decide_false, cond_false]) l ⟨h, by omega⟩
theorem add_count (vals : List ByteArray) : ∀ (c : Int) (l : List ByteArray), AscS l → vals.foldl (fun (p : Int × List ByteArray) x => (bif memB x p.2 then p.1 else p.1 + 1, addS p.2 x)) (c, l) = (c + (((addAll l vals).length : Int) - (l.length : Int)), addAll l vals) := by
  induction vals with
  | nil => intro c l h; simp [addAll]
  | cons x r ih =>
    intro c l h
    obtain ⟨_, _, _, _, _, _, _, _, h7⟩ := set_at h x
    have hlen := addS_len l x h
    rw [List.foldl_cons, ih _ _ h7]
    have e : addAll (addS l x) r = addAll l (x :: r) := rfl
    rw [e]
    congr 1
    cases hm : memB x l with
    | true => rw [hm] at hlen; simp only [cond_true, Nat.add_zero] at hlen ⊢; omega
    | false => rw [hm] at hlen; simp only [cond_false] at hlen ⊢; omega
theorem spec_sets_L1_ok (t : List DE) (a k : ByteArray) (vals : List ByteArray) (n u : Int) (x : ByteArray) (l : List ByteArray) (h : AscS l) (hl : l.length + vals.length ≤ 5000000) :
    spec_OnSets_L1 t (a :: k :: vals) k 0 2 n u x l = (spec_Number (((addAll l vals).length : Int) - (l.length : Int))).bind fun r11 => (spec_l15Keep t k (n, (u, (x, addAll l vals))) r11.1).bind fun r12 => some (r12.1, ()) := by
  have := fold_loop (fun (acc : Int × List ByteArray) i => spec_OnSets_L1 t (a :: k :: vals) k acc.1 (i + 2) n u x acc.2) vals ByteArray.empty (fun (p : Int × List ByteArray) x => (bif memB x p.2 then p.1 else p.1 + 1, addS p.2 x))
    (fun acc => (spec_Number acc.1).bind fun r11 => (spec_l15Keep t k (n, (u, (x, acc.2))) r11.1).bind fun r12 => some (r12.1, ())) (fun acc i => AscS acc.2 ∧ acc.2.length ≤ l.length + i ∧ 0 ≤ acc.1 ∧ acc.1 ≤ i)
    (fun acc i hi hI => by
      obtain ⟨m, _, k2, k3, _⟩ := add_ok acc.2 (vals.getD i ByteArray.empty) hI.1 (by omega)
      obtain ⟨_, _, _, _, _, _, _, _, h7⟩ := set_at hI.1 (vals.getD i ByteArray.empty)
      have hlen := addS_len acc.2 (vals.getD i ByteArray.empty) hI.1
      have hg : (a :: k :: vals).getD (i + 2) ByteArray.empty = vals.getD i ByteArray.empty := rfl
      constructor
      · conv => lhs; rw [spec_OnSets_L1_eq]
        have e0 : (i : Int) + 2 = ((i + 2 : Nat) : Int) := rfl
        have e1 : decide (((i + 2 : Nat) : Int) < ((a :: k :: vals).length : Int)) = true := decide_eq_true (by simp only [List.length_cons]; omega)
        have e2 : decide (0 ≤ ((i + 2 : Nat) : Int)) = true := decide_eq_true (by omega)
        have e3 : w64 (((i + 2 : Nat) : Int) + 1) = ((i + 1 : Nat) : Int) + 2 := by rw [show w64 (((i + 2 : Nat) : Int) + 1) = ((i + 2 + 1 : Nat) : Int) from wrap_succ (by omega)]; omega
        have e4 : w64 (acc.1 + 1) = acc.1 + 1 := wrap64_id (by omega) (by omega)
        simp only [e0, e1, e2, e3, e4, Bool.and_self, cond_true, Int.toNat_natCast, hg, k2, Option.bind_some]
        cases hm : memB (vals.getD i ByteArray.empty) acc.2 with
        | true =>
          simp only [Bool.not_true, cond_false, cond_true]
          have : addS acc.2 (vals.getD i ByteArray.empty) = acc.2 := by unfold addS; rw [hm, cond_true]
          rw [this]
        | false =>
          simp only [Bool.not_false, cond_true, cond_false, (k3 hm).2, Option.bind_some]
      · refine ⟨h7, ?_, ?_, ?_⟩
        · show (addS acc.2 _).length ≤ _
          rw [hlen]
          have : (bif memB (vals.getD i ByteArray.empty) acc.2 then 0 else 1) ≤ 1 := by cases memB (vals.getD i ByteArray.empty) acc.2 <;> decide
          omega
        · show 0 ≤ (bif memB (vals.getD i ByteArray.empty) acc.2 then acc.1 else acc.1 + 1)
          cases memB (vals.getD i ByteArray.empty) acc.2 <;> simp only [cond_true, cond_false] <;> omega
        · show (bif memB (vals.getD i ByteArray.empty) acc.2 then acc.1 else acc.1 + 1) ≤ _
          cases memB (vals.getD i ByteArray.empty) acc.2 <;> simp only [cond_true, cond_false] <;> omega)
    (fun acc hI => by
      show spec_OnSets_L1 t (a :: k :: vals) k acc.1 ((vals.length : Int) + 2) n u x acc.2 = _
      rw [spec_OnSets_L1_eq]
      have e1 : decide ((vals.length : Int) + 2 < ((a :: k :: vals).length : Int)) = false := decide_eq_false (by simp only [List.length_cons]; omega)
      simp only [e1, cond_false]) (0, l) ⟨h, by simp, by simp, by simp⟩
  rw [add_count vals 0 l h] at this
  simp only [Int.zero_add] at this
  exact this
theorem rem_count (vals : List ByteArray) : ∀ (c : Int) (l : List ByteArray), AscS l → vals.foldl (fun (p : Int × List ByteArray) x => (bif memB x p.2 then p.1 + 1 else p.1, delS p.2 x)) (c, l) = (c + ((l.length : Int) - ((remAll l vals).length : Int)), remAll l vals) := by
  induction vals with
  | nil =>
    intro c l h
    have : remAll l [] = l := List.filter_eq_self.2 fun s _ => rfl
    rw [this]; simp
  | cons x r ih =>
    intro c l h
    rw [List.foldl_cons, ih _ _ (delS_asc x h), remAll_cons]
    congr 1
    cases hm : memB x l with
    | true => have := delS_len h hm; simp only [cond_true]; omega
    | false => rw [delS_none hm]; rfl
theorem rem_len (l vals : List ByteArray) : (remAll l vals).length ≤ l.length := List.length_filter_le _ _
theorem spec_sets_L3_ok (t : List DE) (a k : ByteArray) (vals : List ByteArray) (n u : Int) (x : ByteArray) (l : List ByteArray) (h : AscS l) (hl : l.length + vals.length ≤ 5000000) :
    spec_OnSets_L3 t (a :: k :: vals) k 0 2 n u x l = (spec_Number ((l.length : Int) - ((remAll l vals).length : Int))).bind fun r11 => (spec_l15Keep t k (n, (u, (x, remAll l vals))) r11.1).bind fun r12 => some (r12.1, ()) := by
  have := fold_loop (fun (acc : Int × List ByteArray) i => spec_OnSets_L3 t (a :: k :: vals) k acc.1 (i + 2) n u x acc.2) vals ByteArray.empty (fun (p : Int × List ByteArray) x => (bif memB x p.2 then p.1 + 1 else p.1, delS p.2 x))
    (fun acc => (spec_Number acc.1).bind fun r11 => (spec_l15Keep t k (n, (u, (x, acc.2))) r11.1).bind fun r12 => some (r12.1, ())) (fun acc i => AscS acc.2 ∧ acc.2.length ≤ l.length ∧ 0 ≤ acc.1 ∧ acc.1 ≤ i)
    (fun acc i hi hI => by
      obtain ⟨m, _, k2, _, k4⟩ := add_ok acc.2 (vals.getD i ByteArray.empty) hI.1 (by omega)
      have hg : (a :: k :: vals).getD (i + 2) ByteArray.empty = vals.getD i ByteArray.empty := rfl
      constructor
      · conv => lhs; rw [spec_OnSets_L3_eq]
        have e0 : (i : Int) + 2 = ((i + 2 : Nat) : Int) := rfl
        have e1 : decide (((i + 2 : Nat) : Int) < ((a :: k :: vals).length : Int)) = true := decide_eq_true (by simp only [List.length_cons]; omega)
        have e2 : decide (0 ≤ ((i + 2 : Nat) : Int)) = true := decide_eq_true (by omega)
        have e3 : w64 (((i + 2 : Nat) : Int) + 1) = ((i + 1 : Nat) : Int) + 2 := by rw [show w64 (((i + 2 : Nat) : Int) + 1) = ((i + 2 + 1 : Nat) : Int) from wrap_succ (by omega)]; omega
        have e4 : w64 (acc.1 + 1) = acc.1 + 1 := wrap64_id (by omega) (by omega)
        simp only [e0, e1, e2, e3, e4, Bool.and_self, cond_true, Int.toNat_natCast, hg, k2, Option.bind_some]
        cases hm : memB (vals.getD i ByteArray.empty) acc.2 with
        | true => simp only [cond_true, k4 hm, Option.bind_some]
        | false => simp only [cond_false, delS_none hm]
      · refine ⟨delS_asc _ hI.1, ?_, ?_, ?_⟩
        · exact Nat.le_trans (List.length_filter_le _ _) hI.2.1
        · show 0 ≤ (bif memB (vals.getD i ByteArray.empty) acc.2 then acc.1 + 1 else acc.1)
          cases memB (vals.getD i ByteArray.empty) acc.2 <;> simp only [cond_true, cond_false] <;> omega
        · show (bif memB (vals.getD i ByteArray.empty) acc.2 then acc.1 + 1 else acc.1) ≤ _
          cases memB (vals.getD i ByteArray.empty) acc.2 <;> simp only [cond_true, cond_false] <;> omega)
    (fun acc hI => by
      show spec_OnSets_L3 t (a :: k :: vals) k acc.1 ((vals.length : Int) + 2) n u x acc.2 = _
      rw [spec_OnSets_L3_eq]
      have e1 : decide ((vals.length : Int) + 2 < ((a :: k :: vals).length : Int)) = false := decide_eq_false (by simp only [List.length_cons]; omega)
      simp only [e1, cond_false]) (0, l) ⟨h, by simp, by simp, by simp⟩
  rw [rem_count vals 0 l h] at this
  simp only [Int.zero_add] at this
  exact this
theorem set1_ok (x : ByteArray) (l : List ByteArray) (hl : l.length ≤ 2097152) : __loop_example_g00124_impl_desk__set_1 x l = some (memB x l, ()) := by
  rw [__loop_example_g00124_impl_desk__set_1_eq, Contains_ok l x hl]; rfl
theorem DeleteFunc_ok (l vals : List ByteArray) (hl : l.length ≤ 5000000) (hv : vals.length ≤ 2097152) : slices_DeleteFunc___string_string_ l (vals, ()) = some (remAll l vals, ((), ())) := by
  rw [slices_DeleteFunc___string_string__eq, slices_IndexFunc___string_string__eq]
  have hi := idx_loop (fun i => slices_IndexFunc___string_string__L0 l (l.length : Int) i vals) (fun s => memB s vals) ByteArray.empty l (fun n => some (n, ((), ())))
    (fun i hi => by
      conv => lhs; rw [slices_IndexFunc___string_string__L0_eq]
      have e1 : decide ((i : Int) < (l.length : Int)) = true := decide_eq_true (by omega)
      have e2 : decide (0 ≤ (i : Int)) = true := decide_eq_true (by omega)
      have e3 : w64 ((i : Int) + 1) = ((i + 1 : Nat) : Int) := wrap_succ (by omega)
      simp only [e1, e2, e3, Bool.and_self, cond_true, Int.toNat_natCast, set1_ok _ vals hv, Option.bind_some])
    (by
      show slices_IndexFunc___string_string__L0 l (l.length : Int) (l.length : Int) vals = _
      rw [slices_IndexFunc___string_string__L0_eq]
      simp only [Int.lt_irrefl, decide_false, cond_false])
  rw [hi]
  simp only [Option.bind_some]
  unfold remAll
  rcases idxI_spec (fun s => memB s vals) l 0 with ⟨h1, h2⟩ | ⟨j, h1, h2, h3, h4⟩
  · rw [h1, filter_none h2]; rfl
  · rw [h2]
    have hne : ((((0 + j : Nat) : Int)) == -1) = false := by rw [beq_dec]; exact decide_eq_false (by omega)
    rw [hne, cond_false, Nat.zero_add, show w64 ((j : Int) + 1) = ((j + 1 : Nat) : Int) from wrap_succ (by omega)]
    exact df_loop (fun xs i j => slices_DeleteFunc___string_string__L0 xs i j vals) (fun s => memB s vals) ByteArray.empty l (fun l => some (l, ((), ())))
      (fun xs i j hj hij hxs _ => by
        conv => lhs; rw [slices_DeleteFunc___string_string__L0_eq]
        have e1 : decide ((j : Int) < (xs.length : Int)) = true := decide_eq_true (by omega)
        have e2 : decide (0 ≤ (j : Int)) = true := decide_eq_true (by omega)
        have e3 : w64 ((j : Int) + 1) = ((j + 1 : Nat) : Int) := wrap_succ (by omega)
        have e4 : w64 ((i : Int) + 1) = ((i + 1 : Nat) : Int) := wrap_succ (by omega)
        have e5 : decide ((i : Int) < (xs.length : Int)) = true := decide_eq_true (by omega)
        have e6 : decide (0 ≤ (i : Int)) = true := decide_eq_true (by omega)
        simp only [e1, e2, e3, e4, e5, e6, Bool.and_self, cond_true, Int.toNat_natCast, set1_ok _ vals hv, Option.bind_some])
      (fun xs i hi hxs => by
        show slices_DeleteFunc___string_string__L0 xs (i : Int) (l.length : Int) vals = _
        rw [slices_DeleteFunc___string_string__L0_eq, ← hxs]
        have hz : (((List.take i xs) ++ (List.replicate (xs.length - i) ByteArray.empty)) ++ (List.drop xs.length xs)).length = xs.length := by
          simp only [List.length_append, List.length_take, List.length_replicate, List.length_drop]; omega
        simp only [Int.lt_irrefl, decide_false, cond_false, decide_eq_true (show (0 : Int) ≤ (i : Int) by omega), decide_eq_true (show (i : Int) ≤ (xs.length : Int) by omega), Int.le_refl, decide_true, Bool.and_self, cond_true, Int.toNat_natCast, hz, show Int.toNat 0 = 0 from rfl, Nat.sub_zero, List.drop_zero]
        rw [List.append_assoc, List.take_append_of_le_length (by rw [List.length_take]; omega), List.take_take, Nat.min_self])
      j h1 h3 h4
/-- Set's rows go up. -/
theorem val_asc {v : DV} (h : valB v = true) (h4 : v.1 = 4) : AscS v.2.2.2 := by
  unfold valB at h
  have h1 : ¬ v.1 = 1 := by omega
  simp only [decide_eq_false h1, cond_false, Bool.and_eq_true] at h
  have hi := h.2.2
  have hs : stB v.1 = 1 := by unfold stB; rw [if_neg (by omega), if_neg (by omega)]
  rw [hs] at hi
  unfold itsB at hi
  rw [List.all_eq_true] at hi
  have := adj_sorted (fun a b : ByteArray => blt a b = true) (fun _ _ _ h k => blt_trans h k) (gi v.2.2.2) v.2.2.2.length fun i hlt => by
    have := hi (i + 1) (List.mem_range.2 hlt)
    unfold itB at this
    simp only [Bool.and_eq_true, Bool.or_eq_true, Bool.not_eq_true', Nat.mod_one, decide_true, Nat.add_sub_cancel, Bool.and_eq_false_iff, decide_eq_false_iff_not] at this
    rcases this.2 with h | h
    · rcases h with h | h
      · rcases h with h | h
        · omega
        · simp at h
      · omega
    · exact h
  unfold AscS
  rw [List.pairwise_iff_getElem]
  intro i j hi hj hij
  have := this i j hij hj
  rwa [show gi v.2.2.2 i = v.2.2.2[i] from getD_get hi, show gi v.2.2.2 j = v.2.2.2[j] from getD_get hj] at this
end Go.Den.S
