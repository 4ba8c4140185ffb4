/- PxK: equations of the functions of this seat as the executor tells them, or plain facts about them. Conditions: none here. -/
import Derived.Test.YthfdlonnbkffnaaGreatDoorPxJ
set_option linter.all false
set_option linter.unusedSimpArgs false
set_option linter.unusedVariables false
namespace Go.Den.S
open Go Go.Den
/-! ### OnFields -/
def fldN : List ByteArray := [c_HSET, c_HGET, c_HDEL, c_HLEN, c_HGETALL, c_HKEYS]
theorem f_fld : strings_Fields c_HSET_HGET_HD_33_340175 = some (fldN, ()) := (strings_Fields_eq _).trans (by kernel_rfl)
theorem und_fields {t : List DE} {k : ByteArray} (h : tabB t = true) (hw : wrongB t k 3 = false) : ∃ P, (undB t k).2.2 = flatF P ∧ AscF P ∧ P.length ≤ 12 := by
  rcases und_val h hw with h | h
  · exact ⟨[], by rw [h]; rfl, List.Pairwise.nil, by simp⟩
  · exact val_fields (v := (3, undB t k)) h rfl
def delAll (P : List PF) (xs : List ByteArray) : List PF := xs.foldl delP P
theorem delAll_asc : ∀ (xs : List ByteArray) {P : List PF}, AscF P → AscF (delAll P xs) ∧ (delAll P xs).length ≤ P.length
  | [], P, h => ⟨h, Nat.le_refl _⟩
  | x :: r, P, h => by
    obtain ⟨k1, k2⟩ := delAll_asc r (delP_asc h x)
    refine ⟨k1, Nat.le_trans k2 ?_⟩
    obtain ⟨A, B, h1, _, _, h4, h5⟩ := field_at h x
    unfold delP
    conv => rhs; rw [h1]
    rw [h4, List.length_append, List.length_append]
    rcases h5 with ⟨_, h6⟩ | ⟨v, C, rfl, _, h6⟩
    · rw [h6]; exact Nat.le_refl _
    · rw [h6, List.length_cons]; omega
theorem delP_mem {P : List PF} {x : ByteArray} {p : PF} (h : p ∈ delP P x) : p ∈ P := by
  unfold delP at h
  rcases List.mem_append.1 h with h | h <;> exact (List.mem_filter.1 h).1
theorem delAll_mem : ∀ (xs : List ByteArray) {P : List PF} {p : PF}, p ∈ delAll P xs → p ∈ P
  | [], _, _, h => h
  | x :: r, P, p, h => delP_mem (delAll_mem r (P := delP P x) h)
theorem del_count (vals : List ByteArray) : ∀ (c : Int) (P : List PF), AscF P → P.length ≤ 1000 → vals.foldl (fun (p : Int × List PF) x => (bif hasF p.2 x then p.1 + 1 else p.1, delP p.2 x)) (c, P) = (c + ((P.length : Int) - ((delAll P vals).length : Int)), delAll P vals) := by
  induction vals with
  | nil => intro c P h hl; simp [delAll]
  | cons x r ih =>
    intro c P h hl
    obtain ⟨n, _, _, _, h3, h4⟩ := field_ops P h (by omega) x
    have hle := (delAll_asc [x] h).2
    rw [List.foldl_cons, ih _ _ (delP_asc h x) (Nat.le_trans hle hl)]
    have e : delAll (delP P x) r = delAll P (x :: r) := rfl
    rw [e]
    congr 1
    cases hm : hasF P x with
    | true => have := (h4 hm).2.1; simp only [cond_true]; omega
    | false => rw [(h3 hm).1]; rfl
theorem field_L1_ok (k : ByteArray) (vals : List ByteArray) (hv : vals.length ≤ 2097152) (d : DD) (n u : Int) (x : ByteArray) (P : List PF) (h : AscF P) (hl : P.length ≤ 12) :
    __loop_example_g00124_impl_desk__field_L1 k 0 vals (vals.length : Int) 0 d.1 d.2.1 d.2.2 n u x (flatF P) = (__loop_example_g00124_impl_desk__keep d k (n, (u, (x, flatF (delAll P vals))))).bind fun r14 =>
      (impl_Number ((P.length : Int) - ((delAll P vals).length : Int))).bind fun r15 => (__loop_example_g00124_impl_desk__say r14.2.1 r15.1).bind fun r16 => some ((), (r16.2.1, ())) := by
  have := fold_loop (fun (acc : Int × List PF) i => __loop_example_g00124_impl_desk__field_L1 k acc.1 vals (vals.length : Int) i d.1 d.2.1 d.2.2 n u x (flatF acc.2)) vals ByteArray.empty (fun (p : Int × List PF) x => (bif hasF p.2 x then p.1 + 1 else p.1, delP p.2 x))
    (fun acc => (__loop_example_g00124_impl_desk__keep d k (n, (u, (x, flatF acc.2)))).bind fun r14 => (impl_Number acc.1).bind fun r15 => (__loop_example_g00124_impl_desk__say r14.2.1 r15.1).bind fun r16 => some ((), (r16.2.1, ()))) (fun acc i => AscF acc.2 ∧ acc.2.length ≤ 12 ∧ 0 ≤ acc.1 ∧ acc.1 ≤ i)
    (fun acc i hi hI => by
      obtain ⟨m, _, _, k2, k3, k4⟩ := field_ops acc.2 hI.1 (by omega) (vals.getD i ByteArray.empty)
      have hle := (delAll_asc [vals.getD i ByteArray.empty] hI.1).2
      constructor
      · conv => lhs; rw [__loop_example_g00124_impl_desk__field_L1_eq]
        have e1 : decide ((i : Int) < (vals.length : Int)) = true := decide_eq_true (by omega)
        have e2 : decide (0 ≤ (i : Int)) = true := decide_eq_true (by omega)
        have e3 : w64 ((i : Int) + 1) = ((i + 1 : Nat) : Int) := wrap_succ (by omega)
        have e4 : w64 (acc.1 + 1) = acc.1 + 1 := wrap64_id (by omega) (by omega)
        simp only [e1, e2, e3, e4, Bool.and_self, cond_true, Int.toNat_natCast, k2, Option.bind_some]
        cases hm : hasF acc.2 (vals.getD i ByteArray.empty) with
        | true =>
          obtain ⟨q1, q2, w, q3, q4, q5, q6⟩ := k4 hm
          have e5 : w64 (((m * 2 : Nat) : Int) + 2) = ((m * 2 + 2 : Nat) : Int) := by show IntKind.i64.wrap _ = _; rw [wrap64_id (by omega) (by omega)]; omega
          simp only [cond_true, e5, q5, Option.bind_some]
        | false => simp only [cond_false, (k3 hm).1]
      · refine ⟨delP_asc hI.1 _, Nat.le_trans hle hI.2.1, ?_, ?_⟩
        · show 0 ≤ (bif hasF acc.2 (vals.getD i ByteArray.empty) then acc.1 + 1 else acc.1)
          cases hasF acc.2 (vals.getD i ByteArray.empty) <;> simp only [cond_true, cond_false] <;> omega
        · show (bif hasF acc.2 (vals.getD i ByteArray.empty) then acc.1 + 1 else acc.1) ≤ _
          cases hasF acc.2 (vals.getD i ByteArray.empty) <;> simp only [cond_true, cond_false] <;> omega)
    (fun acc hI => by
      show __loop_example_g00124_impl_desk__field_L1 k acc.1 vals (vals.length : Int) (vals.length : Int) d.1 d.2.1 d.2.2 n u x (flatF acc.2) = _
      rw [__loop_example_g00124_impl_desk__field_L1_eq]
      simp only [Int.lt_irrefl, decide_false, cond_false]) (0, P) ⟨h, hl, by simp, by simp⟩
  rw [del_count vals 0 P h (by omega)] at this
  simp only [Int.zero_add] at this
  exact this
theorem spec_fields_L1_ok (t : List DE) (a k : ByteArray) (vals : List ByteArray) (hv : vals.length ≤ 2097152) (n u : Int) (x : ByteArray) (P : List PF) (h : AscF P) (hl : P.length ≤ 12) :
    spec_OnFields_L1 t (a :: k :: vals) k 0 2 n u x (flatF P) = (spec_Number ((P.length : Int) - ((delAll P vals).length : Int))).bind fun r11 => (spec_l15Keep t k (n, (u, (x, flatF (delAll P vals)))) r11.1).bind fun r12 => some (r12.1, ()) := by
  have := fold_loop (fun (acc : Int × List PF) i => spec_OnFields_L1 t (a :: k :: vals) k acc.1 (i + 2) n u x (flatF acc.2)) vals ByteArray.empty (fun (p : Int × List PF) x => (bif hasF p.2 x then p.1 + 1 else p.1, delP p.2 x))
    (fun acc => (spec_Number acc.1).bind fun r11 => (spec_l15Keep t k (n, (u, (x, flatF acc.2))) r11.1).bind fun r12 => some (r12.1, ())) (fun acc i => AscF acc.2 ∧ acc.2.length ≤ 12 ∧ 0 ≤ acc.1 ∧ acc.1 ≤ i)
    (fun acc i hi hI => by
      obtain ⟨m, _, k2, _, k3, k4⟩ := field_ops acc.2 hI.1 (by omega) (vals.getD i ByteArray.empty)
      have hle := (delAll_asc [vals.getD i ByteArray.empty] hI.1).2
      have hg : (a :: k :: vals).getD (i + 2) ByteArray.empty = vals.getD i ByteArray.empty := rfl
      constructor
      · conv => lhs; rw [spec_OnFields_L1_eq]
        have e0 : (i : Int) + 2 = ((i + 2 : Nat) : Int) := rfl
        have e1 : decide (((i + 2 : Nat) : Int) < ((a :: k :: vals).length : Int)) = true := decide_eq_true (by simp only [List.length_cons]; omega)
        have e2 : decide (0 ≤ ((i + 2 : Nat) : Int)) = true := decide_eq_true (by omega)
        have e3 : w64 (((i + 2 : Nat) : Int) + 1) = ((i + 1 : Nat) : Int) + 2 := by rw [show w64 (((i + 2 : Nat) : Int) + 1) = ((i + 2 + 1 : Nat) : Int) from wrap_succ (by omega)]; omega
        have e4 : w64 (acc.1 + 1) = acc.1 + 1 := wrap64_id (by omega) (by omega)
        simp only [e0, e1, e2, e3, e4, Bool.and_self, cond_true, Int.toNat_natCast, hg, k2, Option.bind_some]
        cases hm : hasF acc.2 (vals.getD i ByteArray.empty) with
        | true =>
          obtain ⟨q1, q2, w, q3, q4, q5, q6⟩ := k4 hm
          simp only [cond_true, q4, Option.bind_some]
        | false => simp only [cond_false, (k3 hm).1]
      · refine ⟨delP_asc hI.1 _, Nat.le_trans hle hI.2.1, ?_, ?_⟩
        · show 0 ≤ (bif hasF acc.2 (vals.getD i ByteArray.empty) then acc.1 + 1 else acc.1)
          cases hasF acc.2 (vals.getD i ByteArray.empty) <;> simp only [cond_true, cond_false] <;> omega
        · show (bif hasF acc.2 (vals.getD i ByteArray.empty) then acc.1 + 1 else acc.1) ≤ _
          cases hasF acc.2 (vals.getD i ByteArray.empty) <;> simp only [cond_true, cond_false] <;> omega)
    (fun acc hI => by
      show spec_OnFields_L1 t (a :: k :: vals) k acc.1 ((vals.length : Int) + 2) n u x (flatF acc.2) = _
      rw [spec_OnFields_L1_eq]
      have e1 : decide ((vals.length : Int) + 2 < ((a :: k :: vals).length : Int)) = false := decide_eq_false (by simp only [List.length_cons]; omega)
      simp only [e1, cond_false]) (0, P) ⟨h, hl, by simp, by simp⟩
  rw [del_count vals 0 P h (by omega)] at this
  simp only [Int.zero_add] at this
  exact this
/-- The fields' names. -/
def keysF (P : List PF) : List ByteArray := P.map Prod.fst
theorem names_loop {R : Type} (F : List ByteArray → Int → Option R) (fin : List ByteArray → Option R) (P : List PF) (hF : ∀ (acc : List ByteArray) (j : Nat), j < P.length → acc.length = j → F acc ((j * 2 : Nat) : Int) = F (acc ++ [(flatF P).getD (j * 2) ByteArray.empty]) (((j + 1) * 2 : Nat) : Int)) (hE : ∀ acc, F acc ((P.length * 2 : Nat) : Int) = fin acc) : F [] 0 = fin (keysF P) := by
  have := fold_loop (fun acc i => F acc (i * 2)) P (ByteArray.empty, ByteArray.empty) (fun a p => a ++ [p.1]) fin (fun acc i => acc.length = i)
    (fun acc i hi hI => by
      constructor
      · have := hF acc i hi hI
        rw [(flatF_get P i hi).1] at this
        rw [show ((i : Int) * 2) = ((i * 2 : Nat) : Int) by omega, this, getD_get hi]
        congr 1
      · rw [List.length_append, hI]; rfl)
    (fun acc _ => by
      rw [show ((P.length : Int) * 2) = ((P.length * 2 : Nat) : Int) by omega]
      exact hE acc) [] rfl
  rw [push_fold] at this
  exact this
theorem fieldsOf_ok (P : List PF) (hl : P.length ≤ 1000000) : impl_fieldsOf (flatF P) = some (keysF P, ()) := by
  have hfl := flatF_len P
  rw [impl_fieldsOf_eq]
  exact names_loop (fun acc i => impl_fieldsOf_L0 (flatF P) acc i) (fun l => some (l, ())) P (fun acc j hj ha => by
    conv => lhs; rw [impl_fieldsOf_L0_eq]
    have e1 : decide (((j * 2 : Nat) : Int) < ((flatF P).length : Int)) = true := decide_eq_true (by omega)
    have e2 : decide (0 ≤ ((j * 2 : Nat) : Int)) = true := decide_eq_true (by omega)
    have e3 : w64 (((j * 2 : Nat) : Int) + 2) = (((j + 1) * 2 : Nat) : Int) := by show IntKind.i64.wrap _ = _; rw [wrap64_id (by omega) (by omega)]; omega
    simp only [e1, e2, e3, Bool.and_self, cond_true, Int.toNat_natCast, lim_true (show (acc.length + 1) * 16 ≤ 140737488355328 by omega)]) (fun acc => by
    rw [impl_fieldsOf_L0_eq]
    have e1 : decide (((P.length * 2 : Nat) : Int) < ((flatF P).length : Int)) = false := decide_eq_false (by omega)
    simp only [e1, cond_false])
theorem spec_L3_ok (t : List DE) (n u : Int) (x : ByteArray) (P : List PF) (hl : P.length ≤ 1000000) : spec_OnFields_L3 t [] 0 n u x (flatF P) = (spec_l10CopyTable t).bind fun r9 => (spec_l15Bulks (keysF P)).bind fun r10 => some ((r9.1, (r10.1, true)), ()) := by
  have hfl := flatF_len P
  exact names_loop (fun acc i => spec_OnFields_L3 t acc i n u x (flatF P)) (fun l => (spec_l10CopyTable t).bind fun r9 => (spec_l15Bulks l).bind fun r10 => some ((r9.1, (r10.1, true)), ())) P (fun acc j hj ha => by
    conv => lhs; rw [spec_OnFields_L3_eq]
    have e1 : decide (((j * 2 : Nat) : Int) < ((flatF P).length : Int)) = true := decide_eq_true (by omega)
    have e2 : decide (0 ≤ ((j * 2 : Nat) : Int)) = true := decide_eq_true (by omega)
    have e3 : w64 (((j * 2 : Nat) : Int) + 2) = (((j + 1) * 2 : Nat) : Int) := by show IntKind.i64.wrap _ = _; rw [wrap64_id (by omega) (by omega)]; omega
    simp only [e1, e2, e3, Bool.and_self, cond_true, Int.toNat_natCast, lim_true (show (acc.length + 1) * 16 ≤ 140737488355328 by omega)]) (fun acc => by
    rw [spec_OnFields_L3_eq]
    have e1 : decide (((P.length * 2 : Nat) : Int) < ((flatF P).length : Int)) = false := decide_eq_false (by omega)
    simp only [e1, cond_false])
end Go.Den.S
