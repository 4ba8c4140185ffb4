/- PxE: equations of the functions of this seat as the executor tells them, or plain facts about them. Conditions: none here. -/
import Derived.Test.YthfdlonnbkffnaaGreatDoorPxD
set_option linter.all false
set_option linter.unusedSimpArgs false
set_option linter.unusedVariables false
namespace Go.Den.S
open Go Go.Den
/-! ### a key is sought, put, dropped -/
theorem idx_find {α : Type} (P : α → Bool) : ∀ (l : List α) (i : Nat), (idxI P l i = -1 ∧ l.find? P = none) ∨ ∃ k x, k < l.length ∧ idxI P l i = ((i + k : Nat) : Int) ∧ l[k]? = some x ∧ l.find? P = some x
  | [], i => .inl ⟨rfl, rfl⟩
  | x :: r, i => by
    unfold idxI
    rw [List.find?_cons]
    cases h : P x with
    | true => exact .inr ⟨0, x, by simp, by simp, rfl, rfl⟩
    | false =>
      simp only [cond_false]
      rcases idx_find P r (i + 1) with ⟨h1, h2⟩ | ⟨k, y, h1, h2, h3, h4⟩
      · exact .inl ⟨h1, h2⟩
      · exact .inr ⟨k + 1, y, by simp; omega, by rw [h2]; congr 1; omega, by simpa using h3, h4⟩
def fndB (t : List DE) (k : ByteArray) : DV × Bool := match t.find? fun e => decide (e.1 = k) with
  | some e => (e.2, true)
  | none => ((0, (0, (ByteArray.empty, []))), false)
theorem fnd_val {t : List DE} {k : ByteArray} (h : tabB t = true) (hf : (fndB t k).2 = true) : valB (fndB t k).1 = true ∧ (k, (fndB t k).1) ∈ t := by
  unfold fndB at hf ⊢
  cases hx : t.find? fun e => decide (e.1 = k) with
  | none => rw [hx] at hf; cases hf
  | some e =>
    have hm := List.mem_of_find?_eq_some hx
    have hk := List.find?_some hx
    simp only [decide_eq_true_eq] at hk
    refine ⟨(tab_val h hm).1, ?_⟩
    rw [← hk]
    exact hm
theorem impl_Find_ok (t : List DE) (k : ByteArray) (h : Bd t) : impl_Find t k = some (fndB t k, ()) := by
  have hl := h.len
  rw [impl_Find_eq, slices_IndexFunc_Entry_Find_eq]
  have := idx_loop (fun i => slices_IndexFunc_Entry_Find_L0 t (t.length : Int) i k) (fun e : DE => decide (e.1 = k)) dflt t (fun n => some (n, ((), ())))
    (fun i hi => by
      conv => lhs; rw [slices_IndexFunc_Entry_Find_L0_eq]
      have e1 : decide ((i : Int) < (t.length : Int)) = true := decide_eq_true (by omega)
      have e2 : decide (0 ≤ (i : Int)) = true := decide_eq_true (by omega)
      have e3 : w64 ((i : Int) + 1) = ((i + 1 : Nat) : Int) := wrap_succ (by omega)
      simp only [e1, e2, e3, Bool.and_self, cond_true, Int.toNat_natCast, impl_Find_1_eq, Option.bind_some, bytes_eq])
    (by
      show slices_IndexFunc_Entry_Find_L0 t (t.length : Int) (t.length : Int) k = _
      rw [slices_IndexFunc_Entry_Find_L0_eq]
      simp only [Int.lt_irrefl, decide_false, cond_false])
  rw [this]
  unfold fndB
  rcases idx_find (fun e : DE => decide (e.1 = k)) t 0 with ⟨h1, h2⟩ | ⟨j, x, hj, h1, h2, h3⟩
  · rw [h1, h2]; rfl
  · rw [h1, h3]
    have hg : t.getD j dflt = x := by rw [List.getD_eq_getElem?_getD, h2]; rfl
    have hm := h.its x (List.mem_of_getElem? h2)
    simp only [Option.bind_some, Nat.zero_add, decide_eq_false (show ¬ ((j : Int) < 0) by omega), cond_false, decide_eq_true (show (0 : Int) ≤ (j : Int) by omega), decide_eq_true (show (j : Int) < (t.length : Int) by omega), Bool.and_self, cond_true, Int.toNat_natCast, hg, impl_copyVal_ok x.2 (by omega)]
theorem spec_Find_ok (t : List DE) (k : ByteArray) (h : Bd t) : spec_Find t k = some (fndB t k, ()) := by
  have hl := h.len
  rw [spec_Find_eq]
  have key := list_ind t dflt (fun i r => spec_Find_L0 t k (i : Int) 0 0 ByteArray.empty [] = some ((match r.find? fun e => decide (e.1 = k) with | some e => (e.2, true) | none => ((0, (0, (ByteArray.empty, []))), false)), ()))
    (by
      rw [spec_Find_L0_eq]
      simp only [Int.lt_irrefl, decide_false, cond_false]
      rfl)
    (fun i x r hi hx hm ih => by
      rw [spec_Find_L0_eq]
      have e1 : decide ((i : Int) < (t.length : Int)) = true := decide_eq_true (by omega)
      have e2 : decide (0 ≤ (i : Int)) = true := decide_eq_true (by omega)
      have e3 : w64 ((i : Int) + 1) = ((i + 1 : Nat) : Int) := wrap_succ (by omega)
      have hs := h.its x hm
      have hx' : t.getD i (ByteArray.empty, 0, 0, ByteArray.empty, []) = x := hx
      simp only [e1, e2, e3, Bool.and_self, cond_true, Int.toNat_natCast, bytes_eq, hx', spec_l10Copy_ok x.2 (by omega), Option.bind_some, ih, List.find?_cons]
      cases decide (x.1 = k) <;> rfl)
  exact key
/-- A list that goes up, at a key. -/
theorem asc_split {α : Type} (key : α → ByteArray) (k : ByteArray) : ∀ (l : List α), l.Pairwise (fun a b => blt (key a) (key b) = true) →
    ∃ A B, l = A ++ B ∧ A = l.filter (fun e => blt (key e) k) ∧ (∀ a ∈ A, blt (key a) k = true) ∧ (∀ b ∈ B, blt (key b) k = false) ∧
      ((B = l.filter (fun e => blt k (key e)) ∧ ∀ b ∈ B, key b ≠ k) ∨ ∃ e C, B = e :: C ∧ key e = k ∧ C = l.filter (fun e => blt k (key e)) ∧ ∀ c ∈ C, key c ≠ k)
  | [], _ => ⟨[], [], rfl, rfl, (fun _ h => by cases h), (fun _ h => by cases h), .inl ⟨rfl, fun _ h => by cases h⟩⟩
  | x :: r, h => by
    rw [List.pairwise_cons] at h
    cases hx : blt (key x) k with
    | true =>
      obtain ⟨A, B, h1, h2, h3, h4, h5⟩ := asc_split key k r h.2
      have hgt : blt k (key x) = false := blt_asymm hx
      refine ⟨x :: A, B, by rw [h1]; rfl, by rw [List.filter_cons_of_pos (by exact hx), ← h2], fun a ha => ?_, h4, ?_⟩
      · rcases List.mem_cons.1 ha with rfl | ha
        · exact hx
        · exact h3 a ha
      · rw [List.filter_cons_of_neg (by rw [hgt]; simp)]
        exact h5
    | false =>
      have hr : ∀ b ∈ r, blt k (key b) = true := fun b hb => by
        by_cases e : k = key x
        · rw [e]; exact h.1 b hb
        · exact blt_trans (blt_total (fun e' => e e'.symm) hx) (h.1 b hb)
      have hr2 : ∀ b ∈ r, blt (key b) k = false := fun b hb => blt_asymm (hr b hb)
      have f1 : (x :: r).filter (fun e => blt (key e) k) = [] := by
        rw [List.filter_eq_nil_iff]
        intro b hb
        rcases List.mem_cons.1 hb with rfl | hb
        · rw [hx]; simp
        · rw [hr2 b hb]; simp
      have f2 : r.filter (fun e => blt k (key e)) = r := List.filter_eq_self.2 hr
      refine ⟨[], x :: r, rfl, f1.symm, (fun _ h => by cases h), fun b hb => ?_, ?_⟩
      · rcases List.mem_cons.1 hb with rfl | hb
        · exact hx
        · exact hr2 b hb
      · by_cases e : key x = k
        · right
          refine ⟨x, r, rfl, e, ?_, fun c hc => (blt_ne (hr c hc)).symm⟩
          rw [List.filter_cons_of_neg (by rw [e, blt_irrefl]; simp), f2]
        · left
          have hkx : blt k (key x) = true := blt_total e hx
          refine ⟨by rw [List.filter_cons_of_pos (p := fun e => blt k (key e)) hkx, f2], fun b hb => ?_⟩
          rcases List.mem_cons.1 hb with rfl | hb
          · exact e
          · exact (blt_ne (hr b hb)).symm
def lowB (t : List DE) (k : ByteArray) : List DE := t.filter fun e => blt e.1 k
def highB (t : List DE) (k : ByteArray) : List DE := t.filter fun e => blt k e.1
def putB (t : List DE) (k : ByteArray) (v : DV) : List DE := lowB t k ++ (k, v) :: highB t k
def dropB (t : List DE) (k : ByteArray) : List DE := lowB t k ++ highB t k
theorem put1_ok (e : DE) (k : ByteArray) : __loop_example_g00124_impl_desk__put_1 e k = some ((if blt e.1 k then -1 else if e.1 = k then 0 else 1), ()) := by
  rw [__loop_example_g00124_impl_desk__put_1_eq, strings_Compare_eq]
  unfold strings_CompareF
  rw [compare_blt]; rfl
theorem eta5 (x : DE) : (x.1, (x.2.1, (x.2.2.1, (x.2.2.2.1, x.2.2.2.2)))) = x := rfl
def hdB (k : ByteArray) : List DE → Bool
  | [] => false
  | e :: _ => decide (e.1 = k)
theorem cmp_neg (b : Bool) (p : Prop) [Decidable p] : decide ((if b = true then (-1 : Int) else if p then 0 else 1) < 0) = b := by
  cases b with
  | true => rfl
  | false =>
    simp only [Bool.false_eq_true, if_false]
    split <;> rfl
theorem bsf_ok (t : List DE) (k : ByteArray) (h : Bd t) {A B : List DE} (hAB : t = A ++ B) (hA : ∀ a ∈ A, blt a.1 k = true) (hB : ∀ b ∈ B, blt b.1 k = false) :
    slices_BinarySearchFunc___loop_example_g00124_impl_Entry_loop_example_g00124_impl_Entry_string_ t k () = some (((A.length : Int), hdB k B), ((), ())) := by
  have hl := h.len
  have hlen : t.length = A.length + B.length := by rw [hAB, List.length_append]
  rw [slices_BinarySearchFunc___loop_example_g00124_impl_Entry_loop_example_g00124_impl_Entry_string__eq]
  have hget : ∀ i, i < t.length → blt (t.getD i dflt).1 k = decide (i < A.length) := fun i hi => by
    rw [getD_get hi]
    by_cases hlt : i < A.length
    · rw [decide_eq_true hlt]
      have : t[i] = A[i] := by simp only [hAB]; rw [List.getElem_append_left hlt]
      rw [this]
      exact hA _ (List.getElem_mem _)
    · rw [decide_eq_false hlt]
      have : t[i] = B[i - A.length]'(by omega) := by simp only [hAB]; rw [List.getElem_append_right (by omega)]
      rw [this]
      exact hB _ (List.getElem_mem _)
  have := bs_loop (fun lo hi => slices_BinarySearchFunc___loop_example_g00124_impl_Entry_loop_example_g00124_impl_Entry_string__L0 t k (t.length : Int) lo hi) (fun i => blt (t.getD i dflt).1 k) t.length A.length (by omega) hget
    (fun lo hi hlt hhi => by
      conv => lhs; rw [slices_BinarySearchFunc___loop_example_g00124_impl_Entry_loop_example_g00124_impl_Entry_string__L0_eq]
      have hm : w64 (shrI Go.IntKind.u64 (Go.IntKind.u64.wrap (w64 ((lo : Int) + (hi : Int)))) 1) = (((lo + hi) / 2 : Nat) : Int) := mid_ok (by omega)
      have e3 : w64 ((((lo + hi) / 2 : Nat) : Int) + 1) = (((lo + hi) / 2 + 1 : Nat) : Int) := wrap_succ (by omega)
      simp only [decide_eq_true (show (lo : Int) < (hi : Int) by omega), hm, e3, decide_eq_true (show (0 : Int) ≤ (((lo + hi) / 2 : Nat) : Int) by omega), decide_eq_true (show (((lo + hi) / 2 : Nat) : Int) < (t.length : Int) by omega), Bool.and_self, cond_true, Int.toNat_natCast, put1_ok, Option.bind_some, cmp_neg])
  rw [this, slices_BinarySearchFunc___loop_example_g00124_impl_Entry_loop_example_g00124_impl_Entry_string__L0_eq]
  simp only [Int.lt_irrefl, decide_false, cond_false]
  match B, hlen, hAB, hB with
  | [], hlen, _, _ =>
    simp only [List.length_nil, Nat.add_zero] at hlen
    rw [decide_eq_false (show ¬ ((A.length : Int) < (t.length : Int)) by omega)]
    rfl
  | e :: C, hlen, hAB, hB =>
    simp only [List.length_cons] at hlen
    have hg : t.getD A.length dflt = e := by rw [List.getD_eq_getElem?_getD, hAB]; simp
    have hb := hB e (List.mem_cons_self ..)
    simp only [decide_eq_true (show ((A.length : Int) < (t.length : Int)) by omega), decide_eq_true (show (0 : Int) ≤ (A.length : Int) by omega), Bool.and_self, cond_true, Int.toNat_natCast, hg, put1_ok, hb, Option.bind_some, Bool.false_eq_true, if_false]
    by_cases he : e.1 = k
    · rw [if_pos he, show hdB k (e :: C) = true from decide_eq_true he]; rfl
    · rw [if_neg he, show hdB k (e :: C) = false from decide_eq_false he]; rfl
abbrev DD : Type := List DE × ByteArray × Bool
theorem impl_put_ok (d : DD) (k : ByteArray) (v : DV) (h : Bd d.1) (ha : Asc d.1) : __loop_example_g00124_impl_desk__put d k v = some ((), ((bif d.2.2 then d else (putB d.1 k v, d.2)), ())) := by
  obtain ⟨t, r, b⟩ := d
  rw [__loop_example_g00124_impl_desk__put_eq]
  cases b with
  | true => rfl
  | false =>
    have hl := h.len
    obtain ⟨A, B, h1, h2, h3, h4, h5⟩ := asc_split (fun e : DE => e.1) k t ha
    simp only [cond_false, bsf_ok t k h h1 h3 h4, Option.bind_some]
    have hlen : t.length = A.length + B.length := by rw [h1, List.length_append]
    have hlow : lowB t k = A := h2.symm
    rcases h5 with ⟨h5, h6⟩ | ⟨e, C, rfl, he, h5, h6⟩
    · have hhigh : highB t k = B := h5.symm
      have hf : hdB k B = false := by
        cases B with
        | nil => rfl
        | cons e C => exact decide_eq_false (h6 e (List.mem_cons_self ..))
      rw [hf]
      simp only [cond_false, slices_Insert___loop_example_g00124_impl_Entry_loop_example_g00124_impl_Entry__eq]
      unfold insF
      simp only [decide_eq_true (show (0 : Int) ≤ (A.length : Int) by omega), decide_eq_true (show (A.length : Int) ≤ (t.length : Int) by omega), List.length_singleton, decide_eq_true (show 0 < 1 by omega), lim_true (show (t.length + 1) * 72 ≤ 140737488355328 by have : t.length ≤ 4194304 := hl; omega), Bool.and_self, cond_true, Option.bind_some, Int.toNat_natCast]
      have e1 : t.take A.length = A := by rw [h1]; simp
      have e2 : t.drop A.length = B := by rw [h1]; simp
      unfold putB
      rw [hlow, hhigh, e1, e2, List.append_assoc]
      rfl
    · have hhigh : highB t k = C := h5.symm
      simp only [List.length_cons] at hlen
      have hg : t.getD A.length dflt = e := by rw [List.getD_eq_getElem?_getD, h1]; simp
      have hset : t.set A.length (e.1, v) = A ++ (k, v) :: C := by rw [h1, he]; simp
      have hhd : hdB k (e :: C) = true := decide_eq_true he
      simp only [hhd, cond_true, decide_eq_true (show (0 : Int) ≤ (A.length : Int) by omega), decide_eq_true (show (A.length : Int) < (t.length : Int) by omega), Bool.and_self, Int.toNat_natCast, hg]
      unfold putB
      rw [hlow, hhigh]
      show some ((), ((t.set A.length (e.1, v), (r, false)), ())) = _
      rw [hset]
theorem filter_fold {α β : Type} (P : α → Bool) (f : α → β) : ∀ (l : List α) (acc : List β), l.foldl (fun a x => bif P x then a ++ [f x] else a) acc = acc ++ (l.filter P).map f
  | [], acc => by simp
  | x :: r, acc => by
    rw [List.foldl_cons, filter_fold P f r]
    cases h : P x with
    | true => rw [List.filter_cons_of_pos h]; simp
    | false => rw [List.filter_cons_of_neg (by rw [h]; simp)]; simp
theorem spec_put_ok (t : List DE) (k : ByteArray) (v : DV) (h : Bd t) : spec_l14Put t k v = some ((bif decide (v.1 = 0) then dropB t k else putB t k v), ()) := by
  have hl := h.len
  rw [spec_l14Put_eq]
  have two : ∀ acc : List DE, acc.length ≤ t.length + 1 → spec_l14Put_L2 t k acc 0 = some (acc ++ highB t k, ()) := fun acc hacc => by
    have := fold_loop (fun acc i => spec_l14Put_L2 t k acc i) t dflt (fun a x => bif blt k x.1 then a ++ [x] else a) (fun acc => some (acc, ())) (fun acc i => acc.length ≤ t.length + 1 + i)
      (fun acc i hi hI => by
        have e1 : decide ((i : Int) < (t.length : Int)) = true := decide_eq_true (by omega)
        have e2 : decide (0 ≤ (i : Int)) = true := decide_eq_true (by omega)
        have e3 : w64 ((i : Int) + 1) = ((i + 1 : Nat) : Int) := wrap_succ (by omega)
        have hb : (!(blt (t.getD i dflt).1 k || decide ((t.getD i dflt).1 = k))) = blt k (t.getD i dflt).1 := by
          by_cases e : (t.getD i dflt).1 = k
          · rw [e, decide_eq_true rfl, blt_irrefl]; rfl
          · rw [decide_eq_false e, Bool.or_false]
            cases hx : blt (t.getD i dflt).1 k with
            | true => rw [blt_asymm hx]; rfl
            | false => rw [blt_total e hx]; rfl
        constructor
        · conv => lhs; rw [spec_l14Put_L2_eq]
          simp only [e1, e2, e3, Bool.and_self, cond_true, Int.toNat_natCast, blt_eq, bytes_eq, hb, lim_true (show (acc.length + 1) * 72 ≤ 140737488355328 by omega), eta5]
          cases blt k (t.getD i dflt).1 <;> simp only [cond_true, cond_false]
        · cases blt k (t.getD i dflt).1
          · exact Nat.le_succ_of_le hI
          · simp only [cond_true, List.length_append, List.length_singleton]; omega)
      (fun acc hI => by
        show spec_l14Put_L2 t k acc (t.length : Int) = _
        rw [spec_l14Put_L2_eq]
        simp only [Int.lt_irrefl, decide_false, cond_false]) acc (by omega)
    rw [this, filter_fold (fun e : DE => blt k e.1) (fun e => e)]
    simp [highB]
  have := fold_loop (fun acc i => spec_l14Put_L0 t k acc i v.1 v.2.1 v.2.2.1 v.2.2.2) t dflt (fun a x => bif blt x.1 k then a ++ [x] else a) (fun acc => some ((acc ++ bif decide (v.1 = 0) then [] else [(k, v)]) ++ highB t k, ())) (fun acc i => acc.length ≤ i)
    (fun acc i hi hI => by
      have e1 : decide ((i : Int) < (t.length : Int)) = true := decide_eq_true (by omega)
      have e2 : decide (0 ≤ (i : Int)) = true := decide_eq_true (by omega)
      have e3 : w64 ((i : Int) + 1) = ((i + 1 : Nat) : Int) := wrap_succ (by omega)
      constructor
      · conv => lhs; rw [spec_l14Put_L0_eq]
        simp only [e1, e2, e3, Bool.and_self, cond_true, Int.toNat_natCast, blt_eq, lim_true (show (acc.length + 1) * 72 ≤ 140737488355328 by omega), eta5]
        cases blt (t.getD i dflt).1 k <;> simp only [cond_true, cond_false]
      · cases blt (t.getD i dflt).1 k
        · exact Nat.le_succ_of_le hI
        · simp only [cond_true, List.length_append, List.length_singleton]; omega)
    (fun acc hI => by
      show spec_l14Put_L0 t k acc (t.length : Int) v.1 v.2.1 v.2.2.1 v.2.2.2 = _
      rw [spec_l14Put_L0_eq]
      have hne : (v.1 != 0) = !decide (v.1 = 0) := by
        by_cases e : v.1 = 0
        · simp [e]
        · simp [e]
      simp only [Int.lt_irrefl, decide_false, cond_false, hne, lim_true (show (acc.length + 1) * 72 ≤ 140737488355328 by omega), cond_true]
      cases decide (v.1 = 0) with
      | true =>
        simp only [Bool.not_true, cond_false, cond_true, List.append_nil]
        exact two acc (by omega)
      | false =>
        simp only [Bool.not_false, cond_true, cond_false]
        exact two _ (by rw [List.length_append]; simp; omega)) [] (Nat.le_refl _)
  refine this.trans ?_
  rw [filter_fold (fun e : DE => blt e.1 k) (fun e => e)]
  unfold dropB putB lowB
  cases decide (v.1 = 0) <;> simp
theorem drop_filter (t : List DE) (k : ByteArray) (ha : Asc t) : (t.filter fun e => !(decide (e.1 = k))) = dropB t k := by
  obtain ⟨A, B, h1, h2, h3, h4, h5⟩ := asc_split (fun e : DE => e.1) k t ha
  have hlow : lowB t k = A := h2.symm
  unfold dropB
  have hAf : (A.filter fun e => !(decide (e.1 = k))) = A := List.filter_eq_self.2 fun a ha => by rw [decide_eq_false (blt_ne (h3 a ha))]; rfl
  rcases h5 with ⟨h5, h6⟩ | ⟨e, C, rfl, he, h5, h6⟩
  · have hhigh : highB t k = B := h5.symm
    have hBf : (B.filter fun e => !(decide (e.1 = k))) = B := List.filter_eq_self.2 fun a ha => by rw [decide_eq_false (h6 a ha)]; rfl
    rw [hlow, hhigh]
    conv => lhs; rw [h1, List.filter_append, hAf, hBf]
  · have hhigh : highB t k = C := h5.symm
    have hCf : (C.filter fun e => !(decide (e.1 = k))) = C := List.filter_eq_self.2 fun a ha => by rw [decide_eq_false (h6 a ha)]; rfl
    rw [hlow, hhigh]
    conv => lhs; rw [h1, List.filter_append, hAf, List.filter_cons_of_neg (by rw [decide_eq_true he]; simp), hCf]
theorem impl_drop_ok (d : DD) (k : ByteArray) (h : Bd d.1) (ha : Asc d.1) : __loop_example_g00124_impl_desk__drop d k = some (decide ((dropB d.1 k).length < d.1.length), ((dropB d.1 k, d.2), ())) := by
  obtain ⟨t, r⟩ := d
  have hl : t.length ≤ 4194304 := h.len
  rw [__loop_example_g00124_impl_desk__drop_eq, slices_DeleteFunc_Entry_drop_eq, slices_IndexFunc_Entry_drop_eq]
  have hi := idx_loop (fun i => slices_IndexFunc_Entry_drop_L0 t (t.length : Int) i k) (fun e : DE => decide (e.1 = k)) dflt t (fun n => some (n, ((), ())))
    (fun i hi => by
      conv => lhs; rw [slices_IndexFunc_Entry_drop_L0_eq]
      have e1 : decide ((i : Int) < (t.length : Int)) = true := decide_eq_true (by omega)
      have e2 : decide (0 ≤ (i : Int)) = true := decide_eq_true (by omega)
      have e3 : w64 ((i : Int) + 1) = ((i + 1 : Nat) : Int) := wrap_succ (by omega)
      simp only [e1, e2, e3, Bool.and_self, cond_true, Int.toNat_natCast, __loop_example_g00124_impl_desk__drop_1_eq, Option.bind_some, bytes_eq])
    (by
      show slices_IndexFunc_Entry_drop_L0 t (t.length : Int) (t.length : Int) k = _
      rw [slices_IndexFunc_Entry_drop_L0_eq]
      simp only [Int.lt_irrefl, decide_false, cond_false])
  have hd : (bif idxI (fun e : DE => decide (e.1 = k)) t 0 == -1 then some (t, ((), ())) else slices_DeleteFunc_Entry_drop_L0 t (idxI (fun e : DE => decide (e.1 = k)) t 0) (w64 (idxI (fun e : DE => decide (e.1 = k)) t 0 + 1)) k) = some (dropB t k, ((), ())) := by
    rw [← drop_filter t k ha]
    rcases idxI_spec (fun e : DE => decide (e.1 = k)) t 0 with ⟨h1, h2⟩ | ⟨j, h1, h2, h3, h4⟩
    · rw [h1, filter_none h2]; rfl
    · rw [h2]
      have hne : ((((0 + j : Nat) : Int)) == -1) = false := by rw [beq_dec]; exact decide_eq_false (by omega)
      rw [hne, cond_false, Nat.zero_add, show w64 ((j : Int) + 1) = ((j + 1 : Nat) : Int) from wrap_succ (by omega)]
      exact df_loop (fun xs i j => slices_DeleteFunc_Entry_drop_L0 xs i j k) (fun e : DE => decide (e.1 = k)) dflt t (fun l => some (l, ((), ())))
        (fun xs i j hj hij hxs _ => by
          conv => lhs; rw [slices_DeleteFunc_Entry_drop_L0_eq]
          have e1 : decide ((j : Int) < (xs.length : Int)) = true := decide_eq_true (by omega)
          have e2 : decide (0 ≤ (j : Int)) = true := decide_eq_true (by omega)
          have e3 : w64 ((j : Int) + 1) = ((j + 1 : Nat) : Int) := wrap_succ (by omega)
          have e4 : w64 ((i : Int) + 1) = ((i + 1 : Nat) : Int) := wrap_succ (by omega)
          have e5 : decide ((i : Int) < (xs.length : Int)) = true := decide_eq_true (by omega)
          have e6 : decide (0 ≤ (i : Int)) = true := decide_eq_true (by omega)
          simp only [e1, e2, e3, e4, e5, e6, Bool.and_self, cond_true, Int.toNat_natCast, __loop_example_g00124_impl_desk__drop_1_eq, Option.bind_some, bytes_eq])
        (fun xs i hi hxs => by
          show slices_DeleteFunc_Entry_drop_L0 xs (i : Int) (t.length : Int) k = _
          rw [slices_DeleteFunc_Entry_drop_L0_eq, ← hxs]
          have hz : (((List.take i xs) ++ (List.replicate (xs.length - i) dflt)) ++ (List.drop xs.length xs)).length = xs.length := by
            simp only [List.length_append, List.length_take, List.length_replicate, List.length_drop]; omega
          have hz' : (((List.take i xs) ++ (List.replicate (xs.length - i) (ByteArray.empty, ((0 : Int), ((0 : Int), (ByteArray.empty, ([] : List ByteArray))))))) ++ (List.drop xs.length xs)).length = xs.length := hz
          simp only [Int.lt_irrefl, decide_false, cond_false, decide_eq_true (show (0 : Int) ≤ (i : Int) by omega), decide_eq_true (show (i : Int) ≤ (xs.length : Int) by omega), Int.le_refl, decide_true, Bool.and_self, cond_true, Int.toNat_natCast, hz', show Int.toNat 0 = 0 from rfl, Nat.sub_zero, List.drop_zero]
          rw [List.append_assoc, List.take_append_of_le_length (by rw [List.length_take]; omega), List.take_take, Nat.min_self])
        j h1 h3 h4
  rw [hi]
  simp only [Option.bind_some]
  rw [hd]
  simp only [Option.bind_some]
  rw [show decide (((dropB t k).length : Int) < (t.length : Int)) = decide ((dropB t k).length < t.length) from decide_eq_decide.2 (by omega)]
end Go.Den.S
