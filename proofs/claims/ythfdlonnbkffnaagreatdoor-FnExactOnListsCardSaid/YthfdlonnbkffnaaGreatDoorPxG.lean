/- PxG: equations of the functions of this seat as the executor tells them, or plain facts about them. Conditions: none here. -/
import Derived.Test.YthfdlonnbkffnaaGreatDoorPxF
set_option linter.all false
set_option linter.unusedSimpArgs false
set_option linter.unusedVariables false
namespace Go.Den.S
open Go Go.Den
/-! ### rows of texts that go up -/
def AscS (l : List ByteArray) : Prop := l.Pairwise fun a b => blt a b = true
def hdS (x : ByteArray) : List ByteArray → Bool
  | [] => false
  | y :: _ => decide (y = x)
theorem ascS_split (x : ByteArray) {l : List ByteArray} (h : AscS l) : ∃ A B, l = A ++ B ∧ (∀ a ∈ A, blt a x = true) ∧ (∀ b ∈ B, blt b x = false) ∧
    ((hdS x B = false ∧ x ∉ l ∧ ∀ b ∈ B, blt x b = true) ∨ ∃ C, B = x :: C ∧ (∀ a ∈ A, a ≠ x) ∧ ∀ c ∈ C, c ≠ x) := by
  obtain ⟨A, B, h1, h2, h3, h4, h5⟩ := asc_split (fun s : ByteArray => s) x l h
  refine ⟨A, B, h1, h3, h4, ?_⟩
  rcases h5 with ⟨h5, h6⟩ | ⟨e, C, h5, he, h6, h7⟩
  · left
    refine ⟨?_, fun hx => ?_, fun b hb => blt_total (h6 b hb) (h4 b hb)⟩
    · cases B with
      | nil => rfl
      | cons y C => exact decide_eq_false (h6 y (List.mem_cons_self ..))
    · rw [h1] at hx
      rcases List.mem_append.1 hx with hx | hx
      · exact blt_ne (h3 x hx) rfl
      · exact h6 x hx rfl
  · right
    have he : e = x := he
    subst he
    exact ⟨C, h5, fun a ha => blt_ne (h3 a ha), h7⟩
theorem notNaN (a : ByteArray) : (!(a.toList == a.toList)) = false := by simp
theorem bs_ok (l : List ByteArray) (x : ByteArray) (hl : l.length ≤ 100000000) {A B : List ByteArray} (hAB : l = A ++ B) (hA : ∀ a ∈ A, blt a x = true) (hB : ∀ b ∈ B, blt b x = false) :
    slices_BinarySearch___string_string_ l x = some (((A.length : Int), hdS x B), ()) := by
  have hlen : l.length = A.length + B.length := by rw [hAB, List.length_append]
  rw [slices_BinarySearch___string_string__eq]
  have hget : ∀ i, i < l.length → blt (l.getD i ByteArray.empty) x = decide (i < A.length) := fun i hi => by
    rw [getD_get hi]
    by_cases hlt : i < A.length
    · rw [decide_eq_true hlt]
      have : l[i] = A[i] := by simp only [hAB]; rw [List.getElem_append_left hlt]
      rw [this]
      exact hA _ (List.getElem_mem _)
    · rw [decide_eq_false hlt]
      have : l[i] = B[i - A.length]'(by omega) := by simp only [hAB]; rw [List.getElem_append_right (by omega)]
      rw [this]
      exact hB _ (List.getElem_mem _)
  have := bs_loop (fun lo hi => slices_BinarySearch___string_string__L0 l x (l.length : Int) lo hi) (fun i => blt (l.getD i ByteArray.empty) x) l.length A.length (by omega) hget
    (fun lo hi hlt hhi => by
      conv => lhs; rw [slices_BinarySearch___string_string__L0_eq]
      have hm : w64 (shrI Go.IntKind.u64 (Go.IntKind.u64.wrap (w64 ((lo : Int) + (hi : Int)))) 1) = (((lo + hi) / 2 : Nat) : Int) := mid_ok (by omega)
      have e3 : w64 ((((lo + hi) / 2 : Nat) : Int) + 1) = (((lo + hi) / 2 + 1 : Nat) : Int) := wrap_succ (by omega)
      simp only [decide_eq_true (show (lo : Int) < (hi : Int) by omega), hm, e3, decide_eq_true (show (0 : Int) ≤ (((lo + hi) / 2 : Nat) : Int) by omega), decide_eq_true (show (((lo + hi) / 2 : Nat) : Int) < (l.length : Int) by omega), Bool.and_self, cond_true, Int.toNat_natCast, cmp_Less_string__eq, cmp_isNaN_string__eq, notNaN, Option.bind_some, cond_false, blt_eq])
  rw [this, slices_BinarySearch___string_string__L0_eq]
  simp only [Int.lt_irrefl, decide_false, cond_false]
  match B, hlen, hAB, hB with
  | [], hlen, _, _ =>
    simp only [List.length_nil, Nat.add_zero] at hlen
    rw [decide_eq_false (show ¬ ((A.length : Int) < (l.length : Int)) by omega)]
    rfl
  | e :: C, hlen, hAB, hB =>
    simp only [List.length_cons] at hlen
    have hg : l.getD A.length ByteArray.empty = e := by rw [List.getD_eq_getElem?_getD, hAB]; simp
    simp only [decide_eq_true (show ((A.length : Int) < (l.length : Int)) by omega), decide_eq_true (show (0 : Int) ≤ (A.length : Int) by omega), Bool.and_self, cond_true, Int.toNat_natCast, hg, bytes_eq, slices_isNaN_string__eq, Option.bind_some]
    by_cases he : e = x
    · rw [show hdS x (e :: C) = true from decide_eq_true he, decide_eq_true he]; rfl
    · rw [show hdS x (e :: C) = false from decide_eq_false he, decide_eq_false he]
      simp
/-- On, step by step, while it is so. -/
theorem while_loop {R : Type} (F : Int → Option R) (p : Nat → Bool) (G : Nat → Option R) (s n : Nat) (hF : ∀ i, i < n → F (i : Int) = bif p i then F ((i + s : Nat) : Int) else G i) (hE : ∀ i, n ≤ i → i ≤ n + s → F (i : Int) = G i) :
    ∀ (m i : Nat), (∀ j, j < m → i + j * s < n ∧ p (i + j * s) = true) → (i + m * s < n → p (i + m * s) = false) → i ≤ n + s → F (i : Int) = G (i + m * s)
  | 0, i, h, k, hi => by
    by_cases hlt : i < n
    · have := k (by omega)
      rw [hF i hlt]
      simp only [Nat.zero_mul, Nat.add_zero] at this ⊢
      rw [this]; rfl
    · rw [hE i (by omega) hi]; simp
  | m + 1, i, h, k, hi => by
    obtain ⟨h1, h2⟩ := h 0 (by omega)
    simp only [Nat.zero_mul, Nat.add_zero] at h1 h2
    rw [hF i h1, h2, cond_true]
    have := while_loop F p G s n hF hE m (i + s) (fun j hj => by
      have := h (j + 1) (by omega)
      rw [Nat.add_mul, Nat.one_mul] at this
      rw [show i + s + j * s = i + (j * s + s) by omega]
      exact this) (fun hlt => by
      rw [Nat.add_mul, Nat.one_mul] at k
      rw [show i + s + m * s = i + (m * s + s) by omega] at hlt ⊢
      exact k hlt) (by omega)
    rw [this]
    congr 1
    rw [Nat.add_mul, Nat.one_mul]; omega
/-- Where x stands or would stand, and whether it does. -/
def atB (l : List ByteArray) (i : Nat) (x : ByteArray) : Int × Bool := ((i : Int), bif decide (i < l.length) then decide (l.getD i ByteArray.empty = x) else false)
theorem l16At_gen (l : List ByteArray) (s : Nat) (hs : s ≤ 2) (hs0 : 1 ≤ s) (x : ByteArray) (hl : l.length ≤ 100000000) (m : Nat) (h : ∀ j, j < m → 0 + j * s < l.length ∧ blt (l.getD (0 + j * s) ByteArray.empty) x = true) (k : 0 + m * s < l.length → blt (l.getD (0 + m * s) ByteArray.empty) x = false) :
    spec_l16At l (s : Int) x = some (atB l (m * s) x, ()) := by
  rw [spec_l16At_eq]
  have := while_loop (fun i => spec_l16At_L0 l (s : Int) x i) (fun i => blt (l.getD i ByteArray.empty) x) (fun i => some (atB l i x, ())) s l.length
    (fun i hi => by
      conv => lhs; rw [spec_l16At_L0_eq]
      have e3 : w64 ((i : Int) + (s : Int)) = ((i + s : Nat) : Int) := by show IntKind.i64.wrap _ = _; rw [wrap64_id (by omega) (by omega)]; omega
      have e1 : decide ((i : Int) < (l.length : Int)) = true := decide_eq_true (by omega)
      have e2 : decide (0 ≤ (i : Int)) = true := decide_eq_true (by omega)
      simp only [e1, e2, e3, Bool.and_self, cond_true, Int.toNat_natCast, blt_eq, bytes_eq]
      unfold atB
      rw [decide_eq_true hi, cond_true])
    (fun i hi hi2 => by
      show spec_l16At_L0 l (s : Int) x (i : Int) = _
      rw [spec_l16At_L0_eq]
      have e1 : decide ((i : Int) < (l.length : Int)) = false := decide_eq_false (by omega)
      simp only [e1, cond_false]
      unfold atB
      rw [decide_eq_false (show ¬ i < l.length by omega), cond_false]) m 0 h k (by omega)
  refine this.trans ?_
  rw [Nat.zero_add]
theorem l16At_one (l : List ByteArray) (x : ByteArray) (hl : l.length ≤ 100000000) {A B : List ByteArray} (hAB : l = A ++ B) (hA : ∀ a ∈ A, blt a x = true) (hB : ∀ b ∈ B, blt b x = false) :
    spec_l16At l 1 x = some (((A.length : Int), hdS x B), ()) := by
  have hlen : l.length = A.length + B.length := by rw [hAB, List.length_append]
  have := l16At_gen l 1 (by omega) (by omega) x hl A.length (fun j hj => by
    simp only [Nat.zero_add, Nat.mul_one]
    refine ⟨by omega, ?_⟩
    rw [getD_get (by omega)]
    have : l[j]'(by omega) = A[j] := by simp only [hAB]; rw [List.getElem_append_left hj]
    rw [this]
    exact hA _ (List.getElem_mem _)) (fun hlt => by
    simp only [Nat.zero_add, Nat.mul_one] at hlt ⊢
    rw [getD_get hlt]
    have : l[A.length] = B[A.length - A.length]'(by omega) := by simp only [hAB]; rw [List.getElem_append_right (by omega)]
    rw [this]
    exact hB _ (List.getElem_mem _))
  refine this.trans ?_
  unfold atB
  simp only [Nat.mul_one]
  match B, hlen, hAB with
  | [], hlen, _ =>
    simp only [List.length_nil, Nat.add_zero] at hlen
    rw [decide_eq_false (by omega)]; rfl
  | e :: C, hlen, hAB =>
    simp only [List.length_cons] at hlen
    have hg : l.getD A.length ByteArray.empty = e := by rw [List.getD_eq_getElem?_getD, hAB]; simp
    rw [decide_eq_true (by omega), hg]; rfl
theorem l16In_ok (l xs : List ByteArray) (a : Nat) (ha : a ≤ l.length) (hl : l.length + xs.length ≤ 100000000) : spec_l16In l (a : Int) xs = some (l.take a ++ xs ++ l.drop a, ()) := by
  rw [spec_l16In_eq]
  have e1 : decide ((a : Int) ≤ (l.length : Int)) = true := decide_eq_true (by omega)
  have e2 : decide (0 ≤ (a : Int)) = true := decide_eq_true (by omega)
  have e3 : l.take (a - 0) = l.take a := rfl
  have e5 : (l.drop a).take (l.length - a) = l.drop a := List.take_of_length_le (by rw [List.length_drop]; omega)
  have l1 : (l.take a).length = a := by rw [List.length_take]; omega
  have l2 : (l.drop a).length = l.length - a := List.length_drop
  simp only [Int.le_refl, decide_true, e1, e2, Bool.and_self, cond_true, Int.toNat_natCast, show Int.toNat 0 = 0 from rfl, List.drop_zero, Nat.sub_zero, List.nil_append, e5, List.length_append, l1, l2, lim_true (show (0 + a) * 16 ≤ 140737488355328 by omega), lim_true (show (a + xs.length) * 16 ≤ 140737488355328 by omega), lim_true (show (a + xs.length + (l.length - a)) * 16 ≤ 140737488355328 by omega)]
theorem l16Cut_ok (l : List ByteArray) (a n : Nat) (ha : a + n ≤ l.length) (hl : l.length ≤ 100000000) : spec_l16Cut l (a : Int) (n : Int) = some (l.take a ++ l.drop (a + n), ()) := by
  rw [spec_l16Cut_eq]
  have e1 : decide ((a : Int) ≤ (l.length : Int)) = true := decide_eq_true (by omega)
  have e2 : decide (0 ≤ (a : Int)) = true := decide_eq_true (by omega)
  have e4 : w64 ((a : Int) + (n : Int)) = ((a + n : Nat) : Int) := by show IntKind.i64.wrap _ = _; rw [wrap64_id (by omega) (by omega)]; omega
  have e5 : (l.drop (a + n)).take (l.length - (a + n)) = l.drop (a + n) := List.take_of_length_le (by rw [List.length_drop]; omega)
  have e6 : decide (((a + n : Nat) : Int) ≤ (l.length : Int)) = true := decide_eq_true (by omega)
  have e7 : decide (0 ≤ ((a + n : Nat) : Int)) = true := decide_eq_true (by omega)
  have l1 : (l.take a).length = a := by rw [List.length_take]; omega
  have l2 : (l.drop (a + n)).length = l.length - (a + n) := List.length_drop
  simp only [Int.le_refl, decide_true, e1, e2, e4, e6, e7, Bool.and_self, cond_true, Int.toNat_natCast, show Int.toNat 0 = 0 from rfl, List.drop_zero, Nat.sub_zero, List.nil_append, e5, l1, l2, lim_true (show (0 + a) * 16 ≤ 140737488355328 by omega), lim_true (show (a + (l.length - (a + n))) * 16 ≤ 140737488355328 by omega)]
theorem Insert_ok (l xs : List ByteArray) (a : Nat) (ha : a ≤ l.length) (hx : 0 < xs.length) (hl : l.length + xs.length ≤ 100000000) : slices_Insert___string_string_ l (a : Int) xs = some (l.take a ++ xs ++ l.drop a, ()) := by
  rw [slices_Insert___string_string__eq]
  unfold insF
  simp only [decide_eq_true (show (0 : Int) ≤ (a : Int) by omega), decide_eq_true (show (a : Int) ≤ (l.length : Int) by omega), decide_eq_true hx, lim_true (show (l.length + xs.length) * 16 ≤ 140737488355328 by omega), Bool.and_self, cond_true, Int.toNat_natCast]
theorem Delete_ok (l : List ByteArray) (a b : Nat) (hab : a ≤ b) (hb : b ≤ l.length) (hl : l.length ≤ 100000000) : slices_Delete___string_string_ l (a : Int) (b : Int) = some (l.take a ++ l.drop b, ()) := by
  rw [slices_Delete___string_string__eq]
  unfold delF
  simp only [decide_eq_true (show (0 : Int) ≤ (a : Int) by omega), decide_eq_true (show (a : Int) ≤ (b : Int) by omega), decide_eq_true (show (b : Int) ≤ (l.length : Int) by omega), lim_true (show l.length * 16 ≤ 140737488355328 by omega), Bool.and_self, cond_true, Int.toNat_natCast]
/-! ### sets -/
def addS (l : List ByteArray) (x : ByteArray) : List ByteArray := bif memB x l then l else (l.filter fun a => blt a x) ++ x :: l.filter fun a => blt x a
theorem filter_low {A B : List ByteArray} {x : ByteArray} (hA : ∀ a ∈ A, blt a x = true) (hB : ∀ b ∈ B, blt b x = false) : (A ++ B).filter (fun a => blt a x) = A := by
  rw [List.filter_append, List.filter_eq_self.2 hA, List.filter_eq_nil_iff.2 fun b hb => by rw [hB b hb]; simp, List.append_nil]
theorem filter_high {A B : List ByteArray} {x : ByteArray} (hA : ∀ a ∈ A, blt a x = true) (hB : ∀ b ∈ B, blt x b = true) : (A ++ B).filter (fun a => blt x a) = B := by
  rw [List.filter_append, List.filter_eq_self.2 hB, List.filter_eq_nil_iff.2 fun a ha => by rw [blt_asymm (hA a ha)]; simp, List.nil_append]
/-- What a text does to a set, and where. -/
theorem set_at {l : List ByteArray} (h : AscS l) (x : ByteArray) : ∃ A B, l = A ++ B ∧ (∀ a ∈ A, blt a x = true) ∧ (∀ b ∈ B, blt b x = false) ∧ hdS x B = memB x l ∧ (hdS x B = false → addS l x = A ++ [x] ++ B) ∧ (hdS x B = true → ∃ C, B = x :: C ∧ addS l x = l ∧ (l.filter fun s => !(decide (s = x))) = A ++ C) ∧ AscS (addS l x) := by
  obtain ⟨A, B, h1, h2, h3, h4⟩ := ascS_split x h
  refine ⟨A, B, h1, h2, h3, ?_⟩
  rcases h4 with ⟨h4, h5, h6⟩ | ⟨C, rfl, h5, h6⟩
  · have hm : memB x l = false := memB_false.2 h5
    have ha : addS l x = A ++ [x] ++ B := by
      unfold addS
      rw [hm, cond_false, h1, filter_low h2 h3, filter_high h2 h6, List.append_assoc]; rfl
    refine ⟨by rw [h4, hm], fun _ => ha, (fun h => by rw [h4] at h; cases h), ?_⟩
    unfold AscS at h ⊢
    rw [ha, List.append_assoc, List.pairwise_append]
    rw [h1, List.pairwise_append] at h
    refine ⟨h.1, ?_, fun a ha' b hb => ?_⟩
    · rw [List.singleton_append, List.pairwise_cons]
      exact ⟨h6, h.2.1⟩
    · rw [List.singleton_append] at hb
      rcases List.mem_cons.1 hb with hb | hb
      · rw [hb]; exact h2 a ha'
      · exact h.2.2 a ha' b hb
  · have hm : memB x l = true := memB_iff.2 (by rw [h1]; simp)
    have ha : addS l x = l := by unfold addS; rw [hm, cond_true]
    have hh : hdS x (x :: C) = true := decide_eq_true rfl
    refine ⟨by rw [hh, hm], (fun h => by rw [hh] at h; cases h), fun _ => ⟨C, rfl, ha, ?_⟩, by rw [ha]; exact h⟩
    rw [h1, List.filter_append, List.filter_eq_self.2 fun a ha => by rw [decide_eq_false (h5 a ha)]; rfl, List.filter_cons_of_neg (by simp), List.filter_eq_self.2 fun c hc => by rw [decide_eq_false (h6 c hc)]; rfl]
def addAll (l xs : List ByteArray) : List ByteArray := xs.foldl addS l
theorem addS_len (l : List ByteArray) (x : ByteArray) (h : AscS l) : (addS l x).length = l.length + (bif memB x l then 0 else 1) := by
  obtain ⟨A, B, h1, _, _, h4, h5, h6, _⟩ := set_at h x
  cases hm : memB x l with
  | true =>
    obtain ⟨C, _, h7, _⟩ := h6 (h4.trans hm)
    rw [h7]; rfl
  | false =>
    rw [h5 (h4.trans hm)]
    conv => rhs; rw [h1]
    simp only [List.length_append, List.length_singleton, cond_false]; omega
theorem addAll_asc {l : List ByteArray} : ∀ (xs : List ByteArray) {l : List ByteArray}, AscS l → AscS (addAll l xs) ∧ l.length ≤ (addAll l xs).length ∧ (addAll l xs).length ≤ l.length + xs.length
  | [], l, h => ⟨h, Nat.le_refl _, by simp [addAll]⟩
  | x :: r, l, h => by
    obtain ⟨_, _, _, _, _, _, _, _, h7⟩ := set_at h x
    obtain ⟨k1, k2, k3⟩ := addAll_asc (l := l) r h7
    have hl := addS_len l x h
    refine ⟨k1, ?_, ?_⟩
    · show _ ≤ (addAll (addS l x) r).length
      omega
    · show (addAll (addS l x) r).length ≤ _
      simp only [List.length_cons]
      have : (bif memB x l then 0 else 1) ≤ 1 := by cases memB x l <;> decide
      omega
theorem addS_mem {l : List ByteArray} {x s : ByteArray} (h : s ∈ addS l x) : s ∈ l ∨ s = x := by
  unfold addS at h
  cases hm : memB x l with
  | true => rw [hm] at h; exact .inl h
  | false =>
    rw [hm, cond_false] at h
    rcases List.mem_append.1 h with h | h
    · exact .inl (List.mem_filter.1 h).1
    · rcases List.mem_cons.1 h with h | h
      · exact .inr h
      · exact .inl (List.mem_filter.1 h).1
theorem addAll_mem : ∀ (xs l : List ByteArray) (s : ByteArray), s ∈ addAll l xs → s ∈ l ∨ s ∈ xs
  | [], l, s, h => .inl h
  | x :: r, l, s, h => by
    rcases addAll_mem r (addS l x) s h with h | h
    · rcases addS_mem h with h | h
      · exact .inl h
      · exact .inr (by rw [h]; exact List.mem_cons_self ..)
    · exact .inr (List.mem_cons_of_mem _ h)
def remAll (l xs : List ByteArray) : List ByteArray := l.filter fun s => !(memB s xs)
def delS (l : List ByteArray) (x : ByteArray) : List ByteArray := l.filter fun s => !(decide (s = x))
theorem remAll_cons (l : List ByteArray) (x : ByteArray) (r : List ByteArray) : remAll (delS l x) r = remAll l (x :: r) := by
  unfold remAll delS
  rw [List.filter_filter]
  congr 1
  funext s
  have : memB s (x :: r) = (decide (s = x) || memB s r) := by
    by_cases e : s = x
    · rw [decide_eq_true e, e]; simp [memB]
    · rw [decide_eq_false e]
      cases h : memB s r with
      | true => exact memB_iff.2 (List.mem_cons_of_mem _ (memB_iff.1 h))
      | false => exact memB_false.2 fun hm => (List.mem_cons.1 hm).elim e (memB_false.1 h)
  rw [this]
  cases memB s r <;> cases decide (s = x) <;> rfl
end Go.Den.S
