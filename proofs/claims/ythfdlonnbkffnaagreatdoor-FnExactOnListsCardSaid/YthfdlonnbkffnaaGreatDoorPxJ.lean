/- PxJ: equations of the functions of this seat as the executor tells them, or plain facts about them. Conditions: none here. -/
import Derived.Test.YthfdlonnbkffnaaGreatDoorPxI
set_option linter.all false
set_option linter.unusedSimpArgs false
set_option linter.unusedVariables false
namespace Go.Den.S
open Go Go.Den
/-! ### fields -/
abbrev PF : Type := ByteArray × ByteArray
def flatF (P : List PF) : List ByteArray := P.flatMap fun p => [p.1, p.2]
theorem flatF_cons (p : PF) (P : List PF) : flatF (p :: P) = p.1 :: p.2 :: flatF P := rfl
theorem flatF_app (P Q : List PF) : flatF (P ++ Q) = flatF P ++ flatF Q := by simp [flatF]
theorem flatF_len : ∀ P : List PF, (flatF P).length = P.length * 2
  | [] => rfl
  | p :: P => by rw [flatF_cons, List.length_cons, List.length_cons, flatF_len P, List.length_cons]; omega
theorem flatF_mem {P : List PF} {s : ByteArray} (h : s ∈ flatF P) : ∃ p ∈ P, s = p.1 ∨ s = p.2 := by
  unfold flatF at h
  obtain ⟨p, hp, hs⟩ := List.mem_flatMap.1 h
  simp only [List.mem_cons, List.not_mem_nil, or_false] at hs
  exact ⟨p, hp, hs⟩
def pairsF : List ByteArray → List PF
  | a :: b :: r => (a, b) :: pairsF r
  | _ => []
theorem flat_pairs : ∀ (n : Nat) (l : List ByteArray), l.length = n * 2 → flatF (pairsF l) = l
  | 0, l, h => by
    have : l = [] := List.length_eq_zero_iff.1 (by omega)
    rw [this]; rfl
  | n + 1, [], h => by simp at h
  | n + 1, [a], h => by simp at h; omega
  | n + 1, a :: b :: r, h => by
    simp only [List.length_cons] at h
    show a :: b :: flatF (pairsF r) = _
    rw [flat_pairs n r (by omega)]
theorem flatF_get : ∀ (P : List PF) (j : Nat) (h : j < P.length), (flatF P).getD (j * 2) ByteArray.empty = P[j].1 ∧ (flatF P).getD (j * 2 + 1) ByteArray.empty = P[j].2
  | p :: P, 0, _ => ⟨rfl, rfl⟩
  | p :: P, j + 1, h => by
    have := flatF_get P j (by simpa using h)
    rw [flatF_cons, show (j + 1) * 2 = j * 2 + 1 + 1 by omega]
    exact this
def AscF (P : List PF) : Prop := P.Pairwise fun a b => blt a.1 b.1 = true
/-- Where a field stands or would stand. -/
def hdF (x : ByteArray) : List PF → Bool
  | [] => false
  | p :: _ => decide (p.1 = x)
def lowF (P : List PF) (x : ByteArray) : List PF := P.filter fun e => blt e.1 x
def highF (P : List PF) (x : ByteArray) : List PF := P.filter fun e => blt x e.1
def setF (P : List PF) (x v : ByteArray) : List PF := lowF P x ++ (x, v) :: highF P x
def delP (P : List PF) (x : ByteArray) : List PF := lowF P x ++ highF P x
theorem field_at {P : List PF} (h : AscF P) (x : ByteArray) : ∃ A B, P = A ++ B ∧ (∀ a ∈ A, blt a.1 x = true) ∧ (∀ b ∈ B, blt b.1 x = false) ∧ lowF P x = A ∧ ((hdF x B = false ∧ highF P x = B) ∨ ∃ v C, B = (x, v) :: C ∧ hdF x B = true ∧ highF P x = C) := by
  obtain ⟨A, B, h1, h2, h3, h4, h5⟩ := asc_split (fun p : PF => p.1) x P h
  refine ⟨A, B, h1, h3, h4, h2.symm, ?_⟩
  rcases h5 with ⟨h5, h6⟩ | ⟨e, C, rfl, he, h6, h7⟩
  · left
    refine ⟨?_, h5.symm⟩
    cases B with
    | nil => rfl
    | cons p C => exact decide_eq_false (h6 p (List.mem_cons_self ..))
  · right
    obtain ⟨e1, e2⟩ := e
    have he : e1 = x := he
    subst he
    exact ⟨e2, C, rfl, decide_eq_true rfl, h6.symm⟩
theorem at2_cond {P A B : List PF} {x : ByteArray} (h1 : P = A ++ B) (h2 : ∀ a ∈ A, blt a.1 x = true) (h3 : ∀ b ∈ B, blt b.1 x = false) :
    (∀ j, j < A.length → 0 + j * 2 < (flatF P).length ∧ blt ((flatF P).getD (0 + j * 2) ByteArray.empty) x = true) ∧ (0 + A.length * 2 < (flatF P).length → blt ((flatF P).getD (0 + A.length * 2) ByteArray.empty) x = false) ∧
      (atB (flatF P) (A.length * 2) x).2 = hdF x B := by
  have hlen : P.length = A.length + B.length := by rw [h1, List.length_append]
  refine ⟨fun j hj => ?_, fun hlt => ?_, ?_⟩
  · rw [flatF_len, Nat.zero_add]
    refine ⟨by omega, ?_⟩
    rw [(flatF_get P j (by omega)).1]
    have : P[j]'(by omega) = A[j] := by simp only [h1]; rw [List.getElem_append_left hj]
    rw [this]
    exact h2 _ (List.getElem_mem _)
  · rw [flatF_len, Nat.zero_add] at hlt
    rw [Nat.zero_add, (flatF_get P A.length (by omega)).1]
    have : P[A.length]'(by omega) = B[A.length - A.length]'(by omega) := by simp only [h1]; rw [List.getElem_append_right (by omega)]
    rw [this]
    exact h3 _ (List.getElem_mem _)
  · unfold atB
    rw [flatF_len]
    match B, hlen, h1 with
    | [], hlen, _ =>
      simp only [List.length_nil, Nat.add_zero] at hlen
      rw [decide_eq_false (show ¬ A.length * 2 < P.length * 2 by omega)]; rfl
    | p :: C, hlen, h1 =>
      simp only [List.length_cons] at hlen
      rw [decide_eq_true (show A.length * 2 < P.length * 2 by omega), (flatF_get P A.length (by omega)).1]
      have : P[A.length]'(by omega) = p := by simp only [h1]; simp
      rw [this]; rfl
theorem spec_at2 {P A B : List PF} {x : ByteArray} (hl : P.length ≤ 1000000) (h1 : P = A ++ B) (h2 : ∀ a ∈ A, blt a.1 x = true) (h3 : ∀ b ∈ B, blt b.1 x = false) : spec_l16At (flatF P) 2 x = some ((((A.length * 2 : Nat) : Int), hdF x B), ()) := by
  obtain ⟨c1, c2, c3⟩ := at2_cond h1 h2 h3
  have := l16At_gen (flatF P) 2 (by omega) (by omega) x (by rw [flatF_len]; omega) A.length c1 c2
  rw [show ((2 : Nat) : Int) = 2 from rfl] at this
  rw [this, ← c3]; rfl
theorem impl_at2 {P A B : List PF} {x : ByteArray} (hl : P.length ≤ 1000000) (h1 : P = A ++ B) (h2 : ∀ a ∈ A, blt a.1 x = true) (h3 : ∀ b ∈ B, blt b.1 x = false) : impl_fieldNo (flatF P) x = some ((((A.length * 2 : Nat) : Int), hdF x B), ()) := by
  obtain ⟨c1, c2, c3⟩ := at2_cond h1 h2 h3
  have hfl : (flatF P).length ≤ 2000000 := by rw [flatF_len]; omega
  rw [impl_fieldNo_eq]
  have := while_loop (fun i => impl_fieldNo_L0 (flatF P) x i) (fun i => blt ((flatF P).getD i ByteArray.empty) x) (fun i => some (atB (flatF P) i x, ())) 2 (flatF P).length
    (fun i hi => by
      conv => lhs; rw [impl_fieldNo_L0_eq]
      have e3 : w64 ((i : Int) + 2) = ((i + 2 : Nat) : Int) := by show IntKind.i64.wrap _ = _; rw [wrap64_id (by omega) (by omega)]; omega
      have e1 : decide ((i : Int) < ((flatF P).length : Int)) = true := decide_eq_true (by omega)
      have e2 : decide (0 ≤ (i : Int)) = true := decide_eq_true (by omega)
      simp only [e1, e2, e3, Bool.and_self, cond_true, Int.toNat_natCast, blt_eq, bytes_eq]
      unfold atB
      rw [decide_eq_true hi, cond_true])
    (fun i hi hi2 => by
      show impl_fieldNo_L0 (flatF P) x (i : Int) = _
      rw [impl_fieldNo_L0_eq]
      have e1 : decide ((i : Int) < ((flatF P).length : Int)) = false := decide_eq_false (by omega)
      simp only [e1, cond_false]
      unfold atB
      rw [decide_eq_false (show ¬ i < (flatF P).length by omega), cond_false]) A.length 0 c1 c2 (by omega)
  refine this.trans ?_
  rw [Nat.zero_add, ← c3]; rfl
theorem take2 (A B : List PF) : (flatF (A ++ B)).take (A.length * 2) = flatF A ∧ (flatF (A ++ B)).drop (A.length * 2) = flatF B := by
  rw [flatF_app, ← flatF_len A]
  exact ⟨by simp, by simp⟩
theorem setF_asc {P : List PF} (h : AscF P) (x v : ByteArray) : AscF (setF P x v) := by
  obtain ⟨A, B, h1, h2, h3, h4, h5⟩ := field_at h x
  unfold AscF setF at *
  have hl : (lowF P x).Pairwise fun a b => blt a.1 b.1 = true := List.Pairwise.filter _ h
  have hh : (highF P x).Pairwise fun a b => blt a.1 b.1 = true := List.Pairwise.filter _ h
  rw [List.pairwise_append]
  refine ⟨hl, ?_, fun a ha b hb => ?_⟩
  · rw [List.pairwise_cons]
    exact ⟨fun b hb => (List.mem_filter.1 hb).2, hh⟩
  · have ha' := (List.mem_filter.1 ha).2
    rcases List.mem_cons.1 hb with hb | hb
    · rw [hb]; exact ha'
    · exact blt_trans ha' (List.mem_filter.1 hb).2
theorem delP_asc {P : List PF} (h : AscF P) (x : ByteArray) : AscF (delP P x) := by
  unfold AscF delP at *
  have hl : (lowF P x).Pairwise fun a b => blt a.1 b.1 = true := List.Pairwise.filter _ h
  have hh : (highF P x).Pairwise fun a b => blt a.1 b.1 = true := List.Pairwise.filter _ h
  rw [List.pairwise_append]
  exact ⟨hl, hh, fun a ha b hb => blt_trans (List.mem_filter.1 ha).2 (List.mem_filter.1 hb).2⟩
/-- Is there such a field? -/
def hasF (P : List PF) (x : ByteArray) : Bool := P.any fun p => decide (p.1 = x)
theorem field_ops (P : List PF) (h : AscF P) (hl : P.length ≤ 100000) (x : ByteArray) : ∃ n : Nat, n = (lowF P x).length ∧ spec_l16At (flatF P) 2 x = some ((((n * 2 : Nat) : Int), hasF P x), ()) ∧ impl_fieldNo (flatF P) x = some ((((n * 2 : Nat) : Int), hasF P x), ()) ∧
    (hasF P x = false → delP P x = P ∧ ∀ v, spec_l16In (flatF P) ((n * 2 : Nat) : Int) [x, v] = some (flatF (setF P x v), ()) ∧ slices_Insert___string_string_ (flatF P) ((n * 2 : Nat) : Int) [x, v] = some (flatF (setF P x v), ())) ∧
    (hasF P x = true → n < P.length ∧ (delP P x).length + 1 = P.length ∧ ∃ w, (flatF P).getD (n * 2 + 1) ByteArray.empty = w ∧ spec_l16Cut (flatF P) ((n * 2 : Nat) : Int) 2 = some (flatF (delP P x), ()) ∧ slices_Delete___string_string_ (flatF P) ((n * 2 : Nat) : Int) ((n * 2 + 2 : Nat) : Int) = some (flatF (delP P x), ()) ∧
      ∀ v, spec_l16In (flatF (delP P x)) ((n * 2 : Nat) : Int) [x, v] = some (flatF (setF P x v), ()) ∧ (flatF P).set (n * 2 + 1) v = flatF (setF P x v)) := by
  obtain ⟨A, B, h1, h2, h3, h4, h5⟩ := field_at h x
  have hlen : P.length = A.length + B.length := by rw [h1, List.length_append]
  have hfl := flatF_len P
  have hA := flatF_len A
  have hno : ∀ a ∈ A, decide (a.1 = x) = false := fun a ha => decide_eq_false (blt_ne (h2 a ha))
  have hhas : hasF P x = hdF x B := by
    unfold hasF
    rw [h1, List.any_append]
    have e1 : (A.any fun p => decide (p.1 = x)) = false := by
      rw [List.any_eq_false]
      intro a ha
      rw [hno a ha]; simp
    rw [e1, Bool.false_or]
    rcases h5 with ⟨h5, h6⟩ | ⟨v, C, rfl, h5, h6⟩
    · rw [h5, List.any_eq_false]
      intro b hb
      rw [← h6] at hb
      have := (List.mem_filter.1 hb).2
      rw [decide_eq_false (blt_ne this).symm]; simp
    · rw [h5]
      simp
  have t1 := (take2 A B).1
  have t2 := (take2 A B).2
  rw [← h1] at t1 t2
  refine ⟨A.length, by rw [h4], by rw [spec_at2 (by omega) h1 h2 h3, hhas], by rw [impl_at2 (by omega) h1 h2 h3, hhas], fun hf => ?_, fun hf => ?_⟩
  · rw [hhas] at hf
    rcases h5 with ⟨h5, h6⟩ | ⟨v, C, _, h5, _⟩
    · refine ⟨by unfold delP; rw [h4, h6]; exact h1.symm, fun v => ?_⟩
      have e : flatF (setF P x v) = flatF A ++ [x, v] ++ flatF B := by
        unfold setF
        rw [h4, h6, flatF_app, flatF_cons, List.append_assoc]; rfl
      exact ⟨by rw [l16In_ok _ _ _ (by omega) (by simp; omega), t1, t2, e], by rw [Insert_ok _ _ _ (by omega) (by simp) (by simp; omega), t1, t2, e]⟩
    · rw [hf] at h5; cases h5
  · rw [hhas] at hf
    rcases h5 with ⟨h5, _⟩ | ⟨w, C, rfl, h5, h6⟩
    · rw [hf] at h5; cases h5
    · simp only [List.length_cons] at hlen
      have e1 : delP P x = A ++ C := by unfold delP; rw [h4, h6]
      have hd : (flatF P).drop (A.length * 2 + 2) = flatF C := by rw [← List.drop_drop, t2, flatF_cons]; rfl
      have hd2 : flatF P = flatF A ++ x :: w :: flatF C := by rw [h1, flatF_app, flatF_cons]
      refine ⟨by omega, by rw [e1, List.length_append]; omega, w, ?_, ?_, ?_, fun v => ⟨?_, ?_⟩⟩
      · rw [(flatF_get P A.length (by omega)).2]
        have : P[A.length]'(by omega) = (x, w) := by simp only [h1]; simp
        rw [this]
      · have := l16Cut_ok (flatF P) (A.length * 2) 2 (by omega) (by omega)
        rw [show ((2 : Nat) : Int) = 2 from rfl] at this
        rw [this, t1, hd, e1, flatF_app]
      · rw [Delete_ok _ _ _ (by omega) (by omega) (by omega), t1, hd, e1, flatF_app]
      · have q1 := (take2 A C).1
        have q2 := (take2 A C).2
        rw [e1, l16In_ok _ _ _ (by rw [flatF_len, List.length_append]; omega) (by rw [flatF_len, List.length_append]; simp; omega), q1, q2]
        unfold setF
        rw [h4, h6, flatF_app, flatF_cons, List.append_assoc]; rfl
      · unfold setF
        rw [h4, h6, hd2, flatF_app, flatF_cons, ← hA, List.set_append_right _ _ (by omega), show (flatF A).length + 1 - (flatF A).length = 1 by omega]
        rfl
theorem val_fields {v : DV} (h : valB v = true) (h3 : v.1 = 3) : ∃ P, v.2.2.2 = flatF P ∧ AscF P ∧ P.length ≤ 12 := by
  have h24 := (val_its h).1
  unfold valB at h
  have h1 : ¬ v.1 = 1 := by omega
  simp only [decide_eq_false h1, cond_false, Bool.and_eq_true, decide_eq_true h3, Bool.not_true, Bool.false_or, decide_eq_true_eq] at h
  have hi := h.2.2
  have he := h.2.1.2
  have hs : stB v.1 = 2 := by unfold stB; rw [if_neg (by omega), if_pos h3]
  rw [hs] at hi
  have hf := flat_pairs (v.2.2.2.length / 2) v.2.2.2 (by omega)
  have hpl := flatF_len (pairsF v.2.2.2)
  rw [hf] at hpl
  refine ⟨pairsF v.2.2.2, hf.symm, ?_, by omega⟩
  unfold itsB at hi
  rw [List.all_eq_true] at hi
  generalize pairsF v.2.2.2 = P at hf hpl
  have := adj_sorted (fun a b : PF => blt a.1 b.1 = true) (fun _ _ _ h k => blt_trans h k) (fun i => P.getD i (ByteArray.empty, ByteArray.empty)) P.length fun i hlt => by
    have := hi ((i + 1) * 2) (List.mem_range.2 (by omega))
    unfold itB at this
    have m2 : (i + 1) * 2 % 2 = 0 := by omega
    simp only [Bool.and_eq_true, Bool.or_eq_true, Bool.not_eq_true', Bool.and_eq_false_iff, decide_eq_false_iff_not, m2] at this
    rcases this.2 with h | h
    · rcases h with h | h
      · rcases h with h | h
        · exact absurd (by omega) h
        · exact absurd trivial h
      · omega
    · rw [show (i + 1) * 2 - 2 = i * 2 by omega] at h
      rw [← hf] at h
      have q1 := (flatF_get P i (by omega)).1
      have q2 := (flatF_get P (i + 1) hlt).1
      show blt (P.getD i _).1 (P.getD (i + 1) _).1 = true
      rw [getD_get (by omega), getD_get hlt, ← q1, ← q2]
      exact h
  unfold AscF
  rw [List.pairwise_iff_getElem]
  intro i j hi hj hij
  have := this i j hij hj
  rwa [getD_get hi, getD_get hj] at this
end Go.Den.S
