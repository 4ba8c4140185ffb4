/- PxP: equations of the functions of this seat as the executor tells them, or plain facts about them. Conditions: none here. -/
import Derived.Test.YthfdlonnbkffnaaGreatDoorPxO
set_option linter.all false
set_option linter.unusedSimpArgs false
set_option linter.unusedVariables false
namespace Go.Den.S
open Go Go.Den
theorem und_nil {t : List DE} {k : ByteArray} (hf : (fndB t k).2 = false) : (undB t k).2.2 = [] := by
  have : (fndB t k).1 = (0, (0, (ByteArray.empty, []))) := by
    unfold fndB at hf ⊢
    cases hx : t.find? fun e => decide (e.1 = k) with
    | none => rfl
    | some e => rw [hx] at hf; cases hf
  unfold undB
  rw [this]
theorem val_pos {v : DV} (h : valB v = true) (h2 : v.1 = 2) : 1 ≤ v.2.2.2.length := by
  unfold valB at h
  have h1 : ¬ v.1 = 1 := by omega
  simp only [decide_eq_false h1, cond_false, Bool.and_eq_true, decide_eq_true_eq] at h
  exact h.2.1.1.1.2
section
variable (t : List DE) (ht : tabB t = true) (k : ByteArray) (vals : List ByteArray) (hv : vals.length ≤ 2097152)
include ht
theorem und_pos (hw : wrongB t k 2 = false) (hf : (fndB t k).2 = true) : 1 ≤ (undB t k).2.2.length := by
  have hx := (fnd_val ht hf).1
  unfold wrongB at hw
  rw [hf] at hw
  simp only [Bool.true_and, Bool.not_eq_false', decide_eq_true_eq] at hw
  exact val_pos hx hw
include hv
theorem impl_list_ok (u : ByteArray) (hu : u ∈ lstN) (h2 : ((u = c_LPUSH ∨ u = c_RPUSH) → 1 ≤ vals.length) ∧ (u = c_LINDEX → 1 ≤ vals.length) ∧ (u = c_LRANGE → 2 ≤ vals.length)) (hs : ∀ s ∈ vals, s.size ≤ 4194304) : __loop_example_g00124_impl_desk__list (t, (ByteArray.empty, false)) u k vals = some ((), (lstD t u k vals, ())) := by
  have hb := tab_bd ht
  have has := tab_asc ht
  obtain ⟨n1, n2, n3⟩ := und_bd (k := k) ht
  rw [__loop_example_g00124_impl_desk__list_eq, find_wrong t k 2 hb]
  simp only [Option.bind_some, bytes_eq]
  unfold lstD
  obtain ⟨d, hd⟩ : ∃ d : DD, d = (bif wrongB t k 2 then (t, (faultB c_WRONGTYPE, true)) else (t, (ByteArray.empty, false))) := ⟨_, rfl⟩
  have hd1 : d.1 = t := by rw [hd]; cases wrongB t k 2 <;> rfl
  have hd2 : d.2.2 = wrongB t k 2 := by rw [hd]; cases wrongB t k 2 <;> rfl
  have hdw : wrongB t k 2 = true → d = (t, (faultB c_WRONGTYPE, true)) := fun h => by rw [hd, h]; rfl
  have hdr : wrongB t k 2 = false → d = (t, (ByteArray.empty, false)) := fun h => by rw [hd, h]; rfl
  rw [← hd]
  have hbd : Bd d.1 := by rw [hd1]; exact hb
  have had : Asc d.1 := by rw [hd1]; exact has
  have hsay : ∀ r, wrongB t k 2 = true → sayB d r = (t, (faultB c_WRONGTYPE, true)) := fun r h => by rw [hdw h]; rfl
  by_cases e1 : u = c_LPUSH
  · have hp := h2.1 (.inl e1)
    have hlen : (vals.reverse ++ (undB t k).2.2).length = vals.length + (undB t k).2.2.length := by simp
    have hne : ¬ (vals.reverse ++ (undB t k).2.2) = [] := fun e => by rw [e] at hlen; simp at hlen; omega
    simp only [decide_eq_true e1, cond_true]
    show __loop_example_g00124_impl_desk__list_L1 k vals (vals.length : Int) 0 d.1 d.2.1 d.2.2 2 (undB t k).1 (undB t k).2.1 (undB t k).2.2 = _
    rw [list_L1_ok k vals d 2 _ _ _ (by omega), impl_put_ok d k _ hbd had, impl_Number_ok _ (by omega) (by omega)]
    simp only [Option.bind_some, say_ok]
    unfold keepB
    rw [decide_eq_false hne]
    cases hw : wrongB t k 2 with
    | true => rw [hdw hw]; rfl
    | false => rw [hdr hw]; rfl
  · simp only [decide_eq_false e1, cond_false]
    by_cases e2 : u = c_RPUSH
    · have hp := h2.1 (.inr e2)
      have hlen : ((undB t k).2.2 ++ vals).length = (undB t k).2.2.length + vals.length := List.length_append
      have hne : ¬ ((undB t k).2.2 ++ vals) = [] := fun e => by rw [e] at hlen; simp at hlen; omega
      simp only [decide_eq_true e2, cond_true, lim_true (show ((undB t k).2.2.length + vals.length) * 16 ≤ 140737488355328 by omega)]
      rw [impl_put_ok d k _ hbd had, impl_Number_ok _ (by omega) (by omega)]
      simp only [Option.bind_some, say_ok]
      unfold keepB
      rw [decide_eq_false hne]
      cases hw : wrongB t k 2 with
      | true => rw [hdw hw]; rfl
      | false => rw [hdr hw]; rfl
    · simp only [decide_eq_false e2, cond_false]
      have hpop : ∀ back : Bool, __loop_example_g00124_impl_desk__pop d k (2, undB t k) (fndB t k).2 back = some ((), (popD d k (2, undB t k) (fndB t k).2 back, ())) := fun back =>
        pop_ok d k (2, undB t k) _ back hbd had (fun h1 h2 => und_pos t ht k (by rw [← hd2]; exact h2) h1) (show (undB t k).2.2.length ≤ _ by omega) (fun s hs => by have := n3 s hs; omega)
      by_cases e3 : u = c_LPOP
      · simp only [decide_eq_true e3, cond_true, hpop, Option.bind_some]
        have eb : ¬ u = c_RPOP := fun e => by rw [e3] at e; exact absurd e (by decide +kernel)
        rw [decide_eq_false eb]
        unfold popD
        cases hw : wrongB t k 2 with
        | true =>
          have hf : (fndB t k).2 = true := by unfold wrongB at hw; simp only [Bool.and_eq_true] at hw; exact hw.1
          rw [hd2, hw, hf, hsay _ hw]; rfl
        | false =>
          cases hf : (fndB t k).2 with
          | false => rw [decide_eq_true (und_nil hf), hdr hw]; rfl
          | true =>
            have := und_pos t ht k hw hf
            rw [decide_eq_false (show ¬ (undB t k).2.2 = [] from fun e => by rw [e] at this; simp at this), hd2, hw, hd1]; rfl
      · simp only [decide_eq_false e3, cond_false]
        by_cases e4 : u = c_RPOP
        · simp only [decide_eq_true e4, cond_true, hpop, Option.bind_some]
          unfold popD
          cases hw : wrongB t k 2 with
          | true =>
            have hf : (fndB t k).2 = true := by unfold wrongB at hw; simp only [Bool.and_eq_true] at hw; exact hw.1
            rw [hd2, hw, hf, hsay _ hw]; rfl
          | false =>
            cases hf : (fndB t k).2 with
            | false => rw [decide_eq_true (und_nil hf), hdr hw]; rfl
            | true =>
              have := und_pos t ht k hw hf
              rw [decide_eq_false (show ¬ (undB t k).2.2 = [] from fun e => by rw [e] at this; simp at this), hd2, hw, hd1]; rfl
        · simp only [decide_eq_false e4, cond_false]
          by_cases e5 : u = c_LLEN
          · simp only [decide_eq_true e5, cond_true]
            rw [impl_Number_ok _ (by omega) (by omega)]
            simp only [Option.bind_some, say_ok]
            cases hw : wrongB t k 2 with
            | true => rw [hsay _ hw]; rfl
            | false => rw [hdr hw]; rfl
          · simp only [decide_eq_false e5, cond_false]
            have hz0 : 1 ≤ vals.length → (gi vals 0).size ≤ 100000000 := fun h => by have := hs (gi vals 0) (getD_mem (d := ByteArray.empty) (show 0 < vals.length by omega)); omega
            have hbad : ∀ r, wrongB t k 2 = true → badB d r = d := fun r h => by rw [hdw h]; rfl
            by_cases e6 : u = c_LRANGE
            · have hp := h2.2.2 e6
              have e7 : ¬ u = c_LINDEX := fun e => by rw [e6] at e; exact absurd e (by decide +kernel)
              have k1 : decide ((0 : Int) < (vals.length : Int)) = true := decide_eq_true (by omega)
              have k2 : decide ((1 : Int) < (vals.length : Int)) = true := decide_eq_true (by omega)
              have hz1 : (gi vals 1).size ≤ 100000000 := by have := hs (gi vals 1) (getD_mem (d := ByteArray.empty) (show 1 < vals.length by omega)); omega
              have i0 := rdI_in (gi vals 0)
              have i1 := rdI_in (gi vals 1)
              have hin := bnd_in (rdI (gi vals 0)).1 (rdI (gi vals 1)).1 ((undB t k).2.2.length : Int) (by omega)
              have hB := impl_Bounds_ok (rdI (gi vals 0)).1 (rdI (gi vals 1)).1 ((undB t k).2.2.length : Int) i0 i1 (by omega)
              have hcm : ∀ s ∈ cutL (undB t k).2.2 (bndB (rdI (gi vals 0)).1 (rdI (gi vals 1)).1 ((undB t k).2.2.length : Int)), s.size ≤ 60 := fun s hs => n3 s (List.mem_of_mem_drop (List.mem_of_mem_take hs))
              have hcl : (cutL (undB t k).2.2 (bndB (rdI (gi vals 0)).1 (rdI (gi vals 1)).1 ((undB t k).2.2.length : Int))).length ≤ 24 := by
                unfold cutL
                rw [List.length_take, List.length_drop]; omega
              simp only [decide_eq_true e6, decide_eq_false e7, cond_true, cond_false, Int.le_refl, decide_true, show decide ((0 : Int) ≤ 1) = true from rfl, k1, k2, Bool.and_self]
              show ((__loop_example_g00124_impl_desk__number d (gi vals 0)).bind _) = _
              rw [number_ok d _ (hz0 (by omega))]
              simp only [Option.bind_some]
              have hnum1 := fun d' => number_ok d' (gi vals 1) hz1
              have hk := fun (d' : DD) => show ((__loop_example_g00124_impl_desk__number d' (List.getD vals (Int.toNat 1) ByteArray.empty))) = some ((rdI (gi vals 1)).1, ((bif !(rdI (gi vals 1)).2 then badB d' c_ERR_integer else d'), ())) from hnum1 d'
              simp only [hk, Option.bind_some]
              show ((impl_Bounds (rdI (gi vals 0)).1 (rdI (gi vals 1)).1 ((undB t k).2.2.length : Int)).bind _) = _
              rw [hB]
              simp only [Option.bind_some, decide_eq_true hin.1, decide_eq_true hin.2.1, decide_eq_true hin.2.2, Bool.and_self, cond_true]
              have hbk := impl_bulks_ok _ (show (cutL (undB t k).2.2 (bndB (rdI (gi vals 0)).1 (rdI (gi vals 1)).1 ((undB t k).2.2.length : Int))).length ≤ 100000000 by omega) (fun s hs => by have := hcm s hs; omega)
              have har := impl_Array_ok _ (bulks_w _ (small_w _ (show (cutL (undB t k).2.2 (bndB (rdI (gi vals 0)).1 (rdI (gi vals 1)).1 ((undB t k).2.2.length : Int))).length ≤ 1000 by omega) hcm))
              unfold cutL at hbk har ⊢
              simp only [hbk, har, Option.bind_some, say_ok]
              cases hw : wrongB t k 2 with
              | true =>
                rw [hdw hw]
                cases (rdI (gi vals 0)).2 <;> cases (rdI (gi vals 1)).2 <;> rfl
              | false =>
                rw [hdr hw]
                cases (rdI (gi vals 0)).2 <;> cases (rdI (gi vals 1)).2 <;> rfl
            · have e7 : u = c_LINDEX := by
                unfold lstN at hu
                simp only [List.mem_cons, List.not_mem_nil, or_false] at hu
                rcases hu with h | h | h | h | h | h | h
                · exact absurd h e1
                · exact absurd h e2
                · exact absurd h e3
                · exact absurd h e4
                · exact absurd h e5
                · exact absurd h e6
                · exact h
              have hp := h2.2.1 e7
              have k1 : decide ((0 : Int) < (vals.length : Int)) = true := decide_eq_true (by omega)
              have i0 := rdI_in (gi vals 0)
              simp only [decide_eq_false e6, decide_eq_true e7, cond_true, cond_false, Int.le_refl, decide_true, k1, Bool.and_self]
              show ((__loop_example_g00124_impl_desk__number d (gi vals 0)).bind _) = _
              rw [number_ok d _ (hz0 (by omega))]
              simp only [Option.bind_some]
              have w3 : w64 (((undB t k).2.2.length : Int) - 1) = ((undB t k).2.2.length : Int) - 1 := wrap64_id (by omega) (by omega)
              have fE : impl_fromEnd (rdI (gi vals 0)).1 ((undB t k).2.2.length : Int) = some ((if (rdI (gi vals 0)).1 < 0 then (rdI (gi vals 0)).1 + ((undB t k).2.2.length : Int) else (rdI (gi vals 0)).1), ()) := by
                rw [impl_fromEnd_eq, show w64 ((rdI (gi vals 0)).1 + ((undB t k).2.2.length : Int)) = (rdI (gi vals 0)).1 + ((undB t k).2.2.length : Int) from wrap64_id (by omega) (by omega)]
                by_cases h : (rdI (gi vals 0)).1 < 0
                · rw [decide_eq_true h, if_pos h]; rfl
                · rw [decide_eq_false h, if_neg h]; rfl
              simp only [fE, Option.bind_some, within_ok, w3]
              unfold idxR
              generalize (if (rdI (gi vals 0)).1 < 0 then (rdI (gi vals 0)).1 + ((undB t k).2.2.length : Int) else (rdI (gi vals 0)).1) = i
              by_cases hr : 0 ≤ i ∧ i ≤ ((undB t k).2.2.length : Int) - 1
              · have hsz : (gi (undB t k).2.2 i.toNat).size ≤ 1000000000 := by have := n3 (gi (undB t k).2.2 i.toNat) (getD_mem (d := ByteArray.empty) (show i.toNat < (undB t k).2.2.length by omega)); omega
                rw [decide_eq_true hr.1, decide_eq_true hr.2, decide_eq_true (show i < ((undB t k).2.2.length : Int) by omega)]
                simp only [Bool.and_self, cond_true, if_pos hr, impl_Bulk_ok _ hsz, Option.bind_some, say_ok]
                cases hw : wrongB t k 2 with
                | true => rw [hdw hw]; cases (rdI (gi vals 0)).2 <;> rfl
                | false => rw [hdr hw]; cases (rdI (gi vals 0)).2 <;> rfl
              · have hb' : (decide (0 ≤ i) && decide (i ≤ ((undB t k).2.2.length : Int) - 1)) = false := by
                  rw [Bool.and_eq_false_iff, decide_eq_false_iff_not, decide_eq_false_iff_not]; omega
                rw [hb']
                simp only [cond_false, if_neg hr, impl_Nil_eq, Option.bind_some, say_ok]
                cases hw : wrongB t k 2 with
                | true => rw [hdw hw]; cases (rdI (gi vals 0)).2 <;> rfl
                | false => rw [hdr hw]; cases (rdI (gi vals 0)).2 <;> rfl
end
end Go.Den.S
