/- PxY: equations of the functions of this seat as the executor tells them, or plain facts about them. Conditions: none here. -/
import Derived.Test.YthfdlonnbkffnaaGreatDoorPxX
set_option linter.all false
set_option linter.unusedSimpArgs false
set_option linter.unusedVariables false
namespace Go.Den.S
open Go Go.Den
/-- A kind's name. -/
def tyB (n : Int) : ByteArray := bif decide (n = 1) then c_string else bif decide (n = 2) then c_list else bif decide (n = 3) then c_hash else bif decide (n = 4) then c_set else c_none
theorem tyB_size (n : Int) : (tyB n).size ≤ 100 := by
  unfold tyB
  cases decide (n = 1) <;> cases decide (n = 2) <;> cases decide (n = 3) <;> cases decide (n = 4) <;> decide
theorem spec_Type_ok (n : Int) : spec_l17Type n = some (tyB n, ()) := by
  rw [spec_l17Type_eq]
  unfold tyB
  simp only [beq_dec]
  cases decide (n = 1) <;> cases decide (n = 2) <;> cases decide (n = 3) <;> cases decide (n = 4) <;> rfl
theorem fnd_none {t : List DE} {k : ByteArray} (hf : (fndB t k).2 = false) : (fndB t k).1 = (0, (0, (ByteArray.empty, []))) := by
  unfold fndB at hf ⊢
  cases hx : t.find? fun e => decide (e.1 = k) with
  | none => rfl
  | some e => rw [hx] at hf; cases hf
theorem val_kind {v : DV} (h : valB v = true) : (v.1 = 1 ∨ v.1 = 2 ∨ v.1 = 3 ∨ v.1 = 4) ∧ 0 ≤ v.2.1 ∧ v.2.1 ≤ 100000 := by
  unfold valB at h
  simp only [Bool.and_eq_true, decide_eq_true_eq] at h
  refine ⟨?_, h.1.1, h.1.2⟩
  by_cases h1 : v.1 = 1
  · exact .inl h1
  · have := h.2
    simp only [decide_eq_false h1, cond_false, Bool.and_eq_true, decide_eq_true_eq] at this
    exact .inr this.1.1.1.1.1
theorem typeName_ok {t : List DE} (ht : tabB t = true) (k : ByteArray) : impl_typeName (fndB t k).1 (fndB t k).2 = some (tyB (fndB t k).1.1, ()) := by
  rw [impl_typeName_eq]
  cases hf : (fndB t k).2 with
  | false => rw [fnd_none hf]; rfl
  | true =>
    have hk := (val_kind (fnd_val ht hf).1).1
    simp only [Bool.not_true, cond_false]
    rcases hk with h | h | h | h <;> (rw [h]; rfl)
/-- How long something stays. -/
def leftB (v : DV) (found : Bool) (now : Int) : Int := bif !found then -2 else bif decide (v.2.1 = 0) then -1 else v.2.1 - now
/-- What a command about keys leaves on the desk. -/
def keyD (t : List DE) (now : Int) (u k : ByteArray) (vals : List ByteArray) : DD :=
  let f := fndB t k
  bif decide (u = c_ECHO) then (t, (bulkB k, false))
  else bif decide (u = c_DEL) then (((k :: vals).foldl (cntK true) (0, t)).2, (numB ((k :: vals).foldl (cntK true) (0, t)).1, false))
  else bif decide (u = c_EXISTS) then (((k :: vals).foldl (cntK false) (0, t)).2, (numB ((k :: vals).foldl (cntK false) (0, t)).1, false))
  else bif decide (u = c_TYPE) then (t, (simpB (tyB f.1.1), false))
  else bif decide (u = c_EXPIRE) then
    (bif !(rdI (gi vals 0)).2 then (t, (faultB c_ERR_integer, true)) else bif !f.2 then (t, (numB 0, false)) else bif decide ((rdI (gi vals 0)).1 ≤ 0) then (dropB t k, (numB 1, false))
      else bif decide (now + (rdI (gi vals 0)).1 > 100000) then (t, (faultB c_ERR_limit, true)) else (putB t k (f.1.1, (now + (rdI (gi vals 0)).1, f.1.2.2)), (numB 1, false)))
  else bif decide (u = c_TTL) then (t, (numB (leftB f.1 f.2 now), false))
  else bif decide (f.1.2.1 = 0) then (t, (numB 0, false)) else (putB t k (f.1.1, (0, f.1.2.2)), (numB 1, false))
theorem cnt_bounds (del : Bool) (ks : List ByteArray) : ∀ (p : Int × List DE), Ok2 p.2 → p.1 ≤ (ks.foldl (cntK del) p).1 ∧ (ks.foldl (cntK del) p).1 ≤ p.1 + ks.length ∧ Ok2 (ks.foldl (cntK del) p).2 := by
  induction ks with
  | nil => intro p h; exact ⟨Int.le_refl _, by simp, h⟩
  | cons k r ih =>
    intro p h
    obtain ⟨h1, h2, h3⟩ := ih (cntK del p k) (cntK_ok2 h del k)
    have hc : p.1 ≤ (cntK del p k).1 ∧ (cntK del p k).1 ≤ p.1 + 1 := by
      show p.1 ≤ (bif (fndB p.2 k).2 then p.1 + 1 else p.1) ∧ (bif (fndB p.2 k).2 then p.1 + 1 else p.1) ≤ p.1 + 1
      cases (fndB p.2 k).2 <;> simp only [cond_true, cond_false] <;> omega
    refine ⟨?_, ?_, h3⟩
    · show p.1 ≤ (r.foldl (cntK del) (cntK del p k)).1
      omega
    · show (r.foldl (cntK del) (cntK del p k)).1 ≤ _
      simp only [List.length_cons]; omega
theorem impl_key_ok (t : List DE) (ht : tabB t = true) (now : Int) (hnow : 0 ≤ now ∧ now ≤ 100000) (u k : ByteArray) (vals : List ByteArray) (hv : vals.length ≤ 2097151) (hk : k.size ≤ 1000000000) (h2 : u = c_EXPIRE → 1 ≤ vals.length) (hs : ∀ s ∈ vals, s.size ≤ 4194304) :
    __loop_example_g00124_impl_desk__key (t, (ByteArray.empty, false)) now u (k :: vals) = some ((), (keyD t now u k vals, ())) := by
  have hb := tab_bd ht
  have has := tab_asc ht
  have hok : Ok2 t := ⟨hb, has⟩
  have k0 : (decide ((0 : Int) ≤ 0) && decide ((0 : Int) < ((k :: vals).length : Int))) = true := by rw [decide_eq_true (show (0 : Int) < ((k :: vals).length : Int) by simp only [List.length_cons]; omega)]; rfl
  have g0 : List.getD (k :: vals) (Int.toNat 0) ByteArray.empty = k := rfl
  have g1 : List.getD (k :: vals) (Int.toNat 1) ByteArray.empty = gi vals 0 := rfl
  rw [__loop_example_g00124_impl_desk__key_eq]
  simp only [k0, g0, g1, cond_true, bytes_eq, impl_Find_ok t k hb, Option.bind_some, beq_dec]
  unfold keyD
  by_cases e1 : u = c_ECHO
  · simp only [decide_eq_true e1, cond_true, impl_Bulk_ok k hk, Option.bind_some, say_ok]; rfl
  · simp only [decide_eq_false e1, cond_false]
    have hcnt : ∀ del : Bool, ((__loop_example_g00124_impl_desk__counted (t, (ByteArray.empty, false)) (k :: vals) del).bind fun r7 => (impl_Number r7.1).bind fun r8 => (__loop_example_g00124_impl_desk__say r7.2.1 r8.1).bind fun r9 => some ((), (r9.2.1, ()))) = some ((), ((((k :: vals).foldl (cntK del) (0, t)).2, (numB ((k :: vals).foldl (cntK del) (0, t)).1, false)), ())) := fun del => by
      obtain ⟨b1, b2, _⟩ := cnt_bounds del (k :: vals) (0, t) hok
      simp only [List.length_cons] at b2
      rw [counted_ok del t _ (k :: vals) hok (by simp only [List.length_cons]; omega)]
      simp only [Option.bind_some]
      rw [impl_Number_ok _ (by omega) (by omega)]
      simp only [Option.bind_some, say_ok]
      rfl
    by_cases e2 : u = c_DEL
    · simp only [decide_eq_true e2, cond_true]
      exact hcnt true
    · simp only [decide_eq_false e2, cond_false]
      by_cases e3 : u = c_EXISTS
      · simp only [decide_eq_true e3, cond_true]
        exact hcnt false
      · simp only [decide_eq_false e3, cond_false]
        by_cases e4 : u = c_TYPE
        · have := tyB_size (fndB t k).1.1
          simp only [decide_eq_true e4, cond_true, typeName_ok ht k, Option.bind_some, impl_Simple_ok _ (show (tyB (fndB t k).1.1).size ≤ 2097152 by omega), say_ok]
          rfl
        · simp only [decide_eq_false e4, cond_false]
          by_cases e5 : u = c_EXPIRE
          · have hp := h2 e5
            have k1 : (decide ((0 : Int) ≤ 1) && decide ((1 : Int) < ((k :: vals).length : Int))) = true := by rw [decide_eq_true (show (1 : Int) < ((k :: vals).length : Int) by simp only [List.length_cons]; omega)]; rfl
            have hz : (gi vals 0).size ≤ 4194304 := hs (gi vals 0) (getD_mem (d := ByteArray.empty) (show 0 < vals.length by omega))
            have i0 := rdI_in (gi vals 0)
            have w1 : w64 (100000 - (rdI (gi vals 0)).1) = 100000 - (rdI (gi vals 0)).1 := wrap64_id (by omega) (by omega)
            have w2 : w64 (now + (rdI (gi vals 0)).1) = now + (rdI (gi vals 0)).1 := wrap64_id (by omega) (by omega)
            have hd : decide (now > 100000 - (rdI (gi vals 0)).1) = decide (now + (rdI (gi vals 0)).1 > 100000) := decide_eq_decide.2 (by omega)
            simp only [decide_eq_true e5, cond_true, k1]
            rw [__loop_example_g00124_impl_desk__expire_eq, number_ok _ _ (by omega)]
            simp only [Option.bind_some, w1, w2, hd]
            cases hr : (rdI (gi vals 0)).2 with
            | false =>
              simp only [Bool.not_false, cond_true]
              show (((impl_Find t k).bind _).bind _) = _
              rw [impl_Find_ok t k hb]
              rfl
            | true =>
              simp only [Bool.not_true, cond_false, impl_Find_ok t k hb, Option.bind_some]
              cases (fndB t k).2 with
              | false =>
                simp only [Bool.not_false, cond_true, impl_Number_ok 0 (by omega) (by omega), Option.bind_some, say_ok]
                rfl
              | true =>
                simp only [Bool.not_true, cond_false]
                cases decide ((rdI (gi vals 0)).1 ≤ 0) with
                | true =>
                  simp only [cond_true, impl_drop_ok (t, (ByteArray.empty, false)) k hb has, impl_Number_ok 1 (by omega) (by omega), Option.bind_some, say_ok]
                  rfl
                | false =>
                  simp only [cond_false]
                  cases decide (now + (rdI (gi vals 0)).1 > 100000) with
                  | true =>
                    simp only [cond_true, deskfault_ok _ c_ERR_limit (by decide), Option.bind_some]
                    rfl
                  | false =>
                    simp only [cond_false, impl_put_ok (t, (ByteArray.empty, false)) k _ hb has, impl_Number_ok 1 (by omega) (by omega), Option.bind_some, say_ok]
                    rfl
          · simp only [decide_eq_false e5, cond_false]
            by_cases e6 : u = c_TTL
            · have hin : -5000000 ≤ leftB (fndB t k).1 (fndB t k).2 now ∧ leftB (fndB t k).1 (fndB t k).2 now ≤ 5000000 ∧ impl_left (fndB t k).1 (fndB t k).2 now = some (leftB (fndB t k).1 (fndB t k).2 now, ()) := by
                rw [impl_left_eq]
                unfold leftB
                simp only [beq_dec]
                cases hf : (fndB t k).2 with
                | false => exact ⟨by simp, by simp, by first | rfl | trivial⟩
                | true =>
                  have hu := (val_kind (fnd_val ht hf).1).2
                  rw [show w64 ((fndB t k).1.2.1 - now) = (fndB t k).1.2.1 - now from wrap64_id (by omega) (by omega)]
                  cases decide ((fndB t k).1.2.1 = 0) with
                  | true => exact ⟨by simp, by simp, by first | rfl | trivial⟩
                  | false =>
                    simp only [Bool.not_true, cond_false]
                    exact ⟨by omega, by omega, by first | rfl | trivial⟩
              simp only [decide_eq_true e6, cond_true, hin.2.2, Option.bind_some, impl_Number_ok _ (show -9000000000000000000 ≤ leftB (fndB t k).1 (fndB t k).2 now by omega) (by omega), say_ok]
              rfl
            · simp only [decide_eq_false e6, cond_false]
              cases decide ((fndB t k).1.2.1 = 0) with
              | true =>
                simp only [cond_true, impl_Number_ok 0 (by omega) (by omega), Option.bind_some, say_ok]
                rfl
              | false =>
                simp only [cond_false, impl_put_ok (t, (ByteArray.empty, false)) k _ hb has, impl_Number_ok 1 (by omega) (by omega), Option.bind_some, say_ok]
                rfl
end Go.Den.S
