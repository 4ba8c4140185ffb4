/- PxZ: equations of the functions of this seat as the executor tells them, or plain facts about them. Conditions: none here. -/
import Derived.Test.YthfdlonnbkffnaaGreatDoorPxY
set_option linter.all false
set_option linter.unusedSimpArgs false
set_option linter.unusedVariables false
namespace Go.Den.S
open Go Go.Den
def keyN : List ByteArray := [c_PING, c_ECHO, c_DEL, c_EXISTS, c_TYPE, c_EXPIRE, c_TTL, c_PERSIST, c_KEYS, c_DBSIZE, c_FLUSHALL]
theorem f_key : strings_Fields c_PING_ECHO_DE_65_963040 = some (keyN, ()) := (strings_Fields_eq _).trans (by kernel_rfl)
theorem fnd_bd {t : List DE} (k : ByteArray) (ht : tabB t = true) : (fndB t k).1.2.2.2.length ≤ 24 ∧ (fndB t k).1.2.2.1.size ≤ 60 ∧ ∀ s ∈ (fndB t k).1.2.2.2, s.size ≤ 60 := und_bd (k := k) ht
theorem keyD_bd (t : List DE) (ht : tabB t = true) (now : Int) (u k : ByteArray) (vals : List ByteArray) (hk : k.size ≤ 4194304) : Bd (keyD t now u k vals).1 := by
  have hb := tab_bd ht
  have has := tab_asc ht
  obtain ⟨n1, n2, n3⟩ := fnd_bd k ht
  have hput : ∀ n m : Int, Bd (putB t k (n, (m, (fndB t k).1.2.2))) := fun n m => put_bd ht hk (show (fndB t k).1.2.2.2.length ≤ _ by omega) (show (fndB t k).1.2.2.1.size ≤ _ by omega) fun s hs => by have := n3 s hs; omega
  unfold keyD
  cases decide (u = c_ECHO)
  · simp only [cond_false]
    cases decide (u = c_DEL)
    · simp only [cond_false]
      cases decide (u = c_EXISTS)
      · simp only [cond_false]
        cases decide (u = c_TYPE)
        · simp only [cond_false]
          cases decide (u = c_EXPIRE)
          · simp only [cond_false]
            cases decide (u = c_TTL)
            · simp only [cond_false]
              cases decide ((fndB t k).1.2.1 = 0)
              · exact hput _ _
              · exact hb
            · exact hb
          · simp only [cond_true]
            cases (rdI (gi vals 0)).2
            · exact hb
            · cases (fndB t k).2
              · exact hb
              · cases decide ((rdI (gi vals 0)).1 ≤ 0)
                · cases decide (now + (rdI (gi vals 0)).1 > 100000)
                  · exact hput _ _
                  · exact hb
                · exact drop_bd hb has
        · exact hb
      · exact (cnt_bounds false (k :: vals) (0, t) ⟨hb, has⟩).2.2.bd
    · exact (cnt_bounds true (k :: vals) (0, t) ⟨hb, has⟩).2.2.bd
  · exact hb
theorem kind_ne {t : List DE} (ht : tabB t = true) {k : ByteArray} (hf : (fndB t k).2 = true) : decide ((fndB t k).1.1 = 0) = false := by
  have := (val_kind (fnd_val ht hf).1).1
  exact decide_eq_false (by omega)
theorem spec_key_ok (t : List DE) (ht : tabB t = true) (now : Int) (hnow : 0 ≤ now ∧ now ≤ 100000) (a k : ByteArray) (vals : List ByteArray) (hv : vals.length ≤ 2097150) (hp : isB t (a :: k :: vals) keyN = true) (hk : k.size ≤ 4194304) (h2 : upB a = c_EXPIRE → 1 ≤ vals.length) (hal : ∀ s ∈ (a :: k :: vals), s.size ≤ 2097152)
    (hu : upB a ∈ keyN) (m1 : ¬ upB a = c_PING) (m2 : ¬ upB a = c_KEYS) (m3 : ¬ upB a = c_DBSIZE) (m4 : ¬ upB a = c_FLUSHALL) :
    spec_OnKeys t now (a :: k :: vals) = some (overB (keyD t now (upB a) k vals) t, ()) := by
  have hb := tab_bd ht
  have has := tab_asc ht
  have hbd := keyD_bd t ht now (upB a) k vals hk
  obtain ⟨n1, n2, n3⟩ := fnd_bd k ht
  have hcl : (a :: k :: vals).length = vals.length + 2 := rfl
  have k1 : (decide ((0 : Int) ≤ 1) && decide ((1 : Int) < ((a :: k :: vals).length : Int))) = true := by rw [decide_eq_true (show (1 : Int) < ((a :: k :: vals).length : Int) by omega)]; rfl
  have k0 : (decide ((0 : Int) ≤ 0) && decide ((0 : Int) < ((a :: k :: vals).length : Int))) = true := by rw [decide_eq_true (show (0 : Int) < ((a :: k :: vals).length : Int) by omega)]; rfl
  have g1 : List.getD (a :: k :: vals) (Int.toNat 1) ByteArray.empty = k := rfl
  have g2 : List.getD (a :: k :: vals) (Int.toNat 2) ByteArray.empty = gi vals 0 := rfl
  have g0 : spec_Upper (List.getD (a :: k :: vals) (Int.toNat 0) ByteArray.empty) = some (upB a, ()) := spec_Upper_ok a (by have := hal a (List.mem_cons_self ..); omega)
  have hdone : ∀ (t' : List DE) (r : ByteArray), Bd t' → spec_l14Done t t' r = some (overB (t', (r, false)) t, ()) := fun t' r h => done_ok t t' r hb h
  have hkz := hal k (List.mem_cons_of_mem _ (List.mem_cons_self ..))
  rw [spec_OnKeys_eq, l01In_ok, decide_eq_true hnow.1, decide_eq_true hnow.2]
  have hsp := spec_l14Is_ok t (a :: k :: vals) keyN hb (by omega) hal (by decide)
  rw [hp] at hsp
  rw [show spec_l14Is t (a :: k :: vals) [c_PING, c_ECHO, c_DEL, c_EXISTS, c_TYPE, c_EXPIRE, c_TTL, c_PERSIST, c_KEYS, c_DBSIZE, c_FLUSHALL] = some (true, ()) from hsp]
  simp only [Option.bind_some, Bool.and_self, Bool.not_true, cond_false, k0, k1, cond_true, g0, g1, bytes_eq, decide_eq_false m1, decide_eq_false m2, decide_eq_false m3, decide_eq_false m4, spec_copyTable_ok t hb, spec_Find_ok t k hb]
  unfold keyD at hbd ⊢
  by_cases e1 : upB a = c_ECHO
  · simp only [decide_eq_true e1, cond_true, spec_Bulk_ok k (by omega), Option.bind_some, over_same t ht vals (by omega)]
  · simp only [decide_eq_false e1, cond_false] at hbd ⊢
    have hmany : ∀ del, decide (upB a = c_DEL) = del → ((spec_l17Many t (a :: k :: vals)).bind fun r8 => some (r8.1, ())) = some (overB ((((k :: vals).foldl (cntK del) (0, t)).2, (numB ((k :: vals).foldl (cntK del) (0, t)).1, false))) t, ()) := fun del hdel => by
      obtain ⟨b1, b2, b3⟩ := cnt_bounds del (k :: vals) (0, t) ⟨hb, has⟩
      simp only [List.length_cons] at b2
      rw [spec_l17Many_eq, many_ok t t a (k :: vals) ⟨hb, has⟩ (by simp only [List.length_cons]; omega) (hal a (List.mem_cons_self ..)), hdel, spec_Number_ok _ (by omega) (by omega)]
      simp only [Option.bind_some]
      rw [hdone _ _ b3.bd]
      rfl
    by_cases e2 : upB a = c_DEL
    · simp only [decide_eq_true e2, cond_true]
      exact hmany true (decide_eq_true e2)
    · simp only [decide_eq_false e2, cond_false] at hbd ⊢
      by_cases e3 : upB a = c_EXISTS
      · simp only [decide_eq_true e3, cond_true]
        exact hmany false (decide_eq_false e2)
      · simp only [decide_eq_false e3, cond_false] at hbd ⊢
        by_cases e4 : upB a = c_TYPE
        · have := tyB_size (fndB t k).1.1
          simp only [decide_eq_true e4, cond_true, spec_Type_ok, spec_Simple_ok _ (show (tyB (fndB t k).1.1).size ≤ 2097152 by omega), Option.bind_some, over_same t ht vals (by omega)]
        · simp only [decide_eq_false e4, cond_false] at hbd ⊢
          rw [spec_l17Time_eq]
          simp only [k0, k1, g0, g1, g2, cond_true, spec_Find_ok t k hb, Option.bind_some, bytes_eq, spec_copyTable_ok t hb, beq_dec, spec_Number_ok 0 (by omega) (by omega), spec_Number_ok 1 (by omega) (by omega), spec_Number_ok (-1) (by omega) (by omega), spec_Number_ok (-2) (by omega) (by omega), no_ok t c_ERR_integer hb (by decide), no_ok t c_ERR_limit hb (by decide)]
          by_cases e5 : upB a = c_EXPIRE
          · have hp1 := h2 e5
            have d1 : decide (upB a = c_TTL) = false := decide_eq_false (by rw [e5]; decide +kernel)
            have d2 : decide (upB a = c_PERSIST) = false := decide_eq_false (by rw [e5]; decide +kernel)
            have k2 : (decide ((0 : Int) ≤ 2) && decide ((2 : Int) < ((a :: k :: vals).length : Int))) = true := by rw [decide_eq_true (show (2 : Int) < ((a :: k :: vals).length : Int) by omega)]; rfl
            have hz : (gi vals 0).size ≤ 2097152 := hal (gi vals 0) (List.mem_cons_of_mem _ (List.mem_cons_of_mem _ (getD_mem (d := ByteArray.empty) (show 0 < vals.length by omega))))
            have i0 := rdI_in (gi vals 0)
            have w2 : w64 (now + (rdI (gi vals 0)).1) = now + (rdI (gi vals 0)).1 := wrap64_id (by omega) (by omega)
            simp only [decide_eq_true e5, d1, d2, k2, cond_true, cond_false, spec_ReadInt_ok _ (show (gi vals 0).size ≤ 100000000 by omega), Option.bind_some, w2] at hbd ⊢
            cases hr : (rdI (gi vals 0)).2 with
            | false => rfl
            | true =>
              rw [hr] at hbd
              simp only [Bool.not_true, cond_false] at hbd ⊢
              cases hf : (fndB t k).2 with
              | false => simp only [Bool.not_false, cond_true, Option.bind_some, over_same t ht vals (by omega)]
              | true =>
                rw [hf] at hbd
                simp only [Bool.not_true, cond_false] at hbd ⊢
                cases hn : decide ((rdI (gi vals 0)).1 ≤ 0) with
                | true =>
                  rw [hn] at hbd
                  simp only [cond_true] at hbd ⊢
                  simp only [spec_put_ok t k _ hb, decide_true, cond_true, Option.bind_some, hdone _ _ hbd]
                | false =>
                  rw [hn] at hbd
                  simp only [cond_false] at hbd ⊢
                  cases hx : decide (now + (rdI (gi vals 0)).1 > 100000) with
                  | true => rfl
                  | false =>
                    rw [hx] at hbd
                    simp only [cond_false] at hbd ⊢
                    simp only [spec_put_ok t k _ hb, kind_ne ht hf, cond_false, Option.bind_some, hdone _ _ hbd]
          · simp only [decide_eq_false e5, cond_false] at hbd ⊢
            by_cases e6 : upB a = c_TTL
            · simp only [decide_eq_true e6, cond_true]
              unfold leftB
              cases hf : (fndB t k).2 with
              | false => simp only [cond_false, Bool.not_false, cond_true, Option.bind_some, over_same t ht vals (by omega)]
              | true =>
                have hun := (val_kind (fnd_val ht hf).1).2
                have w3 : w64 ((fndB t k).1.2.1 - now) = (fndB t k).1.2.1 - now := wrap64_id (by omega) (by omega)
                simp only [cond_true, Bool.not_true, cond_false, w3, spec_Number_ok ((fndB t k).1.2.1 - now) (by omega) (by omega), Option.bind_some]
                by_cases hz : (fndB t k).1.2.1 = 0
                · rw [decide_eq_false (show ¬ ((fndB t k).1.2.1 > 0) by omega), decide_eq_true hz]
                  simp only [cond_true, cond_false, Option.bind_some, over_same t ht vals (by omega)]
                · rw [decide_eq_true (show ((fndB t k).1.2.1 > 0) by omega), decide_eq_false hz]
                  simp only [cond_true, cond_false, Option.bind_some, over_same t ht vals (by omega)]
            · have e7 : upB a = c_PERSIST := by
                unfold keyN at hu
                simp only [List.mem_cons, List.not_mem_nil, or_false] at hu
                rcases hu with h | h | h | h | h | h | h | h | h | h | h
                · exact absurd h m1
                · exact absurd h e1
                · exact absurd h e2
                · exact absurd h e3
                · exact absurd h e4
                · exact absurd h e5
                · exact absurd h e6
                · exact h
                · exact absurd h m2
                · exact absurd h m3
                · exact absurd h m4
              simp only [decide_eq_false e6, decide_eq_true e7, cond_true, cond_false] at hbd ⊢
              cases hz : decide ((fndB t k).1.2.1 = 0) with
              | true => simp only [cond_true, Option.bind_some, over_same t ht vals (by omega)]
              | false =>
                rw [hz] at hbd
                have hf : (fndB t k).2 = true := by
                  cases hf : (fndB t k).2 with
                  | true => rfl
                  | false =>
                    rw [fnd_none hf] at hz
                    exact absurd hz (by decide)
                simp only [cond_false] at hbd ⊢
                simp only [spec_put_ok t k _ hb, kind_ne ht hf, cond_false, Option.bind_some, hdone _ _ hbd]
end Go.Den.S
