/- PxL: equations of the functions of this seat as the executor tells them, or plain facts about them. Conditions: none here. -/
import Derived.Test.YthfdlonnbkffnaaGreatDoorPxK
set_option linter.all false
set_option linter.unusedSimpArgs false
set_option linter.unusedVariables false
namespace Go.Den.S
open Go Go.Den
theorem pairs_flat : ∀ P : List PF, pairsF (flatF P) = P
  | [] => rfl
  | p :: P => by rw [flatF_cons]; show p :: pairsF (flatF P) = _; rw [pairs_flat P]
def posF (P : List PF) (x : ByteArray) : Nat := (lowF P x).length
/-- What a command about fields leaves on the desk. -/
def fldD (t : List DE) (u k : ByteArray) (vals : List ByteArray) : DD :=
  let v := undB t k
  let P := pairsF v.2.2
  bif wrongB t k 3 then (t, (faultB c_WRONGTYPE, true))
  else bif decide (u = c_HSET) then (putB t k (3, (v.1, (v.2.1, flatF (setF P (gi vals 0) (gi vals 1))))), (numB (bif hasF P (gi vals 0) then 0 else 1), false))
  else bif decide (u = c_HGET) then (t, (bif hasF P (gi vals 0) then bulkB (gi v.2.2 (posF P (gi vals 0) * 2 + 1)) else c___1___5_38205, false))
  else bif decide (u = c_HDEL) then (keepB t k (3, (v.1, (v.2.1, flatF (delAll P vals)))), (numB ((P.length : Int) - ((delAll P vals).length : Int)), false))
  else bif decide (u = c_HLEN) then (t, (numB (P.length : Int), false))
  else bif decide (u = c_HGETALL) then (t, (arrB (v.2.2.map bulkB), false))
  else (t, (arrB ((keysF P).map bulkB), false))
theorem small_w (l : List ByteArray) (hl : l.length ≤ 1000) (hs : ∀ s ∈ l, s.size ≤ 60) : wB l ≤ 2097152 := by
  have : ∀ r : List ByteArray, (∀ s ∈ r, s.size ≤ 60) → (r.map ByteArray.size).sum ≤ 60 * r.length := by
    intro r
    induction r with
    | nil => intro _; simp
    | cons x r ih =>
      intro hr
      have h1 := hr x (List.mem_cons_self ..)
      have h2 := ih fun s hs => hr s (List.mem_cons_of_mem _ hs)
      simp only [List.map_cons, List.sum_cons, List.length_cons]; omega
  have := this _ hs
  unfold wB wl
  omega
theorem keysF_mem {P : List PF} {s : ByteArray} (h : s ∈ keysF P) : s ∈ flatF P := by
  obtain ⟨p, hp, rfl⟩ := List.mem_map.1 h
  exact List.mem_flatMap.2 ⟨p, hp, by simp⟩
theorem setF_len {P : List PF} (h : AscF P) (x v : ByteArray) : (setF P x v).length ≤ P.length + 1 := by
  obtain ⟨A, B, h1, _, _, h4, h5⟩ := field_at h x
  unfold setF
  conv => rhs; rw [h1]
  rw [h4, List.length_append, List.length_cons, List.length_append]
  rcases h5 with ⟨_, h6⟩ | ⟨w, C, rfl, _, h6⟩
  · rw [h6]; omega
  · rw [h6, List.length_cons]; omega
theorem setF_ne (P : List PF) (x v : ByteArray) : flatF (setF P x v) ≠ [] := by
  unfold setF
  rw [flatF_app, flatF_cons]
  simp
theorem tdiv2 (n : Nat) (h : n ≤ 1000000) : w64 (Int.tdiv ((n * 2 : Nat) : Int) 2) = (n : Int) := by
  show IntKind.i64.wrap _ = _
  rw [Int.tdiv_eq_ediv_of_nonneg (by omega), wrap64_id (by omega) (by omega)]; omega
section
variable (t : List DE) (ht : tabB t = true) (k : ByteArray) (vals : List ByteArray) (hv : vals.length ≤ 2097152)
include ht
theorem fld_setF (hw : wrongB t k 3 = false) (P : List PF) (hP : (undB t k).2.2 = flatF P) (hk : k.size ≤ 4194304) (x v : ByteArray) (hx : x.size ≤ 4194304) (hv' : v.size ≤ 4194304) (ha : AscF P) (hl : P.length ≤ 12) : ∀ s ∈ flatF (setF P x v), s.size ≤ 4194304 := by
  intro s hs
  obtain ⟨n1, n2, n3⟩ := und_bd (k := k) ht
  obtain ⟨p, hp, hs⟩ := flatF_mem hs
  have hm : p ∈ P ∨ p = (x, v) := by
    unfold setF at hp
    rcases List.mem_append.1 hp with hp | hp
    · exact .inl (List.mem_filter.1 hp).1
    · rcases List.mem_cons.1 hp with hp | hp
      · exact .inr hp
      · exact .inl (List.mem_filter.1 hp).1
  rcases hm with hm | hm
  · have : s ∈ (undB t k).2.2 := by
      rw [hP]
      exact List.mem_flatMap.2 ⟨p, hm, by rcases hs with h | h <;> simp [h]⟩
    have := n3 s this
    omega
  · rw [hm] at hs
    rcases hs with h | h <;> (rw [h]; assumption)
include hv
theorem impl_field_ok (u : ByteArray) (h2 : (u = c_HSET → 2 ≤ vals.length) ∧ (u = c_HGET → 1 ≤ vals.length)) : __loop_example_g00124_impl_desk__field (t, (ByteArray.empty, false)) u k vals = some ((), (fldD t u k vals, ())) := by
  have hb := tab_bd ht
  have has := tab_asc ht
  obtain ⟨n1, n2, n3⟩ := und_bd (k := k) ht
  rw [__loop_example_g00124_impl_desk__field_eq, find_wrong t k 3 hb]
  simp only [Option.bind_some]
  unfold fldD
  cases hw : wrongB t k 3 with
  | true => simp only [cond_true]
  | false =>
    obtain ⟨P, hP, hasc, hPl⟩ := und_fields ht hw
    have hPf : pairsF (undB t k).2.2 = P := by rw [hP, pairs_flat]
    simp only [cond_false, bytes_eq, hPf]
    by_cases e1 : u = c_HSET
    · have hp := h2.1 e1
      obtain ⟨n, hn, _, q2, q3, q4⟩ := field_ops P hasc (by omega) (gi vals 0)
      have e0 : decide ((0 : Int) < (vals.length : Int)) = true := decide_eq_true (by omega)
      have e1' : decide ((1 : Int) < (vals.length : Int)) = true := decide_eq_true (by omega)
      simp only [decide_eq_true e1, cond_true, Int.le_refl, decide_true, show decide ((0 : Int) ≤ 1) = true from rfl, e0, e1', Bool.and_self]
      show ((impl_fieldNo (undB t k).2.2 (gi vals 0)).bind _) = _
      rw [hP, q2]
      simp only [Option.bind_some]
      cases hf : hasF P (gi vals 0) with
      | true =>
        obtain ⟨r1, r2, w, r3, r4, r5, r6⟩ := q4 hf
        have e5 : w64 (((n * 2 : Nat) : Int) + 1) = ((n * 2 + 1 : Nat) : Int) := wrap_succ (by omega)
        have e6 : decide (((n * 2 + 1 : Nat) : Int) < ((flatF P).length : Int)) = true := decide_eq_true (by rw [flatF_len]; omega)
        simp only [cond_true, e5, decide_eq_true (show (0 : Int) ≤ ((n * 2 + 1 : Nat) : Int) by omega), e6, Bool.and_self, impl_Number_ok 0 (by omega) (by omega), Option.bind_some, say_ok, Int.toNat_natCast]
        show ((__loop_example_g00124_impl_desk__put (t, (numB 0, false)) k (3, ((undB t k).1, ((undB t k).2.1, (flatF P).set (n * 2 + 1) (gi vals 1))))).bind _) = _
        rw [(r6 (gi vals 1)).2, impl_put_ok _ k _ hb has]
        rfl
      | false =>
        have r6 := ((q3 hf).2 (gi vals 1)).2
        simp only [cond_false]
        show ((slices_Insert___string_string_ (flatF P) ((n * 2 : Nat) : Int) [gi vals 0, gi vals 1]).bind _) = _
        rw [r6]
        simp only [Option.bind_some, impl_Number_ok 1 (by omega) (by omega), say_ok]
        rw [impl_put_ok _ k _ hb has]
        rfl
    · simp only [decide_eq_false e1, cond_false]
      by_cases e2 : u = c_HGET
      · have hp := h2.2 e2
        obtain ⟨n, hn, _, q2, q3, q4⟩ := field_ops P hasc (by omega) (gi vals 0)
        have e0 : decide ((0 : Int) < (vals.length : Int)) = true := decide_eq_true (by omega)
        simp only [decide_eq_true e2, cond_true, impl_Nil_eq, Option.bind_some, say_ok, Int.le_refl, decide_true, e0, Bool.and_self]
        show ((impl_fieldNo (undB t k).2.2 (gi vals 0)).bind _) = _
        rw [hP, q2]
        simp only [Option.bind_some]
        cases hf : hasF P (gi vals 0) with
        | true =>
          obtain ⟨r1, r2, w, r3, r4, r5, r6⟩ := q4 hf
          have e5 : w64 (((n * 2 : Nat) : Int) + 1) = ((n * 2 + 1 : Nat) : Int) := wrap_succ (by omega)
          have hlt : n * 2 + 1 < (flatF P).length := by rw [flatF_len]; omega
          have e6 : decide (((n * 2 + 1 : Nat) : Int) < ((flatF P).length : Int)) = true := decide_eq_true (by omega)
          have hz := n3 ((flatF P).getD (n * 2 + 1) ByteArray.empty) (by rw [hP]; exact getD_mem hlt)
          simp only [cond_true, e5, decide_eq_true (show (0 : Int) ≤ ((n * 2 + 1 : Nat) : Int) by omega), e6, Bool.and_self, Int.toNat_natCast, impl_Bulk_ok _ (show ((flatF P).getD (n * 2 + 1) ByteArray.empty).size ≤ 1000000000 by omega), Option.bind_some, say_ok]
          have hpos : posF P (gi vals 0) = n := hn.symm
          rw [hpos]
          rfl
        | false => simp only [cond_false]; rfl
      · simp only [decide_eq_false e2, cond_false]
        by_cases e3 : u = c_HDEL
        · simp only [decide_eq_true e3, cond_true]
          have hd := delAll_asc vals hasc
          show __loop_example_g00124_impl_desk__field_L1 k 0 vals (vals.length : Int) 0 t ByteArray.empty false 3 (undB t k).1 (undB t k).2.1 (undB t k).2.2 = _
          rw [hP]
          have := field_L1_ok k vals hv (t, (ByteArray.empty, false)) 3 (undB t k).1 (undB t k).2.1 P hasc hPl
          rw [this, keep_ok _ k _ hb has]
          simp only [Option.bind_some, cond_false, impl_Number_ok ((P.length : Int) - ((delAll P vals).length : Int)) (by omega) (by omega), say_ok]
          rfl
        · simp only [decide_eq_false e3, cond_false]
          by_cases e4 : u = c_HLEN
          · simp only [decide_eq_true e4, cond_true]
            show ((impl_Number (w64 (Int.tdiv ((undB t k).2.2.length : Int) 2))).bind _) = _
            rw [hP, flatF_len, tdiv2 _ (by omega), impl_Number_ok _ (by omega) (by omega)]
            simp only [Option.bind_some, say_ok]
            rfl
          · simp only [decide_eq_false e4, cond_false]
            by_cases e5 : u = c_HGETALL
            · simp only [decide_eq_true e5, cond_true]
              show ((impl_bulks (undB t k).2.2).bind _) = _
              rw [impl_bulks_ok _ (by omega) (fun s hs => by have := n3 s hs; omega)]
              simp only [Option.bind_some, impl_Array_ok _ (bulks_w _ (und_w ht)), say_ok]
              rfl
            · simp only [decide_eq_false e5, cond_false]
              show ((impl_fieldsOf (undB t k).2.2).bind _) = _
              have hks : ∀ s ∈ keysF P, s.size ≤ 60 := fun s hs => n3 s (by rw [hP]; exact keysF_mem hs)
              have hkl : (keysF P).length = P.length := List.length_map ..
              rw [hP, fieldsOf_ok P (by omega)]
              simp only [Option.bind_some, impl_bulks_ok (keysF P) (by omega) (fun s hs => by have := hks s hs; omega), impl_Array_ok _ (bulks_w _ (small_w (keysF P) (by omega) hks)), say_ok]
              rfl
theorem fldD_bd (u : ByteArray) (hk : k.size ≤ 4194304) (hs : ∀ s ∈ vals, s.size ≤ 4194304) (h2 : u = c_HSET → 2 ≤ vals.length) : Bd (fldD t u k vals).1 := by
  have hb := tab_bd ht
  obtain ⟨n1, n2, n3⟩ := und_bd (k := k) ht
  unfold fldD
  cases hw : wrongB t k 3 with
  | true => exact hb
  | false =>
    obtain ⟨P, hP, hasc, hPl⟩ := und_fields ht hw
    have hPf : pairsF (undB t k).2.2 = P := by rw [hP, pairs_flat]
    simp only [cond_false, hPf]
    by_cases e1 : u = c_HSET
    · simp only [decide_eq_true e1, cond_true]
      have hp := h2 e1
      have hl := setF_len hasc (gi vals 0) (gi vals 1)
      exact put_bd ht hk (show (flatF (setF P (gi vals 0) (gi vals 1))).length ≤ _ by rw [flatF_len]; omega) (by show (undB t k).2.1.size ≤ _; omega) (fld_setF t ht k hw P hP hk _ _ (hs _ (getD_mem (by omega))) (hs _ (getD_mem (by omega))) hasc hPl)
    · simp only [decide_eq_false e1, cond_false]
      cases decide (u = c_HGET)
      · simp only [cond_false]
        cases decide (u = c_HDEL)
        · simp only [cond_false]
          cases decide (u = c_HLEN)
          · cases decide (u = c_HGETALL) <;> exact hb
          · exact hb
        · simp only [cond_true]
          have hd := delAll_asc vals hasc
          exact keep_bd ht hk (show (flatF (delAll P vals)).length ≤ _ by rw [flatF_len]; omega) (by show (undB t k).2.1.size ≤ _; omega) fun s hs' => by
            obtain ⟨p, hp, hs''⟩ := flatF_mem hs'
            have := n3 s (by rw [hP]; exact List.mem_flatMap.2 ⟨p, delAll_mem vals hp, by rcases hs'' with h | h <;> simp [h]⟩)
            omega
      · exact hb
theorem spec_OnFields_ok (a : ByteArray) (hp : isB t (a :: k :: vals) fldN = true) (hk : k.size ≤ 4194304) (hal : ∀ s ∈ (a :: k :: vals), s.size ≤ 2097152) (h2 : (upB a = c_HSET → 2 ≤ vals.length) ∧ (upB a = c_HGET → 1 ≤ vals.length)) (hl2 : (a :: k :: vals).length ≤ 2097152) :
    spec_OnFields t (a :: k :: vals) = some (overB (fldD t (upB a) k vals) t, ()) := by
  have hb := tab_bd ht
  have hs : ∀ s ∈ vals, s.size ≤ 4194304 := fun s hs => by have := hal s (List.mem_cons_of_mem _ (List.mem_cons_of_mem _ hs)); omega
  obtain ⟨n1, n2, n3⟩ := und_bd (k := k) ht
  have k1 : (decide ((0 : Int) ≤ 1) && decide ((1 : Int) < ((a :: k :: vals).length : Int))) = true := by rw [decide_eq_true (show (1 : Int) < ((a :: k :: vals).length : Int) by simp only [List.length_cons]; omega)]; rfl
  have k0 : (decide ((0 : Int) ≤ 0) && decide ((0 : Int) < ((a :: k :: vals).length : Int))) = true := by rw [decide_eq_true (show (0 : Int) < ((a :: k :: vals).length : Int) by simp only [List.length_cons]; omega)]; rfl
  have g1 : List.getD (a :: k :: vals) (Int.toNat 1) ByteArray.empty = k := rfl
  have g2 : List.getD (a :: k :: vals) (Int.toNat 2) ByteArray.empty = gi vals 0 := rfl
  have g3 : List.getD (a :: k :: vals) (Int.toNat 3) ByteArray.empty = gi vals 1 := rfl
  have g0 : spec_Upper (List.getD (a :: k :: vals) (Int.toNat 0) ByteArray.empty) = some (upB a, ()) := spec_Upper_ok a (by have := hal a (List.mem_cons_self ..); omega)
  rw [spec_OnFields_eq, show spec_l14Is t (a :: k :: vals) [c_HSET, c_HGET, c_HDEL, c_HLEN, c_HGETALL, c_HKEYS] = some (isB t (a :: k :: vals) fldN, ()) from spec_l14Is_ok t _ _ hb hl2 hal (by decide), hp]
  simp only [Option.bind_some, Bool.not_true, cond_false, k1, k0, cond_true, g1, g2, g3, g0, items_ok t k 3 hb, bytes_eq, no_ok t c_WRONGTYPE hb (by decide)]
  unfold fldD
  cases hw : wrongB t k 3 with
  | true =>
    simp only [items_wrong hw, Bool.not_false, cond_true]
    rfl
  | false =>
    obtain ⟨P, hP, hasc, hPl⟩ := und_fields ht hw
    have hPf : pairsF (undB t k).2.2 = P := by rw [hP, pairs_flat]
    simp only [items_eq hw, Bool.not_true, cond_false, hPf]
    rw [hP]
    by_cases e1 : upB a = c_HSET
    · have hp := h2.1 e1
      obtain ⟨n, hn, q1, _, q3, q4⟩ := field_ops P hasc (by omega) (gi vals 0)
      have e0 : decide ((2 : Int) < ((a :: k :: vals).length : Int)) = true := decide_eq_true (by simp only [List.length_cons]; omega)
      have e1' : decide ((3 : Int) < ((a :: k :: vals).length : Int)) = true := decide_eq_true (by simp only [List.length_cons]; omega)
      have hl := setF_len hasc (gi vals 0) (gi vals 1)
      have hkeep := fun r => spec_keep_ok t k (3, ((undB t k).1, ((undB t k).2.1, flatF (setF P (gi vals 0) (gi vals 1))))) r ht (show (3 : Int) ≠ 0 by decide) hk (show (flatF (setF P (gi vals 0) (gi vals 1))).length ≤ _ by rw [flatF_len]; omega) (show (undB t k).2.1.size ≤ _ by omega) (fld_setF t ht k hw P hP hk _ _ (hs _ (getD_mem (by omega))) (hs _ (getD_mem (by omega))) hasc hPl)
      have hkp : keepB t k (3, ((undB t k).1, ((undB t k).2.1, flatF (setF P (gi vals 0) (gi vals 1))))) = putB t k (3, ((undB t k).1, ((undB t k).2.1, flatF (setF P (gi vals 0) (gi vals 1))))) := by
        unfold keepB
        rw [decide_eq_false (setF_ne P _ _), cond_false]
      simp only [decide_eq_true e1, cond_true, show decide ((0 : Int) ≤ 2) = true from rfl, show decide ((0 : Int) ≤ 3) = true from rfl, e0, e1', Bool.and_self, q1, Option.bind_some]
      cases hf : hasF P (gi vals 0) with
      | true =>
        obtain ⟨r1, r2, w, r3, r4, r5, r6⟩ := q4 hf
        simp only [cond_true, r4, Option.bind_some, (r6 (gi vals 1)).1, spec_Number_ok 0 (by omega) (by omega), hkeep, hkp]
        rfl
      | false =>
        simp only [cond_false, ((q3 hf).2 (gi vals 1)).1, Option.bind_some, spec_Number_ok 1 (by omega) (by omega), hkeep, hkp]
        rfl
    · simp only [decide_eq_false e1, cond_false]
      by_cases e2 : upB a = c_HGET
      · have hp := h2.2 e2
        obtain ⟨n, hn, q1, _, q3, q4⟩ := field_ops P hasc (by omega) (gi vals 0)
        have e0 : decide ((2 : Int) < ((a :: k :: vals).length : Int)) = true := decide_eq_true (by simp only [List.length_cons]; omega)
        simp only [decide_eq_true e2, cond_true, show decide ((0 : Int) ≤ 2) = true from rfl, e0, Bool.and_self, q1, Option.bind_some, spec_copyTable_ok t hb, spec_Nil_eq, over_same t ht vals hv]
        cases hf : hasF P (gi vals 0) with
        | true =>
          obtain ⟨r1, r2, w, r3, r4, r5, r6⟩ := q4 hf
          have e5 : w64 (((n * 2 : Nat) : Int) + 1) = ((n * 2 + 1 : Nat) : Int) := wrap_succ (by omega)
          have hlt : n * 2 + 1 < (flatF P).length := by rw [flatF_len]; omega
          have e6 : decide (((n * 2 + 1 : Nat) : Int) < ((flatF P).length : Int)) = true := decide_eq_true (by omega)
          have hz := n3 ((flatF P).getD (n * 2 + 1) ByteArray.empty) (by rw [hP]; exact getD_mem hlt)
          have hpos : posF P (gi vals 0) = n := hn.symm
          simp only [Bool.not_true, cond_false, cond_true, e5, decide_eq_true (show (0 : Int) ≤ ((n * 2 + 1 : Nat) : Int) by omega), e6, Bool.and_self, Int.toNat_natCast, spec_Bulk_ok _ (show ((flatF P).getD (n * 2 + 1) ByteArray.empty).size ≤ 1000000000 by omega), Option.bind_some, hpos]
        | false => simp only [Bool.not_false, cond_true, cond_false]
      · simp only [decide_eq_false e2, cond_false]
        by_cases e3 : upB a = c_HDEL
        · have hd := delAll_asc vals hasc
          simp only [decide_eq_true e3, cond_true, spec_fields_L1_ok t a k vals hv 3 (undB t k).1 (undB t k).2.1 P hasc hPl, spec_Number_ok ((P.length : Int) - ((delAll P vals).length : Int)) (by omega) (by omega), Option.bind_some]
          rw [spec_keep_ok t k (3, ((undB t k).1, ((undB t k).2.1, flatF (delAll P vals)))) _ ht (show (3 : Int) ≠ 0 by decide) hk (show (flatF (delAll P vals)).length ≤ _ by rw [flatF_len]; omega) (show (undB t k).2.1.size ≤ _ by omega) fun s hs' => by
            obtain ⟨p, hp, hs''⟩ := flatF_mem hs'
            have := n3 s (by rw [hP]; exact List.mem_flatMap.2 ⟨p, delAll_mem vals hp, by rcases hs'' with h | h <;> simp [h]⟩)
            omega]
          rfl
        · simp only [decide_eq_false e3, cond_false, spec_copyTable_ok t hb, Option.bind_some]
          by_cases e4 : upB a = c_HLEN
          · simp only [decide_eq_true e4, cond_true, flatF_len, tdiv2 P.length (by omega), spec_Number_ok (P.length : Int) (by omega) (by omega), Option.bind_some, over_same t ht vals hv]
          · simp only [decide_eq_false e4, cond_false]
            by_cases e5 : upB a = c_HGETALL
            · have := spec_l15Bulks_ok _ (und_w (k := k) ht)
              rw [hP] at this
              simp only [decide_eq_true e5, cond_true, this, Option.bind_some, over_same t ht vals hv]
            · have hks : ∀ s ∈ keysF P, s.size ≤ 60 := fun s hs => n3 s (by rw [hP]; exact keysF_mem hs)
              have hkl : (keysF P).length = P.length := List.length_map ..
              simp only [decide_eq_false e5, cond_false, spec_L3_ok t 3 (undB t k).1 (undB t k).2.1 P (by omega), spec_copyTable_ok t hb, spec_l15Bulks_ok (keysF P) (small_w _ (by omega) hks), Option.bind_some, over_same t ht vals hv]
end
theorem fld_ar : (fldN.all fun u => bif decide (u = c_HSET) then !(memB u ar0) && (!(memB u ar1) && (!(memB u ar2) && memB u ar3)) else bif decide (u = c_HGET) then !(memB u ar0) && (!(memB u ar1) && memB u ar2) else bif decide (u = c_HDEL) then !(memB u ar0) && (!(memB u ar1) && (!(memB u ar2) && (!(memB u ar3) && (!(memB u ar4) && memB u ar5)))) else !(memB u ar0) && memB u ar1) = true := by decide +kernel
theorem fld_lens {a : ByteArray} {r : List ByteArray} (hu : upB a ∈ fldN) (h : arityB (a :: r) = true) : ∃ k vals, r = k :: vals ∧ ((upB a = c_HSET → 2 ≤ vals.length) ∧ (upB a = c_HGET → 1 ≤ vals.length)) := by
  have h1 := List.all_eq_true.1 fld_ar _ hu
  unfold arityB at h
  simp only [Bool.and_eq_true] at h
  have h := h.2
  unfold arB at h
  have key : ∀ n : Nat, r.length = n + 1 → ∃ k vals, r = k :: vals ∧ vals.length = n := fun n hn => by
    match r, hn with
    | k :: vals, hn => exact ⟨k, vals, rfl, by simpa using hn⟩
  by_cases e1 : upB a = c_HSET
  · rw [decide_eq_true e1] at h1
    simp only [cond_true, Bool.and_eq_true, Bool.not_eq_true'] at h1
    obtain ⟨h10, h11, h12, h13⟩ := h1
    simp only [h10, h11, h12, h13, cond_true, cond_false, beq_iff_eq] at h
    obtain ⟨k, vals, e, hl⟩ := key 2 (by omega)
    exact ⟨k, vals, e, fun _ => by omega, fun _ => by omega⟩
  · rw [decide_eq_false e1] at h1
    simp only [cond_false] at h1
    by_cases e3 : upB a = c_HGET
    · rw [decide_eq_true e3] at h1
      simp only [cond_true, Bool.and_eq_true, Bool.not_eq_true'] at h1
      obtain ⟨h10, h11, h12⟩ := h1
      simp only [h10, h11, h12, cond_true, cond_false, beq_iff_eq] at h
      obtain ⟨k, vals, e, hl⟩ := key 1 (by omega)
      exact ⟨k, vals, e, fun h => absurd h e1, fun _ => by omega⟩
    · rw [decide_eq_false e3] at h1
      simp only [cond_false] at h1
      by_cases e4 : upB a = c_HDEL
      · rw [decide_eq_true e4] at h1
        simp only [cond_true, Bool.and_eq_true, Bool.not_eq_true'] at h1
        obtain ⟨h10, h11, h12, h13, h14, h15⟩ := h1
        simp only [h10, h11, h12, h13, h14, h15, cond_true, cond_false, decide_eq_true_eq] at h
        obtain ⟨k, vals, e, hl⟩ := key (r.length - 1) (by omega)
        exact ⟨k, vals, e, fun h => absurd h e1, fun h => absurd h e3⟩
      · rw [decide_eq_false e4] at h1
        simp only [cond_false, Bool.and_eq_true, Bool.not_eq_true'] at h1
        obtain ⟨h10, h11⟩ := h1
        simp only [h10, h11, cond_true, cond_false, beq_iff_eq] at h
        obtain ⟨k, vals, e, hl⟩ := key 0 (by omega)
        exact ⟨k, vals, e, fun h => absurd h e1, fun h => absurd h e3⟩
theorem OnFields_ok (t : List DE) (args : List ByteArray) (h : Bd t) (ha : wB args ≤ 1048576) : ∃ r : RS, Back t r ∧ spec_OnFields t args = some (r, ()) ∧ impl_OnFields t args = some (r, ()) := by
  have hl : args.length ≤ 1048576 := wl_len ha
  have hs : ∀ s ∈ args, s.size ≤ 1048576 := fun s hs => wl_mem ha hs
  have hi := impl_begun_ok t args c_HSET_HGET_HD_33_340175 fldN h (by omega) (fun s h => by have := hs s h; omega) f_fld (by decide)
  rw [impl_OnFields_eq, hi]
  cases hp : isB t args fldN with
  | false =>
    refine ⟨([], (ByteArray.empty, false)), .inr nil_tab, ?_, rfl⟩
    rw [spec_OnFields_eq, show spec_l14Is t args [c_HSET, c_HGET, c_HDEL, c_HLEN, c_HGETALL, c_HKEYS] = some (isB t args fldN, ()) from spec_l14Is_ok t _ _ h (by omega) (fun s h => by have := hs s h; omega) (by decide), hp]
    rfl
  | true =>
    have hp' := hp
    unfold isB at hp'
    simp only [Bool.and_eq_true] at hp'
    obtain ⟨ht, hm, har⟩ := hp'
    match args, hl, hs, hp, hm, har with
    | a :: r, hl, hs, hp, hm, har =>
      obtain ⟨k, vals, rfl, h2⟩ := fld_lens (memB_iff.1 hm) har
      have hlen : (a :: k :: vals).length = vals.length + 2 := rfl
      have hv : vals.length ≤ 2097152 := by omega
      have hks : k.size ≤ 4194304 := by have := hs k (List.mem_cons_of_mem _ (List.mem_cons_self ..)); omega
      refine ⟨overB (fldD t (upB a) k vals) t, over_back _ _, spec_OnFields_ok t ht k vals hv a hp hks (fun s h => by have := hs s h; omega) h2 (by omega), ?_⟩
      have k1 : (decide ((0 : Int) ≤ 1) && decide ((1 : Int) < ((a :: k :: vals).length : Int))) = true := by rw [decide_eq_true (show (1 : Int) < ((a :: k :: vals).length : Int) by omega)]; rfl
      have k0 : (decide ((0 : Int) ≤ 0) && decide ((0 : Int) < ((a :: k :: vals).length : Int))) = true := by rw [decide_eq_true (show (0 : Int) < ((a :: k :: vals).length : Int) by omega)]; rfl
      have k2 : (decide ((0 : Int) ≤ 2) && (decide ((2 : Int) ≤ ((a :: k :: vals).length : Int)) && decide (((a :: k :: vals).length : Int) ≤ ((a :: k :: vals).length : Int)))) = true := by rw [decide_eq_true (show (2 : Int) ≤ ((a :: k :: vals).length : Int) by omega), decide_eq_true (Int.le_refl _)]; rfl
      have g0 : impl_Upper (List.getD (a :: k :: vals) (Int.toNat 0) ByteArray.empty) = some (upB a, ()) := impl_Upper_ok a (by have := hs a (List.mem_cons_self ..); omega)
      have g1 : List.getD (a :: k :: vals) (Int.toNat 1) ByteArray.empty = k := rfl
      have g2 : List.take ((Int.toNat ((a :: k :: vals).length : Int)) - (Int.toNat 2)) (List.drop (Int.toNat 2) (a :: k :: vals)) = vals := by
        rw [Int.toNat_natCast]
        exact List.take_of_length_le (by show vals.length ≤ (a :: k :: vals).length - 2; omega)
      obtain ⟨d', ho⟩ := over_ok (fldD t (upB a) k vals) t h (fldD_bd t ht k vals hv (upB a) hks (fun s hs' => by have := hs s (List.mem_cons_of_mem _ (List.mem_cons_of_mem _ hs')); omega) h2.1)
      simp only [Option.bind_some, cond_true, Bool.not_true, cond_false, k0, k1, k2, g0, g1, g2, impl_field_ok t ht k vals hv (upB a) h2, ho]
end Go.Den.S
