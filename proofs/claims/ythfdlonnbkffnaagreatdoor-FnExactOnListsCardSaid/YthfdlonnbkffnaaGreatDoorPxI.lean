/- PxI: equations of the functions of this seat as the executor tells them, or plain facts about them. Conditions: none here. -/
import Derived.Test.YthfdlonnbkffnaaGreatDoorPxH
set_option linter.all false
set_option linter.unusedSimpArgs false
set_option linter.unusedVariables false
namespace Go.Den.S
open Go Go.Den
/-- Another kind of value stands there. -/
def wrongB (t : List DE) (k : ByteArray) (n : Int) : Bool := (fndB t k).2 && !(decide ((fndB t k).1.1 = n))
/-- What is under a key: until when, its text, its items. -/
def undB (t : List DE) (k : ByteArray) : Int × ByteArray × List ByteArray := (fndB t k).1.2
theorem items_eq {t : List DE} {k : ByteArray} {n : Int} (hw : wrongB t k n = false) : itemsB t k n = ((n, undB t k), true) := by
  unfold wrongB at hw
  unfold itemsB undB
  cases hf : (fndB t k).2 with
  | false =>
    have : (fndB t k).1 = (0, (0, (ByteArray.empty, []))) := by
      unfold fndB at hf ⊢
      cases hx : t.find? fun e => decide (e.1 = k) with
      | none => rfl
      | some e => rw [hx] at hf; cases hf
    rw [this]; rfl
  | true =>
    rw [hf] at hw
    simp only [Bool.true_and, Bool.not_eq_false', decide_eq_true_eq] at hw
    simp only [Bool.not_true, cond_false, decide_eq_true hw]
    rw [← hw]
theorem items_wrong {t : List DE} {k : ByteArray} {n : Int} (hw : wrongB t k n = true) : (itemsB t k n).2 = false := by
  unfold wrongB at hw
  unfold itemsB
  simp only [Bool.and_eq_true, Bool.not_eq_true'] at hw
  rw [hw.1]
  exact hw.2
theorem find_wrong (t : List DE) (k : ByteArray) (n : Int) (h : Bd t) : __loop_example_g00124_impl_desk__find (t, (ByteArray.empty, false)) k n = some ((((fndB t k).1.1, undB t k), (fndB t k).2), ((bif wrongB t k n then (t, (faultB c_WRONGTYPE, true)) else (t, (ByteArray.empty, false))), ())) :=
  (deskfind_ok (t, (ByteArray.empty, false)) k n h).trans rfl
theorem und_bd {t : List DE} {k : ByteArray} (h : tabB t = true) : (undB t k).2.2.length ≤ 24 ∧ (undB t k).2.1.size ≤ 60 ∧ ∀ s ∈ (undB t k).2.2, s.size ≤ 60 := by
  unfold undB
  cases hf : (fndB t k).2 with
  | true => exact val_its (fnd_val h hf).1
  | false =>
    have : (fndB t k).1 = (0, (0, (ByteArray.empty, []))) := by
      unfold fndB at hf ⊢
      cases hx : t.find? fun e => decide (e.1 = k) with
      | none => rfl
      | some e => rw [hx] at hf; cases hf
    rw [this]
    exact ⟨by simp, by decide, fun s hs => by cases hs⟩
theorem und_val {t : List DE} {k : ByteArray} {n : Int} (h : tabB t = true) (hw : wrongB t k n = false) : (undB t k).2.2 = [] ∨ valB (n, undB t k) = true := by
  have he := items_eq hw
  unfold itemsB at he
  cases hf : (fndB t k).2 with
  | true =>
    right
    rw [hf] at he
    simp only [Bool.not_true, cond_false, Prod.mk.injEq] at he
    rw [← he.1]
    exact (fnd_val h hf).1
  | false =>
    left
    have : (fndB t k).1 = (0, (0, (ByteArray.empty, []))) := by
      unfold fndB at hf ⊢
      cases hx : t.find? fun e => decide (e.1 = k) with
      | none => rfl
      | some e => rw [hx] at hf; cases hf
    unfold undB
    rw [this]
theorem und_asc {t : List DE} {k : ByteArray} (h : tabB t = true) (hw : wrongB t k 4 = false) : AscS (undB t k).2.2 := by
  rcases und_val h hw with h | h
  · rw [h]; exact List.Pairwise.nil
  · exact val_asc (v := (4, undB t k)) h rfl
theorem und_w {t : List DE} {k : ByteArray} (h : tabB t = true) : wB (undB t k).2.2 ≤ 2097152 := by
  obtain ⟨h1, _, h2⟩ := und_bd (k := k) h
  have : ∀ r : List ByteArray, (∀ s ∈ r, s.size ≤ 60) → (r.map ByteArray.size).sum ≤ 60 * r.length := by
    intro r
    induction r with
    | nil => intro _; simp
    | cons x r ih =>
      intro hr
      have h1 := hr x (List.mem_cons_self ..)
      have h2 := ih fun s hs => hr s (List.mem_cons_of_mem _ hs)
      simp only [List.map_cons, List.sum_cons, List.length_cons]; omega
  have := this _ h2
  unfold wB wl
  omega
/-- What a set's command leaves on the desk. -/
def setD (t : List DE) (u k : ByteArray) (vals : List ByteArray) : DD :=
  let v := undB t k
  let l := v.2.2
  bif wrongB t k 4 then (t, (faultB c_WRONGTYPE, true))
  else bif decide (u = c_SADD) then (keepB t k (4, (v.1, (v.2.1, addAll l vals))), (numB (((addAll l vals).length : Int) - (l.length : Int)), false))
  else bif decide (u = c_SREM) then (keepB t k (4, (v.1, (v.2.1, remAll l vals))), (numB ((l.length : Int) - ((remAll l vals).length : Int)), false))
  else bif decide (u = c_SISMEMBER) then (t, (numB (bif memB (gi vals 0) l then 1 else 0), false))
  else bif decide (u = c_SCARD) then (t, (numB (l.length : Int), false))
  else (t, (arrB (l.map bulkB), false))
theorem addAll_ne {l vals : List ByteArray} (hl : AscS l) (h : 0 < vals.length) : addAll l vals ≠ [] := by
  match vals, h with
  | x :: r, _ =>
    obtain ⟨_, _, _, _, _, _, _, _, h7⟩ := set_at hl x
    have := (addAll_asc (l := addS l x) r h7).2.1
    have h2 := addS_len l x hl
    intro e
    have e : addAll (addS l x) r = [] := e
    rw [e] at this
    simp only [List.length_nil, Nat.le_zero] at this
    rw [this] at h2
    cases hm : memB x l with
    | true =>
      have := memB_iff.1 hm
      have : 0 < l.length := List.length_pos_of_mem this
      omega
    | false => rw [hm] at h2; simp at h2
theorem number_w (n : Int) (h0 : -5000000000 ≤ n) (h1 : n ≤ 5000000000) : impl_Number (w64 n) = some (numB n, ()) := by
  rw [show w64 n = n from wrap64_id (by omega) (by omega)]
  exact impl_Number_ok n (by omega) (by omega)
section
variable (t : List DE) (ht : tabB t = true) (k : ByteArray) (vals : List ByteArray) (hv : vals.length ≤ 2097152)
include ht hv
theorem impl_set_ok (u : ByteArray) (hu : u ∈ setN) (h2 : 0 < vals.length ∨ u = c_SCARD ∨ u = c_SMEMBERS) : __loop_example_g00124_impl_desk__set (t, (ByteArray.empty, false)) u k vals = some ((), (setD t u k vals, ())) := by
  have hb := tab_bd ht
  have has := tab_asc ht
  obtain ⟨n1, n2, n3⟩ := und_bd (k := k) ht
  rw [__loop_example_g00124_impl_desk__set_eq, find_wrong t k 4 hb]
  simp only [Option.bind_some]
  unfold setD
  cases hw : wrongB t k 4 with
  | true => simp only [cond_true]
  | false =>
    simp only [cond_false, bytes_eq]
    have hasc := und_asc ht hw
    show (bif decide (u = c_SADD) then __loop_example_g00124_impl_desk__set_L1 k ((undB t k).2.2.length : Int) vals (vals.length : Int) 0 t ByteArray.empty false 4 (undB t k).1 (undB t k).2.1 (undB t k).2.2 else _) = _
    by_cases e1 : u = c_SADD
    · simp only [decide_eq_true e1, cond_true]
      have hpos : 0 < vals.length := by
        rcases h2 with h | h | h
        · exact h
        · rw [h] at e1; exact absurd e1 (by decide +kernel)
        · rw [h] at e1; exact absurd e1 (by decide +kernel)
      obtain ⟨_, k2, k3⟩ := addAll_asc (l := (undB t k).2.2) vals hasc
      have := set_L1_ok k vals (t, (ByteArray.empty, false)) 4 (undB t k).1 (undB t k).2.1 (undB t k).2.2 ((undB t k).2.2.length : Int) hasc (by omega)
      rw [this, impl_put_ok _ k _ hb has]
      unfold keepB
      simp only [Option.bind_some, cond_false, number_w (((addAll (undB t k).2.2 vals).length : Int) - ((undB t k).2.2.length : Int)) (by omega) (by omega), say_ok, decide_eq_false (addAll_ne hasc hpos)]
      rfl
    · simp only [decide_eq_false e1, cond_false]
      by_cases e2 : u = c_SREM
      · simp only [decide_eq_true e2, cond_true]
        have hr := rem_len (undB t k).2.2 vals
        show (slices_DeleteFunc___string_string_ (undB t k).2.2 (vals, ())).bind _ = _
        rw [DeleteFunc_ok _ vals (by omega) hv]
        simp only [Option.bind_some]
        rw [keep_ok _ k _ hb has]
        simp only [Option.bind_some, cond_false]
        show (impl_Number (w64 (((undB t k).2.2.length : Int) - ((remAll (undB t k).2.2 vals).length : Int)))).bind _ = _
        rw [number_w _ (by omega) (by omega)]
        simp only [Option.bind_some, say_ok]
        rfl
      · simp only [decide_eq_false e2, cond_false]
        by_cases e3 : u = c_SISMEMBER
        · simp only [decide_eq_true e3, cond_true]
          have hpos : 0 < vals.length := by
            rcases h2 with h | h | h
            · exact h
            · rw [h] at e3; exact absurd e3 (by decide +kernel)
            · rw [h] at e3; exact absurd e3 (by decide +kernel)
          simp only [Int.le_refl, decide_true, decide_eq_true (show (0 : Int) < (vals.length : Int) by omega), Bool.and_self, cond_true]
          show (slices_Contains___string_string_ (undB t k).2.2 (gi vals 0)).bind _ = _
          rw [Contains_ok _ _ (by omega)]
          simp only [Option.bind_some, impl_Number_ok 1 (by omega) (by omega), impl_Number_ok 0 (by omega) (by omega), say_ok]
          cases memB (gi vals 0) (undB t k).2.2 <;> rfl
        · simp only [decide_eq_false e3, cond_false]
          by_cases e4 : u = c_SCARD
          · simp only [decide_eq_true e4, cond_true]
            show (impl_Number ((undB t k).2.2.length : Int)).bind _ = _
            rw [impl_Number_ok _ (by omega) (by omega)]
            simp only [Option.bind_some, say_ok]
            rfl
          · simp only [decide_eq_false e4, cond_false]
            show (impl_bulks (undB t k).2.2).bind _ = _
            rw [impl_bulks_ok _ (by omega) (fun s hs => by have := n3 s hs; omega)]
            simp only [Option.bind_some, impl_Array_ok _ (bulks_w _ (und_w ht)), say_ok]
            rfl
theorem setD_bd (u : ByteArray) (hk : k.size ≤ 4194304) (hs : ∀ s ∈ vals, s.size ≤ 4194304) : Bd (setD t u k vals).1 := by
  have hb := tab_bd ht
  obtain ⟨n1, n2, n3⟩ := und_bd (k := k) ht
  unfold setD
  cases hw : wrongB t k 4 with
  | true => exact hb
  | false =>
    simp only [cond_false]
    obtain ⟨_, k2, k3⟩ := addAll_asc (l := (undB t k).2.2) vals (und_asc ht hw)
    have hr := rem_len (undB t k).2.2 vals
    by_cases e1 : u = c_SADD
    · simp only [decide_eq_true e1, cond_true]
      exact keep_bd ht hk (show (addAll (undB t k).2.2 vals).length ≤ _ by omega) (by show (undB t k).2.1.size ≤ _; omega) fun s hs' => by
        rcases addAll_mem vals _ s hs' with h | h
        · have := n3 s h; omega
        · exact hs s h
    · simp only [decide_eq_false e1, cond_false]
      by_cases e2 : u = c_SREM
      · simp only [decide_eq_true e2, cond_true]
        exact keep_bd ht hk (show (remAll (undB t k).2.2 vals).length ≤ _ by omega) (by show (undB t k).2.1.size ≤ _; omega) fun s hs' => by have := n3 s (List.mem_filter.1 hs').1; omega
      · simp only [decide_eq_false e2, cond_false]
        cases decide (u = c_SISMEMBER)
        · cases decide (u = c_SCARD) <;> exact hb
        · exact hb
theorem over_same (r : ByteArray) : overB (t, (r, false)) t = (t, (r, true)) := by
  unfold overB
  simp only [cond_false, ht, cond_true]
theorem spec_OnSets_ok (a : ByteArray) (hu : upB a ∈ setN) (hp : isB t (a :: k :: vals) setN = true) (hk : k.size ≤ 4194304) (hal : ∀ s ∈ (a :: k :: vals), s.size ≤ 2097152) (h2 : 0 < vals.length ∨ upB a = c_SCARD ∨ upB a = c_SMEMBERS) (hl2 : (a :: k :: vals).length ≤ 2097152) :
    spec_OnSets t (a :: k :: vals) = some (overB (setD t (upB a) k vals) t, ()) := by
  have hb := tab_bd ht
  have hs : ∀ s ∈ vals, s.size ≤ 4194304 := fun s hs => by have := hal s (List.mem_cons_of_mem _ (List.mem_cons_of_mem _ hs)); omega
  obtain ⟨n1, n2, n3⟩ := und_bd (k := k) ht
  have k1 : (decide ((0 : Int) ≤ 1) && decide ((1 : Int) < ((a :: k :: vals).length : Int))) = true := by rw [decide_eq_true (show (1 : Int) < ((a :: k :: vals).length : Int) by simp only [List.length_cons]; omega)]; rfl
  have k0 : (decide ((0 : Int) ≤ 0) && decide ((0 : Int) < ((a :: k :: vals).length : Int))) = true := by rw [decide_eq_true (show (0 : Int) < ((a :: k :: vals).length : Int) by simp only [List.length_cons]; omega)]; rfl
  have g1 : List.getD (a :: k :: vals) (Int.toNat 1) ByteArray.empty = k := rfl
  have g0 : spec_Upper (List.getD (a :: k :: vals) (Int.toNat 0) ByteArray.empty) = some (upB a, ()) := spec_Upper_ok a (by have := hal a (List.mem_cons_self ..); omega)
  rw [spec_OnSets_eq, show spec_l14Is t (a :: k :: vals) [c_SADD, c_SREM, c_SISMEMBER, c_SCARD, c_SMEMBERS] = some (isB t (a :: k :: vals) setN, ()) from spec_l14Is_ok t _ _ hb hl2 hal (by decide), hp]
  simp only [Option.bind_some, Bool.not_true, cond_false, k1, k0, cond_true, g1, g0, items_ok t k 4 hb, bytes_eq, no_ok t c_WRONGTYPE hb (by decide)]
  unfold setD
  cases hw : wrongB t k 4 with
  | true =>
    simp only [items_wrong hw, Bool.not_false, cond_true]
    rfl
  | false =>
    have hasc := und_asc ht hw
    obtain ⟨_, q2, q3⟩ := addAll_asc (l := (undB t k).2.2) vals hasc
    have hr := rem_len (undB t k).2.2 vals
    simp only [items_eq hw, Bool.not_true, cond_false]
    by_cases e1 : upB a = c_SADD
    · simp only [decide_eq_true e1, cond_true, spec_sets_L1_ok t a k vals 4 (undB t k).1 (undB t k).2.1 (undB t k).2.2 hasc (by omega), spec_Number_ok (((addAll (undB t k).2.2 vals).length : Int) - ((undB t k).2.2.length : Int)) (by omega) (by omega), Option.bind_some]
      rw [spec_keep_ok t k (4, ((undB t k).1, ((undB t k).2.1, addAll (undB t k).2.2 vals))) _ ht (show (4 : Int) ≠ 0 by decide) hk (show (addAll (undB t k).2.2 vals).length ≤ _ by omega) (show (undB t k).2.1.size ≤ _ by omega) fun s hs' => by
        rcases addAll_mem vals _ s hs' with h | h
        · have := n3 s h; omega
        · exact hs s h]
      rfl
    · simp only [decide_eq_false e1, cond_false]
      by_cases e2 : upB a = c_SREM
      · simp only [decide_eq_true e2, cond_true, spec_sets_L3_ok t a k vals 4 (undB t k).1 (undB t k).2.1 (undB t k).2.2 hasc (by omega), spec_Number_ok (((undB t k).2.2.length : Int) - ((remAll (undB t k).2.2 vals).length : Int)) (by omega) (by omega), Option.bind_some]
        rw [spec_keep_ok t k (4, ((undB t k).1, ((undB t k).2.1, remAll (undB t k).2.2 vals))) _ ht (show (4 : Int) ≠ 0 by decide) hk (show (remAll (undB t k).2.2 vals).length ≤ _ by omega) (show (undB t k).2.1.size ≤ _ by omega) fun s hs' => by have := n3 s (List.mem_filter.1 hs').1; omega]
        rfl
      · simp only [decide_eq_false e2, cond_false, spec_copyTable_ok t hb, Option.bind_some]
        by_cases e3 : upB a = c_SISMEMBER
        · have hpos : 0 < vals.length := by
            rcases h2 with h | h | h
            · exact h
            · rw [h] at e3; exact absurd e3 (by decide +kernel)
            · rw [h] at e3; exact absurd e3 (by decide +kernel)
          have g2 : List.getD (a :: k :: vals) (Int.toNat 2) ByteArray.empty = gi vals 0 := rfl
          obtain ⟨m, _, m2, _⟩ := add_ok (undB t k).2.2 (gi vals 0) hasc (by omega)
          simp only [decide_eq_true e3, cond_true, show decide ((0 : Int) ≤ 2) = true from rfl, decide_eq_true (show (2 : Int) < ((a :: k :: vals).length : Int) by simp only [List.length_cons]; omega), Bool.and_self, g2, m2, Option.bind_some, spec_Number_ok 1 (by omega) (by omega), spec_Number_ok 0 (by omega) (by omega), over_same t ht vals hv]
          cases memB (gi vals 0) (undB t k).2.2 <;> rfl
        · simp only [decide_eq_false e3, cond_false]
          by_cases e4 : upB a = c_SCARD
          · simp only [decide_eq_true e4, cond_true, spec_Number_ok ((undB t k).2.2.length : Int) (by omega) (by omega), Option.bind_some, over_same t ht vals hv]
          · simp only [decide_eq_false e4, cond_false, spec_l15Bulks_ok _ (und_w ht), Option.bind_some, over_same t ht vals hv]
end
theorem nil_tab : tabB [] = true := rfl
/-- What is told of a table that comes back. -/
def Back (t : List DE) (r : RS) : Prop := (r.1 = t ∨ tabB r.1 = true)
theorem over_back (d : DD) (t : List DE) : Back t (overB d t) := by
  unfold Back overB
  cases d.2.2 with
  | true => exact .inl rfl
  | false =>
    cases h : tabB d.1 with
    | true => exact .inr h
    | false => exact .inl rfl
/-- Who has how many arguments. -/
theorem set_ar : (setN.all fun u => bif decide (u = c_SADD) || decide (u = c_SREM) then !(memB u ar0) && (!(memB u ar1) && (!(memB u ar2) && (!(memB u ar3) && (!(memB u ar4) && memB u ar5)))) else bif decide (u = c_SISMEMBER) then !(memB u ar0) && (!(memB u ar1) && memB u ar2) else !(memB u ar0) && memB u ar1) = true := by decide +kernel
theorem set_lens {a : ByteArray} {r : List ByteArray} (hu : upB a ∈ setN) (h : arityB (a :: r) = true) : ∃ k vals, r = k :: vals ∧ (0 < vals.length ∨ upB a = c_SCARD ∨ upB a = c_SMEMBERS) := by
  have h1 := List.all_eq_true.1 set_ar _ hu
  unfold arityB at h
  simp only [Bool.and_eq_true] at h
  have h := h.2
  unfold arB at h
  have key : ∀ n : Nat, r.length = n + 1 → ∃ k vals, r = k :: vals ∧ vals.length = n := fun n hn => by
    match r, hn with
    | k :: vals, hn => exact ⟨k, vals, rfl, by simpa using hn⟩
  by_cases e1 : upB a = c_SADD ∨ upB a = c_SREM
  · have e1' : (decide (upB a = c_SADD) || decide (upB a = c_SREM)) = true := by simpa using e1
    rw [e1'] at h1
    simp only [cond_true, Bool.and_eq_true, Bool.not_eq_true'] at h1
    obtain ⟨h10, h11, h12, h13, h14, h15⟩ := h1
    simp only [h10, h11, h12, h13, h14, h15, cond_true, cond_false, decide_eq_true_eq] at h
    obtain ⟨k, vals, e, hl⟩ := key (r.length - 1) (by omega)
    exact ⟨k, vals, e, .inl (by omega)⟩
  · have e1' : (decide (upB a = c_SADD) || decide (upB a = c_SREM)) = false := by simpa using e1
    rw [e1'] at h1
    simp only [cond_false] at h1
    by_cases e3 : upB a = c_SISMEMBER
    · rw [decide_eq_true e3] at h1
      simp only [cond_true, Bool.and_eq_true, Bool.not_eq_true'] at h1
      obtain ⟨h10, h11, h12⟩ := h1
      simp only [h10, h11, h12, cond_true, cond_false, beq_iff_eq] at h
      obtain ⟨k, vals, e, hl⟩ := key 1 (by omega)
      exact ⟨k, vals, e, .inl (by omega)⟩
    · rw [decide_eq_false e3] at h1
      simp only [cond_false, Bool.and_eq_true, Bool.not_eq_true'] at h1
      obtain ⟨h10, h11⟩ := h1
      simp only [h10, h11, cond_true, cond_false, beq_iff_eq] at h
      obtain ⟨k, vals, e, hl⟩ := key 0 (by omega)
      refine ⟨k, vals, e, .inr ?_⟩
      unfold setN at hu
      simp only [List.mem_cons, List.not_mem_nil, or_false] at hu
      rcases hu with h | h | h | h | h
      · exact absurd (.inl h) e1
      · exact absurd (.inr h) e1
      · exact absurd h e3
      · exact .inl h
      · exact .inr h
theorem OnSets_ok (t : List DE) (args : List ByteArray) (h : Bd t) (ha : wB args ≤ 1048576) : ∃ r : RS, Back t r ∧ spec_OnSets t args = some (r, ()) ∧ impl_OnSets t args = some (r, ()) := by
  have hl : args.length ≤ 1048576 := wl_len ha
  have hs : ∀ s ∈ args, s.size ≤ 1048576 := fun s hs => wl_mem ha hs
  have hi := impl_begun_ok t args c_SADD_SREM_SI_34_842407 setN h (by omega) (fun s h => by have := hs s h; omega) f_set (by decide)
  rw [impl_OnSets_eq, hi]
  cases hp : isB t args setN with
  | false =>
    refine ⟨([], (ByteArray.empty, false)), .inr nil_tab, ?_, rfl⟩
    rw [spec_OnSets_eq, show spec_l14Is t args [c_SADD, c_SREM, c_SISMEMBER, c_SCARD, c_SMEMBERS] = some (isB t args setN, ()) from spec_l14Is_ok t _ _ h (by omega) (fun s h => by have := hs s h; omega) (by decide), hp]
    rfl
  | true =>
    have hp' := hp
    unfold isB at hp'
    simp only [Bool.and_eq_true] at hp'
    obtain ⟨ht, hm, har⟩ := hp'
    match args, hl, hs, hp, hm, har with
    | a :: r, hl, hs, hp, hm, har =>
      obtain ⟨k, vals, rfl, h2⟩ := set_lens (memB_iff.1 hm) har
      have hlen : (a :: k :: vals).length = vals.length + 2 := rfl
      have hv : vals.length ≤ 2097152 := by omega
      have hks : k.size ≤ 4194304 := by have := hs k (List.mem_cons_of_mem _ (List.mem_cons_self ..)); omega
      refine ⟨overB (setD t (upB a) k vals) t, over_back _ _, spec_OnSets_ok t ht k vals hv a (memB_iff.1 hm) hp hks (fun s h => by have := hs s h; omega) h2 (by omega), ?_⟩
      have k1 : (decide ((0 : Int) ≤ 1) && decide ((1 : Int) < ((a :: k :: vals).length : Int))) = true := by rw [decide_eq_true (show (1 : Int) < ((a :: k :: vals).length : Int) by omega)]; rfl
      have k0 : (decide ((0 : Int) ≤ 0) && decide ((0 : Int) < ((a :: k :: vals).length : Int))) = true := by rw [decide_eq_true (show (0 : Int) < ((a :: k :: vals).length : Int) by omega)]; rfl
      have k2 : (decide ((0 : Int) ≤ 2) && (decide ((2 : Int) ≤ ((a :: k :: vals).length : Int)) && decide (((a :: k :: vals).length : Int) ≤ ((a :: k :: vals).length : Int)))) = true := by rw [decide_eq_true (show (2 : Int) ≤ ((a :: k :: vals).length : Int) by omega), decide_eq_true (Int.le_refl _)]; rfl
      have g0 : impl_Upper (List.getD (a :: k :: vals) (Int.toNat 0) ByteArray.empty) = some (upB a, ()) := impl_Upper_ok a (by have := hs a (List.mem_cons_self ..); omega)
      have g1 : List.getD (a :: k :: vals) (Int.toNat 1) ByteArray.empty = k := rfl
      have g2 : List.take ((Int.toNat ((a :: k :: vals).length : Int)) - (Int.toNat 2)) (List.drop (Int.toNat 2) (a :: k :: vals)) = vals := by
        rw [Int.toNat_natCast]
        exact List.take_of_length_le (by show vals.length ≤ (a :: k :: vals).length - 2; omega)
      obtain ⟨d', ho⟩ := over_ok (setD t (upB a) k vals) t h (setD_bd t ht k vals hv (upB a) hks (fun s hs' => by have := hs s (List.mem_cons_of_mem _ (List.mem_cons_of_mem _ hs')); omega))
      simp only [Option.bind_some, cond_true, Bool.not_true, cond_false, k0, k1, k2, g0, g1, g2, impl_set_ok t ht k vals hv (upB a) (memB_iff.1 hm) h2, ho]
end Go.Den.S
