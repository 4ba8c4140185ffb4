/- PzA: equations of the functions of this seat as the executor tells them, or plain facts about them. Conditions: none here. -/
import Derived.Test.YthfdlonnbkffnaaGreatDoorPxZ
set_option linter.all false
set_option linter.unusedSimpArgs false
set_option linter.unusedVariables false
namespace Go.Den.S
open Go Go.Den
theorem key_ar : (keyN.all fun u => bif decide (u = c_PING) || (decide (u = c_KEYS) || (decide (u = c_DBSIZE) || decide (u = c_FLUSHALL))) then memB u ar0 else bif decide (u = c_EXPIRE) then !(memB u ar0) && (!(memB u ar1) && memB u ar2) else bif decide (u = c_DEL) || decide (u = c_EXISTS) then !(memB u ar0) && (!(memB u ar1) && (!(memB u ar2) && (!(memB u ar3) && memB u ar4))) else !(memB u ar0) && memB u ar1) = true := by decide +kernel
theorem key_lens {a : ByteArray} {r : List ByteArray} (hu : upB a ∈ keyN) (h : arityB (a :: r) = true) (m1 : ¬ upB a = c_PING) (m2 : ¬ upB a = c_KEYS) (m3 : ¬ upB a = c_DBSIZE) (m4 : ¬ upB a = c_FLUSHALL) : ∃ k vals, r = k :: vals ∧ (upB a = c_EXPIRE → 1 ≤ vals.length) := by
  have q := List.all_eq_true.1 key_ar _ hu
  unfold arityB at h
  simp only [Bool.and_eq_true] at h
  have h := h.2
  unfold arB at h
  have key : ∀ n : Nat, r.length = n + 1 → ∃ k vals, r = k :: vals ∧ vals.length = n := fun n hn => by
    match r, hn with
    | k :: vals, hn => exact ⟨k, vals, rfl, by simpa using hn⟩
  rw [decide_eq_false m1, decide_eq_false m2, decide_eq_false m3, decide_eq_false m4] at q
  simp only [Bool.or_self, cond_false] at q
  by_cases e1 : upB a = c_EXPIRE
  · rw [decide_eq_true e1] at q
    simp only [cond_true, Bool.and_eq_true, Bool.not_eq_true'] at q
    obtain ⟨q0, q1, q2⟩ := q
    simp only [q0, q1, q2, cond_true, cond_false, beq_iff_eq] at h
    obtain ⟨k, vals, e, hl⟩ := key 1 (by omega)
    exact ⟨k, vals, e, fun _ => by omega⟩
  · rw [decide_eq_false e1] at q
    simp only [cond_false] at q
    by_cases e2 : upB a = c_DEL ∨ upB a = c_EXISTS
    · have e2' : (decide (upB a = c_DEL) || decide (upB a = c_EXISTS)) = true := by simpa using e2
      rw [e2'] at q
      simp only [cond_true, Bool.and_eq_true, Bool.not_eq_true'] at q
      obtain ⟨q0, q1, q2, q3, q4⟩ := q
      simp only [q0, q1, q2, q3, q4, cond_true, cond_false, decide_eq_true_eq] at h
      obtain ⟨k, vals, e, hl⟩ := key (r.length - 1) (by omega)
      exact ⟨k, vals, e, fun h => absurd h e1⟩
    · have e2' : (decide (upB a = c_DEL) || decide (upB a = c_EXISTS)) = false := by simpa using e2
      rw [e2'] at q
      simp only [cond_false, Bool.and_eq_true, Bool.not_eq_true'] at q
      simp only [q.1, q.2, cond_true, cond_false, beq_iff_eq] at h
      obtain ⟨k, vals, e, hl⟩ := key 0 (by omega)
      exact ⟨k, vals, e, fun h => absurd h e1⟩
/-- All keys. -/
def namesB (t : List DE) : List ByteArray := t.map fun e => e.1
theorem names_sz {t : List DE} (ht : tabB t = true) : (namesB t).length ≤ 20 ∧ ∀ s ∈ namesB t, s.size ≤ 60 := by
  refine ⟨by unfold namesB; rw [List.length_map]; exact tab_len ht, fun s hs => ?_⟩
  obtain ⟨e, he, rfl⟩ := List.mem_map.1 hs
  have := (tab_val ht he).2
  omega
theorem spec_keys (t : List DE) (ht : tabB t = true) : spec_OnKeys_L1 t [] 0 = some ((t, (arrB ((namesB t).map bulkB), true)), ()) := by
  have hb := tab_bd ht
  have hl := tab_len ht
  obtain ⟨z1, z2⟩ := names_sz ht
  have := fold_loop (fun acc i => spec_OnKeys_L1 t acc i) t dflt (fun a e => a ++ [e.1]) (fun acc => (spec_l10CopyTable t).bind fun r5 => (spec_l15Bulks acc).bind fun r6 => some ((r5.1, (r6.1, true)), ())) (fun acc i => acc.length = i)
    (fun acc i hi hI => by
      constructor
      · conv => lhs; rw [spec_OnKeys_L1_eq]
        simp only [decide_eq_true (show (i : Int) < (t.length : Int) by omega), decide_eq_true (show (0 : Int) ≤ (i : Int) by omega), Bool.and_self, cond_true, Int.toNat_natCast, lim_true (show (acc.length + 1) * 16 ≤ 140737488355328 by omega), show w64 ((i : Int) + 1) = ((i + 1 : Nat) : Int) from wrap_succ (by omega)]
      · rw [List.length_append, hI]; rfl)
    (fun acc hI => by
      show spec_OnKeys_L1 t acc (t.length : Int) = _
      rw [spec_OnKeys_L1_eq]
      simp only [Int.lt_irrefl, decide_false, cond_false]) [] rfl
  refine this.trans ?_
  rw [push_fold (fun e : DE => e.1), List.nil_append, spec_copyTable_ok t hb]
  show ((some (t, ())).bind fun r5 : List DE × Unit => (spec_l15Bulks (namesB t)).bind fun r6 => some ((r5.1, (r6.1, true)), ())) = _
  rw [spec_l15Bulks_ok _ (small_w _ (by omega) z2)]
  rfl
theorem impl_keys (t : List DE) (ht : tabB t = true) : impl_OnKeys_L1 t [] t (t.length : Int) 0 t ByteArray.empty false = some ((t, (arrB ((namesB t).map bulkB), true)), ()) := by
  have hb := tab_bd ht
  have hl := tab_len ht
  obtain ⟨z1, z2⟩ := names_sz ht
  have := fold_loop (fun acc i => impl_OnKeys_L1 t acc t (t.length : Int) i t ByteArray.empty false) t dflt (fun a e => a ++ [e.1]) (fun acc => (impl_bulks acc).bind fun r10 => (impl_Array r10.1).bind fun r11 => (__loop_example_g00124_impl_desk__say (t, (ByteArray.empty, false)) r11.1).bind fun r12 => (__loop_example_g00124_impl_desk__over r12.2.1 t).bind fun r13 => some (r13.1, ())) (fun acc i => acc.length = i)
    (fun acc i hi hI => by
      constructor
      · conv => lhs; rw [impl_OnKeys_L1_eq]
        simp only [decide_eq_true (show (i : Int) < (t.length : Int) by omega), decide_eq_true (show (0 : Int) ≤ (i : Int) by omega), Bool.and_self, cond_true, Int.toNat_natCast, lim_true (show (acc.length + 1) * 16 ≤ 140737488355328 by omega), show w64 ((i : Int) + 1) = ((i + 1 : Nat) : Int) from wrap_succ (by omega)]
      · rw [List.length_append, hI]; rfl)
    (fun acc hI => by
      show impl_OnKeys_L1 t acc t (t.length : Int) (t.length : Int) t ByteArray.empty false = _
      rw [impl_OnKeys_L1_eq]
      simp only [Int.lt_irrefl, decide_false, cond_false]) [] rfl
  refine this.trans ?_
  rw [push_fold (fun e : DE => e.1), List.nil_append]
  obtain ⟨d', ho⟩ := over_ok (t, (arrB ((namesB t).map bulkB), false)) t hb hb
  show ((impl_bulks (namesB t)).bind _) = _
  rw [impl_bulks_ok _ (by omega) (fun s hs => by have := z2 s hs; omega)]
  simp only [Option.bind_some, impl_Array_ok _ (bulks_w _ (small_w _ (show (namesB t).length ≤ 1000 by omega) z2)), say_ok]
  show ((__loop_example_g00124_impl_desk__over (t, (arrB ((namesB t).map bulkB), false)) t).bind _) = _
  rw [ho]
  simp only [Option.bind_some, over_same t ht [] (by simp)]
theorem OnKeys_ok (t : List DE) (now : Int) (args : List ByteArray) (h : Bd t) (ha : wB args ≤ 1048576) : ∃ r : RS, Back t r ∧ spec_OnKeys t now args = some (r, ()) ∧ impl_OnKeys t now args = some (r, ()) := by
  have hl : args.length ≤ 1048576 := wl_len ha
  have hs : ∀ s ∈ args, s.size ≤ 1048576 := fun s hs => wl_mem ha hs
  have hi := impl_begun_ok t args c_PING_ECHO_DE_65_963040 keyN h (by omega) (fun s h => by have := hs s h; omega) f_key (by decide)
  have hsp := spec_l14Is_ok t args keyN h (by omega) (fun s h => by have := hs s h; omega) (by decide)
  have hsp : spec_l14Is t args [c_PING, c_ECHO, c_DEL, c_EXISTS, c_TYPE, c_EXPIRE, c_TTL, c_PERSIST, c_KEYS, c_DBSIZE, c_FLUSHALL] = some (isB t args keyN, ()) := hsp
  rw [impl_OnKeys_eq, hi]
  cases hp : isB t args keyN with
  | false =>
    refine ⟨([], (ByteArray.empty, false)), .inr nil_tab, ?_, rfl⟩
    rw [spec_OnKeys_eq, l01In_ok, hsp, hp]
    simp only [Option.bind_some]
    cases (decide (0 ≤ now) && decide (now ≤ 100000)) <;> rfl
  | true =>
    cases hn : (decide (0 ≤ now) && decide (now ≤ 100000)) with
    | false =>
      refine ⟨([], (ByteArray.empty, false)), .inr nil_tab, ?_, ?_⟩
      · rw [spec_OnKeys_eq, l01In_ok, hn]; rfl
      · simp only [Option.bind_some, cond_true, within_ok, hn]; rfl
    | true =>
      have hn' := hn
      simp only [Bool.and_eq_true, decide_eq_true_eq] at hn'
      have hp' := hp
      unfold isB at hp'
      simp only [Bool.and_eq_true] at hp'
      obtain ⟨ht, hm, har⟩ := hp'
      match args, hl, hs, hp, hm, har, hsp with
      | a :: r, hl, hs, hp, hm, har, hsp =>
        simp only [List.length_cons] at hl
        rw [hp] at hsp
        have hu := memB_iff.1 hm
        have k0 : (decide ((0 : Int) ≤ 0) && decide ((0 : Int) < ((a :: r).length : Int))) = true := by rw [decide_eq_true (show (0 : Int) < ((a :: r).length : Int) by simp only [List.length_cons]; omega)]; rfl
        have k2 : (decide ((0 : Int) ≤ 1) && (decide ((1 : Int) ≤ ((a :: r).length : Int)) && decide (((a :: r).length : Int) ≤ ((a :: r).length : Int)))) = true := by rw [decide_eq_true (show (1 : Int) ≤ ((a :: r).length : Int) by simp only [List.length_cons]; omega), decide_eq_true (Int.le_refl _)]; rfl
        have g0 : impl_Upper (List.getD (a :: r) (Int.toNat 0) ByteArray.empty) = some (upB a, ()) := impl_Upper_ok a (by have := hs a (List.mem_cons_self ..); omega)
        have g0' : spec_Upper (List.getD (a :: r) (Int.toNat 0) ByteArray.empty) = some (upB a, ()) := spec_Upper_ok a (by have := hs a (List.mem_cons_self ..); omega)
        have g2 : List.take ((Int.toNat ((a :: r).length : Int)) - (Int.toNat 1)) (List.drop (Int.toNat 1) (a :: r)) = r := by
          rw [Int.toNat_natCast]
          exact List.take_of_length_le (by show r.length ≤ (a :: r).length - 1; simp)
        have hover : ∀ x : ByteArray, ∃ d', __loop_example_g00124_impl_desk__over (sayB (t, (ByteArray.empty, false)) x) t = some ((t, (x, true)), (d', ())) := fun x => by
          obtain ⟨d', ho⟩ := over_ok (t, (x, false)) t h h
          rw [over_same t ht [] (by simp)] at ho
          exact ⟨d', ho⟩
        have hS : spec_OnKeys t now (a :: r) = _ := spec_OnKeys_eq t now (a :: r)
        rw [l01In_ok, hn, hsp] at hS
        simp only [Option.bind_some, Bool.not_true, cond_false, k0, cond_true, g0', bytes_eq, spec_copyTable_ok t h, spec_Simple_ok c_PONG (by decide), spec_Simple_ok c_OK (by decide), spec_Number_ok (t.length : Int) (by have := tab_len ht; omega) (by have := tab_len ht; omega)] at hS
        simp only [Option.bind_some, cond_true, within_ok, hn, Bool.not_true, cond_false, k0, k2, g0, g2, bytes_eq, impl_Simple_ok c_PONG (by decide), impl_Simple_ok c_OK (by decide), impl_Number_ok (t.length : Int) (by have := tab_len ht; omega) (by have := tab_len ht; omega), say_ok]
        by_cases m1 : upB a = c_PING
        · obtain ⟨d', ho⟩ := hover (simpB c_PONG)
          refine ⟨(t, (simpB c_PONG, true)), .inl rfl, ?_, ?_⟩
          · rw [hS]; simp only [decide_eq_true m1, cond_true]
          · simp only [decide_eq_true m1, cond_true, ho, Option.bind_some]
        · by_cases m2 : upB a = c_KEYS
          · have q1 : ¬ upB a = c_ECHO := by rw [m2]; decide +kernel
            have q2 : ¬ upB a = c_DEL := by rw [m2]; decide +kernel
            have q3 : ¬ upB a = c_EXISTS := by rw [m2]; decide +kernel
            have q4 : ¬ upB a = c_TYPE := by rw [m2]; decide +kernel
            refine ⟨(t, (arrB ((namesB t).map bulkB), true)), .inl rfl, ?_, ?_⟩
            · rw [hS]; simp only [decide_eq_false m1, decide_eq_true m2, decide_eq_false q1, decide_eq_false q2, decide_eq_false q3, decide_eq_false q4, cond_true, cond_false, spec_keys t ht]
            · simp only [decide_eq_false m1, decide_eq_true m2, cond_true, cond_false, impl_keys t ht]
          · by_cases m3 : upB a = c_DBSIZE
            · have q1 : ¬ upB a = c_ECHO := by rw [m3]; decide +kernel
              have q2 : ¬ upB a = c_DEL := by rw [m3]; decide +kernel
              have q3 : ¬ upB a = c_EXISTS := by rw [m3]; decide +kernel
              have q4 : ¬ upB a = c_TYPE := by rw [m3]; decide +kernel
              obtain ⟨d', ho⟩ := hover (numB (t.length : Int))
              refine ⟨(t, (numB (t.length : Int), true)), .inl rfl, ?_, ?_⟩
              · rw [hS]; simp only [decide_eq_false m1, decide_eq_false m2, decide_eq_true m3, decide_eq_false q1, decide_eq_false q2, decide_eq_false q3, decide_eq_false q4, cond_true, cond_false]
              · simp only [decide_eq_false m1, decide_eq_false m2, decide_eq_true m3, cond_true, cond_false, ho, Option.bind_some]
            · by_cases m4 : upB a = c_FLUSHALL
              · have q1 : ¬ upB a = c_ECHO := by rw [m4]; decide +kernel
                have q2 : ¬ upB a = c_DEL := by rw [m4]; decide +kernel
                have q3 : ¬ upB a = c_EXISTS := by rw [m4]; decide +kernel
                have q4 : ¬ upB a = c_TYPE := by rw [m4]; decide +kernel
                have hb0 : Bd [] := tab_bd nil_tab
                obtain ⟨d', ho⟩ := over_ok ([], (simpB c_OK, false)) t h hb0
                have ho : __loop_example_g00124_impl_desk__over (sayB ([], (ByteArray.empty, false)) (simpB c_OK)) t = some (([], (simpB c_OK, true)), (d', ())) := ho
                refine ⟨([], (simpB c_OK, true)), .inr nil_tab, ?_, ?_⟩
                · rw [hS]; simp only [decide_eq_false m1, decide_eq_false m2, decide_eq_false m3, decide_eq_true m4, decide_eq_false q1, decide_eq_false q2, decide_eq_false q3, decide_eq_false q4, cond_true, cond_false]
                · simp only [decide_eq_false m1, decide_eq_false m2, decide_eq_false m3, decide_eq_true m4, cond_true, cond_false, ho, Option.bind_some]
              · obtain ⟨k, vals, rfl, h2⟩ := key_lens hu har m1 m2 m3 m4
                simp only [List.length_cons] at hl
                have hks : k.size ≤ 4194304 := by have := hs k (List.mem_cons_of_mem _ (List.mem_cons_self ..)); omega
                have hvs : ∀ s ∈ vals, s.size ≤ 4194304 := fun s hs' => by have := hs s (List.mem_cons_of_mem _ (List.mem_cons_of_mem _ hs')); omega
                obtain ⟨d', ho⟩ := over_ok (keyD t now (upB a) k vals) t h (keyD_bd t ht now (upB a) k vals hks)
                refine ⟨overB (keyD t now (upB a) k vals) t, over_back _ _, spec_key_ok t ht now hn' a k vals (by omega) hp hks h2 (fun s h => by have := hs s h; omega) hu m1 m2 m3 m4, ?_⟩
                simp only [decide_eq_false m1, decide_eq_false m2, decide_eq_false m3, decide_eq_false m4, cond_false, impl_key_ok t ht now hn' (upB a) k vals (by omega) (by omega) h2 hvs, ho, Option.bind_some]
end Go.Den.S
