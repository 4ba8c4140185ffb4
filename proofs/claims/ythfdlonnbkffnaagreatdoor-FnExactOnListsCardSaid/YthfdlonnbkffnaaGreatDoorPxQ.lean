/- PxQ: equations of the functions of this seat as the executor tells them, or plain facts about them. Conditions: none here. -/
import Derived.Test.YthfdlonnbkffnaaGreatDoorPxP
set_option linter.all false
set_option linter.unusedSimpArgs false
set_option linter.unusedVariables false
namespace Go.Den.S
open Go Go.Den
theorem l15Index_ok (l : List ByteArray) (s : ByteArray) (hl : l.length ≤ 1000000) (hs : s.size ≤ 100000000) (hz : ∀ x ∈ l, x.size ≤ 1000000) : spec_l15Index l s = some ((bif !(rdI s).2 then (ByteArray.empty, false) else (idxR l (rdI s).1, true)), ()) := by
  rw [spec_l15Index_eq, spec_ReadInt_ok s hs]
  have i0 := rdI_in s
  have w1 : w64 ((rdI s).1 + (l.length : Int)) = (rdI s).1 + (l.length : Int) := wrap64_id (by omega) (by omega)
  have w2 : w64 ((l.length : Int) - 1) = (l.length : Int) - 1 := wrap64_id (by omega) (by omega)
  simp only [Option.bind_some, w1, w2, l01In_ok, spec_Nil_eq]
  cases (rdI s).2 with
  | false => rfl
  | true =>
    simp only [Bool.not_true, cond_false]
    have key : ∀ i : Int, (bif !(decide (0 ≤ i) && decide (i ≤ (l.length : Int) - 1)) then some ((nilR, true), ()) else bif (decide (0 ≤ i) && decide (i < (l.length : Int))) then (spec_Bulk (l.getD (Int.toNat i) ByteArray.empty)).bind fun r6 => some ((r6.1, true), ()) else none) = some (((if 0 ≤ i ∧ i ≤ (l.length : Int) - 1 then bulkB (gi l i.toNat) else nilR), true), ()) := fun i => by
      by_cases hr : 0 ≤ i ∧ i ≤ (l.length : Int) - 1
      · have hsz : (gi l i.toNat).size ≤ 1000000000 := by have := hz (gi l i.toNat) (getD_mem (d := ByteArray.empty) (show i.toNat < l.length by omega)); omega
        rw [decide_eq_true hr.1, decide_eq_true hr.2, decide_eq_true (show i < (l.length : Int) by omega), if_pos hr]
        simp only [Bool.and_self, Bool.not_true, cond_false, cond_true, spec_Bulk_ok _ hsz, Option.bind_some]
      · have hb' : (decide (0 ≤ i) && decide (i ≤ (l.length : Int) - 1)) = false := by
          rw [Bool.and_eq_false_iff, decide_eq_false_iff_not, decide_eq_false_iff_not]; omega
        rw [hb', if_neg hr]; rfl
    unfold idxR
    by_cases h : (rdI s).1 < 0
    · rw [decide_eq_true h]
      have := key ((rdI s).1 + (l.length : Int))
      simp only [cond_true, if_pos h]
      exact this
    · rw [decide_eq_false h]
      have := key (rdI s).1
      simp only [cond_false, if_neg h]
      exact this
section
variable (t : List DE) (ht : tabB t = true) (k : ByteArray) (vals : List ByteArray) (hv : vals.length ≤ 2097152)
include ht hv
theorem lstD_bd (u : ByteArray) (hk : k.size ≤ 4194304) (hs : ∀ s ∈ vals, s.size ≤ 4194304) : Bd (lstD t u k vals).1 := by
  have hb := tab_bd ht
  obtain ⟨n1, n2, n3⟩ := und_bd (k := k) ht
  have hm : ∀ s, s ∈ (undB t k).2.2 ∨ s ∈ vals → s.size ≤ 4194304 := fun s h => by
    rcases h with h | h
    · have := n3 s h; omega
    · exact hs s h
  unfold lstD
  cases wrongB t k 2 with
  | true => exact hb
  | false =>
    simp only [cond_false]
    by_cases e1 : u = c_LPUSH
    · simp only [decide_eq_true e1, cond_true]
      exact keep_bd ht hk (show (vals.reverse ++ (undB t k).2.2).length ≤ _ by rw [List.length_append, List.length_reverse]; omega) (by show (undB t k).2.1.size ≤ _; omega) fun s h => hm s ((List.mem_append.1 h).symm.imp id fun h => List.mem_reverse.1 h)
    · simp only [decide_eq_false e1, cond_false]
      by_cases e2 : u = c_RPUSH
      · simp only [decide_eq_true e2, cond_true]
        exact keep_bd ht hk (show ((undB t k).2.2 ++ vals).length ≤ _ by rw [List.length_append]; omega) (by show (undB t k).2.1.size ≤ _; omega) fun s h => hm s (List.mem_append.1 h)
      · simp only [decide_eq_false e2, cond_false]
        by_cases e3 : u = c_LPOP
        · simp only [decide_eq_true e3, cond_true]
          cases decide ((undB t k).2.2 = []) with
          | true => exact hb
          | false => exact keep_bd ht hk (show ((undB t k).2.2.drop 1).length ≤ _ by rw [List.length_drop]; omega) (by show (undB t k).2.1.size ≤ _; omega) fun s h => hm s (.inl (List.mem_of_mem_drop h))
        · simp only [decide_eq_false e3, cond_false]
          by_cases e4 : u = c_RPOP
          · simp only [decide_eq_true e4, cond_true]
            cases decide ((undB t k).2.2 = []) with
            | true => exact hb
            | false => exact keep_bd ht hk (show ((undB t k).2.2.take ((undB t k).2.2.length - 1)).length ≤ _ by rw [List.length_take]; omega) (by show (undB t k).2.1.size ≤ _; omega) fun s h => hm s (.inl (List.mem_of_mem_take h))
          · simp only [decide_eq_false e4, cond_false]
            cases decide (u = c_LLEN)
            · simp only [cond_false]
              cases decide (u = c_LINDEX)
              · simp only [cond_false]
                cases (rdI (gi vals 0)).2
                · exact hb
                · cases (rdI (gi vals 1)).2 <;> exact hb
              · simp only [cond_true]
                cases (rdI (gi vals 0)).2 <;> exact hb
            · exact hb
theorem over_bad (r : ByteArray) : overB (t, (r, true)) t = (t, (r, true)) := rfl
theorem spec_OnLists_ok (a : ByteArray) (hp : isB t (a :: k :: vals) lstN = true) (hu : upB a ∈ lstN) (hk : k.size ≤ 4194304) (hal : ∀ s ∈ (a :: k :: vals), s.size ≤ 2097152) (h2 : ((upB a = c_LPUSH ∨ upB a = c_RPUSH) → 1 ≤ vals.length) ∧ (upB a = c_LINDEX → 1 ≤ vals.length) ∧ (upB a = c_LRANGE → 2 ≤ vals.length)) (hl2 : (a :: k :: vals).length ≤ 2097152) :
    spec_OnLists t (a :: k :: vals) = some (overB (lstD t (upB a) k vals) t, ()) := by
  have hb := tab_bd ht
  have hs : ∀ s ∈ vals, s.size ≤ 4194304 := fun s hs => by have := hal s (List.mem_cons_of_mem _ (List.mem_cons_of_mem _ hs)); omega
  obtain ⟨n1, n2, n3⟩ := und_bd (k := k) ht
  have hm : ∀ s, s ∈ (undB t k).2.2 ∨ s ∈ vals → s.size ≤ 4194304 := fun s h => by
    rcases h with h | h
    · have := n3 s h; omega
    · exact hs s h
  have hcl : (a :: k :: vals).length = vals.length + 2 := rfl
  have k1 : (decide ((0 : Int) ≤ 1) && decide ((1 : Int) < ((a :: k :: vals).length : Int))) = true := by rw [decide_eq_true (show (1 : Int) < ((a :: k :: vals).length : Int) by omega)]; rfl
  have k0 : (decide ((0 : Int) ≤ 0) && decide ((0 : Int) < ((a :: k :: vals).length : Int))) = true := by rw [decide_eq_true (show (0 : Int) < ((a :: k :: vals).length : Int) by omega)]; rfl
  have kk : (decide ((0 : Int) ≤ 2) && (decide ((2 : Int) ≤ ((a :: k :: vals).length : Int)) && decide (((a :: k :: vals).length : Int) ≤ ((a :: k :: vals).length : Int)))) = true := by rw [decide_eq_true (show (2 : Int) ≤ ((a :: k :: vals).length : Int) by omega), decide_eq_true (Int.le_refl _)]; rfl
  have g1 : List.getD (a :: k :: vals) (Int.toNat 1) ByteArray.empty = k := rfl
  have g2 : List.getD (a :: k :: vals) (Int.toNat 2) ByteArray.empty = gi vals 0 := rfl
  have g3 : List.getD (a :: k :: vals) (Int.toNat 3) ByteArray.empty = gi vals 1 := rfl
  have gt : List.take ((Int.toNat ((a :: k :: vals).length : Int)) - (Int.toNat 2)) (List.drop (Int.toNat 2) (a :: k :: vals)) = vals := by
    rw [Int.toNat_natCast]
    exact List.take_of_length_le (by show vals.length ≤ (a :: k :: vals).length - 2; omega)
  have g0 : spec_Upper (List.getD (a :: k :: vals) (Int.toNat 0) ByteArray.empty) = some (upB a, ()) := spec_Upper_ok a (by have := hal a (List.mem_cons_self ..); omega)
  rw [spec_OnLists_eq, show spec_l14Is t (a :: k :: vals) [c_LPUSH, c_RPUSH, c_LPOP, c_RPOP, c_LLEN, c_LRANGE, c_LINDEX] = some (isB t (a :: k :: vals) lstN, ()) from spec_l14Is_ok t _ _ hb hl2 hal (by decide), hp]
  simp only [Option.bind_some, Bool.not_true, cond_false, k1, k0, kk, gt, cond_true, g1, g2, g3, g0, items_ok t k 2 hb, bytes_eq, no_ok t c_WRONGTYPE hb (by decide), no_ok t c_ERR_integer hb (by decide)]
  unfold lstD
  cases hw : wrongB t k 2 with
  | true =>
    simp only [items_wrong hw, Bool.not_false, cond_true]
    rfl
  | false =>
    simp only [items_eq hw, Bool.not_true, cond_false]
    have hkeep := fun (l : List ByteArray) (r : ByteArray) (hl : l.length ≤ 4194304) (hsz : ∀ s ∈ l, s.size ≤ 4194304) => spec_keep_ok t k (2, ((undB t k).1, ((undB t k).2.1, l))) r ht (show (2 : Int) ≠ 0 by decide) hk hl (show (undB t k).2.1.size ≤ _ by omega) hsz
    by_cases e1 : upB a = c_LPUSH
    · have hlen : (vals.reverse ++ (undB t k).2.2).length = vals.length + (undB t k).2.2.length := by simp
      simp only [decide_eq_true e1, cond_true, spec_lists_L1_ok t a k vals 2 (undB t k).1 (undB t k).2.1 (undB t k).2.2 (by omega), spec_Number_ok ((vals.reverse ++ (undB t k).2.2).length : Int) (by omega) (by omega), Option.bind_some]
      rw [hkeep _ _ (by omega) fun s h => hm s ((List.mem_append.1 h).symm.imp id fun h => List.mem_reverse.1 h)]
      rfl
    · simp only [decide_eq_false e1, cond_false]
      by_cases e2 : upB a = c_RPUSH
      · have hlen : ((undB t k).2.2 ++ vals).length = (undB t k).2.2.length + vals.length := List.length_append
        simp only [decide_eq_true e2, cond_true, lim_true (show ((undB t k).2.2.length + vals.length) * 16 ≤ 140737488355328 by omega), spec_Number_ok (((undB t k).2.2 ++ vals).length : Int) (by omega) (by omega), Option.bind_some]
        rw [hkeep _ _ (by omega) fun s h => hm s (List.mem_append.1 h)]
        rfl
      · simp only [decide_eq_false e2, cond_false, spec_copyTable_ok t hb, spec_Nil_eq, Option.bind_some, beq_dec]
        have hnil : decide (((undB t k).2.2.length : Int) = 0) = decide ((undB t k).2.2 = []) := decide_eq_decide.2 (by rw [← List.length_eq_zero_iff]; omega)
        rw [hnil]
        by_cases e3 : upB a = c_LPOP
        · simp only [decide_eq_true e3, cond_true]
          by_cases hz : (undB t k).2.2 = []
          · simp only [decide_eq_true hz, cond_true, over_same t ht vals hv]
          · have hpos : 1 ≤ (undB t k).2.2.length := by have := List.length_pos_iff.2 hz; omega
            have hsz : (gi (undB t k).2.2 0).size ≤ 1000000000 := by have := n3 (gi (undB t k).2.2 0) (getD_mem (by omega)); omega
            have e7 : ((undB t k).2.2.drop 1).take ((undB t k).2.2.length - 1) = (undB t k).2.2.drop 1 := List.take_of_length_le (by rw [List.length_drop]; exact Nat.le_refl _)
            simp only [decide_eq_false hz, cond_false, Int.le_refl, decide_true, show decide ((0 : Int) ≤ 1) = true from rfl, decide_eq_true (show (0 : Int) < ((undB t k).2.2.length : Int) by omega), decide_eq_true (show (1 : Int) ≤ ((undB t k).2.2.length : Int) by omega), Bool.and_self, cond_true, show Int.toNat 0 = 0 from rfl, show Int.toNat 1 = 1 from rfl, Int.toNat_natCast, e7, spec_Bulk_ok _ hsz, Option.bind_some]
            rw [hkeep _ _ (by rw [List.length_drop]; omega) fun s h => hm s (.inl (List.mem_of_mem_drop h))]
            rfl
        · simp only [decide_eq_false e3, cond_false]
          by_cases e4 : upB a = c_RPOP
          · simp only [decide_eq_true e4, cond_true]
            by_cases hz : (undB t k).2.2 = []
            · simp only [decide_eq_true hz, cond_true, over_same t ht vals hv]
            · have hpos : 1 ≤ (undB t k).2.2.length := by have := List.length_pos_iff.2 hz; omega
              have hsz : (gi (undB t k).2.2 ((undB t k).2.2.length - 1)).size ≤ 1000000000 := by have := n3 (gi (undB t k).2.2 ((undB t k).2.2.length - 1)) (getD_mem (by omega)); omega
              have q3 : w64 (((undB t k).2.2.length : Int) - 1) = (((undB t k).2.2.length - 1 : Nat) : Int) := by show IntKind.i64.wrap _ = _; rw [wrap64_id (by omega) (by omega)]; omega
              simp only [decide_eq_false hz, cond_false, q3, Int.le_refl, decide_true, decide_eq_true (show (0 : Int) ≤ (((undB t k).2.2.length - 1 : Nat) : Int) by omega), decide_eq_true (show (((undB t k).2.2.length - 1 : Nat) : Int) < ((undB t k).2.2.length : Int) by omega), decide_eq_true (show (((undB t k).2.2.length - 1 : Nat) : Int) ≤ ((undB t k).2.2.length : Int) by omega), Bool.and_self, cond_true, show Int.toNat 0 = 0 from rfl, Nat.sub_zero, List.drop_zero, Int.toNat_natCast, spec_Bulk_ok _ hsz, Option.bind_some]
              rw [hkeep _ _ (by rw [List.length_take]; omega) fun s h => hm s (.inl (List.mem_of_mem_take h))]
              rfl
          · simp only [decide_eq_false e4, cond_false]
            by_cases e5 : upB a = c_LLEN
            · simp only [decide_eq_true e5, cond_true, spec_Number_ok ((undB t k).2.2.length : Int) (by omega) (by omega), Option.bind_some, over_same t ht vals hv]
            · simp only [decide_eq_false e5, cond_false]
              by_cases e6 : upB a = c_LINDEX
              · have hp1 := h2.2.1 e6
                have hz0 : (gi vals 0).size ≤ 100000000 := by have := hs (gi vals 0) (getD_mem (d := ByteArray.empty) (show 0 < vals.length by omega)); omega
                simp only [decide_eq_true e6, cond_true, show decide ((0 : Int) ≤ 2) = true from rfl, decide_eq_true (show (2 : Int) < ((a :: k :: vals).length : Int) by omega), Bool.and_self, l15Index_ok _ _ (show (undB t k).2.2.length ≤ 1000000 by omega) hz0 (fun s h => by have := n3 s h; omega), Option.bind_some]
                cases (rdI (gi vals 0)).2 with
                | false => rfl
                | true => simp only [Bool.not_true, cond_false, over_same t ht vals hv]
              · have e7 : upB a = c_LRANGE := by
                  unfold lstN at hu
                  simp only [List.mem_cons, List.not_mem_nil, or_false] at hu
                  rcases hu with h | h | h | h | h | h | h
                  · exact absurd h e1
                  · exact absurd h e2
                  · exact absurd h e3
                  · exact absurd h e4
                  · exact absurd h e5
                  · exact h
                  · exact absurd h e6
                have hp1 := h2.2.2 e7
                have hz0 : (gi vals 0).size ≤ 100000000 := by have := hs (gi vals 0) (getD_mem (d := ByteArray.empty) (show 0 < vals.length by omega)); omega
                have hz1 : (gi vals 1).size ≤ 100000000 := by have := hs (gi vals 1) (getD_mem (d := ByteArray.empty) (show 1 < vals.length by omega)); omega
                have i0 := rdI_in (gi vals 0)
                have i1 := rdI_in (gi vals 1)
                have hin := bnd_in (rdI (gi vals 0)).1 (rdI (gi vals 1)).1 ((undB t k).2.2.length : Int) (by omega)
                have hB := spec_Bounds_ok (rdI (gi vals 0)).1 (rdI (gi vals 1)).1 ((undB t k).2.2.length : Int) i0 i1 (by omega)
                have hcm : ∀ s ∈ cutL (undB t k).2.2 (bndB (rdI (gi vals 0)).1 (rdI (gi vals 1)).1 ((undB t k).2.2.length : Int)), s.size ≤ 60 := fun s hs => n3 s (List.mem_of_mem_drop (List.mem_of_mem_take hs))
                have hcl : (cutL (undB t k).2.2 (bndB (rdI (gi vals 0)).1 (rdI (gi vals 1)).1 ((undB t k).2.2.length : Int))).length ≤ 24 := by
                  unfold cutL
                  rw [List.length_take, List.length_drop]; omega
                have hbk := spec_l15Bulks_ok _ (small_w _ (show (cutL (undB t k).2.2 (bndB (rdI (gi vals 0)).1 (rdI (gi vals 1)).1 ((undB t k).2.2.length : Int))).length ≤ 1000 by omega) hcm)
                unfold cutL at hbk ⊢
                simp only [decide_eq_false e6, cond_false, show decide ((0 : Int) ≤ 2) = true from rfl, show decide ((0 : Int) ≤ 3) = true from rfl, decide_eq_true (show (2 : Int) < ((a :: k :: vals).length : Int) by omega), decide_eq_true (show (3 : Int) < ((a :: k :: vals).length : Int) by omega), Bool.and_self, cond_true, spec_ReadInt_ok _ hz0, spec_ReadInt_ok _ hz1, Option.bind_some, hB, decide_eq_true hin.1, decide_eq_true hin.2.1, decide_eq_true hin.2.2, hbk]
                cases (rdI (gi vals 0)).2 with
                | false => rfl
                | true =>
                  cases (rdI (gi vals 1)).2 with
                  | false => rfl
                  | true => simp only [Bool.not_true, cond_false, over_same t ht vals hv]
end
theorem lst_ar : (lstN.all fun u => bif decide (u = c_LPUSH) || decide (u = c_RPUSH) then !(memB u ar0) && (!(memB u ar1) && (!(memB u ar2) && (!(memB u ar3) && (!(memB u ar4) && memB u ar5)))) else bif decide (u = c_LINDEX) then !(memB u ar0) && (!(memB u ar1) && memB u ar2) else bif decide (u = c_LRANGE) then !(memB u ar0) && (!(memB u ar1) && (!(memB u ar2) && memB u ar3)) else !(memB u ar0) && memB u ar1) = true := by decide +kernel
theorem lst_lens {a : ByteArray} {r : List ByteArray} (hu : upB a ∈ lstN) (h : arityB (a :: r) = true) : ∃ k vals, r = k :: vals ∧ (((upB a = c_LPUSH ∨ upB a = c_RPUSH) → 1 ≤ vals.length) ∧ (upB a = c_LINDEX → 1 ≤ vals.length) ∧ (upB a = c_LRANGE → 2 ≤ vals.length)) := by
  have h1 := List.all_eq_true.1 lst_ar _ hu
  unfold arityB at h
  simp only [Bool.and_eq_true] at h
  have h := h.2
  unfold arB at h
  have key : ∀ n : Nat, r.length = n + 1 → ∃ k vals, r = k :: vals ∧ vals.length = n := fun n hn => by
    match r, hn with
    | k :: vals, hn => exact ⟨k, vals, rfl, by simpa using hn⟩
  by_cases e1 : upB a = c_LPUSH ∨ upB a = c_RPUSH
  · have e1' : (decide (upB a = c_LPUSH) || decide (upB a = c_RPUSH)) = true := by simpa using e1
    rw [e1'] at h1
    simp only [cond_true, Bool.and_eq_true, Bool.not_eq_true'] at h1
    obtain ⟨h10, h11, h12, h13, h14, h15⟩ := h1
    simp only [h10, h11, h12, h13, h14, h15, cond_true, cond_false, decide_eq_true_eq] at h
    obtain ⟨k, vals, e, hl⟩ := key (r.length - 1) (by omega)
    refine ⟨k, vals, e, fun _ => by omega, fun _ => by omega, fun h => ?_⟩
    rcases e1 with e1 | e1 <;> (rw [e1] at h; exact absurd h (by decide +kernel))
  · have e1' : (decide (upB a = c_LPUSH) || decide (upB a = c_RPUSH)) = false := by simpa using e1
    rw [e1'] at h1
    simp only [cond_false] at h1
    by_cases e3 : upB a = c_LINDEX
    · rw [decide_eq_true e3] at h1
      simp only [cond_true, Bool.and_eq_true, Bool.not_eq_true'] at h1
      obtain ⟨h10, h11, h12⟩ := h1
      simp only [h10, h11, h12, cond_true, cond_false, beq_iff_eq] at h
      obtain ⟨k, vals, e, hl⟩ := key 1 (by omega)
      exact ⟨k, vals, e, fun h => absurd h e1, fun _ => by omega, fun h => by rw [e3] at h; exact absurd h (by decide +kernel)⟩
    · rw [decide_eq_false e3] at h1
      simp only [cond_false] at h1
      by_cases e4 : upB a = c_LRANGE
      · rw [decide_eq_true e4] at h1
        simp only [cond_true, Bool.and_eq_true, Bool.not_eq_true'] at h1
        obtain ⟨h10, h11, h12, h13⟩ := h1
        simp only [h10, h11, h12, h13, cond_true, cond_false, beq_iff_eq] at h
        obtain ⟨k, vals, e, hl⟩ := key 2 (by omega)
        exact ⟨k, vals, e, fun h => absurd h e1, fun h => absurd h e3, fun _ => by omega⟩
      · rw [decide_eq_false e4] at h1
        simp only [cond_false, Bool.and_eq_true, Bool.not_eq_true'] at h1
        obtain ⟨h10, h11⟩ := h1
        simp only [h10, h11, cond_true, cond_false, beq_iff_eq] at h
        obtain ⟨k, vals, e, hl⟩ := key 0 (by omega)
        exact ⟨k, vals, e, fun h => absurd h e1, fun h => absurd h e3, fun h => absurd h e4⟩
theorem OnLists_ok (t : List DE) (args : List ByteArray) (h : Bd t) (ha : wB args ≤ 1048576) : ∃ r : RS, Back t r ∧ spec_OnLists t args = some (r, ()) ∧ impl_OnLists t args = some (r, ()) := by
  have hl : args.length ≤ 1048576 := wl_len ha
  have hs : ∀ s ∈ args, s.size ≤ 1048576 := fun s hs => wl_mem ha hs
  have hi := impl_begun_ok t args c_LPUSH_RPUSH__40_57527 lstN h (by omega) (fun s h => by have := hs s h; omega) f_lst (by decide)
  rw [impl_OnLists_eq, hi]
  cases hp : isB t args lstN with
  | false =>
    refine ⟨([], (ByteArray.empty, false)), .inr nil_tab, ?_, rfl⟩
    rw [spec_OnLists_eq, show spec_l14Is t args [c_LPUSH, c_RPUSH, c_LPOP, c_RPOP, c_LLEN, c_LRANGE, c_LINDEX] = some (isB t args lstN, ()) from spec_l14Is_ok t _ _ h (by omega) (fun s h => by have := hs s h; omega) (by decide), hp]
    rfl
  | true =>
    have hp' := hp
    unfold isB at hp'
    simp only [Bool.and_eq_true] at hp'
    obtain ⟨ht, hm, har⟩ := hp'
    match args, hl, hs, hp, hm, har with
    | a :: r, hl, hs, hp, hm, har =>
      obtain ⟨k, vals, rfl, h2⟩ := lst_lens (memB_iff.1 hm) har
      have hlen : (a :: k :: vals).length = vals.length + 2 := rfl
      have hv : vals.length ≤ 2097152 := by omega
      have hks : k.size ≤ 4194304 := by have := hs k (List.mem_cons_of_mem _ (List.mem_cons_self ..)); omega
      have hvs : ∀ s ∈ vals, s.size ≤ 4194304 := fun s hs' => by have := hs s (List.mem_cons_of_mem _ (List.mem_cons_of_mem _ hs')); omega
      refine ⟨overB (lstD t (upB a) k vals) t, over_back _ _, spec_OnLists_ok t ht k vals hv a hp (memB_iff.1 hm) hks (fun s h => by have := hs s h; omega) h2 (by omega), ?_⟩
      have k1 : (decide ((0 : Int) ≤ 1) && decide ((1 : Int) < ((a :: k :: vals).length : Int))) = true := by rw [decide_eq_true (show (1 : Int) < ((a :: k :: vals).length : Int) by omega)]; rfl
      have k0 : (decide ((0 : Int) ≤ 0) && decide ((0 : Int) < ((a :: k :: vals).length : Int))) = true := by rw [decide_eq_true (show (0 : Int) < ((a :: k :: vals).length : Int) by omega)]; rfl
      have k2 : (decide ((0 : Int) ≤ 2) && (decide ((2 : Int) ≤ ((a :: k :: vals).length : Int)) && decide (((a :: k :: vals).length : Int) ≤ ((a :: k :: vals).length : Int)))) = true := by rw [decide_eq_true (show (2 : Int) ≤ ((a :: k :: vals).length : Int) by omega), decide_eq_true (Int.le_refl _)]; rfl
      have g0 : impl_Upper (List.getD (a :: k :: vals) (Int.toNat 0) ByteArray.empty) = some (upB a, ()) := impl_Upper_ok a (by have := hs a (List.mem_cons_self ..); omega)
      have g1 : List.getD (a :: k :: vals) (Int.toNat 1) ByteArray.empty = k := rfl
      have g2 : List.take ((Int.toNat ((a :: k :: vals).length : Int)) - (Int.toNat 2)) (List.drop (Int.toNat 2) (a :: k :: vals)) = vals := by
        rw [Int.toNat_natCast]
        exact List.take_of_length_le (by show vals.length ≤ (a :: k :: vals).length - 2; omega)
      obtain ⟨d', ho⟩ := over_ok (lstD t (upB a) k vals) t h (lstD_bd t ht k vals hv (upB a) hks hvs)
      simp only [Option.bind_some, cond_true, Bool.not_true, cond_false, k0, k1, k2, g0, g1, g2, impl_list_ok t ht k vals hv (upB a) (memB_iff.1 hm) h2 hvs, ho]
end Go.Den.S
