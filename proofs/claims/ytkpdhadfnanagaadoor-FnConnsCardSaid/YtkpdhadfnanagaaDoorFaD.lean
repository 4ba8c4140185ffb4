/- FaD: equations of the functions of this seat as the executor tells them, or plain facts about them. Conditions: none here. -/
import Derived.Test.YtkpdhadfnanagaaDoorFaC
set_option linter.all false
namespace Go.Den.S
open Go Go.Den
/-! ### requests -/
def bulkP (s : ByteArray) (a : Nat) : ByteArray × Int × Int :=
  if a = s.size then (ByteArray.empty, 0, 0) else if bt s a ≠ 36 then (ByteArray.empty, 0, 2) else
  if (numP s (a + 1) 60).2.2 ≠ 1 then (ByteArray.empty, 0, (numP s (a + 1) 60).2.2) else
  let n := (numP s (a + 1) 60).1.toNat
  let f := (numP s (a + 1) 60).2.1.toNat
  if f + n < s.size ∧ bt s (f + n) ≠ 13 ∨ f + n + 1 < s.size ∧ bt s (f + n + 1) ≠ 10 then (ByteArray.empty, 0, 2)
  else if s.size < f + n + 2 then (ByteArray.empty, 0, 0) else (ByteArray.extract s f (f + n), ((f + n + 2 : Nat) : Int), 1)
def prL (s : ByteArray) : Nat → Nat → List ByteArray → List ByteArray × Int × Int
  | 0, a, acc => (acc, (a : Int), 1)
  | m + 1, a, acc => if (bulkP s a).2.2 ≠ 1 then ([], 0, (bulkP s a).2.2) else prL s m (bulkP s a).2.1.toNat (acc ++ [(bulkP s a).1])
def parseP (s : ByteArray) : List ByteArray × Int × Int :=
  if s = ByteArray.empty then ([], 0, 0) else if bt s 0 ≠ 42 then lineP s else
  if (numP s 1 8).2.2 ≠ 1 then ([], 0, (numP s 1 8).2.2) else prL s (numP s 1 8).1.toNat (numP s 1 8).2.1.toNat []
theorem impl_bulk_ok (s : ByteArray) (a : Nat) (hs : s.size ≤ 1000000) (ha : a ≤ s.size) : impl_bulkAt s (a : Int) = some (bulkP s a, ()) := by
  rw [impl_bulkAt_eq]
  by_cases c0 : a = s.size
  · rw [eqT (by omega)]
    unfold bulkP
    rw [if_pos c0]; rfl
  · have e1 : w64 ((a : Int) + 1) = ((a + 1 : Nat) : Int) := wrap_succ (by omega)
    rw [eqF (by omega), e1, impl_countAt_ok s (a + 1) 60 hs (by omega) (by omega) (by omega), decT (show (0 : Int) ≤ (a : Int) by omega), decT (show (a : Int) < (s.size : Int) by omega)]
    simp only [cond_false, cond_true, Bool.and_self, Option.bind_some, Int.toNat_natCast]
    have hb : bulkP s a = if a = s.size then (ByteArray.empty, 0, 0) else if bt s a ≠ 36 then (ByteArray.empty, 0, 2) else
      if (numP s (a + 1) 60).2.2 ≠ 1 then (ByteArray.empty, 0, (numP s (a + 1) 60).2.2) else
      if (numP s (a + 1) 60).2.1.toNat + (numP s (a + 1) 60).1.toNat < s.size ∧ bt s ((numP s (a + 1) 60).2.1.toNat + (numP s (a + 1) 60).1.toNat) ≠ 13 ∨ (numP s (a + 1) 60).2.1.toNat + (numP s (a + 1) 60).1.toNat + 1 < s.size ∧ bt s ((numP s (a + 1) 60).2.1.toNat + (numP s (a + 1) 60).1.toNat + 1) ≠ 10 then (ByteArray.empty, 0, 2)
      else if s.size < (numP s (a + 1) 60).2.1.toNat + (numP s (a + 1) 60).1.toNat + 2 then (ByteArray.empty, 0, 0) else (ByteArray.extract s (numP s (a + 1) 60).2.1.toNat ((numP s (a + 1) 60).2.1.toNat + (numP s (a + 1) 60).1.toNat), (((numP s (a + 1) 60).2.1.toNat + (numP s (a + 1) 60).1.toNat + 2 : Nat) : Int), 1) := rfl
    rw [hb, if_neg c0]
    by_cases c1 : bt s a = 36
    · rw [neF c1, if_neg (by simp [c1])]
      rcases numP_cases s (a + 1) 60 (by omega) with h | h | ⟨n, k, h, h1, h2, h3⟩
      · rw [h]; rfl
      · rw [h]; rfl
      · rw [h]
        simp only [Int.toNat_natCast, cond_false]
        have x1 : ByteArray.extract s k s.size = ByteArray.extract s k s.size := rfl
        have x2 : (ByteArray.extract s k s.size).size = s.size - k := ex_size _ _ _ (Nat.le_refl _)
        have x3 : ((ByteArray.extract s k s.size).size : Int) = (s.size : Int) - (k : Int) := by rw [x2]; omega
        have w1 : w64 ((n : Int) + 1) = ((n + 1 : Nat) : Int) := wrap_succ (by omega)
        have w2 : w64 ((n : Int) + 2) = (n : Int) + 2 := w64_id (by omega) (by omega)
        have w3 : w64 ((k : Int) + (n : Int)) = (k : Int) + (n : Int) := w64_id (by omega) (by omega)
        have w4 : w64 ((k : Int) + (n : Int) + 2) = ((k + n + 2 : Nat) : Int) := (w64_id (by omega) (by omega)).trans (by omega)
        have b1 : k + n < s.size → bt (ByteArray.extract s k s.size) n = bt s (k + n) := fun h => bt_ex s k s.size n (Nat.le_refl _) h
        have b2 : k + n + 1 < s.size → bt (ByteArray.extract s k s.size) (n + 1) = bt s (k + n + 1) := fun h => bt_ex s k s.size (n + 1) (Nat.le_refl _) h
        have x4 : k + n ≤ s.size → ByteArray.extract (ByteArray.extract s k s.size) 0 n = ByteArray.extract s k (k + n) := fun h => bytes_ext (by
          rw [exL, exL, exL]
          simp only [List.drop_zero, Nat.sub_zero, List.take_take]
          rw [Nat.min_eq_left (by omega), show k + n - k = n by omega])
        simp only [w1, w2, w3, w4, x3, Int.toNat_natCast, Int.toNat_zero]
        have d1 : decide ((0 : Int) ≤ 0) = true := rfl
        simp only [d1]
        grind (splits := 30)
    · rw [neT c1, if_pos c1]; rfl
theorem bulkP_cases (s : ByteArray) (a : Nat) : (∃ h, bulkP s a = (ByteArray.empty, 0, h) ∧ (h = 0 ∨ h = 2)) ∨ ∃ (t : ByteArray) (k : Nat), bulkP s a = (t, ((k : Nat) : Int), 1) ∧ a < k ∧ k ≤ s.size ∧ t.size ≤ 60 := by
  unfold bulkP
  simp only
  split
  · exact .inl ⟨0, rfl, by decide⟩
  · split
    · exact .inl ⟨2, rfl, by decide⟩
    · rcases numP_cases s (a + 1) 60 (by omega) with h | h | ⟨n, k, h, h1, h2, h3⟩
      · rw [h]; exact .inl ⟨0, rfl, by decide⟩
      · rw [h]; exact .inl ⟨2, rfl, by decide⟩
      · rw [h]
        simp only [Int.toNat_natCast]
        rw [if_neg (by simp)]
        split
        · exact .inl ⟨2, rfl, by decide⟩
        · split
          · exact .inl ⟨0, rfl, by decide⟩
          · exact .inr ⟨_, _, rfl, by omega, by omega, by rw [ex_size _ _ _ (by omega)]; omega⟩
theorem ne11 : ((1 : Int) != 1) = false := rfl
theorem impl_pr_loop (s : ByteArray) (hs : s.size ≤ 1000000) (N : Nat) (hN : N ≤ 8) : ∀ (m a i : Nat) (acc : List ByteArray), i + m = N → acc.length ≤ i → a ≤ s.size → impl_ParseRequest_L0 s (N : Int) (a : Int) acc (i : Int) = some (prL s m a acc, ())
  | 0, a, i, acc, hi, hl, ha => by
    rw [impl_ParseRequest_L0_eq, decF (show ¬ (i : Int) < (N : Int) by omega), cond_false]; rfl
  | m + 1, a, i, acc, hi, hl, ha => by
    rw [impl_ParseRequest_L0_eq, decT (show (i : Int) < (N : Int) by omega), impl_bulk_ok s a hs ha]
    have e1 : w64 ((i : Int) + 1) = ((i + 1 : Nat) : Int) := wrap_succ (by omega)
    simp only [cond_true, Option.bind_some, e1, lim_true (show (acc.length + 1) * 16 ≤ 140737488355328 by omega)]
    unfold prL
    rcases bulkP_cases s a with ⟨h, e, hn⟩ | ⟨t, k, e, h1, h2, _⟩
    · rw [e]
      simp only [neT (show ¬ h = 1 by omega), cond_true]
      rw [if_pos (show h ≠ 1 by omega)]
    · rw [e]
      simp only [Int.toNat_natCast, ne11, cond_false]
      rw [if_neg (by simp)]
      exact impl_pr_loop s hs N hN m k (i + 1) (acc ++ [t]) (by omega) (by simp; omega) h2
theorem impl_Parse_ok (s : ByteArray) (hs : s.size ≤ 1000000) : impl_ParseRequest s = some (parseP s, ()) := by
  rw [impl_ParseRequest_eq]
  unfold parseP
  simp only [bytes_eq]
  by_cases h0 : s = ByteArray.empty
  · rw [decT h0, if_pos h0]; rfl
  · have hp : 0 < s.size := by
      refine Nat.pos_of_ne_zero fun h => h0 (bytes_ext ?_)
      have := size_len s
      rw [h] at this
      rw [List.length_eq_zero_iff.1 this]; rfl
    rw [decF h0, if_neg h0, decT (show (0 : Int) < (s.size : Int) by omega), impl_line_ok s hs, show impl_countAt s 1 8 = some (numP s 1 8, ()) from impl_countAt_ok s 1 8 hs hp (by omega) (by omega)]
    simp only [cond_false, Option.bind_some, Int.toNat_zero]
    by_cases h1 : bt s 0 = 42
    · rw [neF h1, if_neg (by simp [h1])]
      rcases numP_cases s 1 8 (by omega) with h | h | ⟨n, k, h, hn, h2, h3⟩
      · rw [h]; simp
      · rw [h]; simp
      · rw [h]
        simp only [Int.toNat_natCast, ne11, cond_false, decide_true, Bool.and_self, Int.le_refl, cond_true]
        rw [if_neg (by simp)]
        exact impl_pr_loop s hs n (by omega) n k 0 [] (by omega) (by simp) h3
    · rw [neT h1, if_pos h1]; simp only [Bool.and_true, decide_true, cond_true, Int.le_refl]
theorem code_ok (s : ByteArray) (a : Nat) (most : Int) (h0 : 0 ≤ most) : ((numS (numP s a most)).2 < 0 ∧ (numP s a most).2.2 ≠ 1 ∧ spec_l11Code (numS (numP s a most)).2 = some ((numP s a most).2.2, ())) ∨ ∃ n k : Nat, numP s a most = ((n : Int), (k : Int), 1) ∧ numS (numP s a most) = ((n : Int), (k : Int)) ∧ (n : Int) ≤ most ∧ a < k ∧ k ≤ s.size := by
  rcases numP_cases s a most h0 with h | h | ⟨n, k, h, hn, h2, h3⟩
  · left; rw [h, spec_l11Code_eq]; exact ⟨by decide, by decide, rfl⟩
  · left; rw [h, spec_l11Code_eq]; exact ⟨by decide, by decide, rfl⟩
  · right; refine ⟨n, k, h, ?_, hn, h2, h3⟩; rw [h]; rfl
theorem spec_pr_step (s : ByteArray) (hs : s.size ≤ 1000000) (N : Nat) (hN : N ≤ 8) (a i : Nat) (acc : List ByteArray) (hi : i < N) (hl : acc.length ≤ i) (ha : a ≤ s.size) : spec_ParseRequest_L0 s [] (N : Int) (a : Int) acc (i : Int) =
    if (bulkP s a).2.2 ≠ 1 then some (([], 0, (bulkP s a).2.2), ()) else spec_ParseRequest_L0 s [] (N : Int) (bulkP s a).2.1 (acc ++ [(bulkP s a).1]) ((i + 1 : Nat) : Int) := by
  rw [spec_ParseRequest_L0_eq, decT (show (i : Int) < (N : Int) by omega)]
  by_cases c0 : a = s.size
  · rw [eqT (by omega)]
    unfold bulkP
    rw [if_pos c0]; rfl
  · have e1 : w64 ((a : Int) + 1) = ((a + 1 : Nat) : Int) := wrap_succ (by omega)
    have e2 : w64 ((i : Int) + 1) = ((i + 1 : Nat) : Int) := wrap_succ (by omega)
    rw [eqF (by omega), e1, e2, spec_l11Num_ok s (a + 1) 60 hs (by omega) (by omega) (by omega), decT (show (0 : Int) ≤ (a : Int) by omega), decT (show (a : Int) < (s.size : Int) by omega), lim_true (show (acc.length + 1) * 16 ≤ 140737488355328 by omega)]
    simp only [cond_false, cond_true, Bool.and_self, Option.bind_some, Int.toNat_natCast]
    by_cases c1 : bt s a = 36
    · rcases code_ok s (a + 1) 60 (by omega) with ⟨h1, h2, h3⟩ | ⟨n, k, h, h', h1, h2, h3⟩
      · rw [neF c1, decT h1, h3]
        have hb : bulkP s a = (ByteArray.empty, 0, (numP s (a + 1) 60).2.2) := by
          unfold bulkP
          rw [if_neg c0, if_neg (by simp [c1]), if_pos h2]
        rw [hb, if_pos h2]; rfl
      · have hb : bulkP s a = if k + n < s.size ∧ bt s (k + n) ≠ 13 ∨ k + n + 1 < s.size ∧ bt s (k + n + 1) ≠ 10 then (ByteArray.empty, 0, 2)
            else if s.size < k + n + 2 then (ByteArray.empty, 0, 0) else (ByteArray.extract s k (k + n), ((k + n + 2 : Nat) : Int), 1) := by
          unfold bulkP
          rw [if_neg c0, if_neg (by simp [c1]), h, if_neg (by simp)]
          simp only [Int.toNat_natCast]
        rw [neF c1, h']
        simp only [cond_false]
        have w1 : w64 ((n : Int) + 1) = ((n + 1 : Nat) : Int) := wrap_succ (by omega)
        have w2 : w64 ((n : Int) + 2) = (n : Int) + 2 := w64_id (by omega) (by omega)
        have w3 : w64 ((k : Int) + (n : Int)) = ((k + n : Nat) : Int) := (w64_id (by omega) (by omega)).trans (by omega)
        have w4 : w64 (((k + n : Nat) : Int) + 2) = ((k + n + 2 : Nat) : Int) := (w64_id (by omega) (by omega)).trans (by omega)
        have w5 : w64 (((k + n : Nat) : Int) + 1) = ((k + n + 1 : Nat) : Int) := (w64_id (by omega) (by omega)).trans (by omega)
        have w6 : w64 ((s.size : Int) - (k : Int)) = (s.size : Int) - (k : Int) := w64_id (by omega) (by omega)
        simp only [w1, w2, w3, w4, w5, w6, Int.toNat_natCast, Int.toNat_zero]
        rw [decF (show ¬ (k : Int) < 0 by omega), hb]
        simp only [cond_false]
        clear hb w1 w2 w3 w4 w5 w6 h h' e1 e2
        grind (splits := 30)
    · rw [neT c1]
      unfold bulkP
      rw [if_neg c0, if_pos c1]; rfl
theorem spec_pr_loop (s : ByteArray) (hs : s.size ≤ 1000000) (N : Nat) (hN : N ≤ 8) : ∀ (m a i : Nat) (acc : List ByteArray), i + m = N → acc.length ≤ i → a ≤ s.size → spec_ParseRequest_L0 s [] (N : Int) (a : Int) acc (i : Int) = some (prL s m a acc, ())
  | 0, a, i, acc, hi, hl, ha => by
    rw [spec_ParseRequest_L0_eq, decF (show ¬ (i : Int) < (N : Int) by omega), cond_false]; rfl
  | m + 1, a, i, acc, hi, hl, ha => by
    rw [spec_pr_step s hs N hN a i acc (by omega) hl ha]
    unfold prL
    rcases bulkP_cases s a with ⟨h, e, hn⟩ | ⟨t, k, e, h1, h2, _⟩
    · rw [e]
      rw [if_pos (show h ≠ 1 by omega), if_pos (show h ≠ 1 by omega)]
    · rw [e]
      simp only [Int.toNat_natCast]
      rw [if_neg (by simp), if_neg (by simp)]
      exact spec_pr_loop s hs N hN m k (i + 1) (acc ++ [t]) (by omega) (by simp; omega) h2
theorem spec_Parse_ok (s : ByteArray) (hs : s.size ≤ 1000000) : spec_ParseRequest s = some (parseP s, ()) := by
  rw [spec_ParseRequest_eq]
  unfold parseP
  simp only [bytes_eq]
  by_cases h0 : s = ByteArray.empty
  · rw [decT h0, if_pos h0]; rfl
  · have hp : 0 < s.size := by
      refine Nat.pos_of_ne_zero fun h => h0 (bytes_ext ?_)
      have := size_len s
      rw [h] at this
      rw [List.length_eq_zero_iff.1 this]; rfl
    rw [decF h0, if_neg h0, decT (show (0 : Int) < (s.size : Int) by omega), spec_line_ok s hs, show spec_l11Num s 1 8 = some (numS (numP s 1 8), ()) from spec_l11Num_ok s 1 8 hs hp (by omega) (by omega)]
    simp only [cond_false, Option.bind_some, Int.toNat_zero]
    by_cases h1 : bt s 0 = 42
    · rw [neF h1, if_neg (by simp [h1])]
      rcases code_ok s 1 8 (by omega) with ⟨h1, h2, h3⟩ | ⟨n, k, h, h', hn, h2, h3⟩
      · rw [if_pos h2, decT h1, h3]; simp
      · rw [h', h]
        simp only [Int.toNat_natCast]
        rw [if_neg (by simp), decF (show ¬ (k : Int) < 0 by omega)]
        simp only [cond_false, decide_true, Bool.and_self, Int.le_refl, cond_true]
        exact spec_pr_loop s hs n (by omega) n k 0 [] (by omega) (by simp) h3
    · rw [neT h1, if_pos h1]; simp only [Bool.and_true, decide_true, cond_true, Int.le_refl]
/-- What a reading comes to. -/
theorem prL_cases (s : ByteArray) : ∀ (m a : Nat) (acc : List ByteArray), a ≤ s.size → acc.length + m ≤ 8 → (∃ h, prL s m a acc = ([], 0, h) ∧ (h = 0 ∨ h = 2)) ∨ ∃ (l : List ByteArray) (k : Nat), prL s m a acc = (l, (k : Int), 1) ∧ a ≤ k ∧ k ≤ s.size ∧ l.length ≤ 8
  | 0, a, acc, ha, hl => .inr ⟨acc, a, rfl, Nat.le_refl _, ha, by omega⟩
  | m + 1, a, acc, ha, hl => by
    unfold prL
    rcases bulkP_cases s a with ⟨h, e, hn⟩ | ⟨t, k, e, h1, h2, _⟩
    · rw [e, if_pos (show h ≠ 1 by omega)]; exact .inl ⟨h, rfl, hn⟩
    · rw [e, if_neg (by simp)]
      simp only [Int.toNat_natCast]
      rcases prL_cases s m k (acc ++ [t]) h2 (by simp; omega) with ⟨h, e, hn⟩ | ⟨l, j, e, h3, h4, h5⟩
      · exact .inl ⟨h, e, hn⟩
      · exact .inr ⟨l, j, e, by omega, h4, h5⟩
theorem parse_cases (s : ByteArray) : (∃ h, parseP s = ([], 0, h) ∧ (h = 0 ∨ h = 2)) ∨ ∃ (l : List ByteArray) (k : Nat), parseP s = (l, (k : Int), 1) ∧ k ≤ s.size ∧ l.length ≤ 8 := by
  unfold parseP
  split
  · exact .inl ⟨0, rfl, by decide⟩
  · split
    · unfold lineP wdR
      have := fL_le s.data.toList 10
      have hlen := size_len s
      simp only
      split
      · exact .inl ⟨2, rfl, by decide⟩
      · split
        · exact .inl ⟨0, rfl, by decide⟩
        · split
          · exact .inl ⟨2, rfl, by decide⟩
          · rename_i h
            simp only [List.length_nil, Nat.zero_add, List.nil_append, not_or] at h
            exact .inr ⟨_, fL s.data.toList 10 + 1, rfl, by omega, by simp only [List.nil_append]; omega⟩
    · rcases numP_cases s 1 8 (by omega) with h | h | ⟨n, k, h, hn, h2, h3⟩
      · rw [h]; exact .inl ⟨0, rfl, by decide⟩
      · rw [h]; exact .inl ⟨2, rfl, by decide⟩
      · rw [h]
        simp only [Int.toNat_natCast]
        rw [if_neg (by simp)]
        rcases prL_cases s n k [] h3 (by simp; omega) with ⟨h, e, hn⟩ | ⟨l, j, e, h3, h4, h5⟩
        · exact .inl ⟨h, e, hn⟩
        · exact .inr ⟨l, j, e, h4, h5⟩
end Go.Den.S
