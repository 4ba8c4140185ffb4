/- PxM: equations of the functions of this seat as the executor tells them, or plain facts about them. Conditions: none here. -/
import Derived.Test.YthfdlonnbkffnaaGreatDoorPxL
set_option linter.all false
set_option linter.unusedSimpArgs false
set_option linter.unusedVariables false
namespace Go.Den.S
open Go Go.Den
/-! ### numbers are read -/
def digB (c : UInt8) : Bool := decide (48 ≤ c.toNat) && decide (c.toNat ≤ 57)
def valL (l : List UInt8) (a : Nat) : Nat := l.foldl (fun a c => 10 * a + (c.toNat - 48)) a
theorem valL_app (l m : List UInt8) (a : Nat) : valL (l ++ m) a = valL m (valL l a) := by simp [valL]
theorem dig_ofNat (d : Nat) (h : d < 10) : (UInt8.ofNat (48 + d)).toNat = 48 + d := by
  rw [UInt8.toNat_ofNat']
  omega
theorem decD_digits (k : Nat) : ∀ u : Nat, u < 10 ^ (k + 1) → (∀ c ∈ Lib.decDigits u, digB c = true) ∧ valL (Lib.decDigits u) 0 = u := by
  induction k with
  | zero =>
    intro u h
    have h : u < 10 := by simpa using h
    rw [Lib.decDigits, dif_pos h]
    have := dig_ofNat u h
    refine ⟨fun c hc => ?_, ?_⟩
    · simp only [List.mem_singleton] at hc
      rw [hc]
      unfold digB
      rw [this, decide_eq_true (by omega), decide_eq_true (by omega)]; rfl
    · show 10 * 0 + ((UInt8.ofNat (48 + u)).toNat - 48) = u
      rw [this]; omega
  | succ k ih =>
    intro u h
    by_cases hu : u < 10
    · rw [Lib.decDigits, dif_pos hu]
      have := dig_ofNat u hu
      refine ⟨fun c hc => ?_, ?_⟩
      · simp only [List.mem_singleton] at hc
        rw [hc]
        unfold digB
        rw [this, decide_eq_true (by omega), decide_eq_true (by omega)]; rfl
      · show 10 * 0 + ((UInt8.ofNat (48 + u)).toNat - 48) = u
        rw [this]; omega
    · obtain ⟨h1, h2⟩ := ih (u / 10) (by rw [Nat.pow_succ] at h; omega)
      have := dig_ofNat (u % 10) (by omega)
      rw [decD_step u hu]
      refine ⟨fun c hc => ?_, ?_⟩
      · rcases List.mem_append.1 hc with hc | hc
        · exact h1 c hc
        · simp only [List.mem_singleton] at hc
          rw [hc]
          unfold digB
          rw [this, decide_eq_true (by omega), decide_eq_true (by omega)]; rfl
      · rw [valL_app, h2]
        show 10 * (u / 10) + ((UInt8.ofNat (48 + u % 10)).toNat - 48) = u
        rw [this]; omega
/-- The reader of digits, without the program. -/
def rdL (s : ByteArray) (l : List UInt8) (a : Nat) : Int × Bool := bif l.all digB then (bif decide (valL l a ≤ 1000000000) && decide (decB (valL l a : Int) = s) then ((valL l a : Int), true) else (0, false)) else (0, false)
theorem rd_loop (s : ByteArray) (h10 : s.size ≤ 10) : spec_ReadDecimal_L0 s 0 0 = some (rdL s s.data.toList 0, ()) := by
  have hlen : s.data.toList.length = s.size := Array.length_toList
  have key := list_ind s.data.toList 0 (fun i r => ∀ a : Nat, a < 10 ^ i → spec_ReadDecimal_L0 s (a : Int) (i : Int) = some (rdL s r a, ()))
    (fun a ha => by
      rw [spec_ReadDecimal_L0_eq, hlen]
      have ha' : a < 10 ^ 10 := Nat.lt_of_lt_of_le ha (Nat.pow_le_pow_right (by omega) (by omega))
      simp only [Int.lt_irrefl, decide_false, cond_false]
      unfold rdL
      show _ = some ((bif (decide (a ≤ 1000000000) && decide (decB (a : Int) = s)) then ((a : Int), true) else (0, false)), ())
      by_cases h9 : a ≤ 1000000000
      · rw [decide_eq_false (show ¬ ((a : Int) > 1000000000) by omega), decide_eq_true h9]
        simp only [cond_false, spec_Decimal_ok (a : Int) (by omega) (by omega), Option.bind_some, bytes_eq, Bool.true_and]
        cases decide (decB (a : Int) = s) <;> rfl
      · rw [decide_eq_true (show ((a : Int) > 1000000000) by omega), decide_eq_false h9]; rfl)
    (fun i c r hi hx hm ih a ha => by
      rw [hlen] at hi
      have ha' : a < 10 ^ 10 := Nat.lt_of_lt_of_le ha (Nat.pow_le_pow_right (by omega) (by omega))
      have hc : c.toNat < 256 := c.toNat_lt
      have hb : bt s i = (c.toNat : Int) := by unfold bt; rw [hx]
      rw [spec_ReadDecimal_L0_eq]
      have e1 : decide ((i : Int) < (s.size : Int)) = true := decide_eq_true (by omega)
      have e2 : decide (0 ≤ (i : Int)) = true := decide_eq_true (by omega)
      have e3 : w64 ((i : Int) + 1) = ((i + 1 : Nat) : Int) := wrap_succ (by omega)
      simp only [e1, e2, e3, Bool.and_self, cond_true, Int.toNat_natCast, hb]
      unfold rdL
      rw [List.all_cons]
      unfold digB
      by_cases h48 : 48 ≤ c.toNat
      · by_cases h57 : c.toNat ≤ 57
        · rw [decide_eq_false (show ¬ ((c.toNat : Int) < 48) by omega), decide_eq_false (show ¬ ((c.toNat : Int) > 57) by omega), decide_eq_true h48, decide_eq_true h57]
          have hw : w64 (w64 (w64 (10 * (a : Int)) + w64 (c.toNat : Int)) - 48) = ((10 * a + (c.toNat - 48) : Nat) : Int) := by
            show IntKind.i64.wrap (IntKind.i64.wrap (IntKind.i64.wrap _ + IntKind.i64.wrap _) - 48) = _
            rw [wrap64_id (n := 10 * (a : Int)) (by omega) (by omega), wrap64_id (n := (c.toNat : Int)) (by omega) (by omega), wrap64_id (n := 10 * (a : Int) + (c.toNat : Int)) (by omega) (by omega), wrap64_id (by omega) (by omega)]
            omega
          simp only [cond_false, hw, Bool.true_and]
          rw [ih (10 * a + (c.toNat - 48)) (by rw [Nat.pow_succ]; omega)]
          rfl
        · rw [decide_eq_false (show ¬ ((c.toNat : Int) < 48) by omega), decide_eq_true (show ((c.toNat : Int) > 57) by omega), decide_eq_true h48, decide_eq_false h57]
          rfl
      · rw [decide_eq_true (show ((c.toNat : Int) < 48) by omega), decide_eq_false h48]
        rfl)
  exact key 0 (by decide)
def rdD (s : ByteArray) : Int × Bool := bif decide (s.size ≤ 10) then rdL s s.data.toList 0 else (0, false)
theorem spec_ReadDecimal_ok (s : ByteArray) : spec_ReadDecimal s = some (rdD s, ()) := by
  rw [spec_ReadDecimal_eq]
  unfold rdD
  by_cases h : s.size ≤ 10
  · rw [decide_eq_false (show ¬ ((s.size : Int) > 10) by omega), decide_eq_true h]
    simp only [cond_false, cond_true]
    exact rd_loop s h
  · rw [decide_eq_true (show ((s.size : Int) > 10) by omega), decide_eq_false h]; rfl
theorem rdD_one (s : ByteArray) : rdD s = (0, false) ∨ ∃ v : Nat, v ≤ 1000000000 ∧ decB (v : Int) = s ∧ rdD s = ((v : Int), true) := by
  unfold rdD rdL
  cases decide (s.size ≤ 10) with
  | false => exact .inl rfl
  | true =>
    simp only [cond_true]
    cases s.data.toList.all digB with
    | false => exact .inl rfl
    | true =>
      simp only [cond_true]
      cases h : (decide (valL s.data.toList 0 ≤ 1000000000) && decide (decB (valL s.data.toList 0 : Int) = s)) with
      | false => exact .inl rfl
      | true =>
        simp only [Bool.and_eq_true, decide_eq_true_eq] at h
        exact .inr ⟨_, h.1, h.2, rfl⟩
theorem decB_nat (v : Nat) : decB (v : Int) = mkB (Lib.decDigits v) := by
  unfold decB Lib.itoa
  rw [if_neg (by omega), Int.toNat_natCast]
theorem rdD_two (v : Nat) (h : v ≤ 1000000000) : rdD (decB (v : Int)) = ((v : Int), true) := by
  obtain ⟨h1, h2⟩ := decD_digits 9 v (by omega)
  have hl := decD_len 9 v (by omega)
  unfold rdD rdL
  have e1 : (decB (v : Int)).data.toList = Lib.decDigits v := by rw [decB_nat, mkB_data]
  rw [e1, h2, decide_eq_true (show (decB (v : Int)).size ≤ 10 by rw [decB_nat, mkB_size]; omega), show (Lib.decDigits v).all digB = true from List.all_eq_true.2 h1, decide_eq_true h, decide_eq_true rfl]
  rfl
theorem tail_data (s : ByteArray) : (ByteArray.extract s 1 s.size).data.toList = s.data.toList.drop 1 := by
  have hlen : s.data.toList.length = s.size := Array.length_toList
  simp only [ByteArray.data_extract, Array.toList_extract, List.extract_eq_take_drop]
  rw [List.take_of_length_le]
  rw [List.length_drop, hlen]
  exact Nat.le_refl _
def negB (s : ByteArray) : Bool := decide (1 < s.size) && decide (s.data.toList.getD 0 0 = 45)
def rdI (s : ByteArray) : Int × Bool := bif negB s then
    (bif !(rdD (ByteArray.extract s 1 s.size)).2 then (0, false) else bif decide ((rdD (ByteArray.extract s 1 s.size)).1 = 0) then (0, false) else (-(rdD (ByteArray.extract s 1 s.size)).1, true))
  else rdD s
theorem spec_ReadInt_ok (s : ByteArray) (hs : s.size ≤ 100000000) : spec_ReadInt s = some (rdI s, ()) := by
  rw [spec_ReadInt_eq]
  unfold rdI negB
  have hb : (bt s (Int.toNat 0) == 45) = decide (s.data.toList.getD 0 0 = 45) := by
    show (((s.data.toList.getD 0 0).toNat : Int) == 45) = _
    generalize s.data.toList.getD 0 0 = c
    rw [beq_dec]
    refine decide_eq_decide.2 ⟨fun h => ?_, fun h => by rw [h]; rfl⟩
    have : c.toNat = (45 : UInt8).toNat := by
      show c.toNat = 45
      omega
    exact UInt8.toNat_inj.1 this
  by_cases h1 : 1 < s.size
  · have k1 : decide ((s.size : Int) > 1) = true := decide_eq_true (by omega)
    have k2 : (decide ((0 : Int) ≤ 0) && decide ((0 : Int) < (s.size : Int))) = true := by rw [decide_eq_true (show (0 : Int) < (s.size : Int) by omega)]; rfl
    have k3 : (decide ((0 : Int) ≤ 1) && (decide ((1 : Int) ≤ (s.size : Int)) && decide ((s.size : Int) ≤ (s.size : Int)))) = true := by rw [decide_eq_true (show (1 : Int) ≤ (s.size : Int) by omega), decide_eq_true (Int.le_refl _)]; rfl
    simp only [k1, k2, k3, hb, cond_true, decide_eq_true h1, Bool.true_and, spec_ReadDecimal_ok, Option.bind_some, show Int.toNat 1 = 1 from rfl, Int.toNat_natCast, beq_dec]
    cases decide (s.data.toList.getD 0 0 = 45) with
    | false => rfl
    | true =>
      simp only [cond_true]
      rcases rdD_one (ByteArray.extract s 1 s.size) with h | ⟨v, h2, _, h4⟩
      · rw [h]; rfl
      · rw [h4]
        simp only [Bool.not_true, cond_false]
        have e : w64 (0 - (v : Int)) = -(v : Int) := by show IntKind.i64.wrap _ = _; rw [wrap64_id (by omega) (by omega)]; omega
        rw [e]
        cases decide ((v : Int) = 0) <;> rfl
  · have k1 : decide ((s.size : Int) > 1) = false := decide_eq_false (by omega)
    simp only [k1, cond_false, decide_eq_false h1, Bool.false_and, spec_ReadDecimal_ok, Option.bind_some]
theorem decB_neg (v : Nat) (h : 1 ≤ v) : decB (-(v : Int)) = mkB (45 :: Lib.decDigits v) := by
  unfold decB Lib.itoa
  rw [if_pos (by omega)]
  simp
theorem rdI_one (s : ByteArray) : rdI s = (0, false) ∨ ∃ n : Int, -1000000000 ≤ n ∧ n ≤ 1000000000 ∧ decB n = s ∧ rdI s = (n, true) := by
  have hlen : s.data.toList.length = s.size := Array.length_toList
  unfold rdI
  cases hn : negB s with
  | false =>
    simp only [cond_false]
    rcases rdD_one s with h | ⟨v, h1, h2, h3⟩
    · exact .inl h
    · exact .inr ⟨(v : Int), by omega, by omega, h2, h3⟩
  | true =>
    unfold negB at hn
    simp only [Bool.and_eq_true, decide_eq_true_eq] at hn
    rcases rdD_one (ByteArray.extract s 1 s.size) with h | ⟨v, h1, h2, h3⟩
    · rw [h]; exact .inl rfl
    · rw [h3]
      by_cases hv : v = 0
      · subst hv; exact .inl rfl
      · right
        refine ⟨-(v : Int), by omega, by omega, ?_, by rw [decide_eq_false (show ¬ ((v : Int) = 0) by omega)]; rfl⟩
        rw [decB_neg v (by omega)]
        refine bytes_ext ?_
        rw [mkB_data]
        have h4 : Lib.decDigits v = s.data.toList.drop 1 := by rw [← tail_data s, ← h2, decB_nat, mkB_data]
        rw [h4]
        have h0 := hn.2
        match hd : s.data.toList, hlen with
        | [], hlen => simp at hlen; omega
        | c :: r, _ =>
          rw [hd] at h0
          have h0 : c = 45 := h0
          rw [h0]; rfl
theorem dig_first (v : Nat) : ∃ c r, Lib.decDigits v = c :: r ∧ digB c = true := by
  have h1 : (Lib.decDigits v) ≠ [] := by
    rw [Lib.decDigits]
    split <;> simp
  match hd : Lib.decDigits v, h1 with
  | c :: r, _ => exact ⟨c, r, rfl, by
      obtain ⟨k, hk⟩ : ∃ k, v < 10 ^ (k + 1) := ⟨v, by
        have : ∀ n : Nat, n < 10 ^ (n + 1) := fun n => Nat.lt_of_lt_of_le (Nat.lt_pow_self (by omega)) (Nat.pow_le_pow_right (by omega) (by omega))
        exact this v⟩
      have := (decD_digits k v hk).1 c (by rw [hd]; exact List.mem_cons_self ..)
      exact this⟩
theorem rdI_two (n : Int) (h0 : -1000000000 ≤ n) (h1 : n ≤ 1000000000) : rdI (decB n) = (n, true) := by
  by_cases hn : n < 0
  · obtain ⟨v, rfl⟩ : ∃ v : Nat, n = -(v : Int) := ⟨n.natAbs, by omega⟩
    have hs := decB_neg v (by omega)
    obtain ⟨c, r, hc, _⟩ := dig_first v
    have hneg : negB (decB (-(v : Int))) = true := by
      unfold negB
      rw [hs, mkB_size, mkB_data, hc]
      simp
    have he : ByteArray.extract (decB (-(v : Int))) 1 (decB (-(v : Int))).size = decB (v : Int) := bytes_ext (by
      rw [tail_data, hs, mkB_data, decB_nat, mkB_data]; rfl)
    unfold rdI
    rw [hneg, he, rdD_two v (by omega), decide_eq_false (show ¬ ((v : Int) = 0) by omega)]
    rfl
  · obtain ⟨v, rfl⟩ : ∃ v : Nat, n = (v : Int) := ⟨n.toNat, by omega⟩
    obtain ⟨c, r, hc, hd⟩ := dig_first v
    have hneg : negB (decB (v : Int)) = false := by
      unfold negB
      rw [decB_nat, mkB_data, hc]
      have : ¬ c = 45 := fun e => by
        rw [e] at hd
        exact absurd hd (by decide)
      rw [decide_eq_false (show ¬ (List.getD (c :: r) 0 0 = 45) from this), Bool.and_false]
    unfold rdI
    rw [hneg, rdD_two v (by omega)]
    rfl
/-! ### .. and by the library -/
theorem parse_digits : ∀ (l : List UInt8) (a : Nat), (∀ c ∈ l, digB c = true) → valL l a ≤ 1000000000000 → Lib.parseUint10 a l = .ok (valL l a)
  | [], a, _, _ => rfl
  | c :: r, a, h, hb => by
    have hc := h c (List.mem_cons_self ..)
    unfold digB at hc
    simp only [Bool.and_eq_true, decide_eq_true_eq] at hc
    have mono : ∀ (l : List UInt8) (a : Nat), a ≤ valL l a := by
      intro l
      induction l with
      | nil => intro a; exact Nat.le_refl _
      | cons x l ih => intro a; exact Nat.le_trans (by omega) (ih (10 * a + (x.toNat - 48)))
    have hv : valL (c :: r) a = valL r (10 * a + (c.toNat - 48)) := rfl
    have hm := mono r (10 * a + (c.toNat - 48))
    rw [hv] at hb ⊢
    unfold Lib.parseUint10
    rw [if_pos hc, if_neg (by omega), if_neg (by omega), show a * 10 + (c.toNat - 48) = 10 * a + (c.toNat - 48) by omega]
    exact parse_digits r _ (fun x hx => h x (List.mem_cons_of_mem _ hx)) hb
theorem atoi_dec (n : Int) (h0 : -1000000000 ≤ n) (h1 : n ≤ 1000000000) : Lib.atoiAll (decB n).data.toList = .ok n := by
  by_cases hn : n < 0
  · obtain ⟨v, rfl⟩ : ∃ v : Nat, n = -(v : Int) := ⟨n.natAbs, by omega⟩
    obtain ⟨d1, d2⟩ := decD_digits 9 v (by omega)
    obtain ⟨c, r, hc, _⟩ := dig_first v
    have hp := parse_digits (Lib.decDigits v) 0 d1 (by rw [d2]; omega)
    rw [d2] at hp
    rw [decB_neg v (by omega), mkB_data]
    unfold Lib.atoiAll Lib.parseMag
    have e45 : (45 : UInt8).toNat = 45 := rfl
    simp only [e45, or_true, if_true, hp, hc, reduceCtorEq, if_false, not_true_eq_false, false_and, true_and]
    rw [← hc, hp]
    simp only
    rw [if_neg (by omega)]
  · obtain ⟨v, rfl⟩ : ∃ v : Nat, n = (v : Int) := ⟨n.toNat, by omega⟩
    obtain ⟨d1, d2⟩ := decD_digits 9 v (by omega)
    obtain ⟨c, r, hc, hd⟩ := dig_first v
    have hp := parse_digits (Lib.decDigits v) 0 d1 (by rw [d2]; omega)
    rw [d2, hc] at hp
    rw [decB_nat, mkB_data, hc]
    unfold digB at hd
    simp only [Bool.and_eq_true, decide_eq_true_eq] at hd
    unfold Lib.atoiAll Lib.parseMag
    have n43 : ¬ (c.toNat = 43) := by omega
    have n45 : ¬ (c.toNat = 45) := by omega
    simp only [n43, n45, or_self, reduceCtorEq, hp, not_false_eq_true, true_and, false_and, if_false]
    rw [if_neg (by omega)]
theorem atoi_range {l : List UInt8} {v : Int} (h : Lib.atoiAll l = .ok v) : -9223372036854775808 ≤ v ∧ v ≤ 9223372036854775807 := by
  unfold Lib.atoiAll at h
  split at h
  · cases h
  · rename_i c r
    simp only at h
    split at h
    · cases h
    · cases h
    · rename_i u hu
      split at h
      · cases h
      · rename_i h1
        split at h
        · cases h
        · rename_i h2
          injection h with h
          by_cases hn : c.toNat = 45
          · rw [if_pos hn] at h; omega
          · rw [if_neg hn] at h; omega
/-- What impl's reader says. -/
theorem impl_ReadInt_ok (s : ByteArray) (hs : s.size ≤ 100000000) : impl_ReadInt s = some (rdI s, ()) := by
  rw [impl_ReadInt_eq, strconv_Atoi_eq]
  unfold strconv_AtoiF
  simp only [decide_eq_true (show s.size ≤ 281474976710656 by omega), cond_true]
  have hS := rdI_one s
  have no : (∀ n : Int, -1000000000 ≤ n → n ≤ 1000000000 → decB n = s → False) → rdI s = (0, false) := fun h => hS.elim id fun ⟨n, h1, h2, h3, _⟩ => (h n h1 h2 h3).elim
  cases ha : Lib.atoiAll s.data.toList with
  | range =>
    rw [no fun n h1 h2 h3 => by rw [← h3, atoi_dec n h1 h2] at ha; cases ha]
    rfl
  | ok v =>
    obtain ⟨r1, r2⟩ := atoi_range ha
    simp only [Option.bind_some, cond_false, impl_Decimal_ok v r1 r2, bytes_eq, within_ok]
    by_cases hd : decB v = s
    · rw [decide_eq_true hd]
      simp only [Bool.not_true, cond_false]
      by_cases hr : -1000000000 ≤ v ∧ v ≤ 1000000000
      · rw [decide_eq_true hr.1, decide_eq_true hr.2]
        have := rdI_two v hr.1 hr.2
        rw [hd] at this
        rw [this]; rfl
      · have hb : (decide (-1000000000 ≤ v) && decide (v ≤ 1000000000)) = false := by
          rw [Bool.and_eq_false_iff, decide_eq_false_iff_not, decide_eq_false_iff_not]
          omega
        rw [hb, no fun n h1 h2 h3 => by
          rw [← h3, atoi_dec n h1 h2] at ha
          injection ha with ha
          omega]
        rfl
    · rw [decide_eq_false hd, no fun n h1 h2 h3 => by
        rw [← h3, atoi_dec n h1 h2] at ha
        injection ha with ha
        rw [ha] at h3
        exact hd h3]
      rfl
  | _ =>
    rw [no fun n h1 h2 h3 => by rw [← h3, atoi_dec n h1 h2] at ha; cases ha]
    rfl
end Go.Den.S
