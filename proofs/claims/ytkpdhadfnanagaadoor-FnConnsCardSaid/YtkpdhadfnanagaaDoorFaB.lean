/- FaB: equations of the functions of this seat as the executor tells them, or plain facts about them. Conditions: none here. -/
import Derived.Test.YtkpdhadfnanagaaDoorFaA
import Derived.Test.YtkpdhadfnanagaaDoorEhI
set_option linter.all false
namespace Go.Den.S
open Go Go.Den
/-! ### the reference's number -/
theorem exL (s : ByteArray) (a k : Nat) : (ByteArray.extract s a k).data.toList = (s.data.toList.drop a).take (k - a) := by
  simp only [ByteArray.data_extract, Array.toList_extract, List.extract_eq_take_drop]
theorem ex_size (s : ByteArray) (a k : Nat) (h : k ≤ s.size) : (ByteArray.extract s a k).size = k - a := by
  rw [ByteArray.size_extract]; omega
theorem bt_ex (s : ByteArray) (a k i : Nat) (h : k ≤ s.size) (hi : a + i < k) : bt (ByteArray.extract s a k) i = bt s (a + i) := by
  unfold bt
  rw [exL]
  simp only [List.getD_eq_getElem?_getD, List.getElem?_take, List.getElem?_drop]
  rw [if_pos (by omega)]
theorem dg_cons {s : ByteArray} {a : Nat} (h : dg s a) : ∃ x : UInt8, s.data.toList.drop a = x :: s.data.toList.drop (a + 1) ∧ digB x = true ∧ bt s a = (x.toNat : Int) := by
  have hlen : s.data.toList.length = s.size := Array.length_toList
  have h1 : a < s.data.toList.length := by rw [hlen]; exact h.1
  have e : bt s a = ((s.data.toList[a]).toNat : Int) := by
    unfold bt
    rw [List.getD_eq_getElem?_getD, List.getElem?_eq_getElem h1]; rfl
  refine ⟨s.data.toList[a], List.drop_eq_getElem_cons h1, ?_, e⟩
  have := h.2
  rw [e] at this
  unfold digB
  simp only [Bool.and_eq_true, decide_eq_true_eq]
  omega
theorem u8_of {x : UInt8} {n : Nat} (h : n = x.toNat) : UInt8.ofNat n = x := by rw [h]; exact UInt8.ofNat_toNat
theorem val1 {x : UInt8} (hx : digB x = true) : Lib.decDigits (valL [x] 0) = [x] := by
  unfold digB at hx
  simp only [Bool.and_eq_true, decide_eq_true_eq] at hx
  have e : valL [x] 0 = x.toNat - 48 := by simp [valL]
  rw [e, Lib.decDigits, dif_pos (by omega), u8_of (x := x) (by omega)]
theorem valS {l : List UInt8} {x : UInt8} (hx : digB x = true) (h : Lib.decDigits (valL l 0) = l) (h0 : 1 ≤ valL l 0) : Lib.decDigits (valL (l ++ [x]) 0) = l ++ [x] := by
  unfold digB at hx
  simp only [Bool.and_eq_true, decide_eq_true_eq] at hx
  have e : valL (l ++ [x]) 0 = 10 * valL l 0 + (x.toNat - 48) := by rw [valL_app]; rfl
  rw [e, decD_step _ (by omega), show (10 * valL l 0 + (x.toNat - 48)) / 10 = valL l 0 by omega, h, u8_of (x := x) (by omega)]
theorem rd_of {t : ByteArray} (h1 : ∀ c ∈ t.data.toList, digB c = true) (h2 : t.size ≤ 9) (h3 : Lib.decDigits (valL t.data.toList 0) = t.data.toList) : rdD t = ((valL t.data.toList 0 : Int), true) := by
  have hlen : t.data.toList.length = t.size := Array.length_toList
  have hb := valL_bound t.data.toList 0 h1
  have : 10 ^ t.data.toList.length ≤ 10 ^ 9 := Nat.pow_le_pow_right (by omega) (by omega)
  unfold rdD rdL
  rw [decT (show t.size ≤ 10 by omega), show t.data.toList.all digB = true from List.all_eq_true.2 h1, decT (show valL t.data.toList 0 ≤ 1000000000 by omega), decT (show decB (valL t.data.toList 0 : Int) = t by rw [decB_nat, h3, mkB_self])]
  rfl
theorem rd0 (s : ByteArray) (a : Nat) : rdD (ByteArray.extract s a a) = (0, false) := by
  have e : ByteArray.extract s a a = ByteArray.empty := bytes_ext (by rw [exL]; simp)
  rw [e]
  decide +kernel
theorem rd1 {s : ByteArray} {a : Nat} (h : dg s a) : rdD (ByteArray.extract s a (a + 1)) = (bt s a - 48, true) := by
  obtain ⟨x, e, hx, hb⟩ := dg_cons h
  have el : (ByteArray.extract s a (a + 1)).data.toList = [x] := by rw [exL, e]; simp
  have hv : valL [x] 0 = x.toNat - 48 := by simp [valL]
  have := h.2
  rw [rd_of (by rw [el]; simpa using hx) (by rw [ex_size _ _ _ (by have := h.1; omega)]; omega) (by rw [el]; exact val1 hx), el, hv, hb]
  rw [hb] at this
  simp only [Prod.mk.injEq, and_true]
  omega
theorem rd2 {s : ByteArray} {a : Nat} (h : dg s a) (h' : dg s (a + 1)) (hz : bt s a ≠ 48) : rdD (ByteArray.extract s a (a + 2)) = (10 * (bt s a - 48) + (bt s (a + 1) - 48), true) := by
  obtain ⟨x, e, hx, hb⟩ := dg_cons h
  obtain ⟨y, e', hy, hb'⟩ := dg_cons h'
  have el : (ByteArray.extract s a (a + 2)).data.toList = [x] ++ [y] := by rw [exL, e, e']; simp
  have hv : valL [x] 0 = x.toNat - 48 := by simp [valL]
  have hv2 : valL ([x] ++ [y]) 0 = 10 * (x.toNat - 48) + (y.toNat - 48) := by simp [valL]
  have t1 := h.2
  have t2 := h'.2
  rw [hb] at t1 hz; rw [hb'] at t2
  rw [rd_of (by rw [el]; simp [hx, hy]) (by rw [ex_size _ _ _ (by have := h'.1; omega)]; omega) (by rw [el]; exact valS hy (val1 hx) (by omega)), el, hv2, hb, hb']
  simp only [Prod.mk.injEq, and_true]
  omega
theorem rd3 {s : ByteArray} {a : Nat} (h : dg s a) (h' : dg s (a + 1)) (h'' : dg s (a + 2)) (hz : bt s a ≠ 48) : 100 ≤ (rdD (ByteArray.extract s a (a + 3))).1 := by
  obtain ⟨x, e, hx, hb⟩ := dg_cons h
  obtain ⟨y, e', hy, hb'⟩ := dg_cons h'
  obtain ⟨z, e'', hz', hb''⟩ := dg_cons h''
  have el : (ByteArray.extract s a (a + 3)).data.toList = ([x] ++ [y]) ++ [z] := by rw [exL, e, e', e'']; simp
  have hv : valL [x] 0 = x.toNat - 48 := by simp [valL]
  have hv2 : valL ([x] ++ [y]) 0 = 10 * (x.toNat - 48) + (y.toNat - 48) := by simp [valL]
  have hv3 : valL (([x] ++ [y]) ++ [z]) 0 = 10 * (10 * (x.toNat - 48) + (y.toNat - 48)) + (z.toNat - 48) := by simp [valL]
  have t1 := h.2
  rw [hb] at t1 hz
  rw [rd_of (by rw [el]; simp [hx, hy, hz']) (by rw [ex_size _ _ _ (by have := h''.1; omega)]; omega) (by rw [el]; exact valS hz' (valS hy (val1 hx) (by omega)) (by omega)), el, hv3]
  show (100 : Int) ≤ ((_ : Nat) : Int)
  omega
def numS (r : Int × Int × Int) : Int × Int := if r.2.2 = 1 then (r.1, r.2.1) else if r.2.2 = 0 then (0, -1) else (0, -2)
def endS (s : ByteArray) (a k : Nat) (most : Int) : Int × Int :=
  if k > a + 3 then (0, -2) else if k > a + 1 ∧ bt s a = 48 then (0, -2) else if (rdD (ByteArray.extract s a k)).1 > most then (0, -2) else numS (tailP s a k (rdD (ByteArray.extract s a k)).1)
theorem num_step {s : ByteArray} {a k : Nat} {most : Int} (hs : s.size ≤ 1000000) (h : dg s k) : spec_l11Num_L0 s (a : Int) most (k : Int) = spec_l11Num_L0 s (a : Int) most ((k + 1 : Nat) : Int) := by
  rw [spec_l11Num_L0_eq]
  obtain ⟨h3, h4, h5⟩ := h
  have e1 : w64 ((k : Int) + 1) = ((k + 1 : Nat) : Int) := wrap_succ (by omega)
  simp only [e1, Int.toNat_natCast]
  rw [decT (show (k : Int) < (s.size : Int) by omega), decT (show (0 : Int) ≤ (k : Int) by omega), decT (show bt s k ≥ 48 by omega), decT (show bt s k ≤ 57 by omega)]
  simp only [Bool.and_self, cond_true]
theorem num_end {s : ByteArray} {a k : Nat} {most : Int} (hs : s.size ≤ 1000000) (ha : a ≤ k) (hk : k ≤ s.size) (h : ¬ dg s k) : spec_l11Num_L0 s (a : Int) most (k : Int) = some (endS s a k most, ()) := by
  rw [spec_l11Num_L0_eq]
  unfold dg at h
  have e1 : w64 ((k : Int) + 1) = (k : Int) + 1 := w64_id (by omega) (by omega)
  have e2 : w64 ((k : Int) + 2) = ((k + 2 : Nat) : Int) := (w64_id (by omega) (by omega)).trans (by omega)
  have e3 : ((k : Int) + 1).toNat = k + 1 := by omega
  have e4 : ((ByteArray.extract s a k).size : Int) = (k : Int) - (a : Int) := by rw [ex_size _ _ _ hk]; omega
  have e5 : a < k → bt (ByteArray.extract s a k) 0 = bt s a := fun h => bt_ex s a k 0 hk (by omega)
  simp only [e1, e2, e3, e4, Int.toNat_natCast, Int.toNat_zero, spec_ReadDecimal_ok, Option.bind_some]
  rw [show endS s a k most = if k > a + 3 then (0, -2) else if k > a + 1 ∧ bt s a = 48 then (0, -2) else if (rdD (ByteArray.extract s a k)).1 > most then (0, -2) else numS (tailP s a k (rdD (ByteArray.extract s a k)).1) from rfl]
  generalize (rdD (ByteArray.extract s a k)).1 = v at *
  generalize bt (ByteArray.extract s a k) 0 = b0 at *
  unfold numS tailP
  grind (splits := 40)
/-- Where the figures end. -/
theorem run_end {s : ByteArray} {a : Nat} {most : Int} (hs : s.size ≤ 1000000) : ∀ n k : Nat, k + n = s.size → a ≤ k → ∃ k', k ≤ k' ∧ spec_l11Num_L0 s (a : Int) most (k : Int) = some (endS s a k' most, ())
  | 0, k, h, ha => ⟨k, Nat.le_refl _, num_end hs ha (Nat.le_of_eq h) fun hd => by have := hd.1; omega⟩
  | n + 1, k, h, ha => by
    by_cases hd : dg s k
    · obtain ⟨k', h1, h2⟩ := run_end (a := a) (most := most) hs n (k + 1) (by omega) (by omega)
      exact ⟨k', by omega, by rw [num_step hs hd, h2]⟩
    · exact ⟨k, Nat.le_refl _, num_end hs ha (by omega) hd⟩
theorem spec_l11Num_ok (s : ByteArray) (a : Nat) (most : Int) (hs : s.size ≤ 1000000) (ha : a ≤ s.size) (h0 : 0 ≤ most) (h1 : most ≤ 99) : spec_l11Num s (a : Int) most = some (numS (numP s a most), ()) := by
  rw [spec_l11Num_eq]
  have n2 : numS (0, 0, 2) = (0, -2) := rfl
  have r0 := rd0 s a
  by_cases d0 : dg s a
  · have f0 := d0.2
    have g0 := d0.1
    have r1 := rd1 d0
    rw [num_step hs d0]
    by_cases d1 : dg s (a + 1)
    · have f1 := d1.2
      have g1 := d1.1
      rw [num_step hs d1]
      by_cases d2 : dg s (a + 2)
      · have f2 := d2.2
        have g2 := d2.1
        have e : numP s a most = (0, 0, 2) := by unfold numP; grind
        rw [num_step hs d2, e, n2]
        by_cases d3 : dg s (a + 3)
        · have g3 := d3.1
          rw [num_step hs d3]
          obtain ⟨k', h1, h2⟩ := run_end (a := a) (most := most) hs (s.size - (a + 4)) (a + 4) (by omega) (by omega)
          rw [h2]
          unfold endS
          rw [if_pos (by omega)]
        · rw [num_end hs (by omega) (by omega) d3]
          have := fun hz => rd3 d0 d1 d2 hz
          unfold endS
          grind
      · rw [num_end hs (by omega) (by omega) d2]
        have := fun hz => rd2 d0 d1 hz
        unfold endS numP
        grind
    · rw [num_end hs (by omega) (by omega) d1]
      unfold endS numP
      grind
  · rw [num_end hs (by omega) ha d0]
    unfold endS numP
    grind
theorem numP_cases (s : ByteArray) (a : Nat) (most : Int) (h0 : 0 ≤ most) : (numP s a most = (0, 0, 0)) ∨ numP s a most = (0, 0, 2) ∨ ∃ n k : Nat, numP s a most = ((n : Int), (k : Int), 1) ∧ (n : Int) ≤ most ∧ a < k ∧ k ≤ s.size := by
  have tl : ∀ (k : Nat) (n : Int), a ≤ k → k ≤ s.size → 0 ≤ n → n ≤ most → (tailP s a k n = (0, 0, 0)) ∨ tailP s a k n = (0, 0, 2) ∨ ∃ m j : Nat, tailP s a k n = ((m : Int), (j : Int), 1) ∧ (m : Int) ≤ most ∧ a < j ∧ j ≤ s.size := by
    intro k n ha hk h0 h1
    unfold tailP
    by_cases c1 : k = s.size
    · rw [if_pos c1]; exact .inl rfl
    · rw [if_neg c1]
      by_cases c2 : k = a ∨ bt s k ≠ 13
      · rw [if_pos c2]; exact .inr (.inl rfl)
      · rw [if_neg c2]
        by_cases c3 : k + 1 = s.size
        · rw [if_pos c3]; exact .inl rfl
        · rw [if_neg c3]
          by_cases c4 : bt s (k + 1) ≠ 10
          · rw [if_pos c4]; exact .inr (.inl rfl)
          · rw [if_neg c4]
            exact .inr (.inr ⟨n.toNat, k + 2, by rw [Int.toNat_of_nonneg h0], by omega, by omega, by omega⟩)
  unfold numP
  by_cases d0 : dg s a
  · have := d0.2
    have g0 := d0.1
    rw [if_neg (fun h => h d0)]
    by_cases d1 : dg s (a + 1)
    · have := d1.2
      have g1 := d1.1
      rw [if_neg (fun h => h d1)]
      split
      · exact .inr (.inl rfl)
      · exact tl _ _ (by omega) (by omega) (by omega) (by omega)
    · rw [if_pos d1]
      split
      · exact .inr (.inl rfl)
      · exact tl _ _ (by omega) (by omega) (by omega) (by omega)
  · rw [if_pos d0]
    by_cases ha : a ≤ s.size
    · exact tl _ _ (by omega) ha (by omega) h0
    · unfold tailP
      rw [if_neg (by omega), if_pos (.inl rfl)]
      exact .inr (.inl rfl)
end Go.Den.S
