/- FaB: equations of the functions of this seat as the executor tells them, or plain facts about them. Conditions: none here. -/
import Derived.Test.YtkpdhadfnanagaaDoorFaA
import Derived.Test.YtkpdhadfnanagaaDoorEhI
set_option linter.all false
namespace Go.Den.S
open Go Go.Den
/-! ### the reference's number -/
theorem exL (s : ByteArray) (a k : Nat) : (ByteArray.extract s a k).data.toList = (s.data.toList.drop a).take (k - a) := by
  simp only [ByteArray.data_extract, Array.toList_extract, List.extract_eq_take_drop]
theorem ex_size (s : ByteArray) (a k : Nat) (h : k ≤ s.size) : (ByteArray.extract s a k).size = k - a := by
  rw [ByteArray.size_extract]; omega
theorem dg_cons {s : ByteArray} {a : Nat} (h : dg s a) : ∃ x : UInt8, s.data.toList.drop a = x :: s.data.toList.drop (a + 1) ∧ digB x = true ∧ bt s a = (x.toNat : Int) := by
  have hlen : s.data.toList.length = s.size := Array.length_toList
  have h1 : a < s.data.toList.length := by rw [hlen]; exact h.1
  have e : bt s a = ((s.data.toList[a]).toNat : Int) := by
    unfold bt
    rw [List.getD_eq_getElem?_getD, List.getElem?_eq_getElem h1]; rfl
  refine ⟨s.data.toList[a], List.drop_eq_getElem_cons h1, ?_, e⟩
  have := h.2
  rw [e] at this
  unfold digB
  simp only [Bool.and_eq_true, decide_eq_true_eq]
  omega
theorem u8_of {x : UInt8} {n : Nat} (h : n = x.toNat) : UInt8.ofNat n = x := by rw [h]; exact UInt8.ofNat_toNat
theorem val1 {x : UInt8} (hx : digB x = true) : Lib.decDigits (valL [x] 0) = [x] := by
  unfold digB at hx
  simp only [Bool.and_eq_true, decide_eq_true_eq] at hx
  have e : valL [x] 0 = x.toNat - 48 := by simp [valL]
  rw [e, Lib.decDigits, dif_pos (by omega), u8_of (x := x) (by omega)]
theorem valS {l : List UInt8} {x : UInt8} (hx : digB x = true) (h : Lib.decDigits (valL l 0) = l) (h0 : 1 ≤ valL l 0) : Lib.decDigits (valL (l ++ [x]) 0) = l ++ [x] := by
  unfold digB at hx
  simp only [Bool.and_eq_true, decide_eq_true_eq] at hx
  have e : valL (l ++ [x]) 0 = 10 * valL l 0 + (x.toNat - 48) := by rw [valL_app]; rfl
  rw [e, decD_step _ (by omega), show (10 * valL l 0 + (x.toNat - 48)) / 10 = valL l 0 by omega, h, u8_of (x := x) (by omega)]
theorem rd_of {t : ByteArray} (h1 : ∀ c ∈ t.data.toList, digB c = true) (h2 : t.size ≤ 9) (h3 : Lib.decDigits (valL t.data.toList 0) = t.data.toList) : rdD t = ((valL t.data.toList 0 : Int), true) := by
  have hlen : t.data.toList.length = t.size := Array.length_toList
  have hb := valL_bound t.data.toList 0 h1
  have : 10 ^ t.data.toList.length ≤ 10 ^ 9 := Nat.pow_le_pow_right (by omega) (by omega)
  unfold rdD rdL
  rw [decT (show t.size ≤ 10 by omega), show t.data.toList.all digB = true from List.all_eq_true.2 h1, decT (show valL t.data.toList 0 ≤ 1000000000 by omega), decT (show decB (valL t.data.toList 0 : Int) = t by rw [decB_nat, h3, mkB_self])]
  rfl
theorem rd1 {s : ByteArray} {a : Nat} (h : dg s a) : rdD (ByteArray.extract s a (a + 1)) = (bt s a - 48, true) := by
  obtain ⟨x, e, hx, hb⟩ := dg_cons h
  have el : (ByteArray.extract s a (a + 1)).data.toList = [x] := by rw [exL, e]; simp
  have hv : valL [x] 0 = x.toNat - 48 := by simp [valL]
  have := h.2
  rw [rd_of (by rw [el]; simpa using hx) (by rw [ex_size _ _ _ (by have := h.1; omega)]; omega) (by rw [el]; exact val1 hx), el, hv, hb]
  rw [hb] at this
  simp only [Prod.mk.injEq, and_true]
  omega
theorem rd2 {s : ByteArray} {a : Nat} (h : dg s a) (h' : dg s (a + 1)) (hz : bt s a ≠ 48) : rdD (ByteArray.extract s a (a + 2)) = (10 * (bt s a - 48) + (bt s (a + 1) - 48), true) := by
  obtain ⟨x, e, hx, hb⟩ := dg_cons h
  obtain ⟨y, e', hy, hb'⟩ := dg_cons h'
  have el : (ByteArray.extract s a (a + 2)).data.toList = [x] ++ [y] := by rw [exL, e, e']; simp
  have hv : valL [x] 0 = x.toNat - 48 := by simp [valL]
  have hv2 : valL ([x] ++ [y]) 0 = 10 * (x.toNat - 48) + (y.toNat - 48) := by simp [valL]
  have t1 := h.2
  have t2 := h'.2
  rw [hb] at t1 hz; rw [hb'] at t2
  rw [rd_of (by rw [el]; simp [hx, hy]) (by rw [ex_size _ _ _ (by have := h'.1; omega)]; omega) (by rw [el]; exact valS hy (val1 hx) (by omega)), el, hv2, hb, hb']
  simp only [Prod.mk.injEq, and_true]
  omega
theorem rd3 {s : ByteArray} {a : Nat} (h : dg s a) (h' : dg s (a + 1)) (h'' : dg s (a + 2)) (hz : bt s a ≠ 48) : 100 ≤ (rdD (ByteArray.extract s a (a + 3))).1 := by
  obtain ⟨x, e, hx, hb⟩ := dg_cons h
  obtain ⟨y, e', hy, hb'⟩ := dg_cons h'
  obtain ⟨z, e'', hz', hb''⟩ := dg_cons h''
  have el : (ByteArray.extract s a (a + 3)).data.toList = ([x] ++ [y]) ++ [z] := by rw [exL, e, e', e'']; simp
  have hv : valL [x] 0 = x.toNat - 48 := by simp [valL]
  have hv2 : valL ([x] ++ [y]) 0 = 10 * (x.toNat - 48) + (y.toNat - 48) := by simp [valL]
  have hv3 : valL (([x] ++ [y]) ++ [z]) 0 = 10 * (10 * (x.toNat - 48) + (y.toNat - 48)) + (z.toNat - 48) := by simp [valL]
  have t1 := h.2
  rw [hb] at t1 hz
  rw [rd_of (by rw [el]; simp [hx, hy, hz']) (by rw [ex_size _ _ _ (by have := h''.1; omega)]; omega) (by rw [el]; exact valS hz' (valS hy (val1 hx) (by omega)) (by omega)), el, hv3]
  show (100 : Int) ≤ ((_ : Nat) : Int)
  omega
end Go.Den.S
