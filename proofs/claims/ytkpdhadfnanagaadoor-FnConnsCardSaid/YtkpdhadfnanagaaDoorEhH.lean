/- EhH: equations of the functions of this seat as the executor tells them, or plain facts about them. Conditions: none here. -/
import Derived.Test.YtkpdhadfnanagaaDoorEhG
set_option linter.all false
namespace Go.Den.S
open Go Go.Den
/-! ### numbers are read -/
def digB (c : UInt8) : Bool := decide (48 ≤ c.toNat) && decide (c.toNat ≤ 57)
def valL (l : List UInt8) (a : Nat) : Nat := l.foldl (fun a c => 10 * a + (c.toNat - 48)) a
theorem valL_app (l m : List UInt8) (a : Nat) : valL (l ++ m) a = valL m (valL l a) := by simp [valL]
theorem dig_ofNat (d : Nat) (h : d < 10) : (UInt8.ofNat (48 + d)).toNat = 48 + d := by
  rw [UInt8.toNat_ofNat']
  omega
theorem valL_bound : ∀ (l : List UInt8) (a : Nat), (∀ c ∈ l, digB c = true) → valL l a < 10 ^ l.length * (a + 1)
  | [], a, _ => by simp [valL]
  | c :: r, a, h => by
    have hc := h c (List.mem_cons_self ..)
    unfold digB at hc
    simp only [Bool.and_eq_true, decide_eq_true_eq] at hc
    have := valL_bound r (10 * a + (c.toNat - 48)) fun x hx => h x (List.mem_cons_of_mem _ hx)
    show valL r (10 * a + (c.toNat - 48)) < _
    refine Nat.lt_of_lt_of_le this ?_
    rw [List.length_cons, Nat.pow_succ, Nat.mul_assoc]
    exact Nat.mul_le_mul_left _ (by omega)
/-- The reader of digits, without the program. -/
def rdL (s : ByteArray) (l : List UInt8) (a : Nat) : Int × Bool := bif l.all digB then (bif decide (valL l a ≤ 1000000000) && decide (decB (valL l a : Int) = s) then ((valL l a : Int), true) else (0, false)) else (0, false)
theorem rd_loop (s : ByteArray) (h10 : s.size ≤ 10) : spec_ReadDecimal_L0 s 0 0 = some (rdL s s.data.toList 0, ()) := by
  have hlen : s.data.toList.length = s.size := Array.length_toList
  have key := list_ind s.data.toList 0 (fun i r => ∀ a : Nat, a < 10 ^ i → spec_ReadDecimal_L0 s (a : Int) (i : Int) = some (rdL s r a, ()))
    (fun a ha => by
      rw [spec_ReadDecimal_L0_eq, hlen]
      have ha' : a < 10 ^ 10 := Nat.lt_of_lt_of_le ha (Nat.pow_le_pow_right (by omega) (by omega))
      simp only [Int.lt_irrefl, decide_false, cond_false]
      unfold rdL
      show _ = some ((bif (decide (a ≤ 1000000000) && decide (decB (a : Int) = s)) then ((a : Int), true) else (0, false)), ())
      by_cases h9 : a ≤ 1000000000
      · rw [decide_eq_false (show ¬ ((a : Int) > 1000000000) by omega), decide_eq_true h9]
        simp only [cond_false, spec_Decimal_ok (a : Int) (by omega) (by omega), Option.bind_some, bytes_eq, Bool.true_and]
        cases decide (decB (a : Int) = s) <;> rfl
      · rw [decide_eq_true (show ((a : Int) > 1000000000) by omega), decide_eq_false h9]; rfl)
    (fun i c r hi hx hm ih a ha => by
      rw [hlen] at hi
      have ha' : a < 10 ^ 10 := Nat.lt_of_lt_of_le ha (Nat.pow_le_pow_right (by omega) (by omega))
      have hc : c.toNat < 256 := c.toNat_lt
      have hb : bt s i = (c.toNat : Int) := by unfold bt; rw [hx]
      rw [spec_ReadDecimal_L0_eq]
      have e1 : decide ((i : Int) < (s.size : Int)) = true := decide_eq_true (by omega)
      have e2 : decide (0 ≤ (i : Int)) = true := decide_eq_true (by omega)
      have e3 : w64 ((i : Int) + 1) = ((i + 1 : Nat) : Int) := wrap_succ (by omega)
      simp only [e1, e2, e3, Bool.and_self, cond_true, Int.toNat_natCast, hb]
      unfold rdL
      rw [List.all_cons]
      unfold digB
      by_cases h48 : 48 ≤ c.toNat
      · by_cases h57 : c.toNat ≤ 57
        · rw [decide_eq_false (show ¬ ((c.toNat : Int) < 48) by omega), decide_eq_false (show ¬ ((c.toNat : Int) > 57) by omega), decide_eq_true h48, decide_eq_true h57]
          have hw : w64 (w64 (w64 (10 * (a : Int)) + w64 (c.toNat : Int)) - 48) = ((10 * a + (c.toNat - 48) : Nat) : Int) := by
            show IntKind.i64.wrap (IntKind.i64.wrap (IntKind.i64.wrap _ + IntKind.i64.wrap _) - 48) = _
            rw [wrap64_id (n := 10 * (a : Int)) (by omega) (by omega), wrap64_id (n := (c.toNat : Int)) (by omega) (by omega), wrap64_id (n := 10 * (a : Int) + (c.toNat : Int)) (by omega) (by omega), wrap64_id (by omega) (by omega)]
            omega
          simp only [cond_false, hw, Bool.true_and]
          rw [ih (10 * a + (c.toNat - 48)) (by rw [Nat.pow_succ]; omega)]
          rfl
        · rw [decide_eq_false (show ¬ ((c.toNat : Int) < 48) by omega), decide_eq_true (show ((c.toNat : Int) > 57) by omega), decide_eq_true h48, decide_eq_false h57]
          rfl
      · rw [decide_eq_true (show ((c.toNat : Int) < 48) by omega), decide_eq_false h48]
        rfl)
  exact key 0 (by decide)
def rdD (s : ByteArray) : Int × Bool := bif decide (s.size ≤ 10) then rdL s s.data.toList 0 else (0, false)
theorem spec_ReadDecimal_ok (s : ByteArray) : spec_ReadDecimal s = some (rdD s, ()) := by
  rw [spec_ReadDecimal_eq]
  unfold rdD
  by_cases h : s.size ≤ 10
  · rw [decide_eq_false (show ¬ ((s.size : Int) > 10) by omega), decide_eq_true h]
    simp only [cond_false, cond_true]
    exact rd_loop s h
  · rw [decide_eq_true (show ((s.size : Int) > 10) by omega), decide_eq_false h]; rfl
theorem decB_nat (v : Nat) : decB (v : Int) = mkB (Lib.decDigits v) := by
  unfold decB Lib.itoa
  rw [if_neg (by omega), Int.toNat_natCast]
/-! ### .. and by the library -/
end Go.Den.S
