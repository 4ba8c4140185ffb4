/- EhH: equations of the functions of this seat as the executor tells them, or plain facts about them. Conditions: none here. -/
import Derived.Test.YtkpdhadfnanagaaDoorEhG
set_option linter.all false
namespace Go.Den.S
open Go Go.Den
/-! ### numbers are read -/
def digB (c : UInt8) : Bool := decide (48 ≤ c.toNat) && decide (c.toNat ≤ 57)
def valL (l : List UInt8) (a : Nat) : Nat := l.foldl (fun a c => 10 * a + (c.toNat - 48)) a
theorem valL_app (l m : List UInt8) (a : Nat) : valL (l ++ m) a = valL m (valL l a) := by simp [valL]
theorem valL_bound : ∀ (l : List UInt8) (a : Nat), (∀ c ∈ l, digB c = true) → valL l a < 10 ^ l.length * (a + 1)
  | [], a, _ => by simp [valL]
  | c :: r, a, h => by
    have hc := h c (List.mem_cons_self ..)
    unfold digB at hc
    simp only [Bool.and_eq_true, decide_eq_true_eq] at hc
    have := valL_bound r (10 * a + (c.toNat - 48)) fun x hx => h x (List.mem_cons_of_mem _ hx)
    show valL r (10 * a + (c.toNat - 48)) < _
    refine Nat.lt_of_lt_of_le this ?_
    rw [List.length_cons, Nat.pow_succ, Nat.mul_assoc]
    exact Nat.mul_le_mul_left _ (by omega)
/-- The reader of digits, without the program. -/
def rdL (s : ByteArray) (l : List UInt8) (a : Nat) : Int × Bool := bif l.all digB then (bif decide (valL l a ≤ 1000000000) && decide (decB (valL l a : Int) = s) then ((valL l a : Int), true) else (0, false)) else (0, false)
def rdD (s : ByteArray) : Int × Bool := bif decide (s.size ≤ 10) then rdL s s.data.toList 0 else (0, false)
theorem decB_nat (v : Nat) : decB (v : Int) = mkB (Lib.decDigits v) := by
  unfold decB Lib.itoa
  rw [if_neg (by omega), Int.toNat_natCast]
/-! ### .. and by the library -/
end Go.Den.S
