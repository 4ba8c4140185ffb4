/- EhA: equations of the functions of this seat as the executor tells them, or plain facts about them. Conditions: none here. -/
import Derived.Test.YtkpdhadfnanagaaDoorEqD0
import Derived.Test.YtkpdhadfnanagaaDoorEgE
set_option linter.all false

namespace Go.Den.S
open Go Go.Den
set_option maxRecDepth 4000
/-! ### words: numbers, sums, frames -/
def inB (a b c : Int) : Bool := decide (b ≤ a) && decide (a ≤ c)
theorem within_ok (a b c : Int) : impl_within a b c = some (inB a b c, ()) := by
  rw [impl_within_eq]
  unfold inB
  by_cases h : a ≥ b
  · simp only [decide_eq_true h, cond_true, decide_eq_true (show b ≤ a from h), Bool.true_and]
  · simp only [decide_eq_false h, cond_false, decide_eq_false (show ¬ b ≤ a from h), Bool.false_and]
theorem l01In_ok (a b c : Int) : spec_l01In a b c = some (inB a b c, ()) := by
  rw [spec_l01In_eq]
  unfold inB
  by_cases h : a ≥ b
  · simp only [decide_eq_true h, cond_true, decide_eq_true (show b ≤ a from h), Bool.true_and]
  · simp only [decide_eq_false h, cond_false, decide_eq_false (show ¬ b ≤ a from h), Bool.false_and]
def vI (n : Nat) : List Int := (vL n).map fun c => (c.toNat : Int)
theorem ofNums_map (l : List UInt8) : ofNums (l.map fun c => (c.toNat : Int)) = bOf l := by
  unfold ofNums
  rw [List.map_map]
  congr 2
  refine (List.map_congr_left fun c _ => ?_).trans (List.map_id _)
  simp
theorem vI_lt {n : Nat} (h : n < 128) : vI n = [(n : Int)] := by
  unfold vI
  rw [vL_lt h, List.map_cons, u8_nat (by omega)]; rfl
theorem vI_ge {n : Nat} (h : ¬ n < 128) : vI n = ((n % 128 + 128 : Nat) : Int) :: vI (n / 128) := by
  unfold vI
  rw [vL_ge h, List.map_cons, u8_nat (by omega)]
theorem tdiv_nat (n m : Nat) : Int.tdiv (n : Int) (m : Int) = ((n / m : Nat) : Int) := by
  rw [Int.tdiv_eq_ediv_of_nonneg (by omega)]; rfl
theorem tmod_nat (n m : Nat) : Int.tmod (n : Int) (m : Int) = ((n % m : Nat) : Int) := by
  rw [Int.tmod_eq_emod_of_nonneg (by omega)]; rfl
theorem spec_l01Var_L0_ok : ∀ (n : Nat) (xs : List Int), n ≤ 4611686018427387904 → xs.length + n ≤ 4611686018427387904 → n ≤ 1000000000000 → xs.length + n ≤ 2000000000000 → spec_l01Var_L0 (n : Int) xs = some (ofNums (xs ++ vI n), ()) := by
  intro n
  induction n using Nat.strongRecOn with
  | ind n ih =>
    intro xs h1 h2 h3 h4
    rw [spec_l01Var_L0_eq]
    have kl : lim (xs.length + 1) 1 = true := lim_true (by omega)
    by_cases h : n < 128
    · have k1 : decide ((n : Int) > 127) = false := decide_eq_false (by omega)
      have k2 : IntKind.u8.wrap (n : Int) = (n : Int) := wrapU8_id (by omega) (by omega)
      simp only [k1, cond_false, kl, cond_true, k2, vI_lt h]
      rfl
    · have k1 : decide ((n : Int) > 127) = true := decide_eq_true (by omega)
      have e1 : Int.tdiv (n : Int) 128 = ((n / 128 : Nat) : Int) := tdiv_nat n 128
      have e2 : Int.tmod (n : Int) 128 = ((n % 128 : Nat) : Int) := tmod_nat n 128
      have k2 : w64 (((n / 128 : Nat) : Int)) = ((n / 128 : Nat) : Int) := wrap64_id (by omega) (by omega)
      have k3 : w64 (((n % 128 : Nat) : Int) + 128) = ((n % 128 + 128 : Nat) : Int) := wrap64_id (by omega) (by omega)
      have k4 : IntKind.u8.wrap ((n % 128 + 128 : Nat) : Int) = ((n % 128 + 128 : Nat) : Int) := wrapU8_id (by omega) (by omega)
      simp only [k1, cond_true, kl, e1, e2, k2, k3, k4]
      rw [ih (n / 128) (by omega) _ (by omega) (by rw [List.length_append, List.length_singleton]; omega) (by omega) (by rw [List.length_append, List.length_singleton]; omega), vI_ge h, List.append_assoc]
      rfl
theorem spec_l01Var_ok {n : Nat} (h : n ≤ 1000000000000) : spec_l01Var (n : Int) = some (bOf (vL n), ()) := by
  rw [spec_l01Var_eq, spec_l01Var_L0_ok n [] (by omega) (by simp; omega) h (by simp; omega)]
  show some (ofNums (vI n), ()) = _
  unfold vI
  rw [ofNums_map]
theorem impl_VarText_L0_ok : ∀ (n : Nat) (xs : List Int), n ≤ 1000000000000 → xs.length + n ≤ 2000000000000 → impl_VarText_L0 (n : Int) xs = some ((ofNums (xs ++ vI n), true), ()) := by
  intro n
  induction n using Nat.strongRecOn with
  | ind n ih =>
    intro xs h3 h4
    rw [impl_VarText_L0_eq]
    have kl : lim (xs.length + 1) 1 = true := lim_true (by omega)
    by_cases h : n < 128
    · have k1 : decide ((n : Int) > 127) = false := decide_eq_false (by omega)
      have k2 : IntKind.u8.wrap (n : Int) = (n : Int) := wrapU8_id (by omega) (by omega)
      simp only [k1, cond_false, kl, cond_true, k2, vI_lt h]
      rfl
    · have k1 : decide ((n : Int) > 127) = true := decide_eq_true (by omega)
      have e1 : Int.tdiv (n : Int) 128 = ((n / 128 : Nat) : Int) := tdiv_nat n 128
      have e2 : Int.tmod (n : Int) 128 = ((n % 128 : Nat) : Int) := tmod_nat n 128
      have k2 : w64 (((n / 128 : Nat) : Int)) = ((n / 128 : Nat) : Int) := wrap64_id (by omega) (by omega)
      have k3 : w64 (((n % 128 : Nat) : Int) + 128) = ((n % 128 + 128 : Nat) : Int) := wrap64_id (by omega) (by omega)
      have k4 : IntKind.u8.wrap ((n % 128 + 128 : Nat) : Int) = ((n % 128 + 128 : Nat) : Int) := wrapU8_id (by omega) (by omega)
      simp only [k1, cond_true, kl, e1, e2, k2, k3, k4]
      rw [ih (n / 128) (by omega) _ (by omega) (by rw [List.length_append, List.length_singleton]; omega), vI_ge h, List.append_assoc]
      rfl
theorem impl_VarText_ok (n : Int) : impl_VarText n = some ((if 0 ≤ n ∧ n ≤ 1000000000 then (bOf (vL n.toNat), true) else (ByteArray.empty, false)), ()) := by
  rw [impl_VarText_eq, within_ok]
  simp only [Option.bind_some]
  by_cases h : 0 ≤ n ∧ n ≤ 1000000000
  · have e : inB n 0 1000000000 = true := by unfold inB; simp [h]
    simp only [e, Bool.not_true, cond_false, if_pos h]
    obtain ⟨m, rfl⟩ : ∃ m : Nat, n = (m : Int) := ⟨n.toNat, by omega⟩
    rw [impl_VarText_L0_ok m [] (by omega) (by simp; omega)]
    show some ((ofNums (vI m), true), ()) = _
    unfold vI
    rw [ofNums_map]; rfl
  · have e : inB n 0 1000000000 = false := by
      unfold inB
      rw [← Bool.not_eq_true, Bool.and_eq_true, decide_eq_true_eq, decide_eq_true_eq]; exact h
    simp only [e, Bool.not_false, cond_true, if_neg h]
theorem bt_get (s : ByteArray) {i : Nat} {c : UInt8} {r : List UInt8} (h : (bl s).drop i = c :: r) : bt s i = (c.toNat : Int) := by
  unfold bt
  have : (bl s)[i]? = some c := by
    have := congrArg List.head? h
    rw [List.head?_drop] at this
    exact this
  show (((bl s).getD i 0).toNat : Int) = _
  rw [List.getD_eq_getElem?_getD, this]; rfl
end Go.Den.S
