/- PxC: equations of the functions of this seat as the executor tells them, or plain facts about them. Conditions: none here. -/
import Derived.Test.YthfdlonnbkffnaaGreatDoorPxB
set_option linter.all false
set_option linter.unusedSimpArgs false
set_option linter.unusedVariables false
namespace Go.Den.S
open Go Go.Den
/-! ### what is in order -/
abbrev gi (l : List ByteArray) (i : Nat) : ByteArray := l.getD i ByteArray.empty
/-- An item of a row in order: st is how far before it the lesser one stands. -/
def itB (st : Nat) (l : List ByteArray) (i : Nat) : Bool :=
  decide ((gi l i).size ≤ 60) && (!(decide (0 < st) && decide (i % st = 0) && decide (st ≤ i)) || blt (gi l (i - st)) (gi l i))
def itsB (st : Nat) (l : List ByteArray) : Bool := (List.range l.length).all (itB st l)
def stB (k : Int) : Nat := if k = 2 then 0 else if k = 3 then 2 else 1
/-- A right value. -/
def valB (v : DV) : Bool :=
  decide (0 ≤ v.2.1) && decide (v.2.1 ≤ 100000) &&
    bif decide (v.1 = 1) then decide (v.2.2.1.size ≤ 60) && decide (v.2.2.2 = [])
    else decide (v.1 = 2 ∨ v.1 = 3 ∨ v.1 = 4) && decide (v.2.2.1 = ByteArray.empty) && decide (1 ≤ v.2.2.2.length) && decide (v.2.2.2.length ≤ 24) && (!decide (v.1 = 3) || decide (v.2.2.2.length % 2 = 0)) && itsB (stB v.1) v.2.2.2
theorem within_ok (a b c : Int) : impl_within a b c = some (decide (b ≤ a) && decide (a ≤ c), ()) := by
  rw [impl_within_eq]
  by_cases h : a ≥ b
  · simp only [decide_eq_true h, cond_true, decide_eq_true (show b ≤ a from h), Bool.true_and]
  · simp only [decide_eq_false h, cond_false, decide_eq_false (show ¬ b ≤ a from h), Bool.false_and]
theorem l01In_ok (a b c : Int) : spec_l01In a b c = some (decide (b ≤ a) && decide (a ≤ c), ()) := by
  rw [spec_l01In_eq]
  by_cases h : a ≥ b
  · simp only [decide_eq_true h, cond_true, decide_eq_true (show b ≤ a from h), Bool.true_and]
  · simp only [decide_eq_false h, cond_false, decide_eq_false (show ¬ b ≤ a from h), Bool.false_and]
theorem its_loop (st : Nat) (hst : st ≤ 2) (l : List ByteArray) (hl : l.length ≤ 100000000) : impl_itemsOk_L1 l (st : Int) l (l.length : Int) 0 = some (itsB st l && (decide (1 ≤ l.length) && decide (l.length ≤ 24)), ()) := by
  have := all_loop (fun i => impl_itemsOk_L1 l (st : Int) l (l.length : Int) i) l.length (itB st l) (some (false, ())) (some ((decide (1 ≤ l.length) && decide (l.length ≤ 24)), ()))
    (fun i hi => by
      conv => lhs; rw [impl_itemsOk_L1_eq]
      have e1 : decide ((i : Int) < (l.length : Int)) = true := decide_eq_true (by omega)
      have e2 : decide (0 ≤ (i : Int)) = true := decide_eq_true (by omega)
      have e3 : w64 ((i : Int) + 1) = ((i + 1 : Nat) : Int) := wrap_succ (by omega)
      simp only [e1, e2, e3, Bool.and_self, cond_true, Int.toNat_natCast]
      unfold itB
      by_cases hs : (gi l i).size ≤ 60
      · rw [decide_eq_false (show ¬ (((gi l i).size : Int) > 60) by omega), decide_eq_true hs]
        simp only [cond_false, Bool.true_and]
        by_cases h0 : 0 < st
        · rw [decide_eq_true (show (st : Int) > 0 by omega), decide_eq_true h0]
          have hne : ((st : Int) != 0) = true := by simp; omega
          have hmod : (Int.tmod (i : Int) (st : Int) == 0) = decide (i % st = 0) := by
            rw [Int.tmod_eq_emod_of_nonneg (by omega)]
            by_cases h : i % st = 0
            · rw [decide_eq_true h]; simp only [beq_iff_eq]; omega
            · rw [decide_eq_false h]; simp only [beq_eq_false_iff_ne, ne_eq]; omega
          simp only [hne, hmod, cond_true, Bool.true_and]
          by_cases hm : i % st = 0
          · rw [decide_eq_true hm]
            by_cases hge : st ≤ i
            · have e4 : w64 ((i : Int) - (st : Int)) = ((i - st : Nat) : Int) := by show IntKind.i64.wrap _ = _; rw [wrap64_id (by omega) (by omega)]; omega
              simp only [decide_eq_true (show (i : Int) ≥ (st : Int) by omega), decide_eq_true hge, e4, decide_eq_true (show (0 : Int) ≤ ((i - st : Nat) : Int) by omega), decide_eq_true (show ((i - st : Nat) : Int) < (l.length : Int) by omega), Bool.and_self, cond_true, Int.toNat_natCast, blt_eq, Bool.not_true, Bool.false_or]
              cases blt (l.getD (i - st) ByteArray.empty) (l.getD i ByteArray.empty) <;> rfl
            · simp only [decide_eq_false (show ¬ ((i : Int) ≥ (st : Int)) by omega), decide_eq_false hge, cond_true, cond_false, Bool.and_false, Bool.not_false, Bool.true_or]
          · rw [decide_eq_false hm]
            simp only [cond_false, cond_true, Bool.false_and, Bool.not_false, Bool.true_or]
        · rw [decide_eq_false (show ¬ ((st : Int) > 0) by omega), decide_eq_false h0]
          simp only [cond_false, cond_true, Bool.false_and, Bool.not_false, Bool.true_or]
      · rw [decide_eq_true (show (((gi l i).size : Int) > 60) by omega), decide_eq_false hs]
        rfl)
    (by
      show impl_itemsOk_L1 l (st : Int) l (l.length : Int) (l.length : Int) = _
      rw [impl_itemsOk_L1_eq]
      simp only [Int.lt_irrefl, decide_false, cond_false, within_ok, Option.bind_some]
      have e1 : decide ((1 : Int) ≤ (l.length : Int)) = decide (1 ≤ l.length) := decide_eq_decide.2 (by omega)
      have e2 : decide ((l.length : Int) ≤ 24) = decide (l.length ≤ 24) := decide_eq_decide.2 (by omega)
      rw [e1, e2])
  rw [this]
  unfold itsB
  cases (List.range l.length).all (itB st l) <;> rfl
theorem tmod2 (n : Nat) : (Int.tmod (n : Int) 2 != 0) = !decide (n % 2 = 0) := by
  rw [Int.tmod_eq_emod_of_nonneg (by omega)]
  by_cases h : n % 2 = 0
  · rw [decide_eq_true h]; simp only [Bool.not_true, bne_eq_false_iff_eq]; omega
  · rw [decide_eq_false h]; simp only [Bool.not_false, bne_iff_ne, ne_eq]; omega
theorem beq_dec (a b : Int) : (a == b) = decide (a = b) := by
  by_cases h : a = b
  · simp [h]
  · simp [h]
theorem impl_ValOk_ok (v : DV) (hl : v.2.2.2.length ≤ 100000000) : impl_ValOk v = some (valB v, ()) := by
  rw [impl_ValOk_eq]
  unfold valB
  simp only [within_ok, Option.bind_some, impl_itemsOk_eq, bytes_eq, beq_dec, tmod2]
  cases hu : (decide (0 ≤ v.2.1) && decide (v.2.1 ≤ 100000)) with
  | false => rfl
  | true =>
    simp only [Bool.not_true, cond_false, Bool.true_and]
    by_cases h1 : v.1 = 1
    · rw [decide_eq_true h1]
      have e1 : decide ((v.2.2.1.size : Int) ≤ 60) = decide (v.2.2.1.size ≤ 60) := decide_eq_decide.2 (by omega)
      have e2 : decide ((v.2.2.2.length : Int) = 0) = decide (v.2.2.2 = []) := decide_eq_decide.2 (by rw [← List.length_eq_zero_iff]; omega)
      simp only [cond_true, e1, e2]
      cases decide (v.2.2.1.size ≤ 60) <;> rfl
    · rw [decide_eq_false h1]
      simp only [cond_false]
      by_cases h2 : v.1 = 2
      · have n3 : ¬ v.1 = 3 := by omega
        simp only [decide_eq_true h2, decide_eq_false n3, cond_true, show stB v.1 = 0 by unfold stB; rw [if_pos h2],
          decide_eq_true (show v.1 = 2 ∨ v.1 = 3 ∨ v.1 = 4 from .inl h2)]
        have := its_loop 0 (by omega) v.2.2.2 hl
        rw [show ((0 : Nat) : Int) = 0 from rfl] at this
        rw [this]
        cases decide (v.2.2.1 = ByteArray.empty) <;> cases itsB 0 v.2.2.2 <;> cases decide (1 ≤ v.2.2.2.length) <;> cases decide (v.2.2.2.length ≤ 24) <;> rfl
      · by_cases h3 : v.1 = 3
        · have := its_loop 2 (by omega) v.2.2.2 hl
          rw [show ((2 : Nat) : Int) = 2 from rfl] at this
          simp only [decide_eq_false h2, decide_eq_true h3, cond_true, cond_false, show stB v.1 = 2 by unfold stB; rw [if_neg h2, if_pos h3], decide_eq_true (show v.1 = 2 ∨ v.1 = 3 ∨ v.1 = 4 from .inr (.inl h3)), this]
          cases decide (v.2.2.1 = ByteArray.empty) <;> cases decide (v.2.2.2.length % 2 = 0) <;> cases itsB 2 v.2.2.2 <;> cases decide (1 ≤ v.2.2.2.length) <;> cases decide (v.2.2.2.length ≤ 24) <;> rfl
        · by_cases h4 : v.1 = 4
          · have := its_loop 1 (by omega) v.2.2.2 hl
            rw [show ((1 : Nat) : Int) = 1 from rfl] at this
            simp only [decide_eq_false h2, decide_eq_false h3, decide_eq_true h4, cond_true, cond_false, show stB v.1 = 1 by unfold stB; rw [if_neg h2, if_neg h3], decide_eq_true (show v.1 = 2 ∨ v.1 = 3 ∨ v.1 = 4 from .inr (.inr h4)), this]
            cases decide (v.2.2.1 = ByteArray.empty) <;> cases itsB 1 v.2.2.2 <;> cases decide (1 ≤ v.2.2.2.length) <;> cases decide (v.2.2.2.length ≤ 24) <;> rfl
          · simp only [decide_eq_false h2, decide_eq_false h3, decide_eq_false h4, cond_false, decide_eq_false (show ¬ (v.1 = 2 ∨ v.1 = 3 ∨ v.1 = 4) from fun h => h.elim h2 fun h => h.elim h3 h4), Bool.false_and]
theorem spec_loop (k u : Int) (x : ByteArray) (l : List ByteArray) (hk : k = 2 ∨ k = 3 ∨ k = 4) (hl : l.length ≤ 100000000) : spec_ValOk_L0 0 k u x l = some (itsB (stB k) l, ()) := by
  have := all_loop (fun i => spec_ValOk_L0 i k u x l) l.length (itB (stB k) l) (some (false, ())) (some (true, ()))
    (fun i hi => by
      have e1 : decide ((i : Int) < (l.length : Int)) = true := decide_eq_true (by omega)
      have e2 : decide (0 ≤ (i : Int)) = true := decide_eq_true (by omega)
      have e3 : w64 ((i : Int) + 1) = ((i + 1 : Nat) : Int) := wrap_succ (by omega)
      conv => lhs; rw [spec_ValOk_L0_eq, spec_ValOk_L1700008_eq, e1, e2]
      simp only [Bool.and_self, cond_true, Int.toNat_natCast]
      rw [spec_ValOk_L1700010_eq]
      simp only [spec_ValOk_L1700011_eq, spec_ValOk_L1700012_eq, spec_ValOk_L1700013_eq, e1, e2, e3, Bool.and_self, beq_dec, blt_eq, Int.toNat_natCast, cond_true, cond_false]
      unfold itB
      by_cases hs : (gi l i).size ≤ 60
      · rw [decide_eq_false (show ¬ (((gi l i).size : Int) > 60) by omega), decide_eq_true hs]
        simp only [cond_false, Bool.true_and]
        rcases hk with rfl | rfl | rfl
        · have f1 : decide ((2 : Int) = 4) = false := rfl
          have f2 : decide ((2 : Int) = 3) = false := rfl
          have f3 : decide (0 < stB 2) = false := rfl
          rw [f1, f2, f3]
          simp only [cond_false, Bool.false_and, Bool.not_false, Bool.true_or, cond_true]
        · have f1 : decide ((3 : Int) = 4) = false := rfl
          have f2 : decide ((3 : Int) = 3) = true := rfl
          have f3 : decide (0 < stB 3) = true := rfl
          have f4 : stB 3 = 2 := rfl
          rw [f1, f2, f3, f4]
          simp only [cond_false, cond_true, Bool.true_and]
          have hmod : decide (Int.tmod (i : Int) 2 = 0) = decide (i % 2 = 0) := decide_eq_decide.2 (by rw [Int.tmod_eq_emod_of_nonneg (by omega)]; omega)
          rw [hmod]
          by_cases hge : 2 ≤ i
          · have e4 : w64 ((i : Int) - 2) = ((i - 2 : Nat) : Int) := by show IntKind.i64.wrap _ = _; rw [wrap64_id (by omega) (by omega)]; omega
            simp only [decide_eq_true (show (i : Int) > 1 by omega), decide_eq_true hge, e4, decide_eq_true (show (0 : Int) ≤ ((i - 2 : Nat) : Int) by omega), decide_eq_true (show ((i - 2 : Nat) : Int) < (l.length : Int) by omega), Bool.and_self, cond_true, Int.toNat_natCast, Bool.and_true]
            generalize spec_ValOk_L0 ((i + 1 : Nat) : Int) 3 u x l = Z
            cases decide (i % 2 = 0) <;> cases blt (l.getD (i - 2) ByteArray.empty) (l.getD i ByteArray.empty) <;> rfl
          · simp only [decide_eq_false (show ¬ ((i : Int) > 1) by omega), decide_eq_false hge, cond_false, Bool.and_false, Bool.not_false, Bool.true_or, cond_true]
        · have f1 : decide ((4 : Int) = 4) = true := rfl
          have f2 : decide ((4 : Int) = 3) = false := rfl
          have f3 : decide (0 < stB 4) = true := rfl
          have f4 : stB 4 = 1 := rfl
          rw [f1, f2, f3, f4]
          simp only [cond_false, cond_true, Bool.true_and, Nat.mod_one, decide_true]
          by_cases hge : 1 ≤ i
          · have e4 : w64 ((i : Int) - 1) = ((i - 1 : Nat) : Int) := by show IntKind.i64.wrap _ = _; rw [wrap64_id (by omega) (by omega)]; omega
            simp only [decide_eq_true (show (i : Int) > 0 by omega), decide_eq_true hge, e4, decide_eq_true (show (0 : Int) ≤ ((i - 1 : Nat) : Int) by omega), decide_eq_true (show ((i - 1 : Nat) : Int) < (l.length : Int) by omega), Bool.and_self, cond_true, Int.toNat_natCast, Bool.not_true, Bool.false_or]
            cases blt (l.getD (i - 1) ByteArray.empty) (l.getD i ByteArray.empty) <;> rfl
          · simp only [decide_eq_false (show ¬ ((i : Int) > 0) by omega), decide_eq_false hge, cond_false, Bool.not_false, Bool.true_or, cond_true]
      · rw [decide_eq_true (show (((gi l i).size : Int) > 60) by omega), decide_eq_false hs]
        rfl)
    (by
      show spec_ValOk_L0 (l.length : Int) k u x l = _
      rw [spec_ValOk_L0_eq, spec_ValOk_L1700008_eq]
      simp only [Int.lt_irrefl, decide_false, cond_false]
      rw [spec_ValOk_L1700014_eq])
  rw [this]
  unfold itsB
  cases (List.range l.length).all (itB (stB k) l) <;> rfl
theorem spec_ValOk_ok (v : DV) (hl : v.2.2.2.length ≤ 100000000) : spec_ValOk v = some (valB v, ()) := by
  rw [spec_ValOk_eq, spec_ValOk_L1700000_eq]
  simp only [l01In_ok, Option.bind_some, spec_ValOk_L1700001_eq, spec_ValOk_L1700002_eq, spec_ValOk_L1700003_eq, spec_ValOk_L1700004_eq, spec_ValOk_L1700005_eq, spec_ValOk_L1700006_eq, spec_ValOk_L1700007_eq, bytes_eq, beq_dec]
  unfold valB
  by_cases h1 : v.1 = 1
  · have a1 : decide ((1 : Int) ≤ v.1) = true := decide_eq_true (by omega)
    have a2 : decide (v.1 ≤ 4) = true := decide_eq_true (by omega)
    have e1 : decide ((v.2.2.1.size : Int) ≤ 60) = decide (v.2.2.1.size ≤ 60) := decide_eq_decide.2 (by omega)
    have e2 : decide ((v.2.2.2.length : Int) = 0) = decide (v.2.2.2 = []) := decide_eq_decide.2 (by rw [← List.length_eq_zero_iff]; omega)
    simp only [a1, a2, Bool.and_self, Bool.not_true, cond_false, cond_true, decide_eq_true h1, e1, e2]
    cases (decide (0 ≤ v.2.1) && decide (v.2.1 ≤ 100000)) <;> cases decide (v.2.2.1.size ≤ 60) <;> rfl
  · by_cases hk : v.1 = 2 ∨ v.1 = 3 ∨ v.1 = 4
    · have a1 : decide ((1 : Int) ≤ v.1) = true := decide_eq_true (by omega)
      have a2 : decide (v.1 ≤ 4) = true := decide_eq_true (by omega)
      have e3 : decide ((1 : Int) ≤ (v.2.2.2.length : Int)) = decide (1 ≤ v.2.2.2.length) := decide_eq_decide.2 (by omega)
      have e4 : decide ((v.2.2.2.length : Int) ≤ 24) = decide (v.2.2.2.length ≤ 24) := decide_eq_decide.2 (by omega)
      have e5 : decide (Int.tmod (v.2.2.2.length : Int) 2 = 1) = !decide (v.2.2.2.length % 2 = 0) := by
        rw [Int.tmod_eq_emod_of_nonneg (by omega)]
        by_cases h : v.2.2.2.length % 2 = 0
        · rw [decide_eq_true h, decide_eq_false (by omega)]; rfl
        · rw [decide_eq_false h, decide_eq_true (by omega)]; rfl
      simp only [a1, a2, Bool.and_self, Bool.not_true, cond_false, cond_true, decide_eq_false h1, decide_eq_true hk, e3, e4, e5, spec_loop v.1 v.2.1 v.2.2.1 v.2.2.2 hk hl]
      cases (decide (0 ≤ v.2.1) && decide (v.2.1 ≤ 100000)) <;> cases decide (v.2.2.1 = ByteArray.empty) <;> cases decide (1 ≤ v.2.2.2.length) <;> cases decide (v.2.2.2.length ≤ 24) <;> cases decide (v.1 = 3) <;> cases decide (v.2.2.2.length % 2 = 0) <;> cases itsB (stB v.1) v.2.2.2 <;> rfl
    · have a0 : (decide ((1 : Int) ≤ v.1) && decide (v.1 ≤ 4)) = false := by
        by_cases h : (1 : Int) ≤ v.1
        · rw [decide_eq_false (show ¬ v.1 ≤ 4 by omega), Bool.and_false]
        · rw [decide_eq_false h, Bool.false_and]
      simp only [a0, Bool.not_false, cond_true, decide_eq_false h1, decide_eq_false hk, cond_false, Bool.false_and, Bool.and_false]
end Go.Den.S
