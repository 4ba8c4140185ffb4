/- FbA: equations of the functions of this seat as the executor tells them, or plain facts about them. Conditions: none here. -/
import Derived.Test.YtkpdhadfnanagaaDoorPuMark
import Derived.Test.YtkpdhadfnanagaaDoorEhI
set_option linter.all false
namespace Go.Den.S
open Go Go.Den
/-! ### a new world -/
theorem decT {p : Prop} [Decidable p] (h : p) : decide p = true := decide_eq_true h
theorem decF {p : Prop} [Decidable p] (h : ¬ p) : decide p = false := decide_eq_false h
theorem w64_id {n : Int} (h0 : -9223372036854775808 ≤ n) (h1 : n ≤ 9223372036854775807) : w64 n = n := wrap64_id h0 h1
abbrev Cn := ByteArray × Bool × Bool × List (List ByteArray) × Bool
def zC : Cn := (ByteArray.empty, (false, (false, ([], false))))
noncomputable def mC (k : Int) : Cn := (mkT k, (Int.tmod (k + 1) 3 == 0, (Int.tmod (k + 2) 3 == 0, ([], Int.tmod (k + 3) 3 == 0))))
theorem getD_set_eq {α : Type} (l : List α) (i : Nat) (x d : α) (h : i < l.length) : (l.set i x).getD i d = x := by
  rw [List.getD_eq_getElem?_getD, List.getElem?_set_self h]; rfl
theorem markSS_nil (k : Int) (h0 : 0 ≤ k) (h1 : k ≤ 1000) : laws_markStringSS [] k = some (k, [], ()) := by
  have := markStringSS_ok [] k h0 (by simp) (by simp [cntSS]; omega)
  simpa [cntSS, mkSS] using this
theorem heldSS_nil (k : Int) (h0 : 0 ≤ k) (h1 : k ≤ 1000) : laws_heldStringSS [] k = some (k, ()) := by
  have := heldStringSS_ok [] k h0 (by simp) (by simp [cntSS]; omega)
  simpa [cntSS, mkSS] using this
theorem markC_step (l : List Cn) (i : Nat) (k : Int) (hi : i < l.length) (hl : l.length ≤ 1000) (hq : (l.getD i zC).2.2.2.1 = []) (h0 : 0 ≤ k) (h1 : k ≤ 900) : laws_markConnS_L0 k (i : Int) l = laws_markConnS_L0 (k + 4) ((i + 1 : Nat) : Int) (l.set i (mC k)) := by
  have e1 : w64 (k + 1) = k + 1 := w64_id (by omega) (by omega)
  have e2 : w64 (k + 1 + 1) = k + 2 := (w64_id (by omega) (by omega)).trans (by omega)
  have e3 : w64 (k + 2 + 1) = k + 3 := (w64_id (by omega) (by omega)).trans (by omega)
  have e4 : w64 (k + 3 + 1) = k + 4 := (w64_id (by omega) (by omega)).trans (by omega)
  have e5 : w64 ((i : Int) + 1) = ((i + 1 : Nat) : Int) := wrap_succ (by omega)
  have e6 : decide ((i : Int) < (l.length : Int)) = true := decT (by omega)
  have e7 : decide ((0 : Int) ≤ (i : Int)) = true := decT (by omega)
  have g : ∀ x d : Cn, (l.set i x).getD i d = x := fun x d => getD_set_eq l i x d hi
  unfold zC at hq
  rw [laws_markConnS_L0_eq, laws_markConnS_L1700002_eq, e6, markText_ok k (by omega)]
  simp only [cond_true, Option.bind_some, e6, e7, Bool.and_self, Int.toNat_natCast, laws_markConnS_L1700004_eq, e1, laws_markConnS_L1700005_eq, List.length_set, g, List.set_set]
  simp only [laws_markConnS_L1700006_eq, e2, laws_markConnS_L1700007_eq, List.length_set, e6, e7, Bool.and_self, cond_true, Int.toNat_natCast, g, List.set_set]
  simp only [laws_markConnS_L1700008_eq, e3, laws_markConnS_L1700009_eq, List.length_set, e6, e7, Bool.and_self, cond_true, Int.toNat_natCast, g, List.set_set, hq, markSS_nil (k + 3) (by omega) (by omega), Option.bind_some]
  simp only [laws_markConnS_L1700010_eq, List.length_set, e6, e7, Bool.and_self, cond_true, Int.toNat_natCast, g, List.set_set, laws_markConnS_L1700011_eq, e4, e5]
  rfl
theorem heldC_step (l : List Cn) (i : Nat) (k : Int) (hi : i < l.length) (hl : l.length ≤ 1000) (hq : l.getD i zC = mC k) (h0 : 0 ≤ k) (h1 : k ≤ 900) : laws_heldConnS_L0 l k (i : Int) = laws_heldConnS_L0 l (k + 4) ((i + 1 : Nat) : Int) := by
  have e1 : w64 (k + 1) = k + 1 := w64_id (by omega) (by omega)
  have e2 : w64 (k + 1 + 1) = k + 2 := (w64_id (by omega) (by omega)).trans (by omega)
  have e3 : w64 (k + 2 + 1) = k + 3 := (w64_id (by omega) (by omega)).trans (by omega)
  have e4 : w64 (k + 3 + 1) = k + 4 := (w64_id (by omega) (by omega)).trans (by omega)
  have e5 : w64 ((i : Int) + 1) = ((i + 1 : Nat) : Int) := wrap_succ (by omega)
  have e6 : decide ((i : Int) < (l.length : Int)) = true := decT (by omega)
  have e7 : decide ((0 : Int) ≤ (i : Int)) = true := decT (by omega)
  have e8 : decide (k + 3 < 0) = false := decF (by omega)
  unfold zC at hq
  rw [laws_heldConnS_L0_eq, markText_ok k (by omega)]
  simp only [hq, mC, cond_true, cond_false, Option.bind_some, e1, e2, e3, e4, e5, e6, e7, e8, Bool.and_self, Int.toNat_natCast, beq_self_eq_true, Bool.not_true, heldSS_nil (k + 3) (by omega) (by omega)]
theorem markC3 (k : Int) (h0 : 0 ≤ k) (h1 : k ≤ 800) : laws_markConnS [zC, zC, zC] k = some (k + 12, [mC k, mC (k + 4), mC (k + 8)], ()) := by
  rw [laws_markConnS_eq, laws_markConnS_L1700000_eq, laws_markConnS_L1700001_eq]
  have a1 := markC_step [zC, zC, zC] 0 k (by decide) (by decide) rfl h0 (by omega)
  have a2 := markC_step [mC k, zC, zC] 1 (k + 4) (by simp) (by simp) rfl (by omega) (by omega)
  have a3 := markC_step [mC k, mC (k + 4), zC] 2 (k + 8) (by simp) (by simp) rfl (by omega) (by omega)
  have e1 : k + 4 + 4 = k + 8 := by omega
  have e2 : k + 8 + 4 = k + 12 := by omega
  rw [e1] at a2
  rw [e2] at a3
  refine a1.trans (a2.trans (a3.trans ?_))
  show laws_markConnS_L0 (k + 12) 3 [mC k, mC (k + 4), mC (k + 8)] = _
  rw [laws_markConnS_L0_eq, laws_markConnS_L1700002_eq, laws_markConnS_L1700013_eq]
  rfl
theorem heldC3 (k : Int) (h0 : 0 ≤ k) (h1 : k ≤ 800) : laws_heldConnS [mC k, mC (k + 4), mC (k + 8)] k = some (k + 12, ()) := by
  rw [laws_heldConnS_eq]
  have a1 := heldC_step [mC k, mC (k + 4), mC (k + 8)] 0 k (by simp) (by simp) rfl h0 (by omega)
  have a2 := heldC_step [mC k, mC (k + 4), mC (k + 8)] 1 (k + 4) (by simp) (by simp) rfl (by omega) (by omega)
  have a3 := heldC_step [mC k, mC (k + 4), mC (k + 8)] 2 (k + 8) (by simp) (by simp) rfl (by omega) (by omega)
  have e1 : k + 4 + 4 = k + 8 := by omega
  have e2 : k + 8 + 4 = k + 12 := by omega
  rw [e1] at a2
  rw [e2] at a3
  refine a1.trans (a2.trans (a3.trans ?_))
  show laws_heldConnS_L0 [mC k, mC (k + 4), mC (k + 8)] (k + 12) 3 = _
  rw [laws_heldConnS_L0_eq]
  rfl
theorem eqC (c : Cn) (h : c.2.2.2.1 = []) : laws_eqConn c c = some (true, ()) := by
  rw [laws_eqConn_eq, h, eqStringSS_ok [] [] (by decide)]
  simp
theorem eqC3 : laws_eqConnS [zC, zC, zC] [zC, zC, zC] = some (true, ()) := by
  have st : ∀ i : Nat, i < 3 → laws_eqConnS_L0 [zC, zC, zC] [zC, zC, zC] (i : Int) = laws_eqConnS_L0 [zC, zC, zC] [zC, zC, zC] ((i + 1 : Nat) : Int) := by
    intro i hi
    have hg : [zC, zC, zC].getD i (ByteArray.empty, (false, (false, ([], false)))) = zC := by
      match i, hi with
      | 0, _ => rfl
      | 1, _ => rfl
      | 2, _ => rfl
    rw [laws_eqConnS_L0_eq]
    have e5 : w64 ((i : Int) + 1) = ((i + 1 : Nat) : Int) := wrap_succ (by omega)
    have e6 : decide ((i : Int) < (([zC, zC, zC] : List Cn).length : Int)) = true := decT (by simp; omega)
    have e7 : decide ((0 : Int) ≤ (i : Int)) = true := decT (by omega)
    simp only [e5, e6, e7, Bool.and_self, cond_true, Int.toNat_natCast, hg]
    rw [show (zC.1, (zC.2.1, (zC.2.2.1, zC.2.2.2))) = zC from rfl, eqC zC rfl]
    simp only [Option.bind_some, Bool.not_true, cond_false, Bool.and_self, cond_true]
  have h0 : laws_eqConnS [zC, zC, zC] [zC, zC, zC] = laws_eqConnS_L0 [zC, zC, zC] [zC, zC, zC] 0 := by
    rw [laws_eqConnS_eq]
    simp only [bne_self_eq_false, cond_false]
  refine h0.trans ((st 0 (by omega)).trans ((st 1 (by omega)).trans ((st 2 (by omega)).trans ?_)))
  rw [laws_eqConnS_L0_eq, decF (by simp), cond_false]
end Go.Den.S
