/- PuFam: equations of the functions of this seat as the executor tells them, or plain facts about them. Conditions: none here. -/
import Derived.Test.YthfdlonnbkffnaaGreatDoorEqD0
import Derived.Test.YthfdlonnbkffnaaGreatDoorEqD1
import Derived.Test.YthfdlonnbkffnaaGreatDoorDenFour
set_option linter.all false
set_option linter.unusedSimpArgs false
set_option linter.unusedVariables false
namespace Go.Den.S
open Go Go.Den
/-! families: measures, copies, comparisons -/
theorem szStringS_ok (a : List ByteArray) (left : Int) (h0 : 0 ≤ left) (h1 : left ≤ 2097152) (hl : a.length ≤ 9223372036854775807) (hs : ∀ s ∈ a, ByteArray.size s ≤ 9223372036854775807) :
    laws_szStringS a left = some (szv (wl ByteArray.size a) left, ()) := by
  rw [laws_szStringS_eq]
  have e : w64 (left - (a.length : Int)) = left - (a.length : Int) := wrap64_id (by omega) (by omega)
  rw [e]
  rw [show wl ByteArray.size a = a.length + (a.map ByteArray.size).sum from rfl]
  by_cases h : left - (a.length : Int) < 0
  · simp only [decide_eq_true h, cond_true]
    unfold szv
    rw [if_neg (by omega)]
  · simp only [decide_eq_false h, cond_false]
    have key := list_ind a ByteArray.empty (fun i r => ∀ left : Int, 0 ≤ left → left ≤ 2097152 → laws_szStringS_L0 a left (i : Int) = some (szv ((r.map (ByteArray.size)).sum) left, ())) (fun left h0 h1 => by
      rw [laws_szStringS_L0_eq]
      simp [szv, h0]) (fun i x r hi hx hm ih left h0 h1 => by
      rw [laws_szStringS_L0_eq]
      have hx1 : ByteArray.size x ≤ 9223372036854775807 := hs x hm
      have k1 : decide ((i : Int) < (a.length : Int)) = true := decide_eq_true (by omega)
      have k2 : decide (0 ≤ (i : Int)) = true := decide_eq_true (by omega)
      have k3 : w64 (left - (ByteArray.size x : Int)) = left - (ByteArray.size x : Int) := wrap64_id (by omega) (by omega)
      have k4 : w64 ((i : Int) + 1) = ((i + 1 : Nat) : Int) := wrap_succ (by omega)
      simp only [k1, k2, Bool.and_self, cond_true, Int.toNat_natCast, hx, k3, k4, List.map_cons, List.sum_cons]
      by_cases hn : left - (ByteArray.size x : Int) < 0
      · simp only [decide_eq_true hn, cond_true]
        unfold szv
        rw [if_neg (by omega)]
      · simp only [decide_eq_false hn, cond_false]
        rw [ih _ (by omega) (by omega)]
        unfold szv
        split <;> split <;> first | rfl | omega | (congr 2; omega))
    refine (key _ (by omega) (by omega)).trans ?_
    unfold szv
    split <;> split <;> first | rfl | omega | (congr 2; omega)
theorem toStringS_ok (a : List ByteArray) (ha : a.length ≤ 2097152) : laws_toStringS a = some (a, ()) := by
  rw [laws_toStringS_eq]
  have e : lim a.length 16 = true := lim_true (by omega)
  simp only [Int.le_refl, decide_true, Int.natCast_nonneg, Int.toNat_natCast, e, Bool.and_self, cond_true]
  refine (fill_loop (fun out i => laws_toStringS_L0 a out i) a ByteArray.empty (List.replicate a.length ByteArray.empty) (by simp) fun out i hi hl => ?_).trans ?_
  · show laws_toStringS_L0 a out i = _
    rw [laws_toStringS_L0_eq]
    have e : w64 ((i : Int) + 1) = (i : Int) + 1 := wrap64_id (by omega) (by omega)
    have h1 : decide ((i : Int) < (a.length : Int)) = true := decide_eq_true (by omega)
    have h2 : decide ((i : Int) < (out.length : Int)) = true := decide_eq_true (by omega)
    have h3 : decide (0 ≤ (i : Int)) = true := decide_eq_true (by omega)
    simp only [h1, h2, h3, e, Bool.and_self, cond_true, Int.toNat_natCast]
  · show laws_toStringS_L0 a a (a.length : Int) = _
    rw [laws_toStringS_L0_eq]
    simp
theorem eqStringS_ok (a b : List ByteArray) (ha : a.length ≤ 2097152) : laws_eqStringS a b = some (decide (a = b), ()) := by
  rw [laws_eqStringS_eq]
  by_cases hl : a.length = b.length
  · have e : ((a.length : Int) != (b.length : Int)) = false := by simp [hl]
    simp only [e, cond_false]
    refine eq_loop (fun i => laws_eqStringS_L0 a b i) a b ByteArray.empty hl (fun i hi => ?_) ?_
    · rw [laws_eqStringS_L0_eq]
      have e : w64 ((i : Int) + 1) = (i : Int) + 1 := wrap64_id (by omega) (by omega)
      have h1 : decide ((i : Int) < (a.length : Int)) = true := decide_eq_true (by omega)
      have h2 : decide ((i : Int) < (b.length : Int)) = true := decide_eq_true (by omega)
      have h3 : decide (0 ≤ (i : Int)) = true := decide_eq_true (by omega)
      simp only [h1, h2, h3, e, Bool.and_self, cond_true, Int.toNat_natCast, bytes_eq]
      by_cases h : a.getD i ByteArray.empty = b.getD i ByteArray.empty <;> simp only [h, decide_true, decide_false, Bool.not_true, Bool.not_false, cond_true, cond_false, if_true, if_false]
    · rw [laws_eqStringS_L0_eq]
      simp
  · have e : ((a.length : Int) != (b.length : Int)) = true := by simp; omega
    simp only [e, cond_true]
    have : a ≠ b := fun h => hl (by rw [h])
    simp [this]
end Go.Den.S
