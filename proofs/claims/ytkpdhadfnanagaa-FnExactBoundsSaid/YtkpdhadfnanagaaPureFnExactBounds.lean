/- It is proved here that the pure form of the law FnExactBounds holds for all three whole numbers of 64 bits: the program's Bounds and the reference's Bounds give the same two numbers. The conditions: each argument is a whole number of 64 bits. -/
import Derived.Test.YtkpdhadfnanagaaPFnExactBoundsx1
namespace Go.Proofs.Ytkpdhadfnanagaa.Pure
open Go.RowKit Go.Proofs.Ytkpdhadfnanagaa.PFnExactBounds Go.Proofs.YtkpdhadfnanagaaW.PrintWords Go.Proofs.YtkpdhadfnanagaaW.PrintLast

theorem bd {a : Int} (h : (Lit.int .i64 a).wf = true) : -9223372036854775808 ≤ a ∧ a ≤ 9223372036854775807 := by
  simp only [Lit.wf, Bool.and_eq_true, decide_eq_true_eq] at h
  have hmin : IntKind.i64.min = -9223372036854775808 := rfl
  have hmax : IntKind.i64.max = 9223372036854775807 := rfl
  omega

theorem wr {a : Int} (h0 : -9223372036854775808 ≤ a) (h1 : a ≤ 9223372036854775807) : wrap64 a = a := by
  unfold wrap64
  omega

/-- What both come to. -/
def bnd (x y n : Int) : Int × Int := if (mx x 0) > (mn y (n - 1)) then (0, 0) else (mx x 0, mn y (n - 1) + 1)

theorem j2_is (k : Nat) (x y n : Int) (hn : 1 ≤ n) (hm : n ≤ 1000) (hx : 0 ≤ x) (hy : -9223372036854775808 ≤ y) : spec_Bounds.j2 (k + 1) x y n = some (bnd x y n) := by
  have e2 : wrap64 (n - 1) = n - 1 := wr (by omega) (by omega)
  have e3 : wrap64 (n - 1 + 1) = n - 1 + 1 := wr (by omega) (by omega)
  have em : mx x 0 = x := by unfold mx; split <;> omega
  simp only [spec_Bounds.j2, e2, e3, bnd, em]
  by_cases h : y ≥ n
  · have en : mn y (n - 1) = n - 1 := by unfold mn; split <;> omega
    rw [if_pos h, en]
    by_cases h1 : x > n - 1
    · rw [if_pos h1, if_pos h1]
    · rw [if_neg h1, if_neg h1, if_neg (by omega), if_neg (by omega)]
  · have en : mn y (n - 1) = y := by unfold mn; split <;> omega
    have e4 : 0 ≤ y → wrap64 (y + 1) = y + 1 := fun h => wr (by omega) (by omega)
    rw [if_neg h, en]
    by_cases h1 : x > y
    · rw [if_pos h1, if_pos h1]
    · rw [if_neg h1, if_neg h1, if_neg (by omega), if_neg (by omega), e4 (by omega)]

theorem bnd_neg (x y n : Int) (hx : x < 0) : bnd 0 y n = bnd x y n := by
  unfold bnd
  have e : mx x 0 = mx 0 0 := by unfold mx; split <;> split <;> omega
  rw [e]

theorem j1_is (k : Nat) (x y n : Int) (hn : 1 ≤ n) (hm : n ≤ 1000) (hy : -9223372036854775808 ≤ y) : spec_Bounds.j1 (k + 2) x y n = some (bnd x y n) := by
  simp only [spec_Bounds.j1]
  by_cases h : x < 0
  · rw [if_pos h, j2_is k 0 y n hn hm (by omega) hy, bnd_neg x y n h]
  · rw [if_neg h, j2_is k x y n hn hm (by omega) hy]

def low (x n : Int) : Int := if x < 0 then x + n else x

theorem low_bd (x n : Int) (hn : 1 ≤ n) (hm : n ≤ 1000) (hx : -9223372036854775808 ≤ x) (hx' : x ≤ 9223372036854775807) : -9223372036854775808 ≤ low x n ∧ low x n ≤ 9223372036854775807 := by
  unfold low; split <;> omega

theorem j0_is (k : Nat) (x y n : Int) (hn : 1 ≤ n) (hm : n ≤ 1000) (hy : -9223372036854775808 ≤ y) : spec_Bounds.j0 (k + 3) x y n = some (bnd x (low y n) n) := by
  simp only [spec_Bounds.j0, low]
  by_cases h : y < 0
  · rw [if_pos h, if_pos h, wr (by omega) (by omega), j1_is k x _ n hn hm (by omega)]
  · rw [if_neg h, if_neg h, j1_is k x _ n hn hm (by omega)]

theorem spec_is (a0 a1 a2 : Int) (b0 : -9223372036854775808 ≤ a0 ∧ a0 ≤ 9223372036854775807) (b1 : -9223372036854775808 ≤ a1) : spec_Bounds.f 3 a0 a1 a2 = some (if 1 ≤ a2 ∧ a2 ≤ 1000 then bnd (low a0 a2) (low a1 a2) a2 else (0, 0)) := by
  unfold spec_Bounds.f spec_l01In.f
  by_cases hlo : 1 ≤ a2
  · by_cases hhi : a2 ≤ 1000
    · simp only [ge_iff_le, hlo, hhi, if_true, Option.bind_some, decide_true, and_self]
      by_cases h : a0 < 0
      · rw [if_pos h, wr (by omega) (by omega), j0_is 0 _ a1 a2 hlo hhi b1]
        unfold low; rw [if_pos h]
      · rw [if_neg h, j0_is 0 _ a1 a2 hlo hhi b1]
        unfold low; rw [if_neg h]
    · simp [hlo, hhi]
  · simp [hlo]

theorem impl_is (a0 a1 a2 : Int) (b0 : -9223372036854775808 ≤ a0 ∧ a0 ≤ 9223372036854775807) (b1 : -9223372036854775808 ≤ a1) : impl_Bounds.f a0 a1 a2 = some (if 1 ≤ a2 ∧ a2 ≤ 1000 then bnd (low a0 a2) (low a1 a2) a2 else (0, 0)) := by
  have fe : ∀ x, -9223372036854775808 ≤ x → 1 ≤ a2 → a2 ≤ 1000 → impl_fromEnd.f x a2 = some (low x a2) := by
    intro x hx h1 h2
    unfold impl_fromEnd.f low
    by_cases h : x < 0
    · rw [if_pos h, if_pos h, wr (by omega) (by omega)]
    · rw [if_neg h, if_neg h]
  unfold impl_Bounds.f impl_within.f
  by_cases hlo : 1 ≤ a2
  · by_cases hhi : a2 ≤ 1000
    · simp only [ge_iff_le, hlo, hhi, if_true, Option.bind_some, decide_true, and_self, fe a0 b0.1 hlo hhi, fe a1 b1 hlo hhi]
      rw [show wrap64 (a2 - 1) = a2 - 1 from wr (by omega) (by omega)]
      unfold bnd
      by_cases h : (mx (low a0 a2) 0) > (mn (low a1 a2) (a2 - 1))
      · rw [if_pos h, if_pos h]
      · have hb : 0 ≤ mx (low a0 a2) 0 := by unfold mx; split <;> omega
        have hc : mn (low a1 a2) (a2 - 1) ≤ a2 - 1 := by unfold mn; split <;> omega
        rw [if_neg h, if_neg h, wr (by omega) (by omega)]
    · simp [hlo, hhi]
  · simp [hlo]

theorem FnExactBounds : laws_FnExactBounds.Pure := by
  intro a0 a1 a2 h0 h1 h2
  have b0 := bd h0
  have b1 := bd h1
  refine ⟨3, ?_⟩
  unfold laws_FnExactBounds.f
  rw [spec_is a0 a1 a2 b0 b1.1, impl_is a0 a1 a2 b0 b1.1]
  simp

end Go.Proofs.Ytkpdhadfnanagaa.Pure
