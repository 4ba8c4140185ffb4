/- EhB: equations of the functions of this seat as the executor tells them, or plain facts about them. Conditions: none here. -/
import Derived.Test.YtkpdhadfnanagaaDoorEhA
set_option linter.all false
namespace Go.Den.S
open Go Go.Den
set_option maxRecDepth 4000
/-! ### sums -/
theorem list_walk {α : Type} (l : List α) (d : α) {R : Type} (F : Nat → R) (G : List α → R) (h0 : F l.length = G []) (h1 : ∀ i x r, l.drop i = x :: r → i < l.length → l.getD i d = x → F (i + 1) = G r → F i = G (x :: r)) : F 0 = G l := by
  have key : ∀ (k i : Nat), k + i = l.length → F i = G (l.drop i) := by
    intro k
    induction k with
    | zero => intro i hi; rw [show i = l.length by omega, List.drop_length]; exact h0
    | succ k ih =>
      intro i hi
      have hlt : i < l.length := by omega
      have hd : l.drop i = l[i] :: l.drop (i + 1) := List.drop_eq_getElem_cons hlt
      rw [hd]
      exact h1 i l[i] _ hd hlt (getD_get hlt) (ih (i + 1) (by omega))
  have := key l.length 0 (by omega)
  rwa [List.drop_zero] at this
theorem impl_SumMore_L2_ok (s : ByteArray) (z : Int) : ∀ (k i : Nat), k + i = 8 → ∀ x : Int, impl_SumMore_L2 x s z (i : Int) = impl_SumMore_L0 (rndN k x) s (w64 (z + 1))
  | 0, i, hk, x => by
    rw [impl_SumMore_L2_eq]
    have k1 : decide ((i : Int) < 8) = false := decide_eq_false (by omega)
    simp only [k1, cond_false]; rfl
  | k + 1, i, hk, x => by
    rw [impl_SumMore_L2_eq]
    have k1 : decide ((i : Int) < 8) = true := decide_eq_true (by omega)
    have k4 : w64 ((i : Int) + 1) = ((i + 1 : Nat) : Int) := wrap_succ (by omega)
    simp only [k1, cond_true, k4, impl_SumMore_L2_ok s z k (i + 1) (by omega)]
    have : rndN (k + 1) x = rndN k (rnd1 x) := rfl
    rw [this]
    unfold rnd1
    cases (Int.tmod x 2 == 1) <;> rfl
theorem spec_SumMore_L2_ok (s : ByteArray) (z : Int) : ∀ (k i : Nat), k + i = 8 → ∀ x : Int, spec_SumMore_L2 x s z (i : Int) = spec_SumMore_L0 (rndN k x) s (w64 (z + 1))
  | 0, i, hk, x => by
    rw [spec_SumMore_L2_eq]
    have k1 : decide ((i : Int) < 8) = false := decide_eq_false (by omega)
    simp only [k1, cond_false]; rfl
  | k + 1, i, hk, x => by
    rw [spec_SumMore_L2_eq]
    have k1 : decide ((i : Int) < 8) = true := decide_eq_true (by omega)
    have k4 : w64 ((i : Int) + 1) = ((i + 1 : Nat) : Int) := wrap_succ (by omega)
    simp only [k1, cond_true, k4, spec_SumMore_L2_ok s z k (i + 1) (by omega)]
    have : rndN (k + 1) x = rndN k (rnd1 x) := rfl
    rw [this]
    unfold rnd1
    cases (Int.tmod x 2 == 1) <;> rfl
theorem wrapU32_id {n : Int} (h0 : 0 ≤ n) (h1 : n ≤ 4294967295) : IntKind.u32.wrap n = n := by
  have e : IntKind.u32.wrap n = if IntKind.u32.signed && decide ((n % 4294967296) ≥ 2147483648) then n % 4294967296 - 4294967296 else n % 4294967296 := rfl
  rw [e, show IntKind.u32.signed = false from rfl, Bool.false_and, if_neg (by decide)]
  omega
theorem u32_byte (c : UInt8) : IntKind.u32.wrap (c.toNat : Int) = (c.toNat : Int) := by
  have := c.toNat_lt
  exact wrapU32_id (by omega) (by omega)
theorem impl_SumMore_ok (s : ByteArray) (hs : s.size ≤ 1000000000) (x : Int) : impl_SumMore x s = some (sumL x (bl s), ()) := by
  rw [impl_SumMore_eq]
  have hsz := size_bl s
  have key := list_walk (bl s) 0 (fun i => fun x => impl_SumMore_L0 x s (i : Int)) (fun l => fun x => some (sumL x l, ())) (by
    funext x
    rw [impl_SumMore_L0_eq]
    have k1 : decide (((bl s).length : Int) < (s.size : Int)) = false := decide_eq_false (by omega)
    simp only [k1, cond_false]; rfl) (fun i c r hd hlt _ ih => by
    funext x
    rw [impl_SumMore_L0_eq]
    have k1 : decide ((i : Int) < (s.size : Int)) = true := decide_eq_true (by omega)
    have k2 : decide (0 ≤ (i : Int)) = true := decide_eq_true (by omega)
    have k4 : w64 ((i : Int) + 1) = ((i + 1 : Nat) : Int) := wrap_succ (by omega)
    simp only [k1, k2, Bool.and_self, cond_true, Int.toNat_natCast, bt_get s hd, u32_byte]
    have h8 := impl_SumMore_L2_ok s (i : Int) 8 0 rfl
    rw [show (0 : Int) = ((0 : Nat) : Int) from rfl, h8, k4]
    exact congrFun ih _)
  exact congrFun key x
theorem spec_SumMore_ok (s : ByteArray) (hs : s.size ≤ 1000000000) (x : Int) : spec_SumMore x s = some (sumL x (bl s), ()) := by
  rw [spec_SumMore_eq]
  have hsz := size_bl s
  have key := list_walk (bl s) 0 (fun i => fun x => spec_SumMore_L0 x s (i : Int)) (fun l => fun x => some (sumL x l, ())) (by
    funext x
    rw [spec_SumMore_L0_eq]
    have k1 : decide (((bl s).length : Int) < (s.size : Int)) = false := decide_eq_false (by omega)
    simp only [k1, cond_false]; rfl) (fun i c r hd hlt _ ih => by
    funext x
    rw [spec_SumMore_L0_eq]
    have k1 : decide ((i : Int) < (s.size : Int)) = true := decide_eq_true (by omega)
    have k2 : decide (0 ≤ (i : Int)) = true := decide_eq_true (by omega)
    have k4 : w64 ((i : Int) + 1) = ((i + 1 : Nat) : Int) := wrap_succ (by omega)
    simp only [k1, k2, Bool.and_self, cond_true, Int.toNat_natCast, bt_get s hd, u32_byte]
    have h8 := spec_SumMore_L2_ok s (i : Int) 8 0 rfl
    rw [show (0 : Int) = ((0 : Nat) : Int) from rfl, h8, k4]
    exact congrFun ih _)
  exact congrFun key x
end Go.Den.S
