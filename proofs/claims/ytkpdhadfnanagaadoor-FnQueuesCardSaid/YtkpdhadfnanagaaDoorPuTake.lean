/- PuTake: equations of the functions of this seat as the executor tells them, or plain facts about them. Conditions: none here. -/
import Derived.Test.YtkpdhadfnanagaaDoorPuConn
set_option linter.all false
namespace Go.Den.S
open Go Go.Den
theorem copyList_ok (a : List (List ByteArray)) (h : wSS a ≤ 2097152) : impl_copyList a = some (a, ()) := by
  have hlen : a.length ≤ 2097152 := wl_len (f := wl ByteArray.size) h
  rw [impl_copyList_eq]
  have key : ∀ (r pre : List (List ByteArray)), pre ++ r = a → impl_copyList_L0 pre a (a.length : Int) (pre.length : Int) = some (a, ()) := by
    intro r
    induction r with
    | nil =>
      intro pre he
      rw [List.append_nil] at he
      subst he
      rw [impl_copyList_L0_eq]
      simp
    | cons l r ih =>
      intro pre he
      have hl : a.length = pre.length + (r.length + 1) := by rw [← he]; simp
      rw [impl_copyList_L0_eq]
      have k1 : decide ((pre.length : Int) < (a.length : Int)) = true := decide_eq_true (by omega)
      have k2 : decide (0 ≤ (pre.length : Int)) = true := decide_eq_true (by omega)
      have k3 : w64 ((pre.length : Int) + 1) = ((pre.length + 1 : Nat) : Int) := wrap_succ (by omega)
      have hg : a.getD pre.length [] = l := by rw [← he]; simp [List.getD_eq_getElem?_getD]
      have hm : l ∈ a := by rw [← he]; simp
      have hll := (ss_mem h hm).1
      simp only [k1, k2, k3, Bool.and_self, cond_true, Int.toNat_natCast, hg, lim_true (show (0 + l.length) * 16 ≤ 140737488355328 by omega), lim_true (show (pre.length + 1) * 24 ≤ 140737488355328 by omega), List.nil_append]
      have := ih (pre ++ [l]) (by rw [← he]; simp)
      rw [show (pre ++ [l]).length = pre.length + 1 by simp] at this
      exact this
  simpa using key a [] rfl
theorem copyConn_ok (c : D_Conn) (h : wSS c.2.2.2.1 ≤ 2097152) : impl_copyConn c = some (c, ()) := by
  rw [impl_copyConn_eq, copyList_ok _ h]
  rfl
end Go.Den.S
