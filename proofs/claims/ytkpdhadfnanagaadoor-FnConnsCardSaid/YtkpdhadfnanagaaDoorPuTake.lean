/- PuTake: equations of the functions of this seat as the executor tells them, or plain facts about them. Conditions: none here. -/
import Derived.Test.YtkpdhadfnanagaaDoorPuMark
set_option linter.all false
namespace Go.Den.S
open Go Go.Den
theorem copyList_ok (a : List (List ByteArray)) (h : wSS a ≤ 2097152) : impl_copyList a = some (a, ()) := by
  have hlen : a.length ≤ 2097152 := wl_len (f := wl ByteArray.size) h
  rw [impl_copyList_eq]
  have key : ∀ (r pre : List (List ByteArray)), pre ++ r = a → impl_copyList_L0 pre a (a.length : Int) (pre.length : Int) = some (a, ()) := by
    intro r
    induction r with
    | nil =>
      intro pre he
      rw [List.append_nil] at he
      subst he
      rw [impl_copyList_L0_eq]
      simp
    | cons l r ih =>
      intro pre he
      have hl : a.length = pre.length + (r.length + 1) := by rw [← he]; simp
      rw [impl_copyList_L0_eq]
      have k1 : decide ((pre.length : Int) < (a.length : Int)) = true := decide_eq_true (by omega)
      have k2 : decide (0 ≤ (pre.length : Int)) = true := decide_eq_true (by omega)
      have k3 : w64 ((pre.length : Int) + 1) = ((pre.length + 1 : Nat) : Int) := wrap_succ (by omega)
      have hg : a.getD pre.length [] = l := by rw [← he]; simp [List.getD_eq_getElem?_getD]
      have hm : l ∈ a := by rw [← he]; simp
      have hll := (ss_mem h hm).1
      simp only [k1, k2, k3, Bool.and_self, cond_true, Int.toNat_natCast, hg, lim_true (show (0 + l.length) * 16 ≤ 140737488355328 by omega), lim_true (show (pre.length + 1) * 24 ≤ 140737488355328 by omega), List.nil_append]
      have := ih (pre ++ [l]) (by rw [← he]; simp)
      rw [show (pre ++ [l]).length = pre.length + 1 by simp] at this
      exact this
  simpa using key a [] rfl
theorem copyConn_ok (c : D_Conn) (h : wSS c.2.2.2.1 ≤ 2097152) : impl_copyConn c = some (c, ()) := by
  rw [impl_copyConn_eq, copyList_ok _ h]
  rfl
theorem l18Copy_ok (c : D_Conn) (h : wSS c.2.2.2.1 ≤ 2097152) : spec_l18Copy c = some (c, ()) := by
  have hlen : c.2.2.2.1.length ≤ 2097152 := wl_len (f := wl ByteArray.size) h
  rw [spec_l18Copy_eq]
  obtain ⟨c1, c2, c3, a, c5⟩ := c
  simp only at h hlen ⊢
  have key : ∀ (r pre : List (List ByteArray)), pre ++ r = a → spec_l18Copy_L0 pre (pre.length : Int) c1 c2 c3 a c5 ByteArray.empty false false [] false = some ((c1, c2, c3, a, c5), ()) := by
    intro r
    induction r with
    | nil =>
      intro pre he
      rw [List.append_nil] at he
      subst he
      rw [spec_l18Copy_L0_eq]
      simp
    | cons l r ih =>
      intro pre he
      have hl : a.length = pre.length + (r.length + 1) := by rw [← he]; simp
      rw [spec_l18Copy_L0_eq]
      have k1 : decide ((pre.length : Int) < (a.length : Int)) = true := decide_eq_true (by omega)
      have k2 : decide (0 ≤ (pre.length : Int)) = true := decide_eq_true (by omega)
      have k3 : w64 ((pre.length : Int) + 1) = ((pre.length + 1 : Nat) : Int) := wrap_succ (by omega)
      have hg : a.getD pre.length [] = l := by rw [← he]; simp [List.getD_eq_getElem?_getD]
      have hm : l ∈ a := by rw [← he]; simp
      have hll := (ss_mem h hm).1
      simp only [k1, k2, k3, Bool.and_self, cond_true, Int.toNat_natCast, hg, lim_true (show (0 + l.length) * 16 ≤ 140737488355328 by omega), lim_true (show (pre.length + 1) * 24 ≤ 140737488355328 by omega), List.nil_append]
      have := ih (pre ++ [l]) (by rw [← he]; simp)
      rw [show (pre ++ [l]).length = pre.length + 1 by simp] at this
      exact this
  simpa using key a [] rfl
/-- What is taken in. -/
def tkInB (c : D_Conn) (t : ByteArray) : D_Conn × Bool :=
  if connB c = true ∧ c.2.2.2.2 = false ∧ (c.1.size : Int) + (t.size : Int) ≤ 2000 then ((c.1 ++ t, c.2), true) else ((ByteArray.empty, (false, (false, ([], false)))), false)
theorem connB_size {c : D_Conn} (h : connB c = true) : (c.1.size : Int) ≤ 2000 := by
  unfold connB at h
  simp only [Bool.and_eq_true, decide_eq_true_eq] at h
  exact h.1
theorem impl_TakeIn_ok (c : D_Conn) (t : ByteArray) (h : wSS c.2.2.2.1 ≤ 2097152) (ht : t.size ≤ 2097152) : impl_TakeIn c t = some (tkInB c t, ()) := by
  rw [impl_TakeIn_eq, impl_ConnOk_ok c h, copyConn_ok c h]
  simp only [Option.bind_some, tkInB]
  cases hc : connB c with
  | false => simp
  | true =>
    have hs := connB_size hc
    cases hb : c.2.2.2.2 with
    | true => simp
    | false =>
      have e : w64 ((c.1.size : Int) + (t.size : Int)) = (c.1.size : Int) + (t.size : Int) := wrap64_id (by omega) (by omega)
      rw [e]
      by_cases hl : (c.1.size : Int) + (t.size : Int) ≤ 2000
      · simp only [decide_eq_false (show ¬ (c.1.size : Int) + (t.size : Int) > 2000 by omega), limS_true (show c.1.size + t.size ≤ 9223372036854775807 by omega)]
        simp [hl]
      · simp only [decide_eq_true (show (c.1.size : Int) + (t.size : Int) > 2000 by omega)]
        simp [hl]
theorem cntSS_le (q : List (List ByteArray)) : cntSS q ≤ wSS q := by
  unfold cntSS wSS wl
  have : (q.map List.length).sum ≤ (q.map fun xs => xs.length + (xs.map ByteArray.size).sum).sum := by
    induction q with
    | nil => simp
    | cons l r ih => simp only [List.map_cons, List.sum_cons]; omega
  omega
theorem markConn_ok (c : D_Conn) (k : Int) (h0 : 0 ≤ k) (hk : k ≤ 1000000) (h : wSS c.2.2.2.1 ≤ 2097152) : laws_markConn c k = some (k + (cntSS c.2.2.2.1 : Int), (ByteArray.empty, (false, (false, (mkSS k c.2.2.2.1, false)))), ()) := by
  have h1 := cntSS_le c.2.2.2.1
  have hlen : c.2.2.2.1.length ≤ 2097152 := wl_len (f := wl ByteArray.size) h
  rw [laws_markConn_eq, markStringSS_ok _ k h0 (by omega) (by omega)]
  rfl
theorem heldConn_ok (c : D_Conn) (q : List (List ByteArray)) (k : Int) (hq : c.2.2.2.1 = mkSS k q) (h0 : 0 ≤ k) (hk : k ≤ 1000000) (h : wSS q ≤ 2097152) : laws_heldConn c k = some (k + (cntSS q : Int), ()) := by
  have h1 := cntSS_le q
  have hlen : q.length ≤ 2097152 := wl_len (f := wl ByteArray.size) h
  rw [laws_heldConn_eq, hq, heldStringSS_ok _ k h0 (by omega) (by omega)]
  simp only [Option.bind_some, decide_eq_false (show ¬ k + (cntSS q : Int) < 0 by omega), cond_false]
end Go.Den.S
