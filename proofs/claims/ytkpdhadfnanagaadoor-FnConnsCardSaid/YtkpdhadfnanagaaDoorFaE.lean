/- FaE: equations of the functions of this seat as the executor tells them, or plain facts about them. Conditions: none here. -/
import Derived.Test.YtkpdhadfnanagaaDoorFaD
set_option linter.all false
namespace Go.Den.S
open Go Go.Den
/-! ### the next request -/
def nextB (c : D_Conn) : D_Conn × List ByteArray × Int :=
  if !connB c || c.2.2.2.2 then (c, [], 0) else
  if (parseP c.1).2.2 = 1 then ((ByteArray.extract c.1 (parseP c.1).2.1.toNat c.1.size, c.2), (parseP c.1).1, 1)
  else if (parseP c.1).2.2 = 2 then ((ByteArray.empty, (false, (false, ([], true)))), [], 2) else (c, [], 0)
theorem impl_Next_ok (c : D_Conn) (h : wSS c.2.2.2.1 ≤ 2097152) : impl_Next c = some (nextB c, ()) := by
  rw [impl_Next_eq, copyConn_ok c h, impl_ConnOk_ok c h]
  unfold nextB
  cases hc : connB c with
  | false => rfl
  | true =>
    have := connB_size hc
    simp only [Option.bind_some, Bool.not_true, Bool.false_or, cond_false]
    cases c.2.2.2.2 with
    | true => rfl
    | false =>
      rw [impl_Parse_ok c.1 (by omega)]
      rcases parse_cases c.1 with ⟨h, e, hn⟩ | ⟨l, k, e, h1, _⟩
      · rw [e]
        rcases hn with rfl | rfl <;> rfl
      · rw [e]
        simp only [Option.bind_some, cond_false, Int.toNat_natCast]
        rw [eqT rfl, decT (show (0 : Int) ≤ (k : Int) by omega), decT (show (k : Int) ≤ (c.1.size : Int) by omega), decT (show (c.1.size : Int) ≤ (c.1.size : Int) by omega)]
        simp
theorem spec_Next_ok (c : D_Conn) (h : wSS c.2.2.2.1 ≤ 2097152) : spec_Next c = some (nextB c, ()) := by
  rw [spec_Next_eq, l18Copy_ok c h, spec_ConnOk_ok c h]
  unfold nextB
  cases hc : connB c with
  | false => rfl
  | true =>
    have := connB_size hc
    simp only [Option.bind_some, Bool.not_true, Bool.false_or, cond_false]
    cases c.2.2.2.2 with
    | true => rfl
    | false =>
      rw [spec_Parse_ok c.1 (by omega)]
      rcases parse_cases c.1 with ⟨h, e, hn⟩ | ⟨l, k, e, h1, _⟩
      · rw [e]
        rcases hn with rfl | rfl <;> rfl
      · rw [e]
        simp only [Option.bind_some, cond_false, Int.toNat_natCast]
        rw [eqT rfl, decT (show (0 : Int) ≤ (k : Int) by omega), decT (show (k : Int) ≤ (c.1.size : Int) by omega), decT (show (c.1.size : Int) ≤ (c.1.size : Int) by omega)]
        simp
theorem next_q (c : D_Conn) (h : wSS c.2.2.2.1 ≤ 2097152) : wSS (nextB c).1.2.2.2.1 ≤ 2097152 ∧ (nextB c).2.1.length ≤ 8 := by
  unfold nextB
  split
  · exact ⟨h, by simp⟩
  · rcases parse_cases c.1 with ⟨j, e, hn⟩ | ⟨l, k, e, h1, h2⟩
    · rw [e]
      rcases hn with rfl | rfl
      · exact ⟨h, Nat.zero_le 8⟩
      · exact ⟨by simp [wSS, wl], Nat.zero_le 8⟩
    · rw [e]
      simp only [if_true]
      exact ⟨h, h2⟩
theorem law_Next (a : D_Conn) (hw : Wf T_Conn a) : laws_FnExactNext a = some (true, ()) := by
  rw [laws_FnExactNext_eq, szConn_ok a 1048576 (by omega) (by omega) hw, Option.bind_some]
  by_cases hn : szv (wConn a) 1048576 < 0
  · simp only [decide_eq_true hn, cond_true]
  · obtain ⟨k5, k6⟩ := szv_pos hn
    have hq : wSS a.2.2.2.1 ≤ 2097152 := by unfold wConn at k5; omega
    obtain ⟨hg1, hg2⟩ := next_q a hq
    have hc1 := cntSS_le a.2.2.2.1
    have hc2 := cntSS_le (nextB a).1.2.2.2.1
    simp only [decide_eq_false hn, cond_false, toConn_ok a hq, Option.bind_some, spec_Next_ok a hq, impl_Next_ok a hq]
    generalize nextB a = g at *
    simp only [eqConn_ok _ _ hg1, eqConn_ok _ _ hq, eqStringS_ok g.2.1 g.2.1 (by omega), decide_true, Bool.not_true, Bool.not_false, beq_self_eq_true, bne_self_eq_false, cond_true, cond_false, Option.bind_some, markConn_ok a 1 (by omega) (by omega) hq,
      decide_eq_false (show ¬ (1 : Int) + (cntSS a.2.2.2.1 : Int) < 0 by omega), markConn_ok g.1 1 (by omega) (by omega) hg1, markStringS_ok g.2.1 (1 + (cntSS g.1.2.2.2.1 : Int)) (by omega) (by omega)]
    have hh := heldConn_ok (g.1.1, (g.1.2.1, (g.1.2.2.1, (mkSS 1 g.1.2.2.2.1, g.1.2.2.2.2)))) g.1.2.2.2.1 1 rfl (by omega) (by omega) hg1
    simp only [hh, Option.bind_some, decide_eq_false (show ¬ (1 : Int) + (cntSS g.1.2.2.2.1 : Int) < 0 by omega), cond_false,
      heldStringS_ok g.2.1.length (1 + (cntSS g.1.2.2.2.1 : Int)) (by omega) (by omega), decide_eq_false (show ¬ (1 : Int) + (cntSS g.1.2.2.2.1 : Int) + (g.2.1.length : Int) < 0 by omega), bne_self_eq_false]
end Go.Den.S
