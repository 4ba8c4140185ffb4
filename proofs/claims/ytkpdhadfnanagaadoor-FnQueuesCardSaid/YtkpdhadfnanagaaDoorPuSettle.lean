/- PuSettle: equations of the functions of this seat as the executor tells them, or plain facts about them. Conditions: none here. -/
import Derived.Test.YtkpdhadfnanagaaDoorPuTake
set_option linter.all false
namespace Go.Den.S
open Go Go.Den
/-- A plain reply. -/
def simpB (s : ByteArray) : ByteArray := (c___1_260 ++ s) ++ c____2_7140
theorem impl_Simple_ok (s : ByteArray) (h : s.size ≤ 2097152) : impl_Simple s = some (simpB s, ()) := by
  rw [impl_Simple_eq]
  have e1 : (c___1_260 : ByteArray).size = 1 := rfl
  have e2 : (c____2_7140 : ByteArray).size = 2 := rfl
  have k1 : limS (ByteArray.size c___1_260 + ByteArray.size s) = true := limS_true (by omega)
  have k2 : limS (ByteArray.size (c___1_260 ++ s) + ByteArray.size c____2_7140) = true := limS_true (by rw [ByteArray.size_append]; omega)
  simp only [k1, k2, cond_true]
  rfl
abbrev SetR : Type := D_Conn × (List (List ByteArray)) × ByteArray × Int
def badC (c : D_Conn) : D_Conn := (c.1, (c.2.1, (true, c.2.2.2)))
def plainC (c : D_Conn) : D_Conn := (c.1, (false, (false, ([], c.2.2.2.2))))
def tailB (c : D_Conn) (args : List ByteArray) : SetR :=
  bif !c.2.1 then (c, ([args], (ByteArray.empty, 1)))
  else bif !(decide (unkB args = ByteArray.empty)) then (badC c, ([], (unkB args, 0)))
  else bif decide ((c.2.2.2.1.length : Int) ≥ 8) then (badC c, ([], (faultB c_ERR_limit, 0)))
  else ((c.1, (c.2.1, (c.2.2.1, (c.2.2.2.1 ++ [args], c.2.2.2.2)))), ([], (simpB c_QUEUED, 0)))
def oneB (c : D_Conn) (args : List ByteArray) (M D E : Bool) : SetR :=
  bif M then bif c.2.1 then (c, ([], (faultB c_ERR_nested, 0))) else ((c.1, (true, c.2.2)), ([], (simpB c_OK, 0)))
  else bif D then bif !c.2.1 then (c, ([], (faultB c_ERR_no_multi, 0))) else (plainC c, ([], (simpB c_OK, 0)))
  else bif E then bif !c.2.1 then (c, ([], (faultB c_ERR_no_multi, 0))) else bif c.2.2.1 then (plainC c, ([], (faultB c_EXECABORT, 0))) else (plainC c, (c.2.2.2.1, (ByteArray.empty, 2)))
  else tailB c args
/-- How a request is settled. -/
def settleB (c : D_Conn) (args : List ByteArray) : SetR := match args with
  | [] => (c, ([], (ByteArray.empty, 0)))
  | [x] => oneB c [x] (decide (upB x = c_MULTI)) (decide (upB x = c_DISCARD)) (decide (upB x = c_EXEC))
  | args => tailB c args
theorem wSS_one (a : List ByteArray) : wSS [a] = wl ByteArray.size a + 1 := by
  simp only [wSS, wl, List.map_cons, List.map_nil, List.sum_cons, List.sum_nil, List.length_cons, List.length_nil]; omega
theorem wSS_app (q : List (List ByteArray)) (a : List ByteArray) : wSS (q ++ [a]) = wSS q + wl ByteArray.size a + 1 := by
  simp only [wSS, wl, List.map_append, List.map_cons, List.map_nil, List.sum_append, List.sum_cons, List.sum_nil, List.length_append, List.length_cons, List.length_nil]; omega
section
variable (c : D_Conn) (args : List ByteArray) (h : wSS c.2.2.2.1 + wl ByteArray.size args ≤ 1048576)
include h
theorem tail_impl : impl_settleOne c args = some (tailB c args, ()) := by
  have hl : args.length ≤ 2097152 := wl_len (f := ByteArray.size) (show wl ByteArray.size args ≤ 2097152 by omega)
  have hs : ∀ s ∈ args, s.size ≤ 2097152 := fun s hs => wl_mem (f := ByteArray.size) (show wl ByteArray.size args ≤ 2097152 by omega) hs
  have hq : c.2.2.2.1.length ≤ 2097152 := wl_len (f := wl ByteArray.size) (show wl (wl ByteArray.size) c.2.2.2.1 ≤ 2097152 by unfold wSS at h; omega)
  rw [impl_settleOne_eq, copyList_ok [args] (by rw [wSS_one]; omega), impl_Unknown_ok args hl hs, impl_Fault_ok _ (by decide), impl_Simple_ok _ (by decide)]
  simp only [Option.bind_some, bytes_eq, lim_true (show (0 + args.length) * 16 ≤ 140737488355328 by omega), lim_true (show (c.2.2.2.1.length + 1) * 24 ≤ 140737488355328 by omega), cond_true, List.nil_append, tailB, badC]
  cases c.2.1 <;> cases decide (unkB args = ByteArray.empty) <;> cases decide ((c.2.2.2.1.length : Int) ≥ 8) <;> rfl
theorem impl_Settle_ok : impl_Settle c args = some (settleB c args, ()) := by
  rw [impl_Settle_eq, copyConn_ok c (by omega)]
  match args, h with
  | [], _ => rfl
  | [x], h =>
    have hx : x.size ≤ 1048576 := by
      have := wl_mem (f := ByteArray.size) (n := 1048576) (show wl ByteArray.size [x] ≤ 1048576 by omega) (List.mem_cons_self ..)
      exact this
    have k0 : (((([x] : List ByteArray).length : Nat) : Int) == 0) = false := rfl
    have k1 : (((([x] : List ByteArray).length : Nat) : Int) == 1) = true := rfl
    have k2 : (decide ((0 : Int) ≤ 0) && decide ((0 : Int) < ((([x] : List ByteArray).length : Nat) : Int))) = true := rfl
    have k4 : impl_Upper (List.getD [x] (Int.toNat 0) ByteArray.empty) = some (upB x, ()) := impl_Upper_ok x (by omega)
    simp only [k0, k1, k2, k4, Option.bind_some, cond_true, cond_false, bytes_eq, tail_impl c [x] h, impl_Fault_ok c_ERR_nested (by decide), impl_Fault_ok c_ERR_no_multi (by decide), impl_Fault_ok c_EXECABORT (by decide), impl_Simple_ok c_OK (by decide), copyList_ok c.2.2.2.1 (by omega), settleB]
    generalize decide (upB x = c_MULTI) = M
    generalize decide (upB x = c_DISCARD) = D
    generalize decide (upB x = c_EXEC) = E
    unfold oneB plainC
    cases M <;> cases D <;> cases E <;> cases c.2.1 <;> cases c.2.2.1 <;> rfl
  | x :: y :: r, h =>
    have k0 : ((((x :: y :: r).length : Nat) : Int) == 0) = false := by simp only [List.length_cons]; simp; omega
    have k1 : ((((x :: y :: r).length : Nat) : Int) == 1) = false := by simp only [List.length_cons]; simp; omega
    simp only [k0, k1, Option.bind_some, cond_false, tail_impl c (x :: y :: r) h]
    rfl
end
end Go.Den.S
