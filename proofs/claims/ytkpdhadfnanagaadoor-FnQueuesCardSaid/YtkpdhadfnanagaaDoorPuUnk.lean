/- PuUnk: equations of the functions of this seat as the executor tells them, or plain facts about them. Conditions: none here. -/
import Derived.Test.YtkpdhadfnanagaaDoorPuWords
set_option linter.all false
namespace Go.Den.S
open Go Go.Den
set_option maxRecDepth 100000
theorem f_all : strings_Fields c_PING_ECHO_GE_244_482754 = some (cmds, ()) := (strings_Fields_eq _).trans (by kernel_rfl)
theorem f_0 : strings_Fields c_PING_KEYS_DB_25_770361 = some (ar0, ()) := (strings_Fields_eq _).trans (by kernel_rfl)
theorem f_1 : strings_Fields c_ECHO_GET_STR_91_76732 = some (ar1, ()) := (strings_Fields_eq _).trans (by kernel_rfl)
theorem f_2 : strings_Fields c_SET_SETNX_GE_66_689460 = some (ar2, ()) := (strings_Fields_eq _).trans (by kernel_rfl)
theorem f_3 : strings_Fields c_LRANGE_HSET = some (ar3, ()) := (strings_Fields_eq _).trans (by kernel_rfl)
theorem f_4 : strings_Fields c_MGET_DEL_EXISTS = some (ar4, ()) := (strings_Fields_eq _).trans (by kernel_rfl)
theorem f_5 : strings_Fields c_LPUSH_RPUSH__26_457431 = some (ar5, ()) := (strings_Fields_eq _).trans (by kernel_rfl)
theorem oneOf_nil {names : ByteArray} : impl_oneOf [] names = some (false, ()) := by
  rw [impl_oneOf_eq]
  simp
theorem oneOf_cons {a : ByteArray} {r : List ByteArray} {names : ByteArray} {l : List ByteArray} (hf : strings_Fields names = some (l, ())) (ha : a.size ≤ 2097152) (hl : l.length ≤ 2097152) : impl_oneOf (a :: r) names = some (memB (upB a) l, ()) := by
  rw [impl_oneOf_eq, hf]
  have k1 : decide ((((a :: r).length : Nat) : Int) > 0) = true := decide_eq_true (by simp only [List.length_cons]; omega)
  have k2 : decide ((0 : Int) < (((a :: r).length : Nat) : Int)) = true := decide_eq_true (by simp only [List.length_cons]; omega)
  have k3 : decide ((0 : Int) ≤ 0) = true := rfl
  simp only [k1, k2, Int.le_refl, decide_true, Bool.and_self, cond_true, Option.bind_some]
  rw [show List.getD (a :: r) (Int.toNat 0) ByteArray.empty = a from rfl, impl_Upper_ok a (by omega), Option.bind_some, Contains_ok l _ hl, Option.bind_some]
/-- How many arguments a command takes: is n right? -/
def arB (u : ByteArray) (n : Int) : Bool :=
  bif memB u ar0 then n == 0 else bif memB u ar1 then n == 1 else bif memB u ar2 then n == 2 else bif memB u ar3 then n == 3 else bif memB u ar4 then decide (n ≥ 1) else bif memB u ar5 then decide (n ≥ 2) else (n == 2 || (n == 4 || n == 6))
def arityB : List ByteArray → Bool
  | [] => false
  | a :: r => memB (upB a) cmds && arB (upB a) (r.length : Int)
theorem wlen {a : ByteArray} {r : List ByteArray} (h : r.length ≤ 2097152) : w64 (((a :: r).length : Int) - 1) = (r.length : Int) := by
  show IntKind.i64.wrap _ = _
  rw [wrap64_id (by simp only [List.length_cons]; omega) (by simp only [List.length_cons]; omega)]
  simp only [List.length_cons]; omega
theorem impl_ArityOk_ok (args : List ByteArray) (hl : args.length ≤ 2097152) (hs : ∀ s ∈ args, s.size ≤ 2097152) : impl_ArityOk args = some (arityB args, ()) := by
  rw [impl_ArityOk_eq]
  match args, hl, hs with
  | [], _, _ => rw [oneOf_nil]; rfl
  | a :: r, hl, hs =>
    have ha := hs a (List.mem_cons_self ..)
    have hr : r.length ≤ 2097152 := by simp only [List.length_cons] at hl; omega
    simp only [oneOf_cons f_all ha (by decide), oneOf_cons f_0 ha (by decide), oneOf_cons f_1 ha (by decide), oneOf_cons f_2 ha (by decide), oneOf_cons f_3 ha (by decide), oneOf_cons f_4 ha (by decide), oneOf_cons f_5 ha (by decide), Option.bind_some, wlen hr, arityB, arB]
    generalize memB (upB a) cmds = b
    generalize memB (upB a) ar0 = b0
    generalize memB (upB a) ar1 = b1
    generalize memB (upB a) ar2 = b2
    generalize memB (upB a) ar3 = b3
    generalize memB (upB a) ar4 = b4
    generalize memB (upB a) ar5 = b5
    cases b <;> cases b0 <;> cases b1 <;> cases b2 <;> cases b3 <;> cases b4 <;> cases b5 <;> simp only [Bool.not_true, Bool.not_false, cond_true, cond_false, Bool.false_and, Bool.true_and]
    all_goals
      generalize ((r.length : Int) == 2) = e2
      generalize ((r.length : Int) == 4) = e4
      cases e2 <;> cases e4 <;> rfl
/-- Every command is of one kind. -/
theorem kinds : (cmds.all fun u => (memB u ar1 == (!(memB u ar0) && (!(memB u ar2) && (!(memB u ar3) && (!(memB u ar4) && (!(memB u ar5) && !(decide (u = c_MSET)))))))) && (!(memB u ar1 && memB u ar0))) = true := by decide +kernel
theorem kind_of {u : ByteArray} (h : memB u cmds = true) : memB u ar1 = (!(memB u ar0) && (!(memB u ar2) && (!(memB u ar3) && (!(memB u ar4) && (!(memB u ar5) && !(decide (u = c_MSET))))))) := by
  have := List.all_eq_true.1 kinds u (memB_iff.1 h)
  simp only [Bool.and_eq_true, beq_iff_eq] at this
  exact this.1
theorem spec_ArityOk_ok (args : List ByteArray) (hl : args.length ≤ 2097152) (hs : ∀ s ∈ args, s.size ≤ 2097152) : spec_ArityOk args = some (arityB args, ()) := by
  rw [spec_ArityOk_eq]
  match args, hl, hs with
  | [], _, _ => rfl
  | a :: r, hl, hs =>
    have ha := hs a (List.mem_cons_self ..)
    have hr : r.length ≤ 2097152 := by simp only [List.length_cons] at hl; omega
    have k1 : (((a :: r).length : Int) == 0) = false := by simp only [List.length_cons]; simp; omega
    have k2 : decide ((0 : Int) < (((a :: r).length : Nat) : Int)) = true := decide_eq_true (by simp only [List.length_cons]; omega)
    have k3 : decide ((0 : Int) ≤ 0) = true := rfl
    have k4 : spec_Upper (List.getD (a :: r) (Int.toNat 0) ByteArray.empty) = some (upB a, ()) := spec_Upper_ok a (by omega)
    simp only [k1, k2, Int.le_refl, decide_true, k4, Bool.and_self, cond_true, cond_false, spec_Commands_ok, Option.bind_some, bytes_eq, wlen hr, arityB, arB,
      l13In_ok cmds _ (by decide), l13In_ok [c_PING, c_KEYS, c_DBSIZE, c_FLUSHALL] _ (by decide), l13In_ok [c_SET, c_SETNX, c_GETSET, c_APPEND, c_INCRBY, c_DECRBY, c_EXPIRE, c_LINDEX, c_HGET, c_SISMEMBER] _ (by decide), l13In_ok [c_LRANGE, c_HSET] _ (by decide), l13In_ok [c_MGET, c_DEL, c_EXISTS] _ (by decide), l13In_ok [c_LPUSH, c_RPUSH, c_HDEL, c_SADD, c_SREM] _ (by decide)]
    have hk := kind_of (u := upB a)
    revert hk
    generalize memB (upB a) cmds = b
    generalize memB (upB a) ar0 = b0
    generalize memB (upB a) ar1 = b1
    generalize memB (upB a) ar2 = b2
    generalize memB (upB a) ar3 = b3
    generalize memB (upB a) ar4 = b4
    generalize memB (upB a) ar5 = b5
    generalize decide (upB a = c_MSET) = b6
    intro hk
    cases b
    · rfl
    · have hk := hk rfl
      subst hk
      cases b0 <;> cases b2 <;> cases b3 <;> cases b4 <;> cases b5 <;> cases b6 <;> try rfl
      all_goals
        simp only [Bool.not_true, Bool.not_false, cond_true, cond_false, Bool.false_and, Bool.true_and]
        generalize ((r.length : Int) == 2) = e2
        generalize ((r.length : Int) == 4) = e4
        cases e2 <;> cases e4 <;> rfl
/-- A fault's text. -/
def faultB (s : ByteArray) : ByteArray := (c___1_262 ++ s) ++ c____2_7140
theorem impl_Fault_ok (s : ByteArray) (h : s.size ≤ 2097152) : impl_Fault s = some (faultB s, ()) := by
  rw [impl_Fault_eq]
  have e1 : (c___1_262 : ByteArray).size = 1 := rfl
  have e2 : (c____2_7140 : ByteArray).size = 2 := rfl
  have k1 : limS (ByteArray.size c___1_262 + ByteArray.size s) = true := limS_true (by omega)
  have k2 : limS (ByteArray.size (c___1_262 ++ s) + ByteArray.size c____2_7140) = true := limS_true (by rw [ByteArray.size_append]; omega)
  simp only [k1, k2, cond_true]
  rfl
theorem spec_Fault_ok (s : ByteArray) (h : s.size ≤ 2097152) : spec_Fault s = some (faultB s, ()) := by
  rw [spec_Fault_eq]
  have e1 : (c___1_262 : ByteArray).size = 1 := rfl
  have e2 : (c____2_7140 : ByteArray).size = 2 := rfl
  have k1 : limS (ByteArray.size c___1_262 + ByteArray.size s) = true := limS_true (by omega)
  have k2 : limS (ByteArray.size (c___1_262 ++ s) + ByteArray.size c____2_7140) = true := limS_true (by rw [ByteArray.size_append]; omega)
  simp only [k1, k2, cond_true]
  rfl
/-- What is told of a request that is no command. -/
def unkB (args : List ByteArray) : ByteArray := match args with
  | [] => faultB c_ERR_unknown
  | a :: _ => bif memB (upB a) cmds then (bif arityB args then ByteArray.empty else faultB c_ERR_arguments) else faultB c_ERR_unknown
theorem impl_Unknown_ok (args : List ByteArray) (hl : args.length ≤ 2097152) (hs : ∀ s ∈ args, s.size ≤ 2097152) : impl_Unknown args = some (unkB args, ()) := by
  rw [impl_Unknown_eq]
  match args, hl, hs with
  | [], _, _ => rw [oneOf_nil, Option.bind_some, impl_Fault_ok _ (by decide)]; rfl
  | a :: r, hl, hs =>
    rw [oneOf_cons f_all (hs a (List.mem_cons_self ..)) (by decide), Option.bind_some, impl_Fault_ok _ (by decide), impl_Fault_ok _ (by decide), impl_ArityOk_ok _ hl hs]
    simp only [Option.bind_some, unkB]
    cases memB (upB a) cmds <;> cases arityB (a :: r) <;> rfl
theorem spec_Unknown_ok (args : List ByteArray) (hl : args.length ≤ 2097152) (hs : ∀ s ∈ args, s.size ≤ 2097152) : spec_Unknown args = some (unkB args, ()) := by
  rw [spec_Unknown_eq]
  match args, hl, hs with
  | [], _, _ => rw [spec_Fault_ok _ (by decide)]; rfl
  | a :: r, hl, hs =>
    have ha := hs a (List.mem_cons_self ..)
    have k1 : (((a :: r).length : Int) == 0) = false := by simp only [List.length_cons]; simp; omega
    have k2 : decide ((0 : Int) < (((a :: r).length : Nat) : Int)) = true := decide_eq_true (by simp only [List.length_cons]; omega)
    have k3 : decide ((0 : Int) ≤ 0) = true := rfl
    have k4 : spec_Upper (List.getD (a :: r) (Int.toNat 0) ByteArray.empty) = some (upB a, ()) := spec_Upper_ok a (by omega)
    simp only [k1, k2, Int.le_refl, decide_true, k4, Bool.and_self, cond_true, cond_false, spec_Commands_ok, Option.bind_some, l13In_ok cmds _ (by decide), spec_Fault_ok c_ERR_unknown (by decide), spec_Fault_ok c_ERR_arguments (by decide), spec_ArityOk_ok _ hl hs, unkB]
    cases memB (upB a) cmds <;> cases arityB (a :: r) <;> rfl
end Go.Den.S
