/- PuWords: equations of the functions of this seat as the executor tells them, or plain facts about them. Conditions: none here. -/
import Derived.Test.YtkpdhadfnanagaaDoorEqD0
import Derived.Test.YtkpdhadfnanagaaDoorEqD1
import Derived.Test.YtkpdhadfnanagaaDoorDenFour
set_option linter.all false
namespace Go.Den.S
open Go Go.Den
theorem upN_u8 {n : Int} (h0 : 0 ≤ n) (h : 97 ≤ n ∧ n ≤ 122) : IntKind.u8.wrap (n - 32) = upN n := by
  rw [wrapU8_id (by omega) (by omega)]
  unfold upN; rw [if_pos h]
theorem upN_id {n : Int} (h : ¬ (97 ≤ n ∧ n ≤ 122)) : upN n = n := by unfold upN; rw [if_neg h]
theorem bl_len (s : ByteArray) : (bytesL s).length = s.size := bytesL_len s
theorem impl_Upper_ok (s : ByteArray) (hs : s.size ≤ 9223372036854775806) : impl_Upper s = some (upB s, ()) := by
  rw [impl_Upper_eq]
  have hl := bl_len s
  refine (inplace_loop (fun out i => impl_Upper_L0 ((bytesL s).length : Int) i out) (bytesL s) upN fun out i hi ho hg => ?_).trans ?_
  · show impl_Upper_L0 _ (i : Int) out = impl_Upper_L0 _ ((i : Int) + 1) (out.set i (upN ((bytesL s).getD i 0)))
    rw [impl_Upper_L0_eq]
    have k1 : decide ((i : Int) < ((bytesL s).length : Int)) = true := decide_eq_true (by omega)
    have k2 : decide ((i : Int) < (out.length : Int)) = true := decide_eq_true (by omega)
    have k3 : decide (0 ≤ (i : Int)) = true := decide_eq_true (by omega)
    have k4 : w64 ((i : Int) + 1) = (i : Int) + 1 := wrap64_id (by omega) (by omega)
    have hm := bytesL_mem (getD_mem (d := 0) hi)
    simp only [k1, k2, k3, k4, Bool.and_self, cond_true, Int.toNat_natCast, hg]
    by_cases h1 : (bytesL s).getD i 0 ≥ 97
    · by_cases h2 : (bytesL s).getD i 0 ≤ 122
      · simp only [decide_eq_true h1, decide_eq_true h2, cond_true, upN_u8 hm.1 ⟨h1, h2⟩]
      · simp only [decide_eq_true h1, decide_eq_false h2, cond_true, cond_false]
        rw [upN_id (by omega), ← hg, set_same (by omega)]
    · simp only [decide_eq_false h1, cond_false]
      rw [upN_id (by omega), ← hg, set_same (by omega)]
  · show impl_Upper_L0 _ _ _ = _
    rw [impl_Upper_L0_eq]
    have k1 : decide (((bytesL s).length : Int) < ((bytesL s).length : Int)) = false := decide_eq_false (by omega)
    simp only [k1, cond_false]
    rfl
theorem spec_Upper_ok (s : ByteArray) (hs : s.size ≤ 9223372036854775806) : spec_Upper s = some (upB s, ()) := by
  rw [spec_Upper_eq]
  have hl := bl_len s
  refine (inplace_loop (fun out i => spec_Upper_L0 out i) (bytesL s) upN fun out i hi ho hg => ?_).trans ?_
  · show spec_Upper_L0 out (i : Int) = spec_Upper_L0 (out.set i (upN ((bytesL s).getD i 0))) ((i : Int) + 1)
    rw [spec_Upper_L0_eq]
    have k2 : decide ((i : Int) < (out.length : Int)) = true := decide_eq_true (by omega)
    have k3 : decide (0 ≤ (i : Int)) = true := decide_eq_true (by omega)
    have k4 : w64 ((i : Int) + 1) = (i : Int) + 1 := wrap64_id (by omega) (by omega)
    have hm := bytesL_mem (getD_mem (d := 0) hi)
    simp only [k2, k3, k4, Bool.and_self, cond_true, Int.toNat_natCast, hg]
    by_cases h1 : (bytesL s).getD i 0 ≥ 97
    · by_cases h2 : (bytesL s).getD i 0 ≤ 122
      · simp only [decide_eq_true h1, decide_eq_true h2, cond_true, upN_u8 hm.1 ⟨h1, h2⟩]
      · simp only [decide_eq_true h1, decide_eq_false h2, cond_true, cond_false]
        rw [upN_id (by omega), ← hg, set_same (by omega)]
    · simp only [decide_eq_false h1, cond_false]
      rw [upN_id (by omega), ← hg, set_same (by omega)]
  · show spec_Upper_L0 _ _ = _
    rw [spec_Upper_L0_eq]
    have k1 : decide (((bytesL s).length : Int) < (((bytesL s).map upN).length : Int)) = false := decide_eq_false (by simp)
    simp only [k1, cond_false]
    rfl
theorem Index_ok (l : List ByteArray) (x : ByteArray) (hl : l.length ≤ 2097152) : ∃ n : Int, slices_Index___string_string_ l x = some (n, ()) ∧ (0 ≤ n ↔ x ∈ l) := by
  rw [slices_Index___string_string__eq]
  refine list_ind l ByteArray.empty (fun i r => ∃ n : Int, slices_Index___string_string__L0 l x (l.length : Int) (i : Int) = some (n, ()) ∧ (0 ≤ n ↔ x ∈ r)) ?_ fun i y r hi hy hm ih => ?_
  · rw [slices_Index___string_string__L0_eq]
    exact ⟨-1, by simp, by simp⟩
  · rw [slices_Index___string_string__L0_eq]
    have k1 : decide ((i : Int) < (l.length : Int)) = true := decide_eq_true (by omega)
    have k3 : decide (0 ≤ (i : Int)) = true := decide_eq_true (by omega)
    have k4 : w64 ((i : Int) + 1) = ((i + 1 : Nat) : Int) := wrap_succ (by omega)
    simp only [k1, k3, k4, Bool.and_self, cond_true, Int.toNat_natCast, hy, bytes_eq]
    by_cases h : x = y
    · exact ⟨i, by simp only [decide_eq_true h, cond_true], by simp [h]⟩
    · obtain ⟨n, e1, e2⟩ := ih
      exact ⟨n, by simp only [decide_eq_false h, cond_false, e1], by simp [e2, h]⟩
theorem Contains_ok (l : List ByteArray) (x : ByteArray) (hl : l.length ≤ 2097152) : slices_Contains___string_string_ l x = some (memB x l, ()) := by
  obtain ⟨n, e1, e2⟩ := Index_ok l x hl
  rw [slices_Contains___string_string__eq, e1, Option.bind_some]
  have : decide (n ≥ 0) = memB x l := by
    by_cases h : x ∈ l
    · rw [memB_iff.2 h, decide_eq_true (e2.2 h)]
    · rw [memB_false.2 h, decide_eq_false fun h' => h (e2.1 h')]
  rw [this]
theorem l13In_ok (l : List ByteArray) (x : ByteArray) (hl : l.length ≤ 2097152) : spec_l13In l x = some (memB x l, ()) := by
  rw [spec_l13In_eq]
  refine list_ind l ByteArray.empty (fun i r => spec_l13In_L0 l x (i : Int) = some (memB x r, ())) ?_ fun i y r hi hy hm ih => ?_
  · rw [spec_l13In_L0_eq]
    simp [memB]
  · rw [spec_l13In_L0_eq]
    have k1 : decide ((i : Int) < (l.length : Int)) = true := decide_eq_true (by omega)
    have k3 : decide (0 ≤ (i : Int)) = true := decide_eq_true (by omega)
    have k4 : w64 ((i : Int) + 1) = ((i + 1 : Nat) : Int) := wrap_succ (by omega)
    simp only [k1, k3, k4, Bool.and_self, cond_true, Int.toNat_natCast, hy, bytes_eq]
    by_cases h : y = x
    · subst h; simp [memB]
    · have : x ≠ y := fun e => h e.symm
      simp only [decide_eq_false h, cond_false, ih, memB, decide_eq_false this, Bool.false_or]
/-- The commands. -/
abbrev cmds : List ByteArray := [c_PING, c_ECHO, c_GET, c_SET, c_SETNX, c_GETSET, c_APPEND, c_STRLEN, c_INCR, c_DECR, c_INCRBY, c_DECRBY, c_MGET, c_MSET, c_DEL, c_EXISTS, c_TYPE, c_EXPIRE, c_TTL, c_PERSIST, c_KEYS, c_DBSIZE, c_FLUSHALL, c_LPUSH, c_RPUSH, c_LPOP, c_RPOP, c_LLEN, c_LRANGE, c_LINDEX, c_HSET, c_HGET, c_HDEL, c_HLEN, c_HGETALL, c_HKEYS, c_SADD, c_SREM, c_SISMEMBER, c_SCARD, c_SMEMBERS]
theorem spec_Commands_ok : spec_Commands = some (cmds, ()) := spec_Commands_eq
abbrev ar0 : List ByteArray := [c_PING, c_KEYS, c_DBSIZE, c_FLUSHALL]
abbrev ar1 : List ByteArray := [c_ECHO, c_GET, c_STRLEN, c_INCR, c_DECR, c_TYPE, c_TTL, c_PERSIST, c_LPOP, c_RPOP, c_LLEN, c_HLEN, c_HGETALL, c_HKEYS, c_SCARD, c_SMEMBERS]
abbrev ar2 : List ByteArray := [c_SET, c_SETNX, c_GETSET, c_APPEND, c_INCRBY, c_DECRBY, c_EXPIRE, c_LINDEX, c_HGET, c_SISMEMBER]
abbrev ar3 : List ByteArray := [c_LRANGE, c_HSET]
abbrev ar4 : List ByteArray := [c_MGET, c_DEL, c_EXISTS]
abbrev ar5 : List ByteArray := [c_LPUSH, c_RPUSH, c_HDEL, c_SADD, c_SREM]
end Go.Den.S
