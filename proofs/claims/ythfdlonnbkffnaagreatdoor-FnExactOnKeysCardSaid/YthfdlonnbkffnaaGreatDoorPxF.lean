/- PxF: equations of the functions of this seat as the executor tells them, or plain facts about them. Conditions: none here. -/
import Derived.Test.YthfdlonnbkffnaaGreatDoorPxE
set_option linter.all false
set_option linter.unusedSimpArgs false
set_option linter.unusedVariables false
namespace Go.Den.S
open Go Go.Den
abbrev RS : Type := List DE × ByteArray × Bool
/-! ### how a command begins and ends -/
def isB (t : List DE) (args : List ByteArray) (l : List ByteArray) : Bool := tabB t && ((match args with | [] => false | a :: _ => memB (upB a) l) && arityB args)
theorem impl_begun_ok (t : List DE) (args : List ByteArray) (names : ByteArray) (l : List ByteArray) (h : Bd t) (hl : args.length ≤ 2097152) (hs : ∀ s ∈ args, s.size ≤ 2097152) (hf : strings_Fields names = some (l, ())) (hll : l.length ≤ 2097152) :
    impl_begun t args names = some ((bif isB t args l then (some (t, (ByteArray.empty, false)), true) else (none, false)), ()) := by
  rw [impl_begun_eq, impl_TableOk_ok t h]
  unfold isB
  simp only [Option.bind_some, impl_ArityOk_ok args hl hs, impl_copyTable_ok t h]
  match args, hl, hs with
  | [], _, _ =>
    rw [oneOf_nil]
    cases tabB t <;> rfl
  | a :: r, hl, hs =>
    rw [oneOf_cons hf (hs a (List.mem_cons_self ..)) hll]
    simp only [Option.bind_some]
    cases tabB t <;> cases memB (upB a) l <;> cases arityB (a :: r) <;> rfl
theorem spec_l14Is_ok (t : List DE) (args l : List ByteArray) (h : Bd t) (hl : args.length ≤ 2097152) (hs : ∀ s ∈ args, s.size ≤ 2097152) (hll : l.length ≤ 2097152) : spec_l14Is t args l = some (isB t args l, ()) := by
  rw [spec_l14Is_eq, spec_TableOk_ok t h]
  unfold isB
  simp only [Option.bind_some, spec_ArityOk_ok args hl hs]
  match args, hl, hs with
  | [], _, _ => cases tabB t <;> rfl
  | a :: r, hl, hs =>
    have k2 : (decide ((0 : Int) ≤ 0) && decide ((0 : Int) < (((a :: r).length : Nat) : Int))) = true := by
      rw [decide_eq_true (show (0 : Int) < (((a :: r).length : Nat) : Int) by simp only [List.length_cons]; omega)]; rfl
    have k4 : spec_Upper (List.getD (a :: r) (Int.toNat 0) ByteArray.empty) = some (upB a, ()) := spec_Upper_ok a (by have := hs a (List.mem_cons_self ..); omega)
    simp only [k2, k4, cond_true, Option.bind_some, l13In_ok l (upB a) hll]
    cases tabB t <;> cases arityB (a :: r) <;> cases memB (upB a) l <;> rfl
def sayB (d : DD) (r : ByteArray) : DD := bif d.2.2 then d else (d.1, (r, d.2.2))
theorem say_ok (d : DD) (r : ByteArray) : __loop_example_g00124_impl_desk__say d r = some ((), (sayB d r, ())) := by
  rw [__loop_example_g00124_impl_desk__say_eq]
  obtain ⟨t, q, b⟩ := d
  cases b <;> rfl
def badB (d : DD) (r : ByteArray) : DD := bif d.2.2 then d else (d.1, (faultB r, true))
theorem deskfault_ok (d : DD) (r : ByteArray) (h : r.size ≤ 2097152) : __loop_example_g00124_impl_desk__fault d r = some ((), (badB d r, ())) := by
  rw [__loop_example_g00124_impl_desk__fault_eq, impl_Fault_ok r h]
  obtain ⟨t, q, b⟩ := d
  cases b <;> rfl
def overB (d : DD) (t : List DE) : RS := bif d.2.2 then (t, (d.2.1, true)) else bif tabB d.1 then (d.1, (d.2.1, true)) else (t, (faultB c_ERR_limit, true))
theorem over_ok (d : DD) (t : List DE) (h : Bd t) (hd : Bd d.1) : ∃ d', __loop_example_g00124_impl_desk__over d t = some (overB d t, (d', ())) := by
  rw [__loop_example_g00124_impl_desk__over_eq, impl_TableOk_ok d.1 hd, impl_copyTable_ok t h, impl_copyTable_ok d.1 hd, deskfault_ok d c_ERR_limit (by decide)]
  obtain ⟨r, q, b⟩ := d
  unfold overB badB
  simp only [Option.bind_some]
  cases b with
  | true => exact ⟨_, rfl⟩
  | false =>
    simp only [Bool.not_false, cond_true, cond_false]
    cases tabB r with
    | true => exact ⟨_, rfl⟩
    | false => exact ⟨_, rfl⟩
def doneB (t t' : List DE) (r : ByteArray) : RS := bif tabB t' then (t', (r, true)) else (t, (faultB c_ERR_limit, true))
theorem done_ok (t t' : List DE) (r : ByteArray) (h : Bd t) (h' : Bd t') : spec_l14Done t t' r = some (doneB t t' r, ()) := by
  rw [spec_l14Done_eq, spec_TableOk_ok t' h', spec_copyTable_ok t h, spec_copyTable_ok t' h', spec_Fault_ok c_ERR_limit (by decide)]
  unfold doneB
  simp only [Option.bind_some]
  cases tabB t' <;> rfl
theorem no_ok (t : List DE) (r : ByteArray) (h : Bd t) (hr : r.size ≤ 2097152) : spec_l14No t r = some ((t, (faultB r, true)), ()) := by
  rw [spec_l14No_eq, spec_copyTable_ok t h, spec_Fault_ok r hr]; rfl
theorem low_mem {t : List DE} {k : ByteArray} {e : DE} (h : e ∈ lowB t k) : e ∈ t := (List.mem_filter.1 h).1
theorem high_mem {t : List DE} {k : ByteArray} {e : DE} (h : e ∈ highB t k) : e ∈ t := (List.mem_filter.1 h).1
theorem low_high {t : List DE} {k : ByteArray} (ha : Asc t) : (lowB t k).length + (highB t k).length ≤ t.length := by
  rw [← List.length_append, show lowB t k ++ highB t k = dropB t k from rfl, ← drop_filter t k ha]
  exact List.length_filter_le _ _
theorem drop_bd {t : List DE} {k : ByteArray} (h : Bd t) (ha : Asc t) : Bd (dropB t k) := by
  have hm : ∀ e ∈ dropB t k, e ∈ t := fun e he => by
    rcases List.mem_append.1 he with he | he
    · exact low_mem he
    · exact high_mem he
  refine ⟨?_, fun e he => h.its e (hm e he), fun e he => h.szs e (hm e he)⟩
  have := low_high (k := k) ha
  have := h.len
  unfold dropB
  rw [List.length_append]; omega
theorem put_bd {t : List DE} {k : ByteArray} {v : DV} (h : tabB t = true) (hk : k.size ≤ 4194304) (hv : v.2.2.2.length ≤ 4194304) (hz : v.2.2.1.size ≤ 4194304) (hs : ∀ s ∈ v.2.2.2, s.size ≤ 4194304) : Bd (putB t k v) := by
  have hb := tab_bd h
  have hm : ∀ e ∈ putB t k v, e ∈ t ∨ e = (k, v) := fun e he => by
    unfold putB at he
    rcases List.mem_append.1 he with he | he
    · exact .inl (low_mem he)
    · rcases List.mem_cons.1 he with he | he
      · exact .inr he
      · exact .inl (high_mem he)
  refine ⟨?_, fun e he => ?_, fun e he => ?_⟩
  · have := low_high (k := k) (tab_asc h)
    have := tab_len h
    unfold putB
    rw [List.length_append, List.length_cons]; omega
  · rcases hm e he with h | rfl
    · exact hb.its e h
    · exact hv
  · rcases hm e he with h | rfl
    · exact hb.szs e h
    · exact ⟨hk, hz, hs⟩
theorem drop_asc {t : List DE} {k : ByteArray} (ha : Asc t) : Asc (dropB t k) := by
  rw [← drop_filter t k ha]
  exact List.Pairwise.filter _ ha
end Go.Den.S
