/- PxO: equations of the functions of this seat as the executor tells them, or plain facts about them. Conditions: none here. -/
import Derived.Test.YthfdlonnbkffnaaGreatDoorPxN
set_option linter.all false
set_option linter.unusedSimpArgs false
set_option linter.unusedVariables false
namespace Go.Den.S
open Go Go.Den
abbrev nilR : ByteArray := c___1___5_38205
/-- One item's reply. -/
def idxR (l : List ByteArray) (n : Int) : ByteArray :=
  let i := if n < 0 then n + (l.length : Int) else n
  if 0 ≤ i ∧ i ≤ (l.length : Int) - 1 then bulkB (gi l i.toNat) else nilR
def cutL (l : List ByteArray) (p : Int × Int) : List ByteArray := (l.drop p.1.toNat).take (p.2.toNat - p.1.toNat)
/-- What a command about lists leaves on the desk. -/
def lstD (t : List DE) (u k : ByteArray) (vals : List ByteArray) : DD :=
  let v := undB t k
  let l := v.2.2
  bif wrongB t k 2 then (t, (faultB c_WRONGTYPE, true))
  else bif decide (u = c_LPUSH) then (keepB t k (2, (v.1, (v.2.1, vals.reverse ++ l))), (numB ((vals.reverse ++ l).length : Int), false))
  else bif decide (u = c_RPUSH) then (keepB t k (2, (v.1, (v.2.1, l ++ vals))), (numB ((l ++ vals).length : Int), false))
  else bif decide (u = c_LPOP) then (bif decide (l = []) then (t, (nilR, false)) else (keepB t k (2, (v.1, (v.2.1, l.drop 1))), (bulkB (gi l 0), false)))
  else bif decide (u = c_RPOP) then (bif decide (l = []) then (t, (nilR, false)) else (keepB t k (2, (v.1, (v.2.1, l.take (l.length - 1)))), (bulkB (gi l (l.length - 1)), false)))
  else bif decide (u = c_LLEN) then (t, (numB (l.length : Int), false))
  else bif decide (u = c_LINDEX) then (bif !(rdI (gi vals 0)).2 then (t, (faultB c_ERR_integer, true)) else (t, (idxR l (rdI (gi vals 0)).1, false)))
  else bif !(rdI (gi vals 0)).2 then (t, (faultB c_ERR_integer, true)) else bif !(rdI (gi vals 1)).2 then (t, (faultB c_ERR_integer, true))
  else (t, (arrB ((cutL l (bndB (rdI (gi vals 0)).1 (rdI (gi vals 1)).1 (l.length : Int))).map bulkB), false))
theorem rdI_in (s : ByteArray) : -1000000000 ≤ (rdI s).1 ∧ (rdI s).1 ≤ 1000000000 := by
  rcases rdI_one s with h | ⟨n, h1, h2, _, h3⟩
  · rw [h]; exact ⟨by decide, by decide⟩
  · rw [h3]; exact ⟨h1, h2⟩
theorem number_ok (d : DD) (s : ByteArray) (hs : s.size ≤ 100000000) : __loop_example_g00124_impl_desk__number d s = some ((rdI s).1, ((bif !(rdI s).2 then badB d c_ERR_integer else d), ())) := by
  rw [__loop_example_g00124_impl_desk__number_eq, impl_ReadInt_ok s hs]
  simp only [Option.bind_some, deskfault_ok d c_ERR_integer (by decide)]
  cases (rdI s).2 <;> rfl
theorem push_fold2 : ∀ (vals l : List ByteArray), vals.foldl (fun a x => [x] ++ a) l = vals.reverse ++ l
  | [], l => rfl
  | x :: r, l => by rw [List.foldl_cons, push_fold2 r]; simp
theorem list_L1_ok (k : ByteArray) (vals : List ByteArray) (d : DD) (n u : Int) (x : ByteArray) (l : List ByteArray) (hl : l.length + vals.length ≤ 5000000) :
    __loop_example_g00124_impl_desk__list_L1 k vals (vals.length : Int) 0 d.1 d.2.1 d.2.2 n u x l = (__loop_example_g00124_impl_desk__put d k (n, (u, (x, vals.reverse ++ l)))).bind fun r13 =>
      (impl_Number ((vals.reverse ++ l).length : Int)).bind fun r14 => (__loop_example_g00124_impl_desk__say r13.2.1 r14.1).bind fun r15 => some ((), (r15.2.1, ())) := by
  have := fold_loop (fun acc i => __loop_example_g00124_impl_desk__list_L1 k vals (vals.length : Int) i d.1 d.2.1 d.2.2 n u x acc) vals ByteArray.empty (fun a x => [x] ++ a) (fun acc => (__loop_example_g00124_impl_desk__put d k (n, (u, (x, acc)))).bind fun r13 =>
      (impl_Number (acc.length : Int)).bind fun r14 => (__loop_example_g00124_impl_desk__say r13.2.1 r14.1).bind fun r15 => some ((), (r15.2.1, ()))) (fun acc i => acc.length = l.length + i)
    (fun acc i hi hI => by
      constructor
      · conv => lhs; rw [__loop_example_g00124_impl_desk__list_L1_eq]
        have e1 : decide ((i : Int) < (vals.length : Int)) = true := decide_eq_true (by omega)
        have e2 : decide (0 ≤ (i : Int)) = true := decide_eq_true (by omega)
        have e3 : w64 ((i : Int) + 1) = ((i + 1 : Nat) : Int) := wrap_succ (by omega)
        simp only [e1, e2, e3, Bool.and_self, cond_true, Int.toNat_natCast, lim_true (show (1 + acc.length) * 16 ≤ 140737488355328 by omega)]
      · show ([_] ++ acc).length = _
        rw [List.length_append, hI]; simp; omega)
    (fun acc hI => by
      show __loop_example_g00124_impl_desk__list_L1 k vals (vals.length : Int) (vals.length : Int) d.1 d.2.1 d.2.2 n u x acc = _
      rw [__loop_example_g00124_impl_desk__list_L1_eq]
      simp only [Int.lt_irrefl, decide_false, cond_false]) l (by simp)
  rw [push_fold2] at this
  exact this
theorem spec_lists_L1_ok (t : List DE) (a k : ByteArray) (vals : List ByteArray) (n u : Int) (x : ByteArray) (l : List ByteArray) (hl : l.length + vals.length ≤ 5000000) :
    spec_OnLists_L1 t (a :: k :: vals) k 2 n u x l = (spec_Number ((vals.reverse ++ l).length : Int)).bind fun r10 => (spec_l15Keep t k (n, (u, (x, vals.reverse ++ l))) r10.1).bind fun r11 => some (r11.1, ()) := by
  have := fold_loop (fun acc i => spec_OnLists_L1 t (a :: k :: vals) k (i + 2) n u x acc) vals ByteArray.empty (fun a x => [x] ++ a)
    (fun acc => (spec_Number (acc.length : Int)).bind fun r10 => (spec_l15Keep t k (n, (u, (x, acc))) r10.1).bind fun r11 => some (r11.1, ())) (fun acc i => acc.length = l.length + i)
    (fun acc i hi hI => by
      have hg : (a :: k :: vals).getD (i + 2) ByteArray.empty = vals.getD i ByteArray.empty := rfl
      constructor
      · conv => lhs; rw [spec_OnLists_L1_eq]
        have e0 : (i : Int) + 2 = ((i + 2 : Nat) : Int) := rfl
        have e1 : decide (((i + 2 : Nat) : Int) < ((a :: k :: vals).length : Int)) = true := decide_eq_true (by simp only [List.length_cons]; omega)
        have e2 : decide (0 ≤ ((i + 2 : Nat) : Int)) = true := decide_eq_true (by omega)
        have e3 : w64 (((i + 2 : Nat) : Int) + 1) = ((i + 1 : Nat) : Int) + 2 := by rw [show w64 (((i + 2 : Nat) : Int) + 1) = ((i + 2 + 1 : Nat) : Int) from wrap_succ (by omega)]; omega
        simp only [e0, e1, e2, e3, Bool.and_self, cond_true, Int.toNat_natCast, hg, lim_true (show (1 + acc.length) * 16 ≤ 140737488355328 by omega)]
      · show ([_] ++ acc).length = _
        rw [List.length_append, hI]; simp; omega)
    (fun acc hI => by
      show spec_OnLists_L1 t (a :: k :: vals) k ((vals.length : Int) + 2) n u x acc = _
      rw [spec_OnLists_L1_eq]
      have e1 : decide ((vals.length : Int) + 2 < ((a :: k :: vals).length : Int)) = false := decide_eq_false (by simp only [List.length_cons]; omega)
      simp only [e1, cond_false]) l (by simp)
  rw [push_fold2] at this
  exact this
/-- What a pop leaves. -/
def popD (d : DD) (k : ByteArray) (v : DV) (found back : Bool) : DD :=
  bif !found then sayB d nilR else bif d.2.2 then sayB d nilR else
    bif back then (keepB d.1 k (v.1, (v.2.1, (v.2.2.1, v.2.2.2.take (v.2.2.2.length - 1)))), (bulkB (gi v.2.2.2 (v.2.2.2.length - 1)), false))
    else (keepB d.1 k (v.1, (v.2.1, (v.2.2.1, v.2.2.2.drop 1))), (bulkB (gi v.2.2.2 0), false))
theorem pop_ok (d : DD) (k : ByteArray) (v : DV) (found back : Bool) (h : Bd d.1) (ha : Asc d.1) (hne : found = true → d.2.2 = false → 1 ≤ v.2.2.2.length) (hl : v.2.2.2.length ≤ 1000000) (hs : ∀ s ∈ v.2.2.2, s.size ≤ 1000000) : __loop_example_g00124_impl_desk__pop d k v found back = some ((), (popD d k v found back, ())) := by
  rw [__loop_example_g00124_impl_desk__pop_eq, impl_Nil_eq]
  obtain ⟨t, q, b⟩ := d
  unfold popD
  cases found with
  | false => simp only [Bool.not_false, cond_true, Option.bind_some, say_ok]
  | true =>
    cases b with
    | true => simp only [Bool.not_true, cond_false, cond_true, Option.bind_some, say_ok]
    | false =>
      have hn := hne rfl rfl
      have e1 : decide ((0 : Int) < (v.2.2.2.length : Int)) = true := decide_eq_true (by omega)
      have e2 : decide ((1 : Int) ≤ (v.2.2.2.length : Int)) = true := decide_eq_true (by omega)
      have e3 : w64 ((v.2.2.2.length : Int) - 1) = ((v.2.2.2.length - 1 : Nat) : Int) := by show IntKind.i64.wrap _ = _; rw [wrap64_id (by omega) (by omega)]; omega
      have e4 : decide ((0 : Int) ≤ ((v.2.2.2.length - 1 : Nat) : Int)) = true := decide_eq_true (by omega)
      have e5 : decide (((v.2.2.2.length - 1 : Nat) : Int) < (v.2.2.2.length : Int)) = true := decide_eq_true (by omega)
      have e6 : decide (((v.2.2.2.length - 1 : Nat) : Int) ≤ (v.2.2.2.length : Int)) = true := decide_eq_true (by omega)
      have s1 := hs (gi v.2.2.2 (v.2.2.2.length - 1)) (getD_mem (by omega))
      have s2 := hs (gi v.2.2.2 0) (getD_mem (by omega))
      have e7 : (v.2.2.2.drop 1).take (v.2.2.2.length - 1) = v.2.2.2.drop 1 := List.take_of_length_le (by rw [List.length_drop]; exact Nat.le_refl _)
      simp only [Bool.not_true, cond_false, e1, e2, e3, e4, e5, e6, Int.le_refl, decide_true, show decide ((0 : Int) ≤ 1) = true from rfl, Bool.and_self, cond_true, Int.toNat_natCast, show Int.toNat 0 = 0 from rfl, show Int.toNat 1 = 1 from rfl, Nat.sub_zero, List.drop_zero, e7, keep_ok _ k _ h ha, Option.bind_some, impl_Bulk_ok _ (show (gi v.2.2.2 (v.2.2.2.length - 1)).size ≤ 1000000000 by omega), impl_Bulk_ok _ (show (gi v.2.2.2 0).size ≤ 1000000000 by omega), say_ok]
      cases back <;> rfl
end Go.Den.S
