/- PxB: equations of the functions of this seat as the executor tells them, or plain facts about them. Conditions: none here. -/
import Derived.Test.YthfdlonnbkffnaaGreatDoorPxA
set_option linter.all false
set_option linter.unusedSimpArgs false
set_option linter.unusedVariables false
namespace Go.Den.S
open Go Go.Den
/-! ### rows of replies -/
abbrev DE : Type := ByteArray × Int × Int × ByteArray × List ByteArray
abbrev DV : Type := Int × Int × ByteArray × List ByteArray
def wB (l : List ByteArray) : Nat := wl ByteArray.size l
/-- A reply that is a row. -/
def arrB (l : List ByteArray) : ByteArray := ofNums (bytesL ((c___1_259 ++ decB (l.length : Int)) ++ c____2_7140) ++ l.flatMap bytesL)
theorem impl_Array_big (l : List ByteArray) (h : wB l ≤ 10000000000000) : impl_Array l = some (arrB l, ()) := by
  have hl : l.length ≤ 10000000000000 := wl_len h
  have hs : (l.map ByteArray.size).sum ≤ 10000000000000 := by unfold wB wl at h; omega
  rw [impl_Array_eq, impl_Decimal_ok _ (by omega) (by omega)]
  have e1 : (c___1_259 : ByteArray).size = 1 := rfl
  have e2 : (c____2_7140 : ByteArray).size = 2 := rfl
  have hd := decB_size (l.length : Int) (by omega) (by omega)
  simp only [Option.bind_some, e1, e2, ByteArray.size_append, limS_true (show 1 + (decB (l.length : Int)).size ≤ 9223372036854775807 by omega), limS_true (show 1 + (decB (l.length : Int)).size + 2 ≤ 9223372036854775807 by omega), cond_true]
  have hh : (bytesL ((c___1_259 ++ decB (l.length : Int)) ++ c____2_7140)).length ≤ 30 := by rw [bl_len]; simp only [ByteArray.size_append, e1, e2]; omega
  have := fold_loop (fun acc i => impl_Array_L0 acc l (l.length : Int) i) l ByteArray.empty (fun a x => a ++ bytesL x) (fun acc => some (ofNums acc, ())) (fun acc i => acc.length ≤ 30 + ((l.take i).map ByteArray.size).sum)
    (fun acc i hi hI => by
      have hle : ((l.take (i + 1)).map ByteArray.size).sum ≤ (l.map ByteArray.size).sum := by
        conv => rhs; rw [← List.take_append_drop (i + 1) l, List.map_append, List.sum_append]
        omega
      have htk : l.take (i + 1) = l.take i ++ [l[i]] := by rw [List.take_add_one, List.getElem?_eq_getElem hi]; rfl
      rw [htk, List.map_append, List.sum_append] at hle ⊢
      simp only [List.map_cons, List.map_nil, List.sum_cons, List.sum_nil, Nat.add_zero] at hle ⊢
      have hb : (bytesL (l.getD i ByteArray.empty)).length = l[i].size := by rw [getD_get hi, bl_len]
      constructor
      · conv => lhs; rw [impl_Array_L0_eq]
        simp only [decide_eq_true (show (i : Int) < (l.length : Int) by omega), decide_eq_true (show (0 : Int) ≤ (i : Int) by omega), Bool.and_self, cond_true, Int.toNat_natCast, lim_true (show (acc.length + (bytesL (l.getD i ByteArray.empty)).length) * 1 ≤ 140737488355328 by omega), show w64 ((i : Int) + 1) = ((i + 1 : Nat) : Int) from wrap_succ (by omega)]
      · rw [List.length_append, hb]; omega)
    (fun acc hI => by
      show impl_Array_L0 acc l (l.length : Int) (l.length : Int) = _
      rw [impl_Array_L0_eq]
      simp only [Int.lt_irrefl, decide_false, cond_false]
      rfl) _ (by simpa using hh)
  rw [this, app_fold]
  rfl
theorem impl_Array_ok (l : List ByteArray) (h : wB l ≤ 100000000) : impl_Array l = some (arrB l, ()) := impl_Array_big l (by omega)
theorem spec_Array_big (l : List ByteArray) (h : wB l ≤ 10000000000000) : spec_Array l = some (arrB l, ()) := by
  have hl : l.length ≤ 10000000000000 := wl_len h
  have hs : (l.map ByteArray.size).sum ≤ 10000000000000 := by unfold wB wl at h; omega
  rw [spec_Array_eq, spec_Decimal_ok _ (by omega) (by omega)]
  have e1 : (c___1_259 : ByteArray).size = 1 := rfl
  have e2 : (c____2_7140 : ByteArray).size = 2 := rfl
  have hd := decB_size (l.length : Int) (by omega) (by omega)
  simp only [Option.bind_some, e1, e2, ByteArray.size_append, limS_true (show 1 + (decB (l.length : Int)).size ≤ 9223372036854775807 by omega), limS_true (show 1 + (decB (l.length : Int)).size + 2 ≤ 9223372036854775807 by omega), cond_true]
  have hh : (bytesL ((c___1_259 ++ decB (l.length : Int)) ++ c____2_7140)).length ≤ 30 := by rw [bl_len]; simp only [ByteArray.size_append, e1, e2]; omega
  have := fold_loop (fun acc i => spec_Array_L0 l acc i) l ByteArray.empty (fun a x => a ++ bytesL x) (fun acc => some (ofNums acc, ())) (fun acc i => acc.length ≤ 30 + ((l.take i).map ByteArray.size).sum)
    (fun acc i hi hI => by
      have hle : ((l.take (i + 1)).map ByteArray.size).sum ≤ (l.map ByteArray.size).sum := by
        conv => rhs; rw [← List.take_append_drop (i + 1) l, List.map_append, List.sum_append]
        omega
      have htk : l.take (i + 1) = l.take i ++ [l[i]] := by rw [List.take_add_one, List.getElem?_eq_getElem hi]; rfl
      rw [htk, List.map_append, List.sum_append] at hle ⊢
      simp only [List.map_cons, List.map_nil, List.sum_cons, List.sum_nil, Nat.add_zero] at hle ⊢
      have hb : (bytesL (l.getD i ByteArray.empty)).length = l[i].size := by rw [getD_get hi, bl_len]
      constructor
      · conv => lhs; rw [spec_Array_L0_eq]
        simp only [decide_eq_true (show (i : Int) < (l.length : Int) by omega), decide_eq_true (show (0 : Int) ≤ (i : Int) by omega), Bool.and_self, cond_true, Int.toNat_natCast, lim_true (show (acc.length + (bytesL (l.getD i ByteArray.empty)).length) * 1 ≤ 140737488355328 by omega), show w64 ((i : Int) + 1) = ((i + 1 : Nat) : Int) from wrap_succ (by omega)]
      · rw [List.length_append, hb]; omega)
    (fun acc hI => by
      show spec_Array_L0 l acc (l.length : Int) = _
      rw [spec_Array_L0_eq]
      simp only [Int.lt_irrefl, decide_false, cond_false]
      rfl) _ (by simpa using hh)
  rw [this, app_fold]
  rfl
theorem spec_Array_ok (l : List ByteArray) (h : wB l ≤ 100000000) : spec_Array l = some (arrB l, ()) := spec_Array_big l (by omega)
theorem impl_bulks_ok (l : List ByteArray) (hl : l.length ≤ 100000000) (hs : ∀ s ∈ l, s.size ≤ 100000000) : impl_bulks l = some (l.map bulkB, ()) := by
  rw [impl_bulks_eq]
  have := fold_loop (fun acc i => impl_bulks_L0 acc l (l.length : Int) i) l ByteArray.empty (fun a x => a ++ [bulkB x]) (fun acc => some (acc, ())) (fun acc i => acc.length = i)
    (fun acc i hi hI => by
      constructor
      · conv => lhs; rw [impl_bulks_L0_eq]
        simp only [decide_eq_true (show (i : Int) < (l.length : Int) by omega), decide_eq_true (show (0 : Int) ≤ (i : Int) by omega), Bool.and_self, cond_true, Int.toNat_natCast, lim_true (show (acc.length + 1) * 16 ≤ 140737488355328 by omega), show w64 ((i : Int) + 1) = ((i + 1 : Nat) : Int) from wrap_succ (by omega), impl_Bulk_ok (l.getD i ByteArray.empty) (by have := hs _ (getD_mem (d := ByteArray.empty) hi); omega), Option.bind_some]
      · rw [List.length_append, hI]; rfl)
    (fun acc hI => by
      show impl_bulks_L0 acc l (l.length : Int) (l.length : Int) = _
      rw [impl_bulks_L0_eq]
      simp only [Int.lt_irrefl, decide_false, cond_false]) [] rfl
  rw [this, push_fold]
  rfl
theorem bulks_w (l : List ByteArray) (h : wB l ≤ 2097152) : wB (l.map bulkB) ≤ 100000000 := by
  have hl : l.length ≤ 2097152 := wl_len h
  have key : ∀ r : List ByteArray, (∀ s ∈ r, s.size ≤ 2097152) → ((r.map bulkB).map ByteArray.size).sum ≤ (r.map ByteArray.size).sum + 30 * r.length := by
    intro r
    induction r with
    | nil => intro _; simp
    | cons x r ih =>
      intro hr
      have h1 := bulkB_size x (by have := hr x (List.mem_cons_self ..); omega)
      have h2 := ih fun s hs => hr s (List.mem_cons_of_mem _ hs)
      simp only [List.map_cons, List.sum_cons, List.length_cons]
      omega
  have := key l fun s hs => wl_mem h hs
  unfold wB wl at h ⊢
  rw [List.length_map]
  omega
theorem spec_l15Bulks_ok (l : List ByteArray) (h : wB l ≤ 2097152) : spec_l15Bulks l = some (arrB (l.map bulkB), ()) := by
  have hl : l.length ≤ 2097152 := wl_len h
  have hs : ∀ s ∈ l, s.size ≤ 2097152 := fun s hs => wl_mem h hs
  rw [spec_l15Bulks_eq]
  have := fold_loop (fun acc i => spec_l15Bulks_L0 l acc i) l ByteArray.empty (fun a x => a ++ [bulkB x]) (fun acc => (spec_Array acc).bind fun r5 => some (r5.1, ())) (fun acc i => acc.length = i)
    (fun acc i hi hI => by
      constructor
      · conv => lhs; rw [spec_l15Bulks_L0_eq]
        simp only [decide_eq_true (show (i : Int) < (l.length : Int) by omega), decide_eq_true (show (0 : Int) ≤ (i : Int) by omega), Bool.and_self, cond_true, Int.toNat_natCast, lim_true (show (acc.length + 1) * 16 ≤ 140737488355328 by omega), show w64 ((i : Int) + 1) = ((i + 1 : Nat) : Int) from wrap_succ (by omega), spec_Bulk_ok (l.getD i ByteArray.empty) (by have := hs _ (getD_mem (d := ByteArray.empty) hi); omega), Option.bind_some]
      · rw [List.length_append, hI]; rfl)
    (fun acc hI => by
      show spec_l15Bulks_L0 l acc (l.length : Int) = _
      rw [spec_l15Bulks_L0_eq]
      simp only [Int.lt_irrefl, decide_false, cond_false]) [] rfl
  rw [this, push_fold, List.nil_append, spec_Array_ok _ (bulks_w l h)]
  rfl
/-! ### tables -/
theorem impl_copyVal_ok (v : DV) (h : v.2.2.2.length ≤ 100000000) : impl_copyVal v = some (v, ()) := by
  rw [impl_copyVal_eq]
  simp only [lim_true (show (0 + v.2.2.2.length) * 16 ≤ 140737488355328 by omega), cond_true, List.nil_append]
theorem spec_l10Copy_ok (v : DV) (h : v.2.2.2.length ≤ 100000000) : spec_l10Copy v = some (v, ()) := by
  rw [spec_l10Copy_eq]
  simp only [lim_true (show (0 + v.2.2.2.length) * 16 ≤ 140737488355328 by omega), cond_true, List.nil_append]
/-- It is not beyond bounds. -/
structure Bd (t : List DE) : Prop where
  len : t.length ≤ 4194304
  its : ∀ e ∈ t, e.2.2.2.2.length ≤ 4194304
  szs : ∀ e ∈ t, e.1.size ≤ 4194304 ∧ e.2.2.2.1.size ≤ 4194304 ∧ ∀ s ∈ e.2.2.2.2, s.size ≤ 4194304
abbrev dflt : DE := (ByteArray.empty, (0, (0, (ByteArray.empty, []))))
theorem map_id_fold {α : Type} (l acc : List α) : l.foldl (fun a x => a ++ [x]) acc = acc ++ l := by
  have := push_fold (fun x : α => x) l acc
  simpa using this
theorem impl_copyTable_ok (t : List DE) (h : Bd t) : impl_copyTable t = some (t, ()) := by
  have hl := h.len
  rw [impl_copyTable_eq]
  have := fold_loop (fun acc i => impl_copyTable_L0 acc t (t.length : Int) i) t dflt (fun a x => a ++ [x]) (fun acc => some (acc, ())) (fun acc i => acc.length = i)
    (fun acc i hi hI => by
      constructor
      · conv => lhs; rw [impl_copyTable_L0_eq]
        have hm := h.its _ (getD_mem (d := dflt) hi)
        simp only [decide_eq_true (show (i : Int) < (t.length : Int) by omega), decide_eq_true (show (0 : Int) ≤ (i : Int) by omega), Bool.and_self, cond_true, Int.toNat_natCast, lim_true (show (acc.length + 1) * 72 ≤ 140737488355328 by omega), show w64 ((i : Int) + 1) = ((i + 1 : Nat) : Int) from wrap_succ (by omega), impl_copyVal_ok (t.getD i dflt).2 (by omega), Option.bind_some]
      · rw [List.length_append, hI]; rfl)
    (fun acc hI => by
      show impl_copyTable_L0 acc t (t.length : Int) (t.length : Int) = _
      rw [impl_copyTable_L0_eq]
      simp only [Int.lt_irrefl, decide_false, cond_false]) [] rfl
  rw [this, map_id_fold]
  rfl
theorem spec_copyTable_ok (t : List DE) (h : Bd t) : spec_l10CopyTable t = some (t, ()) := by
  have hl := h.len
  rw [spec_l10CopyTable_eq]
  have := fold_loop (fun acc i => spec_l10CopyTable_L0 t acc i) t dflt (fun a x => a ++ [x]) (fun acc => some (acc, ())) (fun acc i => acc.length = i)
    (fun acc i hi hI => by
      constructor
      · conv => lhs; rw [spec_l10CopyTable_L0_eq]
        have hm := h.its _ (getD_mem (d := dflt) hi)
        simp only [decide_eq_true (show (i : Int) < (t.length : Int) by omega), decide_eq_true (show (0 : Int) ≤ (i : Int) by omega), Bool.and_self, cond_true, Int.toNat_natCast, lim_true (show (acc.length + 1) * 72 ≤ 140737488355328 by omega), show w64 ((i : Int) + 1) = ((i + 1 : Nat) : Int) from wrap_succ (by omega), spec_l10Copy_ok (t.getD i dflt).2 (by omega), Option.bind_some]
      · rw [List.length_append, hI]; rfl)
    (fun acc hI => by
      show spec_l10CopyTable_L0 t acc (t.length : Int) = _
      rw [spec_l10CopyTable_L0_eq]
      simp only [Int.lt_irrefl, decide_false, cond_false]) [] rfl
  rw [this, map_id_fold]
  rfl
end Go.Den.S
