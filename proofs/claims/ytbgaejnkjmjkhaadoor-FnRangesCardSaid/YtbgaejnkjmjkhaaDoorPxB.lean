/- PxB: equations of the functions of this seat as the executor tells them, or plain facts about them. Conditions: none here. -/
import Derived.Test.YtbgaejnkjmjkhaaDoorPxA
set_option linter.all false
namespace Go.Den.S
open Go Go.Den
abbrev DE : Type := BA × Int × Int × BA × List BA
abbrev DV : Type := Int × Int × BA × List BA
def wB (l : List BA) : Nat := wl ByteArray.size l
def arrB (l : List BA) : BA := q5Y (qQ ((zh ++ decB (l.length : Int)) ++ ql) ++ l.flatMap qQ)
theorem q6A (l : List BA) (h : wB l <= 10000000000000) : q28 l = some (arrB l, ()) := by
 have hl : l.length <= 10000000000000 := q5T h
 have hs : (l.map ByteArray.size).sum <= 10000000000000 := by unfold wB wl at h; omega
 rw [q7i, q08 _ (by omega) (by omega)]
 have e1 : (zh : BA).size = 1 := rfl
 have e2 : (ql : BA).size = 2 := rfl
 have hd := zF (l.length : Int) (by omega) (by omega)
 simp only [oB, e1, e2, ByteArray.size_append, qW (show 1 + (decB (l.length : Int)).size <= 9223372036854775807 by omega), qW (show 1 + (decB (l.length : Int)).size + 2 <= 9223372036854775807 by omega), cT]
 have hh : (qQ ((zh ++ decB (l.length : Int)) ++ ql)).length <= 30 := by rw [q41]; simp only [ByteArray.size_append, e1, e2]; omega
 have := q1L (fun acc i => jW acc l (l.length : Int) i) l eB (fun a x => a ++ qQ x) (fun acc => some (q5Y acc, ())) (fun acc i => acc.length <= 30 + ((l.take i).map ByteArray.size).sum)
  (fun acc i hi hI => by
   have hle : ((l.take (i + 1)).map ByteArray.size).sum <= (l.map ByteArray.size).sum := by
    conv => rhs; rw [<- List.take_append_drop (i + 1) l, List.map_append, List.sum_append]
    omega
   have htk : l.take (i + 1) = l.take i ++ [l[i]] := by rw [List.take_add_one, List.getElem?_eq_getElem hi]; rfl
   rw [htk, List.map_append, List.sum_append] at hle ⊢
   simp only [List.map_cons, List.map_nil, List.sum_cons, List.sum_nil, Nat.add_zero] at hle ⊢
   have hb : (qQ (l.getD i eB)).length = l[i].size := by rw [je hi, q41]
   constructor
   ·conv => lhs; rw [q2w]
    simp only [dYT (show (i : Int) < (l.length : Int) by omega), dYT (show (0 : Int) <= (i : Int) by omega), Bool.and_self, cT, Int.toNat_natCast, wQ (show (acc.length + (qQ (l.getD i eB)).length) * 1 <= 140737488355328 by omega), show w64 ((i : Int) + 1) = ((i + 1 : Nat) : Int) from yB (by omega)]
   ·rw [List.length_append, hb]; omega)
  (fun acc hI => by
   show jW acc l (l.length : Int) (l.length : Int) = _
   rw [q2w]
   simp only [Int.lt_irrefl, decide_false, cF]
   rfl) _ (by simpa using hh)
 rw [this, q5a]
 rfl
theorem q7y (l : List BA) (h : wB l <= 100000000) : q28 l = some (arrB l, ()) := q6A l (by omega)
theorem q6H (l : List BA) (h : wB l <= 10000000000000) : q1n l = some (arrB l, ()) := by
 have hl : l.length <= 10000000000000 := q5T h
 have hs : (l.map ByteArray.size).sum <= 10000000000000 := by unfold wB wl at h; omega
 rw [q7B, wE _ (by omega) (by omega)]
 have e1 : (zh : BA).size = 1 := rfl
 have e2 : (ql : BA).size = 2 := rfl
 have hd := zF (l.length : Int) (by omega) (by omega)
 simp only [oB, e1, e2, ByteArray.size_append, qW (show 1 + (decB (l.length : Int)).size <= 9223372036854775807 by omega), qW (show 1 + (decB (l.length : Int)).size + 2 <= 9223372036854775807 by omega), cT]
 have hh : (qQ ((zh ++ decB (l.length : Int)) ++ ql)).length <= 30 := by rw [q41]; simp only [ByteArray.size_append, e1, e2]; omega
 have := q1L (fun acc i => jX l acc i) l eB (fun a x => a ++ qQ x) (fun acc => some (q5Y acc, ())) (fun acc i => acc.length <= 30 + ((l.take i).map ByteArray.size).sum)
  (fun acc i hi hI => by
   have hle : ((l.take (i + 1)).map ByteArray.size).sum <= (l.map ByteArray.size).sum := by
    conv => rhs; rw [<- List.take_append_drop (i + 1) l, List.map_append, List.sum_append]
    omega
   have htk : l.take (i + 1) = l.take i ++ [l[i]] := by rw [List.take_add_one, List.getElem?_eq_getElem hi]; rfl
   rw [htk, List.map_append, List.sum_append] at hle ⊢
   simp only [List.map_cons, List.map_nil, List.sum_cons, List.sum_nil, Nat.add_zero] at hle ⊢
   have hb : (qQ (l.getD i eB)).length = l[i].size := by rw [je hi, q41]
   constructor
   ·conv => lhs; rw [q2x]
    simp only [dYT (show (i : Int) < (l.length : Int) by omega), dYT (show (0 : Int) <= (i : Int) by omega), Bool.and_self, cT, Int.toNat_natCast, wQ (show (acc.length + (qQ (l.getD i eB)).length) * 1 <= 140737488355328 by omega), show w64 ((i : Int) + 1) = ((i + 1 : Nat) : Int) from yB (by omega)]
   ·rw [List.length_append, hb]; omega)
  (fun acc hI => by
   show jX l acc (l.length : Int) = _
   rw [q2x]
   simp only [Int.lt_irrefl, decide_false, cF]
   rfl) _ (by simpa using hh)
 rw [this, q5a]
 rfl
theorem q3P (l : List BA) (h : wB l <= 100000000) : q1n l = some (arrB l, ()) := q6H l (by omega)
theorem q7C (l : List BA) (hl : l.length <= 100000000) (hs : ∀ s ∈ l, s.size <= 100000000) : q3G l = some (l.map yh, ()) := by
 rw [q7k]
 have := q1L (fun acc i => q04 acc l (l.length : Int) i) l eB (fun a x => a ++ [yh x]) (fun acc => some (acc, ())) (fun acc i => acc.length = i)
  (fun acc i hi hI => by
   constructor
   ·conv => lhs; rw [q2o]
    simp only [dYT (show (i : Int) < (l.length : Int) by omega), dYT (show (0 : Int) <= (i : Int) by omega), Bool.and_self, cT, Int.toNat_natCast, wQ (show (acc.length + 1) * 16 <= 140737488355328 by omega), show w64 ((i : Int) + 1) = ((i + 1 : Nat) : Int) from yB (by omega), q1c (l.getD i eB) (by have := hs _ (wT (d := eB) hi); omega), oB]
   ·rw [List.length_append, hI]; rfl)
  (fun acc hI => by
   show q04 acc l (l.length : Int) (l.length : Int) = _
   rw [q2o]
   simp only [Int.lt_irrefl, decide_false, cF]) [] rfl
 rw [this, q3S]
 rfl
theorem q9v (l : List BA) (h : wB l <= 2097152) : wB (l.map yh) <= 100000000 := by
 have hl : l.length <= 2097152 := q5T h
 have key : ∀ r : List BA, (∀ s ∈ r, s.size <= 2097152) -> ((r.map yh).map ByteArray.size).sum <= (r.map ByteArray.size).sum + 30 * r.length := by
  intro r
  induction r with
  | nil => intro _; simp
  | cons x r ih =>
   intro hr
   have h1 := q9U x (by have := hr x (List.mem_cons_self ..); omega)
   have h2 := ih fun s hs => hr s (List.mem_cons_of_mem _ hs)
   simp only [List.map_cons, List.sum_cons, List.length_cons]
   omega
 have := key l fun s hs => qb6 h hs
 unfold wB wl at h ⊢
 rw [List.length_map]
 omega
theorem q2S (v : DV) (h : v.2.2.2.length <= 100000000) : q1j v = some (v, ()) := by
 rw [q5A]
 simp only [wQ (show (0 + v.2.2.2.length) * 16 <= 140737488355328 by omega), cT, List.nil_append]
structure Bd (t : List DE) : Prop where
 len : t.length <= 4194304
 its : ∀ e ∈ t, e.2.2.2.2.length <= 4194304
 szs : ∀ e ∈ t, e.1.size <= 4194304 /\ e.2.2.2.1.size <= 4194304 /\ ∀ s ∈ e.2.2.2.2, s.size <= 4194304
abbrev dflt : DE := (eB, (0, (0, (eB, []))))
theorem q93 {α : Type} (l acc : List α) : l.foldl (fun a x => a ++ [x]) acc = acc ++ l := by
 have := q3S (fun x : α => x) l acc
 simpa using this
theorem q0C (t : List DE) (h : Bd t) : w9 t = some (t, ()) := by
 have hl := h.len
 rw [q4P]
 have := q1L (fun acc i => zB acc t (t.length : Int) i) t dflt (fun a x => a ++ [x]) (fun acc => some (acc, ())) (fun acc i => acc.length = i)
  (fun acc i hi hI => by
   constructor
   ·conv => lhs; rw [q13]
    have hm := h.its _ (wT (d := dflt) hi)
    simp only [dYT (show (i : Int) < (t.length : Int) by omega), dYT (show (0 : Int) <= (i : Int) by omega), Bool.and_self, cT, Int.toNat_natCast, wQ (show (acc.length + 1) * 72 <= 140737488355328 by omega), show w64 ((i : Int) + 1) = ((i + 1 : Nat) : Int) from yB (by omega), q2S (t.getD i dflt).2 (by omega), oB]
   ·rw [List.length_append, hI]; rfl)
  (fun acc hI => by
   show zB acc t (t.length : Int) (t.length : Int) = _
   rw [q13]
   simp only [Int.lt_irrefl, decide_false, cF]) [] rfl
 rw [this, q93]
 rfl
end Go.Den.S
