/- PxB: equations of the functions of this seat as the executor tells them, or plain facts about them. Conditions: none here. -/
import Derived.Test.YtbgaejnkjmjkhaaGreatDoorPxA
set_option linter.all false
namespace Go.Den.S
open Go Go.Den
abbrev DE : Type := BA × Int × Int × BA × List BA
abbrev DV : Type := Int × Int × BA × List BA
def wB (l : List BA) : Nat := wl ByteArray.size l
theorem qlW (l : List BA) : (l.flatMap yR).length = (l.map ByteArray.size).sum := by
 induction l with
 | nil => rfl
 | cons x r ih => rw [List.flatMap_cons, List.length_append, ih, q7K]; simp
def arrB (l : List BA) : BA := q4Y (yR ((q1f ++ decB (l.length : Int)) ++ qB) ++ l.flatMap yR)
theorem qae (l : List BA) (h : wB l <= 10000000000000) : q0b l = some (arrB l, ()) := by
 have hl : l.length <= 10000000000000 := q0p h
 have hs : (l.map ByteArray.size).sum <= 10000000000000 := by unfold wB wl at h; omega
 rw [qgV, q0i _ (by omega) (by omega)]
 have e1 : (q1f : BA).size = 1 := rfl
 have e2 : (qB : BA).size = 2 := rfl
 have hd := q0n (l.length : Int) (by omega) (by omega)
 simp only [oB, e1, e2, ByteArray.size_append, yJ (show 1 + (decB (l.length : Int)).size <= 9223372036854775807 by omega), yJ (show 1 + (decB (l.length : Int)).size + 2 <= 9223372036854775807 by omega), cT]
 have hh : (yR ((q1f ++ decB (l.length : Int)) ++ qB)).length <= 30 := by rw [q7K]; simp only [ByteArray.size_append, e1, e2]; omega
 have := wW (fun acc i => q4n acc l (l.length : Int) i) l eB (fun a x => a ++ yR x) (fun acc => some (q4Y acc, ())) (fun acc i => acc.length <= 30 + ((l.take i).map ByteArray.size).sum)
  (fun acc i hi hI => by
   have hle : ((l.take (i + 1)).map ByteArray.size).sum <= (l.map ByteArray.size).sum := by
    conv => rhs; rw [<- List.take_append_drop (i + 1) l, List.map_append, List.sum_append]
    omega
   have htk : l.take (i + 1) = l.take i ++ [l[i]] := by rw [List.take_add_one, List.getElem?_eq_getElem hi]; rfl
   rw [htk, List.map_append, List.sum_append] at hle ⊢
   simp only [List.map_cons, List.map_nil, List.sum_cons, List.sum_nil, Nat.add_zero] at hle ⊢
   have hb : (yR (l.getD i eB)).length = l[i].size := by rw [za hi, q7K]
   constructor
   ·conv => lhs; rw [q8O]
    simp only [dYT (show (i : Int) < (l.length : Int) by omega), dYT (show (0 : Int) <= (i : Int) by omega), Bool.and_self, cT, Int.toNat_natCast, qJ (show (acc.length + (yR (l.getD i eB)).length) * 1 <= 140737488355328 by omega), show w64 ((i : Int) + 1) = ((i + 1 : Nat) : Int) from qA (by omega)]
   ·rw [List.length_append, hb]; omega)
  (fun acc hI => by
   show q4n acc l (l.length : Int) (l.length : Int) = _
   rw [q8O]
   simp only [Int.lt_irrefl, decide_false, cF]
   rfl) _ (by simpa using hh)
 rw [this, qdz]
 rfl
theorem q2P (l : List BA) (h : wB l <= 100000000) : q0b l = some (arrB l, ()) := qae l (by omega)
theorem qa5 (l : List BA) (h : wB l <= 10000000000000) : q1U l = some (arrB l, ()) := by
 have hl : l.length <= 10000000000000 := q0p h
 have hs : (l.map ByteArray.size).sum <= 10000000000000 := by unfold wB wl at h; omega
 rw [qgM, jm _ (by omega) (by omega)]
 have e1 : (q1f : BA).size = 1 := rfl
 have e2 : (qB : BA).size = 2 := rfl
 have hd := q0n (l.length : Int) (by omega) (by omega)
 simp only [oB, e1, e2, ByteArray.size_append, yJ (show 1 + (decB (l.length : Int)).size <= 9223372036854775807 by omega), yJ (show 1 + (decB (l.length : Int)).size + 2 <= 9223372036854775807 by omega), cT]
 have hh : (yR ((q1f ++ decB (l.length : Int)) ++ qB)).length <= 30 := by rw [q7K]; simp only [ByteArray.size_append, e1, e2]; omega
 have := wW (fun acc i => q4h l acc i) l eB (fun a x => a ++ yR x) (fun acc => some (q4Y acc, ())) (fun acc i => acc.length <= 30 + ((l.take i).map ByteArray.size).sum)
  (fun acc i hi hI => by
   have hle : ((l.take (i + 1)).map ByteArray.size).sum <= (l.map ByteArray.size).sum := by
    conv => rhs; rw [<- List.take_append_drop (i + 1) l, List.map_append, List.sum_append]
    omega
   have htk : l.take (i + 1) = l.take i ++ [l[i]] := by rw [List.take_add_one, List.getElem?_eq_getElem hi]; rfl
   rw [htk, List.map_append, List.sum_append] at hle ⊢
   simp only [List.map_cons, List.map_nil, List.sum_cons, List.sum_nil, Nat.add_zero] at hle ⊢
   have hb : (yR (l.getD i eB)).length = l[i].size := by rw [za hi, q7K]
   constructor
   ·conv => lhs; rw [q98]
    simp only [dYT (show (i : Int) < (l.length : Int) by omega), dYT (show (0 : Int) <= (i : Int) by omega), Bool.and_self, cT, Int.toNat_natCast, qJ (show (acc.length + (yR (l.getD i eB)).length) * 1 <= 140737488355328 by omega), show w64 ((i : Int) + 1) = ((i + 1 : Nat) : Int) from qA (by omega)]
   ·rw [List.length_append, hb]; omega)
  (fun acc hI => by
   show q4h l acc (l.length : Int) = _
   rw [q98]
   simp only [Int.lt_irrefl, decide_false, cF]
   rfl) _ (by simpa using hh)
 rw [this, qdz]
 rfl
theorem qaY (l : List BA) (h : wB l <= 100000000) : q1U l = some (arrB l, ()) := qa5 l (by omega)
theorem q4r (l : List BA) (hl : l.length <= 100000000) (hs : ∀ s ∈ l, s.size <= 100000000) : q19 l = some (l.map zO, ()) := by
 rw [qgA]
 have := wW (fun acc i => q4t acc l (l.length : Int) i) l eB (fun a x => a ++ [zO x]) (fun acc => some (acc, ())) (fun acc i => acc.length = i)
  (fun acc i hi hI => by
   constructor
   ·conv => lhs; rw [q8C]
    simp only [dYT (show (i : Int) < (l.length : Int) by omega), dYT (show (0 : Int) <= (i : Int) by omega), Bool.and_self, cT, Int.toNat_natCast, qJ (show (acc.length + 1) * 16 <= 140737488355328 by omega), show w64 ((i : Int) + 1) = ((i + 1 : Nat) : Int) from qA (by omega), q2w (l.getD i eB) (by have := hs _ (yg (d := eB) hi); omega), oB]
   ·rw [List.length_append, hI]; rfl)
  (fun acc hI => by
   show q4t acc l (l.length : Int) (l.length : Int) = _
   rw [q8C]
   simp only [Int.lt_irrefl, decide_false, cF]) [] rfl
 rw [this, q33]
 rfl
theorem q8r (l : List BA) (h : wB l <= 2097152) : wB (l.map zO) <= 100000000 := by
 have hl : l.length <= 2097152 := q0p h
 have key : ∀ r : List BA, (∀ s ∈ r, s.size <= 2097152) -> ((r.map zO).map ByteArray.size).sum <= (r.map ByteArray.size).sum + 30 * r.length := by
  intro r
  induction r with
  | nil => intro _; simp
  | cons x r ih =>
   intro hr
   have h1 := q5h x (by have := hr x (List.mem_cons_self ..); omega)
   have h2 := ih fun s hs => hr s (List.mem_cons_of_mem _ hs)
   simp only [List.map_cons, List.sum_cons, List.length_cons]
   omega
 have := key l fun s hs => q2t h hs
 unfold wB wl at h ⊢
 rw [List.length_map]
 omega
theorem q2C (l : List BA) (h : wB l <= 2097152) : jE l = some (arrB (l.map zO), ()) := by
 have hl : l.length <= 2097152 := q0p h
 have hs : ∀ s ∈ l, s.size <= 2097152 := fun s hs => q2t h hs
 rw [qdh]
 have := wW (fun acc i => q2B l acc i) l eB (fun a x => a ++ [zO x]) (fun acc => (q1U acc).bind fun r5 => some (r5.1, ())) (fun acc i => acc.length = i)
  (fun acc i hi hI => by
   constructor
   ·conv => lhs; rw [q6X]
    simp only [dYT (show (i : Int) < (l.length : Int) by omega), dYT (show (0 : Int) <= (i : Int) by omega), Bool.and_self, cT, Int.toNat_natCast, qJ (show (acc.length + 1) * 16 <= 140737488355328 by omega), show w64 ((i : Int) + 1) = ((i + 1 : Nat) : Int) from qA (by omega), q2k (l.getD i eB) (by have := hs _ (yg (d := eB) hi); omega), oB]
   ·rw [List.length_append, hI]; rfl)
  (fun acc hI => by
   show q2B l acc (l.length : Int) = _
   rw [q6X]
   simp only [Int.lt_irrefl, decide_false, cF]) [] rfl
 rw [this, q33, List.nil_append, qaY _ (q8r l h)]
 rfl
theorem q9w (v : DV) (h : v.2.2.2.length <= 100000000) : q6E v = some (v, ()) := by
 rw [qdH]
 simp only [qJ (show (0 + v.2.2.2.length) * 16 <= 140737488355328 by omega), cT, List.nil_append]
theorem q6q (v : DV) (h : v.2.2.2.length <= 100000000) : q3v v = some (v, ()) := by
 rw [qe1]
 simp only [qJ (show (0 + v.2.2.2.length) * 16 <= 140737488355328 by omega), cT, List.nil_append]
structure Bd (t : List DE) : Prop where
 len : t.length <= 4194304
 its : ∀ e ∈ t, e.2.2.2.2.length <= 4194304
 szs : ∀ e ∈ t, e.1.size <= 4194304 /\ e.2.2.2.1.size <= 4194304 /\ ∀ s ∈ e.2.2.2.2, s.size <= 4194304
abbrev dflt : DE := (eB, (0, (0, (eB, []))))
theorem qcL {α : Type} (l acc : List α) : l.foldl (fun a x => a ++ [x]) acc = acc ++ l := by
 have := q33 (fun x : α => x) l acc
 simpa using this
theorem q1b (t : List DE) (h : Bd t) : zi t = some (t, ()) := by
 have hl := h.len
 rw [qcy]
 have := wW (fun acc i => q1T acc t (t.length : Int) i) t dflt (fun a x => a ++ [x]) (fun acc => some (acc, ())) (fun acc i => acc.length = i)
  (fun acc i hi hI => by
   constructor
   ·conv => lhs; rw [q6n]
    have hm := h.its _ (yg (d := dflt) hi)
    simp only [dYT (show (i : Int) < (t.length : Int) by omega), dYT (show (0 : Int) <= (i : Int) by omega), Bool.and_self, cT, Int.toNat_natCast, qJ (show (acc.length + 1) * 72 <= 140737488355328 by omega), show w64 ((i : Int) + 1) = ((i + 1 : Nat) : Int) from qA (by omega), q9w (t.getD i dflt).2 (by omega), oB]
   ·rw [List.length_append, hI]; rfl)
  (fun acc hI => by
   show q1T acc t (t.length : Int) (t.length : Int) = _
   rw [q6n]
   simp only [Int.lt_irrefl, decide_false, cF]) [] rfl
 rw [this, qcL]
 rfl
theorem yC (t : List DE) (h : Bd t) : qo t = some (t, ()) := by
 have hl := h.len
 rw [qap]
 have := wW (fun acc i => q0W t acc i) t dflt (fun a x => a ++ [x]) (fun acc => some (acc, ())) (fun acc i => acc.length = i)
  (fun acc i hi hI => by
   constructor
   ·conv => lhs; rw [q5p]
    have hm := h.its _ (yg (d := dflt) hi)
    simp only [dYT (show (i : Int) < (t.length : Int) by omega), dYT (show (0 : Int) <= (i : Int) by omega), Bool.and_self, cT, Int.toNat_natCast, qJ (show (acc.length + 1) * 72 <= 140737488355328 by omega), show w64 ((i : Int) + 1) = ((i + 1 : Nat) : Int) from qA (by omega), q6q (t.getD i dflt).2 (by omega), oB]
   ·rw [List.length_append, hI]; rfl)
  (fun acc hI => by
   show q0W t acc (t.length : Int) = _
   rw [q5p]
   simp only [Int.lt_irrefl, decide_false, cF]) [] rfl
 rw [this, qcL]
 rfl
end Go.Den.S
