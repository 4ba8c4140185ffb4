/- PxB: equations of the functions of this seat as the executor tells them, or plain facts about them. Conditions: none here. -/
import Derived.Test.YthfdlonnbkffnaaGreatDoorPxA
set_option linter.all false
namespace Go.Den.S
open Go Go.Den
abbrev DE : Type := BA × Int × Int × BA × List BA
abbrev DV : Type := Int × Int × BA × List BA
def wB (l : List BA) : Nat := wl ByteArray.size l
theorem qlG (l : List BA) : (l.flatMap yJ).length = (l.map ByteArray.size).sum := by
 induction l with
 | nil => rfl
 | cons x r ih => rw [List.flatMap_cons, List.length_append, ih, q83]; simp
def arrB (l : List BA) : BA := qco (yJ ((q0T ++ decB (l.length : Int)) ++ qy) ++ l.flatMap yJ)
theorem qaQ (l : List BA) (h : wB l <= 10000000000000) : jJ l = some (arrB l, ()) := by
 have hl : l.length <= 10000000000000 := wN h
 have hs : (l.map ByteArray.size).sum <= 10000000000000 := by unfold wB wl at h; omega
 rw [qgR, jT _ (by omega) (by omega)]
 have e1 : (q0T : BA).size = 1 := rfl
 have e2 : (qy : BA).size = 2 := rfl
 have hd := q1N (l.length : Int) (by omega) (by omega)
 simp only [oB, e1, e2, ByteArray.size_append, yj (show 1 + (decB (l.length : Int)).size <= 9223372036854775807 by omega), yj (show 1 + (decB (l.length : Int)).size + 2 <= 9223372036854775807 by omega), cT]
 have hh : (yJ ((q0T ++ decB (l.length : Int)) ++ qy)).length <= 30 := by rw [q83]; simp only [ByteArray.size_append, e1, e2]; omega
 have := wD (fun acc i => q4c acc l (l.length : Int) i) l eB (fun a x => a ++ yJ x) (fun acc => some (qco acc, ())) (fun acc i => acc.length <= 30 + ((l.take i).map ByteArray.size).sum)
  (fun acc i hi hI => by
   have hle : ((l.take (i + 1)).map ByteArray.size).sum <= (l.map ByteArray.size).sum := by
    conv => rhs; rw [<- List.take_append_drop (i + 1) l, List.map_append, List.sum_append]
    omega
   have htk : l.take (i + 1) = l.take i ++ [l[i]] := by rw [List.take_add_one, List.getElem?_eq_getElem hi]; rfl
   rw [htk, List.map_append, List.sum_append] at hle ⊢
   simp only [List.map_cons, List.map_nil, List.sum_cons, List.sum_nil, Nat.add_zero] at hle ⊢
   have hb : (yJ (l.getD i eB)).length = l[i].size := by rw [zm hi, q83]
   constructor
   ·conv => lhs; rw [q9O]
    simp only [dYT (show (i : Int) < (l.length : Int) by omega), dYT (show (0 : Int) <= (i : Int) by omega), Bool.and_self, cT, Int.toNat_natCast, yA (show (acc.length + (yJ (l.getD i eB)).length) * 1 <= 140737488355328 by omega), show w64 ((i : Int) + 1) = ((i + 1 : Nat) : Int) from qz (by omega)]
   ·rw [List.length_append, hb]; omega)
  (fun acc hI => by
   show q4c acc l (l.length : Int) (l.length : Int) = _
   rw [q9O]
   simp only [Int.lt_irrefl, decide_false, cF]
   rfl) _ (by simpa using hh)
 rw [this, qdf]
 rfl
theorem q2A (l : List BA) (h : wB l <= 100000000) : jJ l = some (arrB l, ()) := qaQ l (by omega)
theorem qaO (l : List BA) (h : wB l <= 10000000000000) : q1G l = some (arrB l, ()) := by
 have hl : l.length <= 10000000000000 := wN h
 have hs : (l.map ByteArray.size).sum <= 10000000000000 := by unfold wB wl at h; omega
 rw [qgo, q1j _ (by omega) (by omega)]
 have e1 : (q0T : BA).size = 1 := rfl
 have e2 : (qy : BA).size = 2 := rfl
 have hd := q1N (l.length : Int) (by omega) (by omega)
 simp only [oB, e1, e2, ByteArray.size_append, yj (show 1 + (decB (l.length : Int)).size <= 9223372036854775807 by omega), yj (show 1 + (decB (l.length : Int)).size + 2 <= 9223372036854775807 by omega), cT]
 have hh : (yJ ((q0T ++ decB (l.length : Int)) ++ qy)).length <= 30 := by rw [q83]; simp only [ByteArray.size_append, e1, e2]; omega
 have := wD (fun acc i => q49 l acc i) l eB (fun a x => a ++ yJ x) (fun acc => some (qco acc, ())) (fun acc i => acc.length <= 30 + ((l.take i).map ByteArray.size).sum)
  (fun acc i hi hI => by
   have hle : ((l.take (i + 1)).map ByteArray.size).sum <= (l.map ByteArray.size).sum := by
    conv => rhs; rw [<- List.take_append_drop (i + 1) l, List.map_append, List.sum_append]
    omega
   have htk : l.take (i + 1) = l.take i ++ [l[i]] := by rw [List.take_add_one, List.getElem?_eq_getElem hi]; rfl
   rw [htk, List.map_append, List.sum_append] at hle ⊢
   simp only [List.map_cons, List.map_nil, List.sum_cons, List.sum_nil, Nat.add_zero] at hle ⊢
   have hb : (yJ (l.getD i eB)).length = l[i].size := by rw [zm hi, q83]
   constructor
   ·conv => lhs; rw [q9J]
    simp only [dYT (show (i : Int) < (l.length : Int) by omega), dYT (show (0 : Int) <= (i : Int) by omega), Bool.and_self, cT, Int.toNat_natCast, yA (show (acc.length + (yJ (l.getD i eB)).length) * 1 <= 140737488355328 by omega), show w64 ((i : Int) + 1) = ((i + 1 : Nat) : Int) from qz (by omega)]
   ·rw [List.length_append, hb]; omega)
  (fun acc hI => by
   show q49 l acc (l.length : Int) = _
   rw [q9J]
   simp only [Int.lt_irrefl, decide_false, cF]
   rfl) _ (by simpa using hh)
 rw [this, qdf]
 rfl
theorem qbB (l : List BA) (h : wB l <= 100000000) : q1G l = some (arrB l, ()) := qaO l (by omega)
theorem q4e (l : List BA) (hl : l.length <= 100000000) (hs : ∀ s ∈ l, s.size <= 100000000) : q0G l = some (l.map zG, ()) := by
 rw [qgI]
 have := wD (fun acc i => q48 acc l (l.length : Int) i) l eB (fun a x => a ++ [zG x]) (fun acc => some (acc, ())) (fun acc i => acc.length = i)
  (fun acc i hi hI => by
   constructor
   ·conv => lhs; rw [q9n]
    simp only [dYT (show (i : Int) < (l.length : Int) by omega), dYT (show (0 : Int) <= (i : Int) by omega), Bool.and_self, cT, Int.toNat_natCast, yA (show (acc.length + 1) * 16 <= 140737488355328 by omega), show w64 ((i : Int) + 1) = ((i + 1 : Nat) : Int) from qz (by omega), q2p (l.getD i eB) (by have := hs _ (yg (d := eB) hi); omega), oB]
   ·rw [List.length_append, hI]; rfl)
  (fun acc hI => by
   show q48 acc l (l.length : Int) (l.length : Int) = _
   rw [q9n]
   simp only [Int.lt_irrefl, decide_false, cF]) [] rfl
 rw [this, q2T]
 rfl
theorem q9e (l : List BA) (h : wB l <= 2097152) : wB (l.map zG) <= 100000000 := by
 have hl : l.length <= 2097152 := wN h
 have key : ∀ r : List BA, (∀ s ∈ r, s.size <= 2097152) -> ((r.map zG).map ByteArray.size).sum <= (r.map ByteArray.size).sum + 30 * r.length := by
  intro r
  induction r with
  | nil => intro _; simp
  | cons x r ih =>
   intro hr
   have h1 := q57 x (by have := hr x (List.mem_cons_self ..); omega)
   have h2 := ih fun s hs => hr s (List.mem_cons_of_mem _ hs)
   simp only [List.map_cons, List.sum_cons, List.length_cons]
   omega
 have := key l fun s hs => jA h hs
 unfold wB wl at h ⊢
 rw [List.length_map]
 omega
theorem q27 (l : List BA) (h : wB l <= 2097152) : j4 l = some (arrB (l.map zG), ()) := by
 have hl : l.length <= 2097152 := wN h
 have hs : ∀ s ∈ l, s.size <= 2097152 := fun s hs => jA h hs
 rw [qdh]
 have := wD (fun acc i => q26 l acc i) l eB (fun a x => a ++ [zG x]) (fun acc => (q1G acc).bind fun r5 => some (r5.1, ())) (fun acc i => acc.length = i)
  (fun acc i hi hI => by
   constructor
   ·conv => lhs; rw [q79]
    simp only [dYT (show (i : Int) < (l.length : Int) by omega), dYT (show (0 : Int) <= (i : Int) by omega), Bool.and_self, cT, Int.toNat_natCast, yA (show (acc.length + 1) * 16 <= 140737488355328 by omega), show w64 ((i : Int) + 1) = ((i + 1 : Nat) : Int) from qz (by omega), q2g (l.getD i eB) (by have := hs _ (yg (d := eB) hi); omega), oB]
   ·rw [List.length_append, hI]; rfl)
  (fun acc hI => by
   show q26 l acc (l.length : Int) = _
   rw [q79]
   simp only [Int.lt_irrefl, decide_false, cF]) [] rfl
 rw [this, q2T, List.nil_append, qbB _ (q9e l h)]
 rfl
theorem q9Y (v : DV) (h : v.2.2.2.length <= 100000000) : q6j v = some (v, ()) := by
 rw [qea]
 simp only [yA (show (0 + v.2.2.2.length) * 16 <= 140737488355328 by omega), cT, List.nil_append]
theorem q6M (v : DV) (h : v.2.2.2.length <= 100000000) : q3f v = some (v, ()) := by
 rw [qew]
 simp only [yA (show (0 + v.2.2.2.length) * 16 <= 140737488355328 by omega), cT, List.nil_append]
structure Bd (t : List DE) : Prop where
 len : t.length <= 4194304
 its : ∀ e ∈ t, e.2.2.2.2.length <= 4194304
 szs : ∀ e ∈ t, e.1.size <= 4194304 /\ e.2.2.2.1.size <= 4194304 /\ ∀ s ∈ e.2.2.2.2, s.size <= 4194304
abbrev dflt : DE := (eB, (0, (0, (eB, []))))
theorem qcX {α : Type} (l acc : List α) : l.foldl (fun a x => a ++ [x]) acc = acc ++ l := by
 have := q2T (fun x : α => x) l acc
 simpa using this
theorem q0P (t : List DE) (h : Bd t) : wK t = some (t, ()) := by
 have hl := h.len
 rw [qcQ]
 have := wD (fun acc i => q1t acc t (t.length : Int) i) t dflt (fun a x => a ++ [x]) (fun acc => some (acc, ())) (fun acc i => acc.length = i)
  (fun acc i hi hI => by
   constructor
   ·conv => lhs; rw [q6C]
    have hm := h.its _ (yg (d := dflt) hi)
    simp only [dYT (show (i : Int) < (t.length : Int) by omega), dYT (show (0 : Int) <= (i : Int) by omega), Bool.and_self, cT, Int.toNat_natCast, yA (show (acc.length + 1) * 72 <= 140737488355328 by omega), show w64 ((i : Int) + 1) = ((i + 1 : Nat) : Int) from qz (by omega), q9Y (t.getD i dflt).2 (by omega), oB]
   ·rw [List.length_append, hI]; rfl)
  (fun acc hI => by
   show q1t acc t (t.length : Int) (t.length : Int) = _
   rw [q6C]
   simp only [Int.lt_irrefl, decide_false, cF]) [] rfl
 rw [this, qcX]
 rfl
theorem qW (t : List DE) (h : Bd t) : ql t = some (t, ()) := by
 have hl := h.len
 rw [qbb]
 have := wD (fun acc i => q0y t acc i) t dflt (fun a x => a ++ [x]) (fun acc => some (acc, ())) (fun acc i => acc.length = i)
  (fun acc i hi hI => by
   constructor
   ·conv => lhs; rw [q5q]
    have hm := h.its _ (yg (d := dflt) hi)
    simp only [dYT (show (i : Int) < (t.length : Int) by omega), dYT (show (0 : Int) <= (i : Int) by omega), Bool.and_self, cT, Int.toNat_natCast, yA (show (acc.length + 1) * 72 <= 140737488355328 by omega), show w64 ((i : Int) + 1) = ((i + 1 : Nat) : Int) from qz (by omega), q6M (t.getD i dflt).2 (by omega), oB]
   ·rw [List.length_append, hI]; rfl)
  (fun acc hI => by
   show q0y t acc (t.length : Int) = _
   rw [q5q]
   simp only [Int.lt_irrefl, decide_false, cF]) [] rfl
 rw [this, qcX]
 rfl
end Go.Den.S
