/- PxB: equations of the functions of this seat as the executor tells them, or plain facts about them. Conditions: none here. -/
import Derived.Test.YtbgaejnkjmjkhaaDoorPxA
set_option linter.all false
namespace Go.Den.S
open Go Go.Den
abbrev DE : Type := BA × Int × Int × BA × List BA
abbrev DV : Type := Int × Int × BA × List BA
def wB (l : List BA) : Nat := wl ByteArray.size l
def arrB (l : List BA) : BA := q7G (yg ((zT ++ decB (l.length : Int)) ++ qm) ++ l.flatMap yg)
theorem q8q (l : List BA) (h : wB l <= 10000000000000) : q1m l = some (arrB l, ()) := by
 have hl : l.length <= 10000000000000 := q5Z h
 have hs : (l.map ByteArray.size).sum <= 10000000000000 := by unfold wB wl at h; omega
 rw [q91, q2f _ (by omega) (by omega)]
 have e1 : (zT : BA).size = 1 := rfl
 have e2 : (qm : BA).size = 2 := rfl
 have hd := q0l (l.length : Int) (by omega) (by omega)
 simp only [oB, e1, e2, ByteArray.size_append, yx (show 1 + (decB (l.length : Int)).size <= 9223372036854775807 by omega), yx (show 1 + (decB (l.length : Int)).size + 2 <= 9223372036854775807 by omega), cT]
 have hh : (yg ((zT ++ decB (l.length : Int)) ++ qm)).length <= 30 := by rw [q5T]; simp only [ByteArray.size_append, e1, e2]; omega
 have := q0j (fun acc i => q0I acc l (l.length : Int) i) l eB (fun a x => a ++ yg x) (fun acc => some (q7G acc, ())) (fun acc i => acc.length <= 30 + ((l.take i).map ByteArray.size).sum)
  (fun acc i hi hI => by
   have hle : ((l.take (i + 1)).map ByteArray.size).sum <= (l.map ByteArray.size).sum := by
    conv => rhs; rw [<- List.take_append_drop (i + 1) l, List.map_append, List.sum_append]
    omega
   have htk : l.take (i + 1) = l.take i ++ [l[i]] := by rw [List.take_add_one, List.getElem?_eq_getElem hi]; rfl
   rw [htk, List.map_append, List.sum_append] at hle ⊢
   simp only [List.map_cons, List.map_nil, List.sum_cons, List.sum_nil, Nat.add_zero] at hle ⊢
   have hb : (yg (l.getD i eB)).length = l[i].size := by rw [yU hi, q5T]
   constructor
   ·conv => lhs; rw [q3Z]
    simp only [dYT (show (i : Int) < (l.length : Int) by omega), dYT (show (0 : Int) <= (i : Int) by omega), Bool.and_self, cT, Int.toNat_natCast, zh (show (acc.length + (yg (l.getD i eB)).length) * 1 <= 140737488355328 by omega), show w64 ((i : Int) + 1) = ((i + 1 : Nat) : Int) from qM (by omega)]
   ·rw [List.length_append, hb]; omega)
  (fun acc hI => by
   show q0I acc l (l.length : Int) (l.length : Int) = _
   rw [q3Z]
   simp only [Int.lt_irrefl, decide_false, cF]
   rfl) _ (by simpa using hh)
 rw [this, q73]
 rfl
theorem q3g (l : List BA) (h : wB l <= 100000000) : q1m l = some (arrB l, ()) := q8q l (by omega)
theorem q8f (l : List BA) (h : wB l <= 10000000000000) : q1s l = some (arrB l, ()) := by
 have hl : l.length <= 10000000000000 := q5Z h
 have hs : (l.map ByteArray.size).sum <= 10000000000000 := by unfold wB wl at h; omega
 rw [q9f, q0X _ (by omega) (by omega)]
 have e1 : (zT : BA).size = 1 := rfl
 have e2 : (qm : BA).size = 2 := rfl
 have hd := q0l (l.length : Int) (by omega) (by omega)
 simp only [oB, e1, e2, ByteArray.size_append, yx (show 1 + (decB (l.length : Int)).size <= 9223372036854775807 by omega), yx (show 1 + (decB (l.length : Int)).size + 2 <= 9223372036854775807 by omega), cT]
 have hh : (yg ((zT ++ decB (l.length : Int)) ++ qm)).length <= 30 := by rw [q5T]; simp only [ByteArray.size_append, e1, e2]; omega
 have := q0j (fun acc i => q0J l acc i) l eB (fun a x => a ++ yg x) (fun acc => some (q7G acc, ())) (fun acc i => acc.length <= 30 + ((l.take i).map ByteArray.size).sum)
  (fun acc i hi hI => by
   have hle : ((l.take (i + 1)).map ByteArray.size).sum <= (l.map ByteArray.size).sum := by
    conv => rhs; rw [<- List.take_append_drop (i + 1) l, List.map_append, List.sum_append]
    omega
   have htk : l.take (i + 1) = l.take i ++ [l[i]] := by rw [List.take_add_one, List.getElem?_eq_getElem hi]; rfl
   rw [htk, List.map_append, List.sum_append] at hle ⊢
   simp only [List.map_cons, List.map_nil, List.sum_cons, List.sum_nil, Nat.add_zero] at hle ⊢
   have hb : (yg (l.getD i eB)).length = l[i].size := by rw [yU hi, q5T]
   constructor
   ·conv => lhs; rw [q3X]
    simp only [dYT (show (i : Int) < (l.length : Int) by omega), dYT (show (0 : Int) <= (i : Int) by omega), Bool.and_self, cT, Int.toNat_natCast, zh (show (acc.length + (yg (l.getD i eB)).length) * 1 <= 140737488355328 by omega), show w64 ((i : Int) + 1) = ((i + 1 : Nat) : Int) from qM (by omega)]
   ·rw [List.length_append, hb]; omega)
  (fun acc hI => by
   show q0J l acc (l.length : Int) = _
   rw [q3X]
   simp only [Int.lt_irrefl, decide_false, cF]
   rfl) _ (by simpa using hh)
 rw [this, q73]
 rfl
theorem q3i (l : List BA) (h : wB l <= 100000000) : q1s l = some (arrB l, ()) := q8f l (by omega)
theorem q3j (l : List BA) (hl : l.length <= 100000000) (hs : ∀ s ∈ l, s.size <= 100000000) : q0r l = some (l.map yj, ()) := by
 rw [q92]
 have := q0j (fun acc i => q0S acc l (l.length : Int) i) l eB (fun a x => a ++ [yj x]) (fun acc => some (acc, ())) (fun acc i => acc.length = i)
  (fun acc i hi hI => by
   constructor
   ·conv => lhs; rw [q3W]
    simp only [dYT (show (i : Int) < (l.length : Int) by omega), dYT (show (0 : Int) <= (i : Int) by omega), Bool.and_self, cT, Int.toNat_natCast, zh (show (acc.length + 1) * 16 <= 140737488355328 by omega), show w64 ((i : Int) + 1) = ((i + 1 : Nat) : Int) from qM (by omega), q5I (l.getD i eB) (by have := hs _ (zK (d := eB) hi); omega), oB]
   ·rw [List.length_append, hI]; rfl)
  (fun acc hI => by
   show q0S acc l (l.length : Int) (l.length : Int) = _
   rw [q3W]
   simp only [Int.lt_irrefl, decide_false, cF]) [] rfl
 rw [this, q36]
 rfl
theorem q3J (l : List BA) (h : wB l <= 2097152) : wB (l.map yj) <= 100000000 := by
 have hl : l.length <= 2097152 := q5Z h
 have key : ∀ r : List BA, (∀ s ∈ r, s.size <= 2097152) -> ((r.map yj).map ByteArray.size).sum <= (r.map ByteArray.size).sum + 30 * r.length := by
  intro r
  induction r with
  | nil => intro _; simp
  | cons x r ih =>
   intro hr
   have h1 := qc9 x (by have := hr x (List.mem_cons_self ..); omega)
   have h2 := ih fun s hs => hr s (List.mem_cons_of_mem _ hs)
   simp only [List.map_cons, List.sum_cons, List.length_cons]
   omega
 have := key l fun s hs => q9s h hs
 unfold wB wl at h ⊢
 rw [List.length_map]
 omega
theorem q4d (v : DV) (h : v.2.2.2.length <= 100000000) : q2i v = some (v, ()) := by
 rw [q7u]
 simp only [zh (show (0 + v.2.2.2.length) * 16 <= 140737488355328 by omega), cT, List.nil_append]
structure Bd (t : List DE) : Prop where
 len : t.length <= 4194304
 its : ∀ e ∈ t, e.2.2.2.2.length <= 4194304
 szs : ∀ e ∈ t, e.1.size <= 4194304 /\ e.2.2.2.1.size <= 4194304 /\ ∀ s ∈ e.2.2.2.2, s.size <= 4194304
abbrev dflt : DE := (eB, (0, (0, (eB, []))))
theorem qaX {α : Type} (l acc : List α) : l.foldl (fun a x => a ++ [x]) acc = acc ++ l := by
 have := q36 (fun x : α => x) l acc
 simpa using this
theorem q1A (t : List DE) (h : Bd t) : wR t = some (t, ()) := by
 have hl := h.len
 rw [q6E]
 have := q0j (fun acc i => je acc t (t.length : Int) i) t dflt (fun a x => a ++ [x]) (fun acc => some (acc, ())) (fun acc i => acc.length = i)
  (fun acc i hi hI => by
   constructor
   ·conv => lhs; rw [q26]
    have hm := h.its _ (zK (d := dflt) hi)
    simp only [dYT (show (i : Int) < (t.length : Int) by omega), dYT (show (0 : Int) <= (i : Int) by omega), Bool.and_self, cT, Int.toNat_natCast, zh (show (acc.length + 1) * 72 <= 140737488355328 by omega), show w64 ((i : Int) + 1) = ((i + 1 : Nat) : Int) from qM (by omega), q4d (t.getD i dflt).2 (by omega), oB]
   ·rw [List.length_append, hI]; rfl)
  (fun acc hI => by
   show je acc t (t.length : Int) (t.length : Int) = _
   rw [q26]
   simp only [Int.lt_irrefl, decide_false, cF]) [] rfl
 rw [this, qaX]
 rfl
end Go.Den.S
