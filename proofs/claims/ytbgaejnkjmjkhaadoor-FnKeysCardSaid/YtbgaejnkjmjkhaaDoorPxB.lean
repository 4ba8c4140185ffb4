/- PxB: equations of the functions of this seat as the executor tells them, or plain facts about them. Conditions: none here. -/
import Derived.Test.YtbgaejnkjmjkhaaDoorPxA
set_option linter.all false
namespace Go.Den.S
open Go Go.Den
abbrev DE : Type := BA × Int × Int × BA × List BA
abbrev DV : Type := Int × Int × BA × List BA
def wB (l : List BA) : Nat := wl ByteArray.size l
def arrB (l : List BA) : BA := q6d (qV ((zm ++ decB (l.length : Int)) ++ qh) ++ l.flatMap qV)
theorem q6M (l : List BA) (h : wB l <= 10000000000000) : q1m l = some (arrB l, ()) := by
 have hl : l.length <= 10000000000000 := q5V h
 have hs : (l.map ByteArray.size).sum <= 10000000000000 := by unfold wB wl at h; omega
 rw [q7z, q0d _ (by omega) (by omega)]
 have e1 : (zm : BA).size = 1 := rfl
 have e2 : (qh : BA).size = 2 := rfl
 have hd := jJ (l.length : Int) (by omega) (by omega)
 simp only [oB, e1, e2, ByteArray.size_append, qN (show 1 + (decB (l.length : Int)).size <= 9223372036854775807 by omega), qN (show 1 + (decB (l.length : Int)).size + 2 <= 9223372036854775807 by omega), cT]
 have hh : (qV ((zm ++ decB (l.length : Int)) ++ qh)).length <= 30 := by rw [q45]; simp only [ByteArray.size_append, e1, e2]; omega
 have := q11 (fun acc i => q05 acc l (l.length : Int) i) l eB (fun a x => a ++ qV x) (fun acc => some (q6d acc, ())) (fun acc i => acc.length <= 30 + ((l.take i).map ByteArray.size).sum)
  (fun acc i hi hI => by
   have hle : ((l.take (i + 1)).map ByteArray.size).sum <= (l.map ByteArray.size).sum := by
    conv => rhs; rw [<- List.take_append_drop (i + 1) l, List.map_append, List.sum_append]
    omega
   have htk : l.take (i + 1) = l.take i ++ [l[i]] := by rw [List.take_add_one, List.getElem?_eq_getElem hi]; rfl
   rw [htk, List.map_append, List.sum_append] at hle ⊢
   simp only [List.map_cons, List.map_nil, List.sum_cons, List.sum_nil, Nat.add_zero] at hle ⊢
   have hb : (qV (l.getD i eB)).length = l[i].size := by rw [wm hi, q45]
   constructor
   ·conv => lhs; rw [q2P]
    simp only [dYT (show (i : Int) < (l.length : Int) by omega), dYT (show (0 : Int) <= (i : Int) by omega), Bool.and_self, cT, Int.toNat_natCast, wN (show (acc.length + (qV (l.getD i eB)).length) * 1 <= 140737488355328 by omega), show w64 ((i : Int) + 1) = ((i + 1 : Nat) : Int) from qR (by omega)]
   ·rw [List.length_append, hb]; omega)
  (fun acc hI => by
   show q05 acc l (l.length : Int) (l.length : Int) = _
   rw [q2P]
   simp only [Int.lt_irrefl, decide_false, cF]
   rfl) _ (by simpa using hh)
 rw [this, q5w]
 rfl
theorem q7s (l : List BA) (h : wB l <= 100000000) : q1m l = some (arrB l, ()) := q6M l (by omega)
theorem q6Z (l : List BA) (h : wB l <= 10000000000000) : q1l l = some (arrB l, ()) := by
 have hl : l.length <= 10000000000000 := q5V h
 have hs : (l.map ByteArray.size).sum <= 10000000000000 := by unfold wB wl at h; omega
 rw [q7q, q0e _ (by omega) (by omega)]
 have e1 : (zm : BA).size = 1 := rfl
 have e2 : (qh : BA).size = 2 := rfl
 have hd := jJ (l.length : Int) (by omega) (by omega)
 simp only [oB, e1, e2, ByteArray.size_append, qN (show 1 + (decB (l.length : Int)).size <= 9223372036854775807 by omega), qN (show 1 + (decB (l.length : Int)).size + 2 <= 9223372036854775807 by omega), cT]
 have hh : (qV ((zm ++ decB (l.length : Int)) ++ qh)).length <= 30 := by rw [q45]; simp only [ByteArray.size_append, e1, e2]; omega
 have := q11 (fun acc i => jZ l acc i) l eB (fun a x => a ++ qV x) (fun acc => some (q6d acc, ())) (fun acc i => acc.length <= 30 + ((l.take i).map ByteArray.size).sum)
  (fun acc i hi hI => by
   have hle : ((l.take (i + 1)).map ByteArray.size).sum <= (l.map ByteArray.size).sum := by
    conv => rhs; rw [<- List.take_append_drop (i + 1) l, List.map_append, List.sum_append]
    omega
   have htk : l.take (i + 1) = l.take i ++ [l[i]] := by rw [List.take_add_one, List.getElem?_eq_getElem hi]; rfl
   rw [htk, List.map_append, List.sum_append] at hle ⊢
   simp only [List.map_cons, List.map_nil, List.sum_cons, List.sum_nil, Nat.add_zero] at hle ⊢
   have hb : (qV (l.getD i eB)).length = l[i].size := by rw [wm hi, q45]
   constructor
   ·conv => lhs; rw [q2K]
    simp only [dYT (show (i : Int) < (l.length : Int) by omega), dYT (show (0 : Int) <= (i : Int) by omega), Bool.and_self, cT, Int.toNat_natCast, wN (show (acc.length + (qV (l.getD i eB)).length) * 1 <= 140737488355328 by omega), show w64 ((i : Int) + 1) = ((i + 1 : Nat) : Int) from qR (by omega)]
   ·rw [List.length_append, hb]; omega)
  (fun acc hI => by
   show jZ l acc (l.length : Int) = _
   rw [q2K]
   simp only [Int.lt_irrefl, decide_false, cF]
   rfl) _ (by simpa using hh)
 rw [this, q5w]
 rfl
theorem q7u (l : List BA) (h : wB l <= 100000000) : q1l l = some (arrB l, ()) := q6Z l (by omega)
theorem q7m (l : List BA) (hl : l.length <= 100000000) (hs : ∀ s ∈ l, s.size <= 100000000) : q1a l = some (l.map zZ, ()) := by
 rw [q7n]
 have := q11 (fun acc i => q07 acc l (l.length : Int) i) l eB (fun a x => a ++ [zZ x]) (fun acc => some (acc, ())) (fun acc i => acc.length = i)
  (fun acc i hi hI => by
   constructor
   ·conv => lhs; rw [q2M]
    simp only [dYT (show (i : Int) < (l.length : Int) by omega), dYT (show (0 : Int) <= (i : Int) by omega), Bool.and_self, cT, Int.toNat_natCast, wN (show (acc.length + 1) * 16 <= 140737488355328 by omega), show w64 ((i : Int) + 1) = ((i + 1 : Nat) : Int) from qR (by omega), q4v (l.getD i eB) (by have := hs _ (q0k (d := eB) hi); omega), oB]
   ·rw [List.length_append, hI]; rfl)
  (fun acc hI => by
   show q07 acc l (l.length : Int) (l.length : Int) = _
   rw [q2M]
   simp only [Int.lt_irrefl, decide_false, cF]) [] rfl
 rw [this, q2Y]
 rfl
theorem q9y (l : List BA) (h : wB l <= 2097152) : wB (l.map zZ) <= 100000000 := by
 have hl : l.length <= 2097152 := q5V h
 have key : ∀ r : List BA, (∀ s ∈ r, s.size <= 2097152) -> ((r.map zZ).map ByteArray.size).sum <= (r.map ByteArray.size).sum + 30 * r.length := by
  intro r
  induction r with
  | nil => intro _; simp
  | cons x r ih =>
   intro hr
   have h1 := qa6 x (by have := hr x (List.mem_cons_self ..); omega)
   have h2 := ih fun s hs => hr s (List.mem_cons_of_mem _ hs)
   simp only [List.map_cons, List.sum_cons, List.length_cons]
   omega
 have := key l fun s hs => qaM h hs
 unfold wB wl at h ⊢
 rw [List.length_map]
 omega
theorem q34 (v : DV) (h : v.2.2.2.length <= 100000000) : q1i v = some (v, ()) := by
 rw [q62]
 simp only [wN (show (0 + v.2.2.2.length) * 16 <= 140737488355328 by omega), cT, List.nil_append]
structure Bd (t : List DE) : Prop where
 len : t.length <= 4194304
 its : ∀ e ∈ t, e.2.2.2.2.length <= 4194304
 szs : ∀ e ∈ t, e.1.size <= 4194304 /\ e.2.2.2.1.size <= 4194304 /\ ∀ s ∈ e.2.2.2.2, s.size <= 4194304
abbrev dflt : DE := (eB, (0, (0, (eB, []))))
theorem q93 {α : Type} (l acc : List α) : l.foldl (fun a x => a ++ [x]) acc = acc ++ l := by
 have := q2Y (fun x : α => x) l acc
 simpa using this
theorem q0J (t : List DE) (h : Bd t) : yY t = some (t, ()) := by
 have hl := h.len
 rw [q51]
 have := q11 (fun acc i => zy acc t (t.length : Int) i) t dflt (fun a x => a ++ [x]) (fun acc => some (acc, ())) (fun acc i => acc.length = i)
  (fun acc i hi hI => by
   constructor
   ·conv => lhs; rw [q19]
    have hm := h.its _ (q0k (d := dflt) hi)
    simp only [dYT (show (i : Int) < (t.length : Int) by omega), dYT (show (0 : Int) <= (i : Int) by omega), Bool.and_self, cT, Int.toNat_natCast, wN (show (acc.length + 1) * 72 <= 140737488355328 by omega), show w64 ((i : Int) + 1) = ((i + 1 : Nat) : Int) from qR (by omega), q34 (t.getD i dflt).2 (by omega), oB]
   ·rw [List.length_append, hI]; rfl)
  (fun acc hI => by
   show zy acc t (t.length : Int) (t.length : Int) = _
   rw [q19]
   simp only [Int.lt_irrefl, decide_false, cF]) [] rfl
 rw [this, q93]
 rfl
end Go.Den.S
