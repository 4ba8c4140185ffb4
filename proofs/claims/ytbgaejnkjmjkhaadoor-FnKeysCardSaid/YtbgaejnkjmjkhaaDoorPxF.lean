/- PxF: equations of the functions of this seat as the executor tells them, or plain facts about them. Conditions: none here. -/
import Derived.Test.YtbgaejnkjmjkhaaDoorPxE
set_option linter.all false
namespace Go.Den.S
open Go Go.Den
abbrev RS : Type := List DE × BA × Bool
def isB (t : List DE) (args : List BA) (l : List BA) : Bool := tabB t && ((match args with | [] => false | a :: _ => memB (upB a) l) && q2D args)
theorem q7v (t : List DE) (args : List BA) (names : BA) (l : List BA) (h : Bd t) (hl : args.length <= 2097152) (hs : ∀ s ∈ args, s.size <= 2097152) (hf : strings_Fields names = some (l, ())) (hll : l.length <= 2097152) :
  q3F t args names = some ((bif isB t args l then (some (t, (eB, false)), true) else (none, false)), ()) := by
 rw [q7l, q30 t h]
 unfold isB
 simp only [oB, q5X args hl hs, q0J t h]
 match args, hl, hs with
 | [], _, _ =>
  rw [q71]
  cases tabB t <;> rfl
 | a :: r, hl, hs =>
  rw [j4 hf (hs a (List.mem_cons_self ..)) hll]
  simp only [oB]
  cases tabB t <;> cases memB (upB a) l <;> cases q2D (a :: r) <;> rfl
def sayB (d : DD) (r : BA) : DD := bif d.2.2 then d else (d.1, (r, d.2.2))
theorem q0l (d : DD) (r : BA) : qb d r = some ((), (sayB d r, ())) := by
 rw [q02]
 obtain ⟨t, q, b⟩ := d
 cases b <;> rfl
def badB (d : DD) (r : BA) : DD := bif d.2.2 then d else (d.1, (q3Z r, true))
theorem q2O (d : DD) (r : BA) (h : r.size <= 2097152) : qO d r = some ((), (badB d r, ())) := by
 rw [jE, q7y r h]
 obtain ⟨t, q, b⟩ := d
 cases b <;> rfl
def q2l (d : DD) (t : List DE) : RS := bif d.2.2 then (t, (d.2.1, true)) else bif tabB d.1 then (d.1, (d.2.1, true)) else (t, (q3Z q0b, true))
theorem q4J (d : DD) (t : List DE) (h : Bd t) (hd : Bd d.1) : ∃ d', qm d t = some (q2l d t, (d', ())) := by
 rw [jQ, q30 d.1 hd, q0J t h, q0J d.1 hd, q2O d q0b (by decide)]
 obtain ⟨r, q, b⟩ := d
 unfold q2l badB
 simp only [oB]
 cases b with
 | true => exact ⟨_, rfl⟩
 | false =>
  simp only [Bool.not_false, cT, cF]
  cases tabB r with
  | true => exact ⟨_, rfl⟩
  | false => exact ⟨_, rfl⟩
theorem q9v {t : List DE} {k : BA} {e : DE} (h : e ∈ lowB t k) : e ∈ t := (List.mem_filter.1 h).1
theorem q87 {t : List DE} {k : BA} {e : DE} (h : e ∈ q2o t k) : e ∈ t := (List.mem_filter.1 h).1
theorem q83 {t : List DE} {k : BA} (ha : Asc t) : (lowB t k).length + (q2o t k).length <= t.length := by
 rw [<- List.length_append, show lowB t k ++ q2o t k = yJ t k from rfl, <- jl t k ha]
 exact List.length_filter_le _ _
theorem q9f {t : List DE} {k : BA} (h : Bd t) (ha : Asc t) : Bd (yJ t k) := by
 have hm : ∀ e ∈ yJ t k, e ∈ t := fun e he => by
  rcases List.mem_append.1 he with he | he
  ·exact q9v he
  ·exact q87 he
 refine ⟨?_, fun e he => h.its e (hm e he), fun e he => h.szs e (hm e he)⟩
 have := q83 (k := k) ha
 have := h.len
 unfold yJ
 rw [List.length_append]; omega
theorem qdc {t : List DE} {k : BA} {v : DV} (h : tabB t = true) (hk : k.size <= 4194304) (hv : v.2.2.2.length <= 4194304) (hz : v.2.2.1.size <= 4194304) (hs : ∀ s ∈ v.2.2.2, s.size <= 4194304) : Bd (putB t k v) := by
 have hb := q1q h
 have hm : ∀ e ∈ putB t k v, e ∈ t \/ e = (k, v) := fun e he => by
  unfold putB at he
  rcases List.mem_append.1 he with he | he
  ·exact .inl (q9v he)
  ·rcases List.mem_cons.1 he with he | he
   ·exact .inr he
   ·exact .inl (q87 he)
 refine ⟨?_, fun e he => ?_, fun e he => ?_⟩
 ·have := q83 (k := k) (q1C h)
  have := zU h
  unfold putB
  rw [List.length_append, List.length_cons]; omega
 ·rcases hm e he with h | rfl
  ·exact hb.its e h
  ·exact hv
 ·rcases hm e he with h | rfl
  ·exact hb.szs e h
  ·exact ⟨hk, hz, hs⟩
theorem q5B {t : List DE} {k : BA} (ha : Asc t) : Asc (yJ t k) := by
 rw [<- jl t k ha]
 exact List.Pairwise.filter _ ha
end Go.Den.S
