/- PxF: equations of the functions of this seat as the executor tells them, or plain facts about them. Conditions: none here. -/
import Derived.Test.YtbgaejnkjmjkhaaDoorPxE
set_option linter.all false
namespace Go.Den.S
open Go Go.Den
abbrev RS : Type := List DE × BA × Bool
def isB (t : List DE) (args : List BA) (l : List BA) : Bool := tabB t && ((match args with | [] => false | a :: _ => memB (upB a) l) && q28 args)
theorem q5w (t : List DE) (args : List BA) (names : BA) (l : List BA) (h : Bd t) (hl : args.length <= 2097152) (hs : ∀ s ∈ args, s.size <= 2097152) (hf : strings_Fields names = some (l, ())) (hll : l.length <= 2097152) :
  q3F t args names = some ((bif isB t args l then (some (t, (eB, false)), true) else (none, false)), ()) := by
 rw [q93, q4e t h]
 unfold isB
 simp only [oB, q7r args hl hs, q1A t h]
 match args, hl, hs with
 | [], _, _ =>
  rw [q8D]
  cases tabB t <;> rfl
 | a :: r, hl, hs =>
  rw [jU hf (hs a (List.mem_cons_self ..)) hll]
  simp only [oB]
  cases tabB t <;> cases memB (upB a) l <;> cases q28 (a :: r) <;> rfl
def sayB (d : DD) (r : BA) : DD := bif d.2.2 then d else (d.1, (r, d.2.2))
theorem q07 (d : DD) (r : BA) : qc d r = some ((), (sayB d r, ())) := by
 rw [q0O]
 obtain ⟨t, q, b⟩ := d
 cases b <;> rfl
def badB (d : DD) (r : BA) : DD := bif d.2.2 then d else (d.1, (q2a r, true))
theorem q5M (d : DD) (r : BA) (h : r.size <= 2097152) : yD d r = some ((), (badB d r, ())) := by
 rw [q0f, q9l r h]
 obtain ⟨t, q, b⟩ := d
 cases b <;> rfl
def q2V (t : List DE) (k : BA) (v : DV) : List DE := bif decide (v.2.2.2 = []) then q0Y t k else putB t k v
theorem qb2 (d : DD) (k : BA) (v : DV) (h : Bd d.1) (ha : Asc d.1) : qN d k v = some ((), ((bif d.2.2 then d else (q2V d.1 k v, d.2)), ())) := by
 rw [q0w, q2X d k v h ha, qar d k h ha]
 obtain ⟨t, q, b⟩ := d
 obtain ⟨v1, v2, v3, v4⟩ := v
 unfold q2V
 cases v4 with
 | nil =>
  simp only [List.length_nil, show decide (((0 : Nat) : Int) > 0) = false from rfl, cF, oB, decide_true, cT]
  cases b <;> rfl
 | cons x r =>
  rw [dYT (show (((x :: r).length : Nat) : Int) > 0 by simp only [List.length_cons]; omega), dYF (show ¬ (x :: r) = [] by simp)]
  rfl
def q6a (d : DD) (t : List DE) : RS := bif d.2.2 then (t, (d.2.1, true)) else bif tabB d.1 then (d.1, (d.2.1, true)) else (t, (q2a q4q, true))
theorem qbL (d : DD) (t : List DE) (h : Bd t) (hd : Bd d.1) : ∃ d', yJ d t = some (q6a d t, (d', ())) := by
 rw [q0x, q4e d.1 hd, q1A t h, q1A d.1 hd, q5M d q4q (by decide)]
 obtain ⟨r, q, b⟩ := d
 unfold q6a badB
 simp only [oB]
 cases b with
 | true => exact ⟨_, rfl⟩
 | false =>
  simp only [Bool.not_false, cT, cF]
  cases tabB r with
  | true => exact ⟨_, rfl⟩
  | false => exact ⟨_, rfl⟩
theorem qbg {t : List DE} {k : BA} {e : DE} (h : e ∈ lowB t k) : e ∈ t := (List.mem_filter.1 h).1
theorem q9r {t : List DE} {k : BA} {e : DE} (h : e ∈ q2p t k) : e ∈ t := (List.mem_filter.1 h).1
theorem qaq {t : List DE} {k : BA} (ha : Asc t) : (lowB t k).length + (q2p t k).length <= t.length := by
 rw [<- List.length_append, show lowB t k ++ q2p t k = q0Y t k from rfl, <- q6O t k ha]
 exact List.length_filter_le _ _
theorem qeN {t : List DE} {k : BA} (h : Bd t) (ha : Asc t) : Bd (q0Y t k) := by
 have hm : ∀ e ∈ q0Y t k, e ∈ t := fun e he => by
  rcases List.mem_append.1 he with he | he
  ·exact qbg he
  ·exact q9r he
 refine ⟨?_, fun e he => h.its e (hm e he), fun e he => h.szs e (hm e he)⟩
 have := qaq (k := k) ha
 have := h.len
 unfold q0Y
 rw [List.length_append]; omega
theorem qdn {t : List DE} {k : BA} {v : DV} (h : tabB t = true) (hk : k.size <= 4194304) (hv : v.2.2.2.length <= 4194304) (hz : v.2.2.1.size <= 4194304) (hs : ∀ s ∈ v.2.2.2, s.size <= 4194304) : Bd (putB t k v) := by
 have hb := q13 h
 have hm : ∀ e ∈ putB t k v, e ∈ t \/ e = (k, v) := fun e he => by
  unfold putB at he
  rcases List.mem_append.1 he with he | he
  ·exact .inl (qbg he)
  ·rcases List.mem_cons.1 he with he | he
   ·exact .inr he
   ·exact .inl (q9r he)
 refine ⟨?_, fun e he => ?_, fun e he => ?_⟩
 ·have := qaq (k := k) (q4G h)
  have := q6n h
  unfold putB
  rw [List.length_append, List.length_cons]; omega
 ·rcases hm e he with h | rfl
  ·exact hb.its e h
  ·exact hv
 ·rcases hm e he with h | rfl
  ·exact hb.szs e h
  ·exact ⟨hk, hz, hs⟩
theorem q8t {t : List DE} {k : BA} {v : DV} (h : tabB t = true) (hk : k.size <= 4194304) (hv : v.2.2.2.length <= 4194304) (hz : v.2.2.1.size <= 4194304) (hs : ∀ s ∈ v.2.2.2, s.size <= 4194304) : Bd (q2V t k v) := by
 unfold q2V
 cases decide (v.2.2.2 = []) with
 | true => exact qeN (q13 h) (q4G h)
 | false => exact qdn h hk hv hz hs
def qag (t : List DE) (k : BA) (n : Int) : DV × Bool := bif !(fndB t k).2 then ((n, (0, (eB, []))), true) else ((fndB t k).1, decide ((fndB t k).1.1 = n))
theorem qaP (d : DD) (k : BA) (n : Int) (h : Bd d.1) : y5 d k n = some (fndB d.1 k, ((bif (fndB d.1 k).2 && !(decide ((fndB d.1 k).1.1 = n)) then badB d zQ else d), ())) := by
 rw [q0D, q9M d.1 k h]
 have hne : ∀ a b : Int, (a != b) = !decide (a = b) := fun a b => by
  by_cases e : a = b
  ·simp [e]
  ·simp [e]
 simp only [oB, hne, q5M d zQ (by decide)]
 cases (fndB d.1 k).2 <;> cases decide ((fndB d.1 k).1.1 = n) <;> rfl
end Go.Den.S
