/- PxF: equations of the functions of this seat as the executor tells them, or plain facts about them. Conditions: none here. -/
import Derived.Test.YtbgaejnkjmjkhaaDoorPxE
set_option linter.all false
namespace Go.Den.S
open Go Go.Den
abbrev RS : Type := List DE × BA × Bool
def isB (t : List DE) (args : List BA) (l : List BA) : Bool := tabB t && ((match args with | [] => false | a :: _ => memB (upB a) l) && q2y args)
theorem q7z (t : List DE) (args : List BA) (names : BA) (l : List BA) (h : Bd t) (hl : args.length <= 2097152) (hs : ∀ s ∈ args, s.size <= 2097152) (hf : strings_Fields names = some (l, ())) (hll : l.length <= 2097152) :
  q3I t args names = some ((bif isB t args l then (some (t, (eB, false)), true) else (none, false)), ()) := by
 rw [q7j, q2O t h]
 unfold isB
 simp only [oB, q5S args hl hs, q0C t h]
 match args, hl, hs with
 | [], _, _ =>
  rw [q7e]
  cases tabB t <;> rfl
 | a :: r, hl, hs =>
  rw [j4 hf (hs a (List.mem_cons_self ..)) hll]
  simp only [oB]
  cases tabB t <;> cases memB (upB a) l <;> cases q2y (a :: r) <;> rfl
def sayB (d : DD) (r : BA) : DD := bif d.2.2 then d else (d.1, (r, d.2.2))
theorem q18 (d : DD) (r : BA) : qg d r = some ((), (sayB d r, ())) := by
 rw [q05]
 obtain ⟨t, q, b⟩ := d
 cases b <;> rfl
def badB (d : DD) (r : BA) : DD := bif d.2.2 then d else (d.1, (q0f r, true))
theorem q2r (d : DD) (r : BA) (h : r.size <= 2097152) : qN d r = some ((), (badB d r, ())) := by
 rw [jA, q7p r h]
 obtain ⟨t, q, b⟩ := d
 cases b <;> rfl
def q07 (t : List DE) (k : BA) (v : DV) : List DE := bif decide (v.2.2.2 = []) then q0b t k else putB t k v
theorem qcE (d : DD) (k : BA) (v : DV) (h : Bd d.1) (ha : Asc d.1) : y9 d k v = some ((), ((bif d.2.2 then d else (q07 d.1 k v, d.2)), ())) := by
 rw [jG, q2Z d k v h ha, q8l d k h ha]
 obtain ⟨t, q, b⟩ := d
 obtain ⟨v1, v2, v3, v4⟩ := v
 unfold q07
 cases v4 with
 | nil =>
  simp only [List.length_nil, show decide (((0 : Nat) : Int) > 0) = false from rfl, cF, oB, decide_true, cT]
  cases b <;> rfl
 | cons x r =>
  rw [dYT (show (((x :: r).length : Nat) : Int) > 0 by simp only [List.length_cons]; omega), dYF (show ¬ (x :: r) = [] by simp)]
  rfl
def q5Q (d : DD) (t : List DE) : RS := bif d.2.2 then (t, (d.2.1, true)) else bif tabB d.1 then (d.1, (d.2.1, true)) else (t, (q0f q2V, true))
theorem qcO (d : DD) (t : List DE) (h : Bd t) (hd : Bd d.1) : ∃ d', yU d t = some (q5Q d t, (d', ())) := by
 rw [jF, q2O d.1 hd, q0C t h, q0C d.1 hd, q2r d q2V (by decide)]
 obtain ⟨r, q, b⟩ := d
 unfold q5Q badB
 simp only [oB]
 cases b with
 | true => exact ⟨_, rfl⟩
 | false =>
  simp only [Bool.not_false, cT, cF]
  cases tabB r with
  | true => exact ⟨_, rfl⟩
  | false => exact ⟨_, rfl⟩
theorem q9G {t : List DE} {k : BA} {e : DE} (h : e ∈ lowB t k) : e ∈ t := (List.mem_filter.1 h).1
theorem q7S {t : List DE} {k : BA} {e : DE} (h : e ∈ q1k t k) : e ∈ t := (List.mem_filter.1 h).1
theorem q7Y {t : List DE} {k : BA} (ha : Asc t) : (lowB t k).length + (q1k t k).length <= t.length := by
 rw [<- List.length_append, show lowB t k ++ q1k t k = q0b t k from rfl, <- q52 t k ha]
 exact List.length_filter_le _ _
theorem qcs {t : List DE} {k : BA} (h : Bd t) (ha : Asc t) : Bd (q0b t k) := by
 have hm : ∀ e ∈ q0b t k, e ∈ t := fun e he => by
  rcases List.mem_append.1 he with he | he
  ·exact q9G he
  ·exact q7S he
 refine ⟨?_, fun e he => h.its e (hm e he), fun e he => h.szs e (hm e he)⟩
 have := q7Y (k := k) ha
 have := h.len
 unfold q0b
 rw [List.length_append]; omega
theorem qd5 {t : List DE} {k : BA} {v : DV} (h : tabB t = true) (hk : k.size <= 4194304) (hv : v.2.2.2.length <= 4194304) (hz : v.2.2.1.size <= 4194304) (hs : ∀ s ∈ v.2.2.2, s.size <= 4194304) : Bd (putB t k v) := by
 have hb := q1O h
 have hm : ∀ e ∈ putB t k v, e ∈ t \/ e = (k, v) := fun e he => by
  unfold putB at he
  rcases List.mem_append.1 he with he | he
  ·exact .inl (q9G he)
  ·rcases List.mem_cons.1 he with he | he
   ·exact .inr he
   ·exact .inl (q7S he)
 refine ⟨?_, fun e he => ?_, fun e he => ?_⟩
 ·have := q7Y (k := k) (q4y h)
  have := q6F h
  unfold putB
  rw [List.length_append, List.length_cons]; omega
 ·rcases hm e he with h | rfl
  ·exact hb.its e h
  ·exact hv
 ·rcases hm e he with h | rfl
  ·exact hb.szs e h
  ·exact ⟨hk, hz, hs⟩
theorem q4M {t : List DE} {k : BA} {v : DV} (h : tabB t = true) (hk : k.size <= 4194304) (hv : v.2.2.2.length <= 4194304) (hz : v.2.2.1.size <= 4194304) (hs : ∀ s ∈ v.2.2.2, s.size <= 4194304) : Bd (q07 t k v) := by
 unfold q07
 cases decide (v.2.2.2 = []) with
 | true => exact qcs (q1O h) (q4y h)
 | false => exact qd5 h hk hv hz hs
theorem q8T (d : DD) (k : BA) (n : Int) (h : Bd d.1) : yg d k n = some (fndB d.1 k, ((bif (fndB d.1 k).2 && !(decide ((fndB d.1 k).1.1 = n)) then badB d zI else d), ())) := by
 rw [jI, q7K d.1 k h]
 have hne : ∀ a b : Int, (a != b) = !decide (a = b) := fun a b => by
  by_cases e : a = b
  ·simp [e]
  ·simp [e]
 simp only [oB, hne, q2r d zI (by decide)]
 cases (fndB d.1 k).2 <;> cases decide ((fndB d.1 k).1.1 = n) <;> rfl
end Go.Den.S
