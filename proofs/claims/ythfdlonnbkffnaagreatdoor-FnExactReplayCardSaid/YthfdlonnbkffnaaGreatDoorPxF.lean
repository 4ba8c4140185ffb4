/- PxF: equations of the functions of this seat as the executor tells them, or plain facts about them. Conditions: none here. -/
import Derived.Test.YthfdlonnbkffnaaGreatDoorPxE
set_option linter.all false
namespace Go.Den.S
open Go Go.Den
abbrev RS : Type := List DE × BA × Bool
def isB (t : List DE) (args : List BA) (l : List BA) : Bool := tabB t && ((match args with | [] => false | a :: _ => memB (upB a) l) && jY args)
theorem q47 (t : List DE) (args : List BA) (names : BA) (l : List BA) (h : Bd t) (hl : args.length <= 2097152) (hs : ∀ s ∈ args, s.size <= 2097152) (hf : strings_Fields names = some (l, ())) (hll : l.length <= 2097152) :
  q3O t args names = some ((bif isB t args l then (some (t, (eB, false)), true) else (none, false)), ()) := by
 rw [qgu, q6x t h]
 unfold isB
 simp only [oB, q9T args hl hs, q0P t h]
 match args, hl, hs with
 | [], _, _ =>
  rw [qcf]
  cases tabB t <;> rfl
 | a :: r, hl, hs =>
  rw [q1H hf (hs a (List.mem_cons_self ..)) hll]
  simp only [oB]
  cases tabB t <;> cases memB (upB a) l <;> cases jY (a :: r) <;> rfl
theorem wQ (t : List DE) (args l : List BA) (h : Bd t) (hl : args.length <= 2097152) (hs : ∀ s ∈ args, s.size <= 2097152) (hll : l.length <= 2097152) : yG t args l = some (isB t args l, ()) := by
 rw [qgL, q6w t h]
 unfold isB
 simp only [oB, q9W args hl hs]
 match args, hl, hs with
 | [], _, _ => cases tabB t <;> rfl
 | a :: r, hl, hs =>
  have k2 : (decide ((0 : Int) <= 0) && decide ((0 : Int) < (((a :: r).length : Nat) : Int))) = true := by
   rw [dYT (show (0 : Int) < (((a :: r).length : Nat) : Int) by simp only [List.length_cons]; omega)]; rfl
  have k4 : yF (List.getD (a :: r) (Int.toNat 0) eB) = some (upB a, ()) := zo a (by have := hs a (List.mem_cons_self ..); omega)
  simp only [k2, k4, cT, oB, q4F l (upB a) hll]
  cases tabB t <;> cases jY (a :: r) <;> cases memB (upB a) l <;> rfl
def sayB (d : DD) (r : BA) : DD := bif d.2.2 then d else (d.1, (r, d.2.2))
theorem yR (d : DD) (r : BA) : q9 d r = some ((), (sayB d r, ())) := by
 rw [q4g]
 obtain ⟨t, q, b⟩ := d
 cases b <;> rfl
def badB (d : DD) (r : BA) : DD := bif d.2.2 then d else (d.1, (yw r, true))
theorem q21 (d : DD) (r : BA) (h : r.size <= 2097152) : qQ d r = some ((), (badB d r, ())) := by
 rw [q3s, q4f r h]
 obtain ⟨t, q, b⟩ := d
 cases b <;> rfl
def q1h (t : List DE) (k : BA) (v : DV) : List DE := bif decide (v.2.2.2 = []) then q1E t k else putB t k v
theorem qfH (d : DD) (k : BA) (v : DV) (h : Bd d.1) (ha : Asc d.1) : qY d k v = some ((), ((bif d.2.2 then d else (q1h d.1 k v, d.2)), ())) := by
 rw [q3F, yN d k v h ha, q9m d k h ha]
 obtain ⟨t, q, b⟩ := d
 obtain ⟨v1, v2, v3, v4⟩ := v
 unfold q1h
 cases v4 with
 | nil =>
  simp only [List.length_nil, show decide (((0 : Nat) : Int) > 0) = false from rfl, cF, oB, decide_true, cT]
  cases b <;> rfl
 | cons x r =>
  rw [dYT (show (((x :: r).length : Nat) : Int) > 0 by simp only [List.length_cons]; omega), dYF (show ¬ (x :: r) = [] by simp)]
  rfl
def zX (d : DD) (t : List DE) : RS := bif d.2.2 then (t, (d.2.1, true)) else bif tabB d.1 then (d.1, (d.2.1, true)) else (t, (yw yx, true))
theorem q4k (d : DD) (t : List DE) (h : Bd t) (hd : Bd d.1) : ∃ d', qw d t = some (zX d t, (d', ())) := by
 rw [q3V, q6x d.1 hd, q0P t h, q0P d.1 hd, q21 d yx (by decide)]
 obtain ⟨r, q, b⟩ := d
 unfold zX badB
 simp only [oB]
 cases b with
 | true => exact ⟨_, rfl⟩
 | false =>
  simp only [Bool.not_false, cT, cF]
  cases tabB r with
  | true => exact ⟨_, rfl⟩
  | false => exact ⟨_, rfl⟩
def qjx (t t' : List DE) (r : BA) : RS := bif tabB t' then (t', (r, true)) else (t, (yw yx, true))
theorem q6b (t t' : List DE) (r : BA) (h : Bd t) (h' : Bd t') : yh t t' r = some (qjx t t' r, ()) := by
 rw [qeO, q6w t' h', qW t h, qW t' h', q2y yx (by decide)]
 unfold qjx
 simp only [oB]
 cases tabB t' <;> rfl
theorem q6o (t : List DE) (r : BA) (h : Bd t) (hr : r.size <= 2097152) : zL t r = some ((t, (yw r, true)), ()) := by
 rw [qgK, qW t h, q2y r hr]; rfl
theorem qf0 {t : List DE} {k : BA} {e : DE} (h : e ∈ lowB t k) : e ∈ t := (List.mem_filter.1 h).1
theorem qdD {t : List DE} {k : BA} {e : DE} (h : e ∈ q56 t k) : e ∈ t := (List.mem_filter.1 h).1
theorem qdG {t : List DE} {k : BA} (ha : Asc t) : (lowB t k).length + (q56 t k).length <= t.length := by
 rw [<- List.length_append, show lowB t k ++ q56 t k = q1E t k from rfl, <- q7C t k ha]
 exact List.length_filter_le _ _
theorem qfq {t : List DE} {k : BA} (h : Bd t) (ha : Asc t) : Bd (q1E t k) := by
 have hm : ∀ e ∈ q1E t k, e ∈ t := fun e he => by
  rcases List.mem_append.1 he with he | he
  ·exact qf0 he
  ·exact qdD he
 refine ⟨?_, fun e he => h.its e (hm e he), fun e he => h.szs e (hm e he)⟩
 have := qdG (k := k) ha
 have := h.len
 unfold q1E
 rw [List.length_append]; omega
theorem qcu {t : List DE} {k : BA} {v : DV} (h : tabB t = true) (hk : k.size <= 4194304) (hv : v.2.2.2.length <= 4194304) (hz : v.2.2.1.size <= 4194304) (hs : ∀ s ∈ v.2.2.2, s.size <= 4194304) : Bd (putB t k v) := by
 have hb := wR h
 have hm : ∀ e ∈ putB t k v, e ∈ t \/ e = (k, v) := fun e he => by
  unfold putB at he
  rcases List.mem_append.1 he with he | he
  ·exact .inl (qf0 he)
  ·rcases List.mem_cons.1 he with he | he
   ·exact .inr he
   ·exact .inl (qdD he)
 refine ⟨?_, fun e he => ?_, fun e he => ?_⟩
 ·have := qdG (k := k) (q1m h)
  have := q0N h
  unfold putB
  rw [List.length_append, List.length_cons]; omega
 ·rcases hm e he with h | rfl
  ·exact hb.its e h
  ·exact hv
 ·rcases hm e he with h | rfl
  ·exact hb.szs e h
  ·exact ⟨hk, hz, hs⟩
theorem qlu {t : List DE} {k : BA} (ha : Asc t) : Asc (q1E t k) := by
 rw [<- q7C t k ha]
 exact List.Pairwise.filter _ ha
theorem q68 {t : List DE} {k : BA} {v : DV} (h : tabB t = true) (hk : k.size <= 4194304) (hv : v.2.2.2.length <= 4194304) (hz : v.2.2.1.size <= 4194304) (hs : ∀ s ∈ v.2.2.2, s.size <= 4194304) : Bd (q1h t k v) := by
 unfold q1h
 cases decide (v.2.2.2 = []) with
 | true => exact qfq (wR h) (q1m h)
 | false => exact qcu h hk hv hz hs
theorem q4O (t : List DE) (k : BA) (v : DV) (r : BA) (h : tabB t = true) (hv0 : v.1 ≠ 0) (hk : k.size <= 4194304) (hv : v.2.2.2.length <= 4194304) (hz : v.2.2.1.size <= 4194304) (hs : ∀ s ∈ v.2.2.2, s.size <= 4194304) : yS t k v r = some (qjx t (q1h t k v) r, ()) := by
 have hb := wR h
 have hkb := q68 (k := k) h hk hv hz hs
 rw [qdY, q0u t k _ hb, q0u t k v hb]
 obtain ⟨v1, v2, v3, v4⟩ := v
 unfold q1h at hkb ⊢
 cases v4 with
 | nil =>
  have e0 : ((([] : List BA).length : Int) == 0) = true := rfl
  simp only [decide_true, cT] at hkb
  simp only [e0, decide_true, cT, oB, q6b t _ r hb hkb]
 | cons x l =>
  have e0 : (((x :: l).length : Int) == 0) = false := by rw [q0l]; exact dYF (by simp only [List.length_cons]; omega)
  have e1 : decide ((x :: l) = []) = false := dYF (by simp)
  simp only [e1, cF] at hkb
  simp only [e0, e1, cF, oB, dYF hv0, q6b t _ r hb hkb]
def q9v (t : List DE) (k : BA) (n : Int) : DV × Bool := bif !(fndB t k).2 then ((n, (0, (eB, []))), true) else ((fndB t k).1, decide ((fndB t k).1.1 = n))
theorem qdx (t : List DE) (k : BA) (n : Int) (h : Bd t) : q4h t k n = some (q9v t k n, ()) := by
 rw [qdw, q2o t k h]
 unfold q9v
 simp only [oB, q0l]
 cases (fndB t k).2 <;> rfl
theorem qcY (d : DD) (k : BA) (n : Int) (h : Bd d.1) : qE d k n = some (fndB d.1 k, ((bif (fndB d.1 k).2 && !(decide ((fndB d.1 k).1.1 = n)) then badB d y5 else d), ())) := by
 rw [q3K, q2n d.1 k h]
 have hne : ∀ a b : Int, (a != b) = !decide (a = b) := fun a b => by
  by_cases e : a = b
  ·simp [e]
  ·simp [e]
 simp only [oB, hne, q21 d y5 (by decide)]
 cases (fndB d.1 k).2 <;> cases decide ((fndB d.1 k).1.1 = n) <;> rfl
end Go.Den.S
