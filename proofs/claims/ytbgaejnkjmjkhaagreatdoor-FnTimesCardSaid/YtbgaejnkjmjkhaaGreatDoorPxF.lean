/- PxF: equations of the functions of this seat as the executor tells them, or plain facts about them. Conditions: none here. -/
import Derived.Test.YtbgaejnkjmjkhaaGreatDoorPxE
set_option linter.all false
namespace Go.Den.S
open Go Go.Den
abbrev RS : Type := List DE × BA × Bool
def isB (t : List DE) (args : List BA) (l : List BA) : Bool := tabB t && ((match args with | [] => false | a :: _ => memB (upB a) l) && j5 args)
theorem q4x (t : List DE) (args : List BA) (names : BA) (l : List BA) (h : Bd t) (hl : args.length <= 2097152) (hs : ∀ s ∈ args, s.size <= 2097152) (hf : strings_Fields names = some (l, ())) (hll : l.length <= 2097152) :
  q47 t args names = some ((bif isB t args l then (some (t, (eB, false)), true) else (none, false)), ()) := by
 rw [qgS, q6j t h]
 unfold isB
 simp only [oB, q9u args hl hs, q1b t h]
 match args, hl, hs with
 | [], _, _ =>
  rw [qbX]
  cases tabB t <;> rfl
 | a :: r, hl, hs =>
  rw [q12 hf (hs a (List.mem_cons_self ..)) hll]
  simp only [oB]
  cases tabB t <;> cases memB (upB a) l <;> cases j5 (a :: r) <;> rfl
theorem zm (t : List DE) (args l : List BA) (h : Bd t) (hl : args.length <= 2097152) (hs : ∀ s ∈ args, s.size <= 2097152) (hll : l.length <= 2097152) : yX t args l = some (isB t args l, ()) := by
 rw [qgT, q4H t h]
 unfold isB
 simp only [oB, q9o args hl hs]
 match args, hl, hs with
 | [], _, _ => cases tabB t <;> rfl
 | a :: r, hl, hs =>
  have k2 : (decide ((0 : Int) <= 0) && decide ((0 : Int) < (((a :: r).length : Nat) : Int))) = true := by
   rw [dYT (show (0 : Int) < (((a :: r).length : Nat) : Int) by simp only [List.length_cons]; omega)]; rfl
  have k4 : yH (List.getD (a :: r) (Int.toNat 0) eB) = some (upB a, ()) := zC a (by have := hs a (List.mem_cons_self ..); omega)
  simp only [k2, k4, cT, oB, q4e l (upB a) hll]
  cases tabB t <;> cases j5 (a :: r) <;> cases memB (upB a) l <;> rfl
def sayB (d : DD) (r : BA) : DD := bif d.2.2 then d else (d.1, (r, d.2.2))
theorem wH (d : DD) (r : BA) : qb d r = some ((), (sayB d r, ())) := by
 rw [q4p]
 obtain ⟨t, q, b⟩ := d
 cases b <;> rfl
def badB (d : DD) (r : BA) : DD := bif d.2.2 then d else (d.1, (y8 r, true))
theorem q2j (d : DD) (r : BA) (h : r.size <= 2097152) : qW d r = some ((), (badB d r, ())) := by
 rw [q3C, q4l r h]
 obtain ⟨t, q, b⟩ := d
 cases b <;> rfl
def q1C (t : List DE) (k : BA) (v : DV) : List DE := bif decide (v.2.2.2 = []) then q1t t k else putB t k v
theorem qeY (d : DD) (k : BA) (v : DV) (h : Bd d.1) (ha : Asc d.1) : yx d k v = some ((), ((bif d.2.2 then d else (q1C d.1 k v, d.2)), ())) := by
 rw [q3T, wm d k v h ha, q8G d k h ha]
 obtain ⟨t, q, b⟩ := d
 obtain ⟨v1, v2, v3, v4⟩ := v
 unfold q1C
 cases v4 with
 | nil =>
  simp only [List.length_nil, show decide (((0 : Nat) : Int) > 0) = false from rfl, cF, oB, decide_true, cT]
  cases b <;> rfl
 | cons x r =>
  rw [dYT (show (((x :: r).length : Nat) : Int) > 0 by simp only [List.length_cons]; omega), dYF (show ¬ (x :: r) = [] by simp)]
  rfl
def wT (d : DD) (t : List DE) : RS := bif d.2.2 then (t, (d.2.1, true)) else bif tabB d.1 then (d.1, (d.2.1, true)) else (t, (y8 yK, true))
theorem q4y (d : DD) (t : List DE) (h : Bd t) (hd : Bd d.1) : ∃ d', qx d t = some (wT d t, (d', ())) := by
 rw [q43, q6j d.1 hd, q1b t h, q1b d.1 hd, q2j d yK (by decide)]
 obtain ⟨r, q, b⟩ := d
 unfold wT badB
 simp only [oB]
 cases b with
 | true => exact ⟨_, rfl⟩
 | false =>
  simp only [Bool.not_false, cT, cF]
  cases tabB r with
  | true => exact ⟨_, rfl⟩
  | false => exact ⟨_, rfl⟩
def qjW (t t' : List DE) (r : BA) : RS := bif tabB t' then (t', (r, true)) else (t, (y8 yK, true))
theorem q62 (t t' : List DE) (r : BA) (h : Bd t) (h' : Bd t') : yE t t' r = some (qjW t t' r, ()) := by
 rw [qeP, q4H t' h', yC t h, yC t' h', q2L yK (by decide)]
 unfold qjW
 simp only [oB]
 cases tabB t' <;> rfl
theorem q6t (t : List DE) (r : BA) (h : Bd t) (hr : r.size <= 2097152) : je t r = some ((t, (y8 r, true)), ()) := by
 rw [qgJ, yC t h, q2L r hr]; rfl
theorem qeV {t : List DE} {k : BA} {e : DE} (h : e ∈ lowB t k) : e ∈ t := (List.mem_filter.1 h).1
theorem qd4 {t : List DE} {k : BA} {e : DE} (h : e ∈ q3W t k) : e ∈ t := (List.mem_filter.1 h).1
theorem qdg {t : List DE} {k : BA} (ha : Asc t) : (lowB t k).length + (q3W t k).length <= t.length := by
 rw [<- List.length_append, show lowB t k ++ q3W t k = q1t t k from rfl, <- q7n t k ha]
 exact List.length_filter_le _ _
theorem qfz {t : List DE} {k : BA} (h : Bd t) (ha : Asc t) : Bd (q1t t k) := by
 have hm : ∀ e ∈ q1t t k, e ∈ t := fun e he => by
  rcases List.mem_append.1 he with he | he
  ·exact qeV he
  ·exact qd4 he
 refine ⟨?_, fun e he => h.its e (hm e he), fun e he => h.szs e (hm e he)⟩
 have := qdg (k := k) ha
 have := h.len
 unfold q1t
 rw [List.length_append]; omega
theorem qbb {t : List DE} {k : BA} {v : DV} (h : tabB t = true) (hk : k.size <= 4194304) (hv : v.2.2.2.length <= 4194304) (hz : v.2.2.1.size <= 4194304) (hs : ∀ s ∈ v.2.2.2, s.size <= 4194304) : Bd (putB t k v) := by
 have hb := wY h
 have hm : ∀ e ∈ putB t k v, e ∈ t \/ e = (k, v) := fun e he => by
  unfold putB at he
  rcases List.mem_append.1 he with he | he
  ·exact .inl (qeV he)
  ·rcases List.mem_cons.1 he with he | he
   ·exact .inr he
   ·exact .inl (qd4 he)
 refine ⟨?_, fun e he => ?_, fun e he => ?_⟩
 ·have := qdg (k := k) (q1J h)
  have := q0o h
  unfold putB
  rw [List.length_append, List.length_cons]; omega
 ·rcases hm e he with h | rfl
  ·exact hb.its e h
  ·exact hv
 ·rcases hm e he with h | rfl
  ·exact hb.szs e h
  ·exact ⟨hk, hz, hs⟩
theorem qmp {t : List DE} {k : BA} (ha : Asc t) : Asc (q1t t k) := by
 rw [<- q7n t k ha]
 exact List.Pairwise.filter _ ha
theorem q5X {t : List DE} {k : BA} {v : DV} (h : tabB t = true) (hk : k.size <= 4194304) (hv : v.2.2.2.length <= 4194304) (hz : v.2.2.1.size <= 4194304) (hs : ∀ s ∈ v.2.2.2, s.size <= 4194304) : Bd (q1C t k v) := by
 unfold q1C
 cases decide (v.2.2.2 = []) with
 | true => exact qfz (wY h) (q1J h)
 | false => exact qbb h hk hv hz hs
theorem q4Q (t : List DE) (k : BA) (v : DV) (r : BA) (h : tabB t = true) (hv0 : v.1 ≠ 0) (hk : k.size <= 4194304) (hv : v.2.2.2.length <= 4194304) (hz : v.2.2.1.size <= 4194304) (hs : ∀ s ∈ v.2.2.2, s.size <= 4194304) : wJ t k v r = some (qjW t (q1C t k v) r, ()) := by
 have hb := wY h
 have hkb := q5X (k := k) h hk hv hz hs
 rw [qdT, q0U t k _ hb, q0U t k v hb]
 obtain ⟨v1, v2, v3, v4⟩ := v
 unfold q1C at hkb ⊢
 cases v4 with
 | nil =>
  have e0 : ((([] : List BA).length : Int) == 0) = true := rfl
  simp only [decide_true, cT] at hkb
  simp only [e0, decide_true, cT, oB, q62 t _ r hb hkb]
 | cons x l =>
  have e0 : (((x :: l).length : Int) == 0) = false := by rw [wO]; exact dYF (by simp only [List.length_cons]; omega)
  have e1 : decide ((x :: l) = []) = false := dYF (by simp)
  simp only [e1, cF] at hkb
  simp only [e0, e1, cF, oB, dYF hv0, q62 t _ r hb hkb]
def q8P (t : List DE) (k : BA) (n : Int) : DV × Bool := bif !(fndB t k).2 then ((n, (0, (eB, []))), true) else ((fndB t k).1, decide ((fndB t k).1.1 = n))
theorem qdj (t : List DE) (k : BA) (n : Int) (h : Bd t) : q4v t k n = some (q8P t k n, ()) := by
 rw [qdf, q2F t k h]
 unfold q8P
 simp only [oB, wO]
 cases (fndB t k).2 <;> rfl
theorem qcF (d : DD) (k : BA) (n : Int) (h : Bd d.1) : qG d k n = some (fndB d.1 k, ((bif (fndB d.1 k).2 && !(decide ((fndB d.1 k).1.1 = n)) then badB d yA else d), ())) := by
 rw [q3V, q2l d.1 k h]
 have hne : ∀ a b : Int, (a != b) = !decide (a = b) := fun a b => by
  by_cases e : a = b
  ·simp [e]
  ·simp [e]
 simp only [oB, hne, q2j d yA (by decide)]
 cases (fndB d.1 k).2 <;> cases decide ((fndB d.1 k).1.1 = n) <;> rfl
end Go.Den.S
