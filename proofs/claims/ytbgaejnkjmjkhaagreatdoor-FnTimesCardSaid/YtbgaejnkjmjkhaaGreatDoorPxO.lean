/- PxO: equations of the functions of this seat as the executor tells them, or plain facts about them. Conditions: none here. -/
import Derived.Test.YtbgaejnkjmjkhaaGreatDoorPxN
set_option linter.all false
namespace Go.Den.S
open Go Go.Den
abbrev nilR : BA := q4G
def idxR (l : List BA) (n : Int) : BA :=
 let i := if n < 0 then n + (l.length : Int) else n
 if 0 <= i /\ i <= (l.length : Int) - 1 then zO (gi l i.toNat) else nilR
def cutL (l : List BA) (p : Int × Int) : List BA := (l.drop p.1.toNat).take (p.2.toNat - p.1.toNat)
def lstD (t : List DE) (u k : BA) (vals : List BA) : DD :=
 let v := undB t k
 let l := v.2.2
 bif qL t k 2 then (t, (y8 yA, true))
 else bif decide (u = zN) then (q1C t k (2, (v.1, (v.2.1, vals.reverse ++ l))), (numB ((vals.reverse ++ l).length : Int), false))
 else bif decide (u = zP) then (q1C t k (2, (v.1, (v.2.1, l ++ vals))), (numB ((l ++ vals).length : Int), false))
 else bif decide (u = q2o) then (bif decide (l = []) then (t, (nilR, false)) else (q1C t k (2, (v.1, (v.2.1, l.drop 1))), (zO (gi l 0), false)))
 else bif decide (u = q1n) then (bif decide (l = []) then (t, (nilR, false)) else (q1C t k (2, (v.1, (v.2.1, l.take (l.length - 1)))), (zO (gi l (l.length - 1)), false)))
 else bif decide (u = q1O) then (t, (numB (l.length : Int), false))
 else bif decide (u = zu) then (bif !(rdI (gi vals 0)).2 then (t, (y8 qQ, true)) else (t, (idxR l (rdI (gi vals 0)).1, false)))
 else bif !(rdI (gi vals 0)).2 then (t, (y8 qQ, true)) else bif !(rdI (gi vals 1)).2 then (t, (y8 qQ, true))
 else (t, (arrB ((cutL l (bndB (rdI (gi vals 0)).1 (rdI (gi vals 1)).1 (l.length : Int))).map zO), false))
theorem q1N (s : BA) : -1000000000 <= (rdI s).1 /\ (rdI s).1 <= 1000000000 := by
 rcases qj4 s with h | ⟨n, h1, h2, _, h3⟩
 ·rw [h]; exact ⟨by decide, by decide⟩
 ·rw [h3]; exact ⟨h1, h2⟩
theorem q3P (d : DD) (s : BA) (hs : s.size <= 100000000) : qE d s = some ((rdI s).1, ((bif !(rdI s).2 then badB d qQ else d), ())) := by
 rw [q3w, qdZ s hs]
 simp only [oB, q2j d qQ (by decide)]
 cases (rdI s).2 <;> rfl
theorem qav : ∀ (vals l : List BA), vals.foldl (fun a x => [x] ++ a) l = vals.reverse ++ l
 | [], l => rfl
 | x :: r, l => by rw [List.foldl_cons, qav r]; simp
theorem qkj (k : BA) (vals : List BA) (d : DD) (n u : Int) (x : BA) (l : List BA) (hl : l.length + vals.length <= 5000000) :
  yD k vals (vals.length : Int) 0 d.1 d.2.1 d.2.2 n u x l = (qh d k (n, (u, (x, vals.reverse ++ l)))).bind fun r13 =>
   (qH ((vals.reverse ++ l).length : Int)).bind fun r14 => (qb r13.2.1 r14.1).bind fun r15 => some ((), (r15.2.1, ())) := by
 have := wW (fun acc i => yD k vals (vals.length : Int) i d.1 d.2.1 d.2.2 n u x acc) vals eB (fun a x => [x] ++ a) (fun acc => (qh d k (n, (u, (x, acc)))).bind fun r13 =>
   (qH (acc.length : Int)).bind fun r14 => (qb r13.2.1 r14.1).bind fun r15 => some ((), (r15.2.1, ()))) (fun acc i => acc.length = l.length + i)
  (fun acc i hi hI => by
   constructor
   ·conv => lhs; rw [q0D]
    have e1 : decide ((i : Int) < (vals.length : Int)) = true := dYT (by omega)
    have e2 : decide (0 <= (i : Int)) = true := dYT (by omega)
    have e3 : w64 ((i : Int) + 1) = ((i + 1 : Nat) : Int) := qA (by omega)
    simp only [e1, e2, e3, Bool.and_self, cT, Int.toNat_natCast, qJ (show (1 + acc.length) * 16 <= 140737488355328 by omega)]
   ·show ([_] ++ acc).length = _
    rw [List.length_append, hI]; simp; omega)
  (fun acc hI => by
   show yD k vals (vals.length : Int) (vals.length : Int) d.1 d.2.1 d.2.2 n u x acc = _
   rw [q0D]
   simp only [Int.lt_irrefl, decide_false, cF]) l (by simp)
 rw [qav] at this
 exact this
theorem qcY (t : List DE) (a k : BA) (vals : List BA) (n u : Int) (x : BA) (l : List BA) (hl : l.length + vals.length <= 5000000) :
  q1G t (a :: k :: vals) k 2 n u x l = (qF ((vals.reverse ++ l).length : Int)).bind fun r10 => (wJ t k (n, (u, (x, vals.reverse ++ l))) r10.1).bind fun r11 => some (r11.1, ()) := by
 have := wW (fun acc i => q1G t (a :: k :: vals) k (i + 2) n u x acc) vals eB (fun a x => [x] ++ a)
  (fun acc => (qF (acc.length : Int)).bind fun r10 => (wJ t k (n, (u, (x, acc))) r10.1).bind fun r11 => some (r11.1, ())) (fun acc i => acc.length = l.length + i)
  (fun acc i hi hI => by
   have hg : (a :: k :: vals).getD (i + 2) eB = vals.getD i eB := rfl
   constructor
   ·conv => lhs; rw [q7B]
    have e0 : (i : Int) + 2 = ((i + 2 : Nat) : Int) := rfl
    have e1 : decide (((i + 2 : Nat) : Int) < ((a :: k :: vals).length : Int)) = true := dYT (by simp only [List.length_cons]; omega)
    have e2 : decide (0 <= ((i + 2 : Nat) : Int)) = true := dYT (by omega)
    have e3 : w64 (((i + 2 : Nat) : Int) + 1) = ((i + 1 : Nat) : Int) + 2 := by rw [show w64 (((i + 2 : Nat) : Int) + 1) = ((i + 2 + 1 : Nat) : Int) from qA (by omega)]; omega
    simp only [e0, e1, e2, e3, Bool.and_self, cT, Int.toNat_natCast, hg, qJ (show (1 + acc.length) * 16 <= 140737488355328 by omega)]
   ·show ([_] ++ acc).length = _
    rw [List.length_append, hI]; simp; omega)
  (fun acc hI => by
   show q1G t (a :: k :: vals) k ((vals.length : Int) + 2) n u x acc = _
   rw [q7B]
   have e1 : decide ((vals.length : Int) + 2 < ((a :: k :: vals).length : Int)) = false := dYF (by simp only [List.length_cons]; omega)
   simp only [e1, cF]) l (by simp)
 rw [qav] at this
 exact this
def popD (d : DD) (k : BA) (v : DV) (found back : Bool) : DD :=
 bif !found then sayB d nilR else bif d.2.2 then sayB d nilR else
  bif back then (q1C d.1 k (v.1, (v.2.1, (v.2.2.1, v.2.2.2.take (v.2.2.2.length - 1)))), (zO (gi v.2.2.2 (v.2.2.2.length - 1)), false))
  else (q1C d.1 k (v.1, (v.2.1, (v.2.2.1, v.2.2.2.drop 1))), (zO (gi v.2.2.2 0), false))
theorem qnB (d : DD) (k : BA) (v : DV) (found back : Bool) (h : Bd d.1) (ha : Asc d.1) (hne : found = true -> d.2.2 = false -> 1 <= v.2.2.2.length) (hl : v.2.2.2.length <= 1000000) (hs : ∀ s ∈ v.2.2.2, s.size <= 1000000) : z8 d k v found back = some ((), (popD d k v found back, ())) := by
 rw [q4o, q7g]
 obtain ⟨t, q, b⟩ := d
 unfold popD
 cases found with
 | false => simp only [Bool.not_false, cT, oB, wH]
 | true =>
  cases b with
  | true => simp only [Bool.not_true, cF, cT, oB, wH]
  | false =>
   have hn := hne rfl rfl
   have e1 : decide ((0 : Int) < (v.2.2.2.length : Int)) = true := dYT (by omega)
   have e2 : decide ((1 : Int) <= (v.2.2.2.length : Int)) = true := dYT (by omega)
   have e3 : w64 ((v.2.2.2.length : Int) - 1) = ((v.2.2.2.length - 1 : Nat) : Int) := by show IntKind.i64.wrap _ = _; rw [ql (by omega) (by omega)]; omega
   have e4 : decide ((0 : Int) <= ((v.2.2.2.length - 1 : Nat) : Int)) = true := dYT (by omega)
   have e5 : decide (((v.2.2.2.length - 1 : Nat) : Int) < (v.2.2.2.length : Int)) = true := dYT (by omega)
   have e6 : decide (((v.2.2.2.length - 1 : Nat) : Int) <= (v.2.2.2.length : Int)) = true := dYT (by omega)
   have s1 := hs (gi v.2.2.2 (v.2.2.2.length - 1)) (yg (by omega))
   have s2 := hs (gi v.2.2.2 0) (yg (by omega))
   have e7 : (v.2.2.2.drop 1).take (v.2.2.2.length - 1) = v.2.2.2.drop 1 := List.take_of_length_le (by rw [List.length_drop]; exact Nat.le_refl _)
   simp only [Bool.not_true, cF, e1, e2, e3, e4, e5, e6, Int.le_refl, decide_true, show decide ((0 : Int) <= 1) = true from rfl, Bool.and_self, cT, Int.toNat_natCast, show Int.toNat 0 = 0 from rfl, show Int.toNat 1 = 1 from rfl, Nat.sub_zero, List.drop_zero, e7, qeY _ k _ h ha, oB, q2w _ (show (gi v.2.2.2 (v.2.2.2.length - 1)).size <= 1000000000 by omega), q2w _ (show (gi v.2.2.2 0).size <= 1000000000 by omega), wH]
   cases back <;> rfl
end Go.Den.S
