/- PzC: equations of the functions of this seat as the executor tells them, or plain facts about them. Conditions: none here. -/
import Derived.Test.YtbgaejnkjmjkhaaGreatDoorPzA
set_option linter.all false
namespace Go.Den.S
open Go Go.Den
theorem qfl {t : List DE} : tabB t = true ↔ t.length <= 20 /\ (∀ e ∈ t, 1 <= e.1.size /\ e.1.size <= 20 /\ valB e.2 = true) /\ Asc t := by
 constructor
 ·intro h
  refine ⟨q0o h, fun e he => ?_, q1J h⟩
  obtain ⟨i, hi, rfl⟩ := List.mem_iff_getElem.1 he
  have := qia h hi
  unfold enB at this
  rw [show ge t i = t[i] from za hi] at this
  simp only [Bool.and_eq_true, decide_eq_true_eq] at this
  exact ⟨this.1.1.1, this.1.1.2, this.1.2⟩
 ·rintro ⟨h1, h2, h3⟩
  unfold tabB
  simp only [Bool.and_eq_true, decide_eq_true_eq, List.all_eq_true, List.mem_range]
  refine ⟨h1, fun i hi => ?_⟩
  unfold enB
  rw [show ge t i = t[i] from za hi]
  obtain ⟨k1, k2, k3⟩ := h2 _ (List.getElem_mem hi)
  simp only [k1, k2, k3, decide_true, Bool.and_self, Bool.true_and, Bool.or_eq_true, Bool.not_eq_true', decide_eq_false_iff_not]
  by_cases hz : 0 < i
  ·right
   rw [show ge t (i - 1) = t[i - 1] from za (by omega)]
   exact (List.pairwise_iff_getElem.1 h3) (i - 1) i (by omega) hi (by omega)
  ·left; exact hz
def q2J (now : Int) (e : DE) : Bool := decide (e.2.2.1 = 0) || decide (now < e.2.2.1)
def qP (t : List DE) (now : Int) : List DE := t.filter (q2J now)
theorem q3c {t : List DE} (h : tabB t = true) (now : Int) : tabB (qP t now) = true := by
 obtain ⟨h1, h2, h3⟩ := qfl.1 h
 exact qfl.2 ⟨Nat.le_trans (List.length_filter_le _ _) h1, fun e he => h2 e (List.mem_filter.1 he).1, h3.filter _⟩
theorem qbl (t : List DE) (now : Int) (h : Bd t) : q7F t now = some (qP t now, ()) := by
 have hl := h.len
 rw [qhf]
 have := wW (fun acc i => q2q t now acc i) t dflt (fun a e => bif q2J now e then a ++ [e] else a) (fun acc => some (acc, ())) (fun acc i => acc.length <= i)
  (fun acc i hi hI => by
   have hm := h.its _ (yg (d := dflt) hi)
   constructor
   ·conv => lhs; rw [q9g]
    simp only [dYT (show (i : Int) < (t.length : Int) by omega), dYT (show (0 : Int) <= (i : Int) by omega), Bool.and_self, cT, Int.toNat_natCast, wO, qJ (show (acc.length + 1) * 72 <= 140737488355328 by omega), show w64 ((i : Int) + 1) = ((i + 1 : Nat) : Int) from qA (by omega), q6q (t.getD i dflt).2 (by omega), oB]
    unfold q2J
    by_cases h1 : (t.getD i dflt).2.2.1 = 0
    ·simp only [dYT h1, cT, Bool.true_or]
    ·by_cases h2 : now < (t.getD i dflt).2.2.1
     ·simp only [dYF h1, gt_iff_lt, dYT h2, cT, cF, Bool.false_or]
     ·simp only [dYF h1, gt_iff_lt, dYF h2, cF, Bool.false_or]
   ·cases q2J now (t.getD i dflt) <;> simp <;> omega)
  (fun acc hI => by
   show q2q t now acc (t.length : Int) = _
   rw [q9g]
   simp only [Int.lt_irrefl, decide_false, cF]) [] (by simp)
 rw [this, q7s (q2J now) (fun e : DE => e), List.nil_append, List.map_id']
 rfl
theorem qha (e : DE) (now : Int) : q7p e now = some (!(q2J now e), ()) := by
 rw [qfo, bneI]
 unfold q2J
 by_cases h : e.2.2.1 = 0
 ·simp only [dYT h, Bool.not_true, cF, Bool.true_or]
 ·by_cases h2 : now < e.2.2.1
  ·simp only [dYF h, Bool.not_false, cT, Bool.false_or, dYT h2, dYF (show ¬ e.2.2.1 <= now by omega), Bool.not_true]
  ·simp only [dYF h, Bool.not_false, cT, Bool.false_or, dYF h2, dYT (show e.2.2.1 <= now by omega)]
theorem qhR (t : List DE) (now : Int) (h : Bd t) : qbI t now = some (qP t now, ()) := by
 have hl : t.length <= 4194304 := h.len
 rw [qhg, q1b t h, oB, q63, q6l]
 have hi := qam (fun i => zh t (t.length : Int) i now) (fun e : DE => !(q2J now e)) dflt t (fun n => some (n, ((), ())))
  (fun i hi => by
   conv => lhs; rw [q29]
   have e1 : decide ((i : Int) < (t.length : Int)) = true := dYT (by omega)
   have e2 : decide (0 <= (i : Int)) = true := dYT (by omega)
   have e3 : w64 ((i : Int) + 1) = ((i + 1 : Nat) : Int) := qA (by omega)
   simp only [e1, e2, e3, Bool.and_self, cT, Int.toNat_natCast, qha (t.getD i dflt) now, oB])
  (by
   show zh t (t.length : Int) (t.length : Int) now = _
   rw [q29]
   simp only [Int.lt_irrefl, decide_false, cF])
 have hf : qP t now = t.filter fun e => !(!(q2J now e)) := by
  simp only [qP, Bool.not_not]
 have hd : (bif idxI (fun e : DE => !(q2J now e)) t 0 == -1 then some (t, ((), ())) else wu t (idxI (fun e : DE => !(q2J now e)) t 0) (w64 (idxI (fun e : DE => !(q2J now e)) t 0 + 1)) now) = some (qP t now, ((), ())) := by
  rw [hf]
  rcases q9e (fun e : DE => !(q2J now e)) t 0 with ⟨h1, h2⟩ | ⟨j, h1, h2, h3, h4⟩
  ·rw [h1, filter_none h2]; rfl
  ·rw [h2]
   have hne : ((((0 + j : Nat) : Int)) == -1) = false := by rw [wO]; exact dYF (by omega)
   rw [hne, cF, Nat.zero_add, show w64 ((j : Int) + 1) = ((j + 1 : Nat) : Int) from qA (by omega)]
   exact qeW (fun xs i j => wu xs i j now) (fun e : DE => !(q2J now e)) dflt t (fun l => some (l, ((), ())))
    (fun xs i j hj hij hxs _ => by
     conv => lhs; rw [q1Q]
     have e1 : decide ((j : Int) < (xs.length : Int)) = true := dYT (by omega)
     have e2 : decide (0 <= (j : Int)) = true := dYT (by omega)
     have e3 : w64 ((j : Int) + 1) = ((j + 1 : Nat) : Int) := qA (by omega)
     have e4 : w64 ((i : Int) + 1) = ((i + 1 : Nat) : Int) := qA (by omega)
     have e5 : decide ((i : Int) < (xs.length : Int)) = true := dYT (by omega)
     have e6 : decide (0 <= (i : Int)) = true := dYT (by omega)
     simp only [e1, e2, e3, e4, e5, e6, Bool.and_self, cT, Int.toNat_natCast, qha (xs.getD j dflt) now, oB])
    (fun xs i hi hxs => by
     show wu xs (i : Int) (t.length : Int) now = _
     rw [q1Q, <- hxs]
     have hz : (((List.take i xs) ++ (List.replicate (xs.length - i) dflt)) ++ (List.drop xs.length xs)).length = xs.length := by
      simp only [List.length_append, List.length_take, List.length_replicate, List.length_drop]; omega
     have hz' : (((List.take i xs) ++ (List.replicate (xs.length - i) (eB, ((0 : Int), ((0 : Int), (eB, ([] : List BA))))))) ++ (List.drop xs.length xs)).length = xs.length := hz
     simp only [Int.lt_irrefl, decide_false, cF, dYT (show (0 : Int) <= (i : Int) by omega), dYT (show (i : Int) <= (xs.length : Int) by omega), Int.le_refl, decide_true, Bool.and_self, cT, Int.toNat_natCast, hz', show Int.toNat 0 = 0 from rfl, Nat.sub_zero, List.drop_zero]
     rw [List.append_assoc, List.take_append_of_le_length (by rw [List.length_take]; omega), List.take_take, Nat.min_self])
    j h1 h3 h4
 rw [show zh t (t.length : Int) 0 (now, ()).1 = some (idxI (fun e : DE => !(q2J now e)) t 0, ((), ())) from hi]
 simp only [oB]
 rw [hd]; rfl
abbrev noR : RS := ([], (eB, false))
def jZ (t : List DE) (args : List BA) : RS := bif isB t args setN then wT (match args with | a :: k :: vals => setD t (upB a) k vals | _ => (t, (eB, false))) t else noR
def zL (t : List DE) (args : List BA) : RS := bif isB t args fldN then wT (match args with | a :: k :: vals => fldD t (upB a) k vals | _ => (t, (eB, false))) t else noR
def jg (t : List DE) (args : List BA) : RS := bif isB t args lstN then wT (match args with | a :: k :: vals => lstD t (upB a) k vals | _ => (t, (eB, false))) t else noR
def jl (t : List DE) (args : List BA) : RS := bif isB t args txtN then wT (match args with
 | a :: r => bif decide (upB a = ze) then (t, (arrB (q2G t r), false)) else bif decide (upB a = w9) then (q7t r t, (q02 c_OK, false)) else match r with | k :: vals => txtD t (upB a) k vals | _ => (t, (eB, false))
 | _ => (t, (eB, false))) t else noR
def q1H (t : List DE) (now : Int) (args : List BA) : RS := bif (decide (0 <= now) && decide (now <= 100000)) && isB t args keyN then wT (match args with
 | a :: r => bif decide (upB a = wX) then (t, (q02 q5t, false)) else bif decide (upB a = zo) then (t, (arrB ((q2X t).map zO), false)) else bif decide (upB a = yS) then (t, (numB (t.length : Int), false)) else bif decide (upB a = yF) then ([], (q02 c_OK, false)) else match r with | k :: vals => keyD t now (upB a) k vals | _ => (t, (eB, false))
 | _ => (t, (eB, false))) t else noR
theorem q7z {α : Type} {f g : Option (α × Unit)} {r x : α} (hf : f = some (r, ())) (hg : g = some (r, ())) (h : f = some (x, ())) : f = some (x, ()) /\ g = some (x, ()) :=
 ⟨h, hg.trans (hf.symm.trans h)⟩
theorem qln (t : List DE) (args : List BA) (h : Bd t) (ha : wB args <= 1048576) : q25 t args = some (jZ t args, ()) /\ q7o t args = some (jZ t args, ()) := by
 obtain ⟨r, _, hS, hI⟩ := qkO t args h ha
 refine q7z hS hI ?_
 have hl : args.length <= 1048576 := q0p ha
 have hs : ∀ s ∈ args, s.size <= 1048576 := fun s hs => q2t ha hs
 unfold jZ
 cases hp : isB t args setN with
 | false =>
  rw [q7c, show yX t args [jP, q0d, wD, q0a, q0y] = some (isB t args setN, ()) from zm t _ _ h (by omega) (fun s h => by have := hs s h; omega) (by decide), hp]
  rfl
 | true =>
  have hp' := hp
  unfold isB at hp'
  simp only [Bool.and_eq_true] at hp'
  obtain ⟨ht, hm, har⟩ := hp'
  match args, hl, hs, hp, hm, har with
  | a :: r, hl, hs, hp, hm, har =>
   obtain ⟨k, vals, rfl, h2⟩ := qdA (wQ.1 hm) har
   have hlen : (a :: k :: vals).length = vals.length + 2 := rfl
   have hks : k.size <= 4194304 := by have := hs k (List.mem_cons_of_mem _ (List.mem_cons_self ..)); omega
   exact qai t ht k vals (by omega) a (wQ.1 hm) hp hks (fun s h => by have := hs s h; omega) h2 (by omega)
theorem qiz (t : List DE) (args : List BA) (h : Bd t) (ha : wB args <= 1048576) : q2O t args = some (zL t args, ()) /\ q5J t args = some (zL t args, ()) := by
 obtain ⟨r, _, hS, hI⟩ := qiB t args h ha
 refine q7z hS hI ?_
 have hl : args.length <= 1048576 := q0p ha
 have hs : ∀ s ∈ args, s.size <= 1048576 := fun s hs => q2t ha hs
 unfold zL
 cases hp : isB t args fldN with
 | false =>
  rw [q5O, show yX t args [jG, jQ, q0I, q1P, jM, q59] = some (isB t args fldN, ()) from zm t _ _ h (by omega) (fun s h => by have := hs s h; omega) (by decide), hp]
  rfl
 | true =>
  have hp' := hp
  unfold isB at hp'
  simp only [Bool.and_eq_true] at hp'
  obtain ⟨ht, hm, har⟩ := hp'
  match args, hl, hs, hp, hm, har with
  | a :: r, hl, hs, hp, hm, har =>
   obtain ⟨k, vals, rfl, h2⟩ := qdu (wQ.1 hm) har
   have hlen : (a :: k :: vals).length = vals.length + 2 := rfl
   have hks : k.size <= 4194304 := by have := hs k (List.mem_cons_of_mem _ (List.mem_cons_self ..)); omega
   exact q8U t ht k vals (by omega) a hp hks (fun s h => by have := hs s h; omega) h2 (by omega)
theorem qky (t : List DE) (args : List BA) (h : Bd t) (ha : wB args <= 1048576) : q4N t args = some (jg t args, ()) /\ q6v t args = some (jg t args, ()) := by
 obtain ⟨r, _, hS, hI⟩ := qka t args h ha
 refine q7z hS hI ?_
 have hl : args.length <= 1048576 := q0p ha
 have hs : ∀ s ∈ args, s.size <= 1048576 := fun s hs => q2t ha hs
 unfold jg
 cases hp : isB t args lstN with
 | false =>
  rw [q68, show yX t args [zN, zP, q2o, q1n, q1O, jk, zu] = some (isB t args lstN, ()) from zm t _ _ h (by omega) (fun s h => by have := hs s h; omega) (by decide), hp]
  rfl
 | true =>
  have hp' := hp
  unfold isB at hp'
  simp only [Bool.and_eq_true] at hp'
  obtain ⟨ht, hm, har⟩ := hp'
  match args, hl, hs, hp, hm, har with
  | a :: r, hl, hs, hp, hm, har =>
   obtain ⟨k, vals, rfl, h2⟩ := qd5 (wQ.1 hm) har
   have hlen : (a :: k :: vals).length = vals.length + 2 := rfl
   have hks : k.size <= 4194304 := by have := hs k (List.mem_cons_of_mem _ (List.mem_cons_self ..)); omega
   exact q9i t ht k vals (by omega) a hp (wQ.1 hm) hks (fun s h => by have := hs s h; omega) h2 (by omega)
theorem qkv (t : List DE) (args : List BA) (h : Bd t) (ha : wB args <= 1048576) : q52 t args = some (jl t args, ()) /\ q6w t args = some (jl t args, ()) := by
 obtain ⟨r, _, hS, hI⟩ := qk0 t args h ha
 refine q7z hS hI ?_
 have hl : args.length <= 1048576 := q0p ha
 have hs : ∀ s ∈ args, s.size <= 1048576 := fun s hs => q2t ha hs
 have hsp := zm t args txtN h (by omega) (fun s h => by have := hs s h; omega) (by decide)
 unfold jl
 cases hp : isB t args txtN with
 | false =>
  rw [hp] at hsp
  rw [q0V, show yX t args [jC, q0x, j4, zw, zn, yT, jh, jA, q0F, zX, ze, w9] = some (false, ()) from hsp]
  rfl
 | true =>
  have hp' := hp
  unfold isB at hp'
  simp only [Bool.and_eq_true] at hp'
  obtain ⟨ht, hm, har⟩ := hp'
  have hbn : BdN 20 t := ⟨q0o ht, h.its, h.szs⟩
  have has := q1J ht
  rw [hp] at hsp
  match args, hl, hs, hp, hm, har, hsp with
  | a :: r, hl, hs, hp, hm, har, hsp =>
   simp only [List.length_cons] at hl
   have hrs : ∀ s ∈ r, s.size <= 4194304 := fun s hs' => by have := hs s (List.mem_cons_of_mem _ hs'); omega
   have k0 : (decide ((0 : Int) <= 0) && decide ((0 : Int) < ((a :: r).length : Int))) = true := by rw [dYT (show (0 : Int) < ((a :: r).length : Int) by simp only [List.length_cons]; omega)]; rfl
   have g0' : yH (List.getD (a :: r) (Int.toNat 0) eB) = some (upB a, ()) := zC a (by have := hs a (List.mem_cons_self ..); omega)
   by_cases m1 : upB a = ze
   ·rw [q0V, show yX t (a :: r) [jC, q0x, j4, zw, zn, yT, jh, jA, q0F, zX, ze, w9] = some (true, ()) from hsp]
    simp only [oB, Bool.not_true, cF, k0, cT, g0', qM, dYT m1]
    rw [qgt t ht a r (by omega), yV t ht [] (by simp)]
   ·by_cases m2 : upB a = w9
    ·have hmb := qfg r t 20 hbn has hrs
     have hmB : Bd (q7t r t) := hmb.bd (by omega)
     rw [q0V, show yX t (a :: r) [jC, q0x, j4, zw, zn, yT, jh, jA, q0F, zX, ze, w9] = some (true, ()) from hsp]
     simp only [oB, Bool.not_true, cF, k0, cT, g0', qM, dYF m1, dYT m2]
     have := qgm t r.length r [a] t 20 (Nat.le_refl _) hbn has (by omega) (by simp; omega) hrs
     rw [show ([a] ++ r) = a :: r from rfl] at this
     refine (show q14 t (a :: r) t 1 = _ from this).trans ?_
     rw [q62 t _ _ h hmB]; rfl
    ·obtain ⟨k, vals, rfl, h2⟩ := qde (wQ.1 hm) har m1 m2
     simp only [List.length_cons] at hl
     have hks : k.size <= 4194304 := hrs k (List.mem_cons_self ..)
     simp only [cT, dYF m1, dYF m2, cF]
     exact qbW t ht k vals (by omega) a hp m1 m2 hks (fun s h => by have := hs s h; omega) h2 (by simp only [List.length_cons]; omega)
theorem qlD (t : List DE) (now : Int) (args : List BA) (h : Bd t) (ha : wB args <= 1048576) : jI t now args = some (q1H t now args, ()) /\ q7i t now args = some (q1H t now args, ()) := by
 obtain ⟨r, _, hS, hI⟩ := qld t now args h ha
 refine q7z hS hI ?_
 have hl : args.length <= 1048576 := q0p ha
 have hs : ∀ s ∈ args, s.size <= 1048576 := fun s hs => q2t ha hs
 have hsp := zm t args keyN h (by omega) (fun s h => by have := hs s h; omega) (by decide)
 have hsp : yX t args [wX, zD, wG, qZ, jr, yj, zZ, wZ, zo, yS, yF] = some (isB t args keyN, ()) := hsp
 unfold q1H
 cases hp : isB t args keyN with
 | false =>
  rw [jJ, q06, hsp, hp]
  simp only [oB]
  cases (decide (0 <= now) && decide (now <= 100000)) <;> rfl
 | true =>
  cases hn : (decide (0 <= now) && decide (now <= 100000)) with
  | false => rw [jJ, q06, hn]; rfl
  | true =>
   have hn' := hn
   simp only [Bool.and_eq_true, decide_eq_true_eq] at hn'
   have hp' := hp
   unfold isB at hp'
   simp only [Bool.and_eq_true] at hp'
   obtain ⟨ht, hm, har⟩ := hp'
   match args, hl, hs, hp, hm, har, hsp with
   | a :: r, hl, hs, hp, hm, har, hsp =>
    simp only [List.length_cons] at hl
    rw [hp] at hsp
    have hu := wQ.1 hm
    have k0 : (decide ((0 : Int) <= 0) && decide ((0 : Int) < ((a :: r).length : Int))) = true := by rw [dYT (show (0 : Int) < ((a :: r).length : Int) by simp only [List.length_cons]; omega)]; rfl
    have g0' : yH (List.getD (a :: r) (Int.toNat 0) eB) = some (upB a, ()) := zC a (by have := hs a (List.mem_cons_self ..); omega)
    by_cases m1 : upB a = wX
    ·rw [jJ, q06, hn, hsp]
     simp only [oB, Bool.not_true, cF, k0, cT, g0', qM, yC t h, q1o q5t (by decide), dYT m1, Bool.and_self]
     rw [yV t ht [] (by simp)]
    ·by_cases m2 : upB a = zo
     ·have q1 : ¬ upB a = zD := by rw [m2]; decide +kernel
      have q2 : ¬ upB a = wG := by rw [m2]; decide +kernel
      have q3 : ¬ upB a = qZ := by rw [m2]; decide +kernel
      have q4 : ¬ upB a = jr := by rw [m2]; decide +kernel
      rw [jJ, q06, hn, hsp]
      simp only [oB, Bool.not_true, cF, k0, cT, g0', qM, dYF m1, dYT m2, dYF q1, dYF q2, dYF q3, dYF q4, qg7 t ht, Bool.and_self]
      rw [yV t ht [] (by simp)]
     ·by_cases m3 : upB a = yS
      ·have q1 : ¬ upB a = zD := by rw [m3]; decide +kernel
       have q2 : ¬ upB a = wG := by rw [m3]; decide +kernel
       have q3 : ¬ upB a = qZ := by rw [m3]; decide +kernel
       have q4 : ¬ upB a = jr := by rw [m3]; decide +kernel
       rw [jJ, q06, hn, hsp]
       simp only [oB, Bool.not_true, cF, k0, cT, g0', qM, dYF m1, dYF m2, dYT m3, dYF q1, dYF q2, dYF q3, dYF q4, yC t h, qY (t.length : Int) (by have := q0o ht; omega) (by have := q0o ht; omega), Bool.and_self]
       rw [yV t ht [] (by simp)]
      ·by_cases m4 : upB a = yF
       ·have q1 : ¬ upB a = zD := by rw [m4]; decide +kernel
        have q2 : ¬ upB a = wG := by rw [m4]; decide +kernel
        have q3 : ¬ upB a = qZ := by rw [m4]; decide +kernel
        have q4 : ¬ upB a = jr := by rw [m4]; decide +kernel
        rw [jJ, q06, hn, hsp]
        simp only [oB, Bool.not_true, cF, k0, cT, g0', qM, dYF m1, dYF m2, dYF m3, dYT m4, dYF q1, dYF q2, dYF q3, dYF q4, q1o c_OK (by decide), Bool.and_self]
        rfl
       ·obtain ⟨k, vals, rfl, h2⟩ := qd0 hu har m1 m2 m3 m4
        simp only [List.length_cons] at hl
        have hks : k.size <= 4194304 := by have := hs k (List.mem_cons_of_mem _ (List.mem_cons_self ..)); omega
        simp only [Bool.and_self, cT, dYF m1, dYF m2, dYF m3, dYF m4, cF]
        exact qcC t ht now hn' a k vals (by omega) hp hks h2 (fun s h => by have := hs s h; omega) hu m1 m2 m3 m4
end Go.Den.S
