/- PzC: equations of the functions of this seat as the executor tells them, or plain facts about them. Conditions: none here. -/
import Derived.Test.YthfdlonnbkffnaaGreatDoorPzA
set_option linter.all false
namespace Go.Den.S
open Go Go.Den
theorem qiX {t : List DE} : tabB t = true ↔ t.length <= 20 /\ (∀ e ∈ t, 1 <= e.1.size /\ e.1.size <= 20 /\ valB e.2 = true) /\ Asc t := by
 constructor
 ·intro h
  refine ⟨q0N h, fun e he => ?_, q1m h⟩
  obtain ⟨i, hi, rfl⟩ := List.mem_iff_getElem.1 he
  have := qhH h hi
  unfold enB at this
  rw [show ge t i = t[i] from zm hi] at this
  simp only [Bool.and_eq_true, decide_eq_true_eq] at this
  exact ⟨this.1.1.1, this.1.1.2, this.1.2⟩
 ·rintro ⟨h1, h2, h3⟩
  unfold tabB
  simp only [Bool.and_eq_true, decide_eq_true_eq, List.all_eq_true, List.mem_range]
  refine ⟨h1, fun i hi => ?_⟩
  unfold enB
  rw [show ge t i = t[i] from zm hi]
  obtain ⟨k1, k2, k3⟩ := h2 _ (List.getElem_mem hi)
  simp only [k1, k2, k3, decide_true, Bool.and_self, Bool.true_and, Bool.or_eq_true, Bool.not_eq_true', decide_eq_false_iff_not]
  by_cases hz : 0 < i
  ·right
   rw [show ge t (i - 1) = t[i - 1] from zm (by omega)]
   exact (List.pairwise_iff_getElem.1 h3) (i - 1) i (by omega) hi (by omega)
  ·left; exact hz
def q3N (now : Int) (e : DE) : Bool := decide (e.2.2.1 = 0) || decide (now < e.2.2.1)
def wY (t : List DE) (now : Int) : List DE := t.filter (q3N now)
theorem qhe {t : List DE} (h : tabB t = true) (now : Int) : tabB (wY t now) = true := by
 obtain ⟨h1, h2, h3⟩ := qiX.1 h
 exact qiX.2 ⟨Nat.le_trans (List.length_filter_le _ _) h1, fun e he => h2 e (List.mem_filter.1 he).1, h3.filter _⟩
theorem qhf (t : List DE) (now : Int) (h : Bd t) : qcl t now = some (wY t now, ()) := by
 have hl := h.len
 rw [qi1]
 have := wD (fun acc i => q2d t now acc i) t dflt (fun a e => bif q3N now e then a ++ [e] else a) (fun acc => some (acc, ())) (fun acc i => acc.length <= i)
  (fun acc i hi hI => by
   have hm := h.its _ (yg (d := dflt) hi)
   constructor
   ·conv => lhs; rw [qa7]
    simp only [dYT (show (i : Int) < (t.length : Int) by omega), dYT (show (0 : Int) <= (i : Int) by omega), Bool.and_self, cT, Int.toNat_natCast, q0l, yA (show (acc.length + 1) * 72 <= 140737488355328 by omega), show w64 ((i : Int) + 1) = ((i + 1 : Nat) : Int) from qz (by omega), q6M (t.getD i dflt).2 (by omega), oB]
    unfold q3N
    by_cases h1 : (t.getD i dflt).2.2.1 = 0
    ·simp only [dYT h1, cT, Bool.true_or]
    ·by_cases h2 : now < (t.getD i dflt).2.2.1
     ·simp only [dYF h1, gt_iff_lt, dYT h2, cT, cF, Bool.false_or]
     ·simp only [dYF h1, gt_iff_lt, dYF h2, cF, Bool.false_or]
   ·cases q3N now (t.getD i dflt) <;> simp <;> omega)
  (fun acc hI => by
   show q2d t now acc (t.length : Int) = _
   rw [qa7]
   simp only [Int.lt_irrefl, decide_false, cF]) [] (by simp)
 rw [this, q7K (q3N now) (fun e : DE => e), List.nil_append, List.map_id']
 rfl
theorem qi5 (e : DE) (now : Int) : q7L e now = some (!(q3N now e), ()) := by
 rw [qfx, bneI]
 unfold q3N
 by_cases h : e.2.2.1 = 0
 ·simp only [dYT h, Bool.not_true, cF, Bool.true_or]
 ·by_cases h2 : now < e.2.2.1
  ·simp only [dYF h, Bool.not_false, cT, Bool.false_or, dYT h2, dYF (show ¬ e.2.2.1 <= now by omega), Bool.not_true]
  ·simp only [dYF h, Bool.not_false, cT, Bool.false_or, dYF h2, dYT (show e.2.2.1 <= now by omega)]
theorem qi9 (t : List DE) (now : Int) (h : Bd t) : qbM t now = some (wY t now, ()) := by
 have hl : t.length <= 4194304 := h.len
 rw [qhd, q0P t h, oB, q6h, q6y]
 have hi := qb9 (fun i => wL t (t.length : Int) i now) (fun e : DE => !(q3N now e)) dflt t (fun n => some (n, ((), ())))
  (fun i hi => by
   conv => lhs; rw [q1M]
   have e1 : decide ((i : Int) < (t.length : Int)) = true := dYT (by omega)
   have e2 : decide (0 <= (i : Int)) = true := dYT (by omega)
   have e3 : w64 ((i : Int) + 1) = ((i + 1 : Nat) : Int) := qz (by omega)
   simp only [e1, e2, e3, Bool.and_self, cT, Int.toNat_natCast, qi5 (t.getD i dflt) now, oB])
  (by
   show wL t (t.length : Int) (t.length : Int) now = _
   rw [q1M]
   simp only [Int.lt_irrefl, decide_false, cF])
 have hf : wY t now = t.filter fun e => !(!(q3N now e)) := by
  simp only [wY, Bool.not_not]
 have hd : (bif idxI (fun e : DE => !(q3N now e)) t 0 == -1 then some (t, ((), ())) else yO t (idxI (fun e : DE => !(q3N now e)) t 0) (w64 (idxI (fun e : DE => !(q3N now e)) t 0 + 1)) now) = some (wY t now, ((), ())) := by
  rw [hf]
  rcases qab (fun e : DE => !(q3N now e)) t 0 with ⟨h1, h2⟩ | ⟨j, h1, h2, h3, h4⟩
  ·rw [h1, filter_none h2]; rfl
  ·rw [h2]
   have hne : ((((0 + j : Nat) : Int)) == -1) = false := by rw [q0l]; exact dYF (by omega)
   rw [hne, cF, Nat.zero_add, show w64 ((j : Int) + 1) = ((j + 1 : Nat) : Int) from qz (by omega)]
   exact qfm (fun xs i j => yO xs i j now) (fun e : DE => !(q3N now e)) dflt t (fun l => some (l, ((), ())))
    (fun xs i j hj hij hxs _ => by
     conv => lhs; rw [q1w]
     have e1 : decide ((j : Int) < (xs.length : Int)) = true := dYT (by omega)
     have e2 : decide (0 <= (j : Int)) = true := dYT (by omega)
     have e3 : w64 ((j : Int) + 1) = ((j + 1 : Nat) : Int) := qz (by omega)
     have e4 : w64 ((i : Int) + 1) = ((i + 1 : Nat) : Int) := qz (by omega)
     have e5 : decide ((i : Int) < (xs.length : Int)) = true := dYT (by omega)
     have e6 : decide (0 <= (i : Int)) = true := dYT (by omega)
     simp only [e1, e2, e3, e4, e5, e6, Bool.and_self, cT, Int.toNat_natCast, qi5 (xs.getD j dflt) now, oB])
    (fun xs i hi hxs => by
     show yO xs (i : Int) (t.length : Int) now = _
     rw [q1w, <- hxs]
     have hz : (((List.take i xs) ++ (List.replicate (xs.length - i) dflt)) ++ (List.drop xs.length xs)).length = xs.length := by
      simp only [List.length_append, List.length_take, List.length_replicate, List.length_drop]; omega
     have hz' : (((List.take i xs) ++ (List.replicate (xs.length - i) (eB, ((0 : Int), ((0 : Int), (eB, ([] : List BA))))))) ++ (List.drop xs.length xs)).length = xs.length := hz
     simp only [Int.lt_irrefl, decide_false, cF, dYT (show (0 : Int) <= (i : Int) by omega), dYT (show (i : Int) <= (xs.length : Int) by omega), Int.le_refl, decide_true, Bool.and_self, cT, Int.toNat_natCast, hz', show Int.toNat 0 = 0 from rfl, Nat.sub_zero, List.drop_zero]
     rw [List.append_assoc, List.take_append_of_le_length (by rw [List.length_take]; omega), List.take_take, Nat.min_self])
    j h1 h3 h4
 rw [show wL t (t.length : Int) 0 (now, ()).1 = some (idxI (fun e : DE => !(q3N now e)) t 0, ((), ())) from hi]
 simp only [oB]
 rw [hd]; rfl
abbrev noR : RS := ([], (eB, false))
def q3g (t : List DE) (args : List BA) : RS := bif isB t args setN then zX (match args with | a :: k :: vals => setD t (upB a) k vals | _ => (t, (eB, false))) t else noR
def q1g (t : List DE) (args : List BA) : RS := bif isB t args fldN then zX (match args with | a :: k :: vals => fldD t (upB a) k vals | _ => (t, (eB, false))) t else noR
def q2c (t : List DE) (args : List BA) : RS := bif isB t args lstN then zX (match args with | a :: k :: vals => lstD t (upB a) k vals | _ => (t, (eB, false))) t else noR
def q25 (t : List DE) (args : List BA) : RS := bif isB t args txtN then zX (match args with
 | a :: r => bif decide (upB a = zR) then (t, (arrB (q2s t r), false)) else bif decide (upB a = zI) then (q7M r t, (jR c_OK, false)) else match r with | k :: vals => txtD t (upB a) k vals | _ => (t, (eB, false))
 | _ => (t, (eB, false))) t else noR
def q7k (t : List DE) (now : Int) (args : List BA) : RS := bif (decide (0 <= now) && decide (now <= 100000)) && isB t args keyN then zX (match args with
 | a :: r => bif decide (upB a = q0f) then (t, (jR q5H, false)) else bif decide (upB a = q0i) then (t, (arrB ((q2L t).map zG), false)) else bif decide (upB a = zM) then (t, (numB (t.length : Int), false)) else bif decide (upB a = wM) then ([], (jR c_OK, false)) else match r with | k :: vals => keyD t now (upB a) k vals | _ => (t, (eB, false))
 | _ => (t, (eB, false))) t else noR
theorem q7Q {α : Type} {f g : Option (α × Unit)} {r x : α} (hf : f = some (r, ())) (hg : g = some (r, ())) (h : f = some (x, ())) : f = some (x, ()) /\ g = some (x, ()) :=
 ⟨h, hg.trans (hf.symm.trans h)⟩
theorem qkP (t : List DE) (args : List BA) (h : Bd t) (ha : wB args <= 1048576) : q1P t args = some (q3g t args, ()) /\ q7G t args = some (q3g t args, ()) := by
 obtain ⟨r, _, hS, hI⟩ := qkV t args h ha
 refine q7Q hS hI ?_
 have hl : args.length <= 1048576 := wN ha
 have hs : ∀ s ∈ args, s.size <= 1048576 := fun s hs => jA ha hs
 unfold q3g
 cases hp : isB t args setN with
 | false =>
  rw [q7o, show yG t args [jK, q02, wz, jW, q0J] = some (isB t args setN, ()) from wQ t _ _ h (by omega) (fun s h => by have := hs s h; omega) (by decide), hp]
  rfl
 | true =>
  have hp' := hp
  unfold isB at hp'
  simp only [Bool.and_eq_true] at hp'
  obtain ⟨ht, hm, har⟩ := hp'
  match args, hl, hs, hp, hm, har with
  | a :: r, hl, hs, hp, hm, har =>
   obtain ⟨k, vals, rfl, h2⟩ := qi7 (wP.1 hm) har
   have hlen : (a :: k :: vals).length = vals.length + 2 := rfl
   have hks : k.size <= 4194304 := by have := hs k (List.mem_cons_of_mem _ (List.mem_cons_self ..)); omega
   exact qaN t ht k vals (by omega) a (wP.1 hm) hp hks (fun s h => by have := hs s h; omega) h2 (by omega)
theorem qij (t : List DE) (args : List BA) (h : Bd t) (ha : wB args <= 1048576) : q2w t args = some (q1g t args, ()) /\ q5S t args = some (q1g t args, ()) := by
 obtain ⟨r, _, hS, hI⟩ := qiw t args h ha
 refine q7Q hS hI ?_
 have hl : args.length <= 1048576 := wN ha
 have hs : ∀ s ∈ args, s.size <= 1048576 := fun s hs => jA ha hs
 unfold q1g
 cases hp : isB t args fldN with
 | false =>
  rw [q5Y, show yG t args [jH, jL, q0H, q2m, jC, q63] = some (isB t args fldN, ()) from wQ t _ _ h (by omega) (fun s h => by have := hs s h; omega) (by decide), hp]
  rfl
 | true =>
  have hp' := hp
  unfold isB at hp'
  simp only [Bool.and_eq_true] at hp'
  obtain ⟨ht, hm, har⟩ := hp'
  match args, hl, hs, hp, hm, har with
  | a :: r, hl, hs, hp, hm, har =>
   obtain ⟨k, vals, rfl, h2⟩ := qgZ (wP.1 hm) har
   have hlen : (a :: k :: vals).length = vals.length + 2 := rfl
   have hks : k.size <= 4194304 := by have := hs k (List.mem_cons_of_mem _ (List.mem_cons_self ..)); omega
   exact q9y t ht k vals (by omega) a hp hks (fun s h => by have := hs s h; omega) h2 (by omega)
theorem qjK (t : List DE) (args : List BA) (h : Bd t) (ha : wB args <= 1048576) : q4X t args = some (q2c t args, ()) /\ q6P t args = some (q2c t args, ()) := by
 obtain ⟨r, _, hS, hI⟩ := qjL t args h ha
 refine q7Q hS hI ?_
 have hl : args.length <= 1048576 := wN ha
 have hs : ∀ s ∈ args, s.size <= 1048576 := fun s hs => jA ha hs
 unfold q2c
 cases hp : isB t args lstN with
 | false =>
  rw [q6T, show yG t args [zH, zF, q2a, q0Z, q2i, je, zn] = some (isB t args lstN, ()) from wQ t _ _ h (by omega) (fun s h => by have := hs s h; omega) (by decide), hp]
  rfl
 | true =>
  have hp' := hp
  unfold isB at hp'
  simp only [Bool.and_eq_true] at hp'
  obtain ⟨ht, hm, har⟩ := hp'
  match args, hl, hs, hp, hm, har with
  | a :: r, hl, hs, hp, hm, har =>
   obtain ⟨k, vals, rfl, h2⟩ := qh9 (wP.1 hm) har
   have hlen : (a :: k :: vals).length = vals.length + 2 := rfl
   have hks : k.size <= 4194304 := by have := hs k (List.mem_cons_of_mem _ (List.mem_cons_self ..)); omega
   exact qa5 t ht k vals (by omega) a hp (wP.1 hm) hks (fun s h => by have := hs s h; omega) h2 (by omega)
theorem qjA (t : List DE) (args : List BA) (h : Bd t) (ha : wB args <= 1048576) : q4y t args = some (q25 t args, ()) /\ q6I t args = some (q25 t args, ()) := by
 obtain ⟨r, _, hS, hI⟩ := qjD t args h ha
 refine q7Q hS hI ?_
 have hl : args.length <= 1048576 := wN ha
 have hs : ∀ s ∈ args, s.size <= 1048576 := fun s hs => jA ha hs
 have hsp := wQ t args txtN h (by omega) (fun s h => by have := hs s h; omega) (by decide)
 unfold q25
 cases hp : isB t args txtN with
 | false =>
  rw [hp] at hsp
  rw [q0D, show yG t args [jr, q0L, zN, z8, za, yM, zV, zU, q0C, zO, zR, zI] = some (false, ()) from hsp]
  rfl
 | true =>
  have hp' := hp
  unfold isB at hp'
  simp only [Bool.and_eq_true] at hp'
  obtain ⟨ht, hm, har⟩ := hp'
  have hbn : BdN 20 t := ⟨q0N ht, h.its, h.szs⟩
  have has := q1m ht
  rw [hp] at hsp
  match args, hl, hs, hp, hm, har, hsp with
  | a :: r, hl, hs, hp, hm, har, hsp =>
   simp only [List.length_cons] at hl
   have hrs : ∀ s ∈ r, s.size <= 4194304 := fun s hs' => by have := hs s (List.mem_cons_of_mem _ hs'); omega
   have k0 : (decide ((0 : Int) <= 0) && decide ((0 : Int) < ((a :: r).length : Int))) = true := by rw [dYT (show (0 : Int) < ((a :: r).length : Int) by simp only [List.length_cons]; omega)]; rfl
   have g0' : yF (List.getD (a :: r) (Int.toNat 0) eB) = some (upB a, ()) := zo a (by have := hs a (List.mem_cons_self ..); omega)
   by_cases m1 : upB a = zR
   ·rw [q0D, show yG t (a :: r) [jr, q0L, zN, z8, za, yM, zV, zU, q0C, zO, zR, zI] = some (true, ()) from hsp]
    simp only [oB, Bool.not_true, cF, k0, cT, g0', qG, dYT m1]
    rw [qge t ht a r (by omega), yH t ht [] (by simp)]
   ·by_cases m2 : upB a = zI
    ·have hmb := qfp r t 20 hbn has hrs
     have hmB : Bd (q7M r t) := hmb.bd (by omega)
     rw [q0D, show yG t (a :: r) [jr, q0L, zN, z8, za, yM, zV, zU, q0C, zO, zR, zI] = some (true, ()) from hsp]
     simp only [oB, Bool.not_true, cF, k0, cT, g0', qG, dYF m1, dYT m2]
     have := qg8 t r.length r [a] t 20 (Nat.le_refl _) hbn has (by omega) (by simp; omega) hrs
     rw [show ([a] ++ r) = a :: r from rfl] at this
     refine (show q0I t (a :: r) t 1 = _ from this).trans ?_
     rw [q6b t _ _ h hmB]; rfl
    ·obtain ⟨k, vals, rfl, h2⟩ := qhY (wP.1 hm) har m1 m2
     simp only [List.length_cons] at hl
     have hks : k.size <= 4194304 := hrs k (List.mem_cons_self ..)
     simp only [cT, dYF m1, dYF m2, cF]
     exact qcb t ht k vals (by omega) a hp m1 m2 hks (fun s h => by have := hs s h; omega) h2 (by simp only [List.length_cons]; omega)
theorem ql8 (t : List DE) (now : Int) (args : List BA) (h : Bd t) (ha : wB args <= 1048576) : j5 t now args = some (q7k t now args, ()) /\ q7H t now args = some (q7k t now args, ()) := by
 obtain ⟨r, _, hS, hI⟩ := ql7 t now args h ha
 refine q7Q hS hI ?_
 have hl : args.length <= 1048576 := wN ha
 have hs : ∀ s ∈ args, s.size <= 1048576 := fun s hs => jA ha hs
 have hsp := wQ t args keyN h (by omega) (fun s h => by have := hs s h; omega) (by decide)
 have hsp : yG t args [q0f, q05, zh, wm, q06, zD, q3b, q1d, q0i, zM, wM] = some (isB t args keyN, ()) := hsp
 unfold q7k
 cases hp : isB t args keyN with
 | false =>
  rw [jc, jF, hsp, hp]
  simp only [oB]
  cases (decide (0 <= now) && decide (now <= 100000)) <;> rfl
 | true =>
  cases hn : (decide (0 <= now) && decide (now <= 100000)) with
  | false => rw [jc, jF, hn]; rfl
  | true =>
   have hn' := hn
   simp only [Bool.and_eq_true, decide_eq_true_eq] at hn'
   have hp' := hp
   unfold isB at hp'
   simp only [Bool.and_eq_true] at hp'
   obtain ⟨ht, hm, har⟩ := hp'
   match args, hl, hs, hp, hm, har, hsp with
   | a :: r, hl, hs, hp, hm, har, hsp =>
    simp only [List.length_cons] at hl
    rw [hp] at hsp
    have hu := wP.1 hm
    have k0 : (decide ((0 : Int) <= 0) && decide ((0 : Int) < ((a :: r).length : Int))) = true := by rw [dYT (show (0 : Int) < ((a :: r).length : Int) by simp only [List.length_cons]; omega)]; rfl
    have g0' : yF (List.getD (a :: r) (Int.toNat 0) eB) = some (upB a, ()) := zo a (by have := hs a (List.mem_cons_self ..); omega)
    by_cases m1 : upB a = q0f
    ·rw [jc, jF, hn, hsp]
     simp only [oB, Bool.not_true, cF, k0, cT, g0', qG, qW t h, q11 q5H (by decide), dYT m1, Bool.and_self]
     rw [yH t ht [] (by simp)]
    ·by_cases m2 : upB a = q0i
     ·have q1 : ¬ upB a = q05 := by rw [m2]; decide +kernel
      have q2 : ¬ upB a = zh := by rw [m2]; decide +kernel
      have q3 : ¬ upB a = wm := by rw [m2]; decide +kernel
      have q4 : ¬ upB a = q06 := by rw [m2]; decide +kernel
      rw [jc, jF, hn, hsp]
      simp only [oB, Bool.not_true, cF, k0, cT, g0', qG, dYF m1, dYT m2, dYF q1, dYF q2, dYF q3, dYF q4, qg6 t ht, Bool.and_self]
      rw [yH t ht [] (by simp)]
     ·by_cases m3 : upB a = zM
      ·have q1 : ¬ upB a = q05 := by rw [m3]; decide +kernel
       have q2 : ¬ upB a = zh := by rw [m3]; decide +kernel
       have q3 : ¬ upB a = wm := by rw [m3]; decide +kernel
       have q4 : ¬ upB a = q06 := by rw [m3]; decide +kernel
       rw [jc, jF, hn, hsp]
       simp only [oB, Bool.not_true, cF, k0, cT, g0', qG, dYF m1, dYF m2, dYT m3, dYF q1, dYF q2, dYF q3, dYF q4, qW t h, qR (t.length : Int) (by have := q0N ht; omega) (by have := q0N ht; omega), Bool.and_self]
       rw [yH t ht [] (by simp)]
      ·by_cases m4 : upB a = wM
       ·have q1 : ¬ upB a = q05 := by rw [m4]; decide +kernel
        have q2 : ¬ upB a = zh := by rw [m4]; decide +kernel
        have q3 : ¬ upB a = wm := by rw [m4]; decide +kernel
        have q4 : ¬ upB a = q06 := by rw [m4]; decide +kernel
        rw [jc, jF, hn, hsp]
        simp only [oB, Bool.not_true, cF, k0, cT, g0', qG, dYF m1, dYF m2, dYF m3, dYT m4, dYF q1, dYF q2, dYF q3, dYF q4, q11 c_OK (by decide), Bool.and_self]
        rfl
       ·obtain ⟨k, vals, rfl, h2⟩ := qhq hu har m1 m2 m3 m4
        simp only [List.length_cons] at hl
        have hks : k.size <= 4194304 := by have := hs k (List.mem_cons_of_mem _ (List.mem_cons_self ..)); omega
        simp only [Bool.and_self, cT, dYF m1, dYF m2, dYF m3, dYF m4, cF]
        exact qd6 t ht now hn' a k vals (by omega) hp hks h2 (fun s h => by have := hs s h; omega) hu m1 m2 m3 m4
end Go.Den.S
