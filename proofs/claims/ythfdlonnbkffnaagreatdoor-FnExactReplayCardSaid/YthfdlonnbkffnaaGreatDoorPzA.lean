/- PzA: equations of the functions of this seat as the executor tells them, or plain facts about them. Conditions: none here. -/
import Derived.Test.YthfdlonnbkffnaaGreatDoorPxZ
set_option linter.all false
namespace Go.Den.S
open Go Go.Den
theorem qmT : (keyN.all fun u => bif decide (u = q0f) || (decide (u = q0i) || (decide (u = zM) || decide (u = wM))) then memB u ar0 else bif decide (u = zD) then !(memB u ar0) && (!(memB u ar1) && memB u ar2) else bif decide (u = zh) || decide (u = wm) then !(memB u ar0) && (!(memB u ar1) && (!(memB u ar2) && (!(memB u ar3) && memB u ar4))) else !(memB u ar0) && memB u ar1) = true := by decide +kernel
theorem qhq {a : BA} {r : List BA} (hu : upB a ∈ keyN) (h : jY (a :: r) = true) (m1 : ¬ upB a = q0f) (m2 : ¬ upB a = q0i) (m3 : ¬ upB a = zM) (m4 : ¬ upB a = wM) : ∃ k vals, r = k :: vals /\ (upB a = zD -> 1 <= vals.length) := by
 have q := List.all_eq_true.1 qmT _ hu
 unfold jY at h
 simp only [Bool.and_eq_true] at h
 have h := h.2
 unfold arB at h
 have key : ∀ n : Nat, r.length = n + 1 -> ∃ k vals, r = k :: vals /\ vals.length = n := fun n hn => by
  match r, hn with
  | k :: vals, hn => exact ⟨k, vals, rfl, by simpa using hn⟩
 rw [dYF m1, dYF m2, dYF m3, dYF m4] at q
 simp only [Bool.or_self, cF] at q
 by_cases e1 : upB a = zD
 ·rw [dYT e1] at q
  simp only [cT, Bool.and_eq_true, Bool.not_eq_true'] at q
  obtain ⟨q0, q1, q2⟩ := q
  simp only [q0, q1, q2, cT, cF, beq_iff_eq] at h
  obtain ⟨k, vals, e, hl⟩ := key 1 (by omega)
  exact ⟨k, vals, e, fun _ => by omega⟩
 ·rw [dYF e1] at q
  simp only [cF] at q
  by_cases e2 : upB a = zh \/ upB a = wm
  ·have e2' : (decide (upB a = zh) || decide (upB a = wm)) = true := by simpa using e2
   rw [e2'] at q
   simp only [cT, Bool.and_eq_true, Bool.not_eq_true'] at q
   obtain ⟨q0, q1, q2, q3, q4⟩ := q
   simp only [q0, q1, q2, q3, q4, cT, cF, decide_eq_true_eq] at h
   obtain ⟨k, vals, e, hl⟩ := key (r.length - 1) (by omega)
   exact ⟨k, vals, e, fun h => absurd h e1⟩
  ·have e2' : (decide (upB a = zh) || decide (upB a = wm)) = false := by simpa using e2
   rw [e2'] at q
   simp only [cF, Bool.and_eq_true, Bool.not_eq_true'] at q
   simp only [q.1, q.2, cT, cF, beq_iff_eq] at h
   obtain ⟨k, vals, e, hl⟩ := key 0 (by omega)
   exact ⟨k, vals, e, fun h => absurd h e1⟩
def q2L (t : List DE) : List BA := t.map fun e => e.1
theorem qdk {t : List DE} (ht : tabB t = true) : (q2L t).length <= 20 /\ ∀ s ∈ q2L t, s.size <= 60 := by
 refine ⟨by unfold q2L; rw [List.length_map]; exact q0N ht, fun s hs => ?_⟩
 obtain ⟨e, he, rfl⟩ := List.mem_map.1 hs
 have := (qaK ht he).2
 omega
theorem qg6 (t : List DE) (ht : tabB t = true) : q1W t [] 0 = some ((t, (arrB ((q2L t).map zG), true)), ()) := by
 have hb := wR ht
 have hl := q0N ht
 obtain ⟨z1, z2⟩ := qdk ht
 have := wD (fun acc i => q1W t acc i) t dflt (fun a e => a ++ [e.1]) (fun acc => (ql t).bind fun r5 => (j4 acc).bind fun r6 => some ((r5.1, (r6.1, true)), ())) (fun acc i => acc.length = i)
  (fun acc i hi hI => by
   constructor
   ·conv => lhs; rw [q8S]
    simp only [dYT (show (i : Int) < (t.length : Int) by omega), dYT (show (0 : Int) <= (i : Int) by omega), Bool.and_self, cT, Int.toNat_natCast, yA (show (acc.length + 1) * 16 <= 140737488355328 by omega), show w64 ((i : Int) + 1) = ((i + 1 : Nat) : Int) from qz (by omega)]
   ·rw [List.length_append, hI]; rfl)
  (fun acc hI => by
   show q1W t acc (t.length : Int) = _
   rw [q8S]
   simp only [Int.lt_irrefl, decide_false, cF]) [] rfl
 refine this.trans ?_
 rw [q2T (fun e : DE => e.1), List.nil_append, qW t hb]
 show ((some (t, ())).bind fun r5 : List DE × Unit => (j4 (q2L t)).bind fun r6 => some ((r5.1, (r6.1, true)), ())) = _
 rw [q27 _ (q9d _ (by omega) z2)]
 rfl
theorem qkZ (t : List DE) (ht : tabB t = true) : q1U t [] t (t.length : Int) 0 t eB false = some ((t, (arrB ((q2L t).map zG), true)), ()) := by
 have hb := wR ht
 have hl := q0N ht
 obtain ⟨z1, z2⟩ := qdk ht
 have := wD (fun acc i => q1U t acc t (t.length : Int) i t eB false) t dflt (fun a e => a ++ [e.1]) (fun acc => (q0G acc).bind fun r10 => (jJ r10.1).bind fun r11 => (q9 (t, (eB, false)) r11.1).bind fun r12 => (qw r12.2.1 t).bind fun r13 => some (r13.1, ())) (fun acc i => acc.length = i)
  (fun acc i hi hI => by
   constructor
   ·conv => lhs; rw [q8U]
    simp only [dYT (show (i : Int) < (t.length : Int) by omega), dYT (show (0 : Int) <= (i : Int) by omega), Bool.and_self, cT, Int.toNat_natCast, yA (show (acc.length + 1) * 16 <= 140737488355328 by omega), show w64 ((i : Int) + 1) = ((i + 1 : Nat) : Int) from qz (by omega)]
   ·rw [List.length_append, hI]; rfl)
  (fun acc hI => by
   show q1U t acc t (t.length : Int) (t.length : Int) t eB false = _
   rw [q8U]
   simp only [Int.lt_irrefl, decide_false, cF]) [] rfl
 refine this.trans ?_
 rw [q2T (fun e : DE => e.1), List.nil_append]
 obtain ⟨d', ho⟩ := q4k (t, (arrB ((q2L t).map zG), false)) t hb hb
 show ((q0G (q2L t)).bind _) = _
 rw [q4e _ (by omega) (fun s hs => by have := z2 s hs; omega)]
 simp only [oB, q2A _ (q9e _ (q9d _ (show (q2L t).length <= 1000 by omega) z2)), yR]
 show ((qw (t, (arrB ((q2L t).map zG), false)) t).bind _) = _
 rw [ho]
 simp only [oB, yH t ht [] (by simp)]
theorem ql7 (t : List DE) (now : Int) (args : List BA) (h : Bd t) (ha : wB args <= 1048576) : ∃ r : RS, Back t r /\ j5 t now args = some (r, ()) /\ q7H t now args = some (r, ()) := by
 have hl : args.length <= 1048576 := wN ha
 have hs : ∀ s ∈ args, s.size <= 1048576 := fun s hs => jA ha hs
 have hi := q47 t args q2e keyN h (by omega) (fun s h => by have := hs s h; omega) qn0 (by decide)
 have hsp := wQ t args keyN h (by omega) (fun s h => by have := hs s h; omega) (by decide)
 have hsp : yG t args [q0f, q05, zh, wm, q06, zD, q3b, q1d, q0i, zM, wM] = some (isB t args keyN, ()) := hsp
 rw [qfI, hi]
 cases hp : isB t args keyN with
 | false =>
  refine ⟨([], (eB, false)), .inr q1Y, ?_, rfl⟩
  rw [jc, jF, hsp, hp]
  simp only [oB]
  cases (decide (0 <= now) && decide (now <= 100000)) <;> rfl
 | true =>
  cases hn : (decide (0 <= now) && decide (now <= 100000)) with
  | false =>
   refine ⟨([], (eB, false)), .inr q1Y, ?_, ?_⟩
   ·rw [jc, jF, hn]; rfl
   ·simp only [oB, cT, q0p, hn]; rfl
  | true =>
   have hn' := hn
   simp only [Bool.and_eq_true, decide_eq_true_eq] at hn'
   have hp' := hp
   unfold isB at hp'
   simp only [Bool.and_eq_true] at hp'
   obtain ⟨ht, hm, har⟩ := hp'
   match args, hl, hs, hp, hm, har, hsp with
   | a :: r, hl, hs, hp, hm, har, hsp =>
    simp only [List.length_cons] at hl
    rw [hp] at hsp
    have hu := wP.1 hm
    have k0 : (decide ((0 : Int) <= 0) && decide ((0 : Int) < ((a :: r).length : Int))) = true := by rw [dYT (show (0 : Int) < ((a :: r).length : Int) by simp only [List.length_cons]; omega)]; rfl
    have k2 : (decide ((0 : Int) <= 1) && (decide ((1 : Int) <= ((a :: r).length : Int)) && decide (((a :: r).length : Int) <= ((a :: r).length : Int)))) = true := by rw [dYT (show (1 : Int) <= ((a :: r).length : Int) by simp only [List.length_cons]; omega), dYT (Int.le_refl _)]; rfl
    have g0 : ze (List.getD (a :: r) (Int.toNat 0) eB) = some (upB a, ()) := q2v a (by have := hs a (List.mem_cons_self ..); omega)
    have g0' : yF (List.getD (a :: r) (Int.toNat 0) eB) = some (upB a, ()) := zo a (by have := hs a (List.mem_cons_self ..); omega)
    have g2 : List.take ((Int.toNat ((a :: r).length : Int)) - (Int.toNat 1)) (List.drop (Int.toNat 1) (a :: r)) = r := by
     rw [Int.toNat_natCast]
     exact List.take_of_length_le (by show r.length <= (a :: r).length - 1; simp)
    have hover : ∀ x : BA, ∃ d', qw (sayB (t, (eB, false)) x) t = some ((t, (x, true)), (d', ())) := fun x => by
     obtain ⟨d', ho⟩ := q4k (t, (x, false)) t h h
     rw [yH t ht [] (by simp)] at ho
     exact ⟨d', ho⟩
    have hS : j5 t now (a :: r) = _ := jc t now (a :: r)
    rw [jF, hn, hsp] at hS
    simp only [oB, Bool.not_true, cF, k0, cT, g0', qG, qW t h, q11 q5H (by decide), q11 c_OK (by decide), qR (t.length : Int) (by have := q0N ht; omega) (by have := q0N ht; omega)] at hS
    simp only [oB, cT, q0p, hn, Bool.not_true, cF, k0, k2, g0, g2, qG, q3i q5H (by decide), q3i c_OK (by decide), qM (t.length : Int) (by have := q0N ht; omega) (by have := q0N ht; omega), yR]
    by_cases m1 : upB a = q0f
    ·obtain ⟨d', ho⟩ := hover (jR q5H)
     refine ⟨(t, (jR q5H, true)), .inl rfl, ?_, ?_⟩
     ·rw [hS]; simp only [dYT m1, cT]
     ·simp only [dYT m1, cT, ho, oB]
    ·by_cases m2 : upB a = q0i
     ·have q1 : ¬ upB a = q05 := by rw [m2]; decide +kernel
      have q2 : ¬ upB a = zh := by rw [m2]; decide +kernel
      have q3 : ¬ upB a = wm := by rw [m2]; decide +kernel
      have q4 : ¬ upB a = q06 := by rw [m2]; decide +kernel
      refine ⟨(t, (arrB ((q2L t).map zG), true)), .inl rfl, ?_, ?_⟩
      ·rw [hS]; simp only [dYF m1, dYT m2, dYF q1, dYF q2, dYF q3, dYF q4, cT, cF, qg6 t ht]
      ·simp only [dYF m1, dYT m2, cT, cF, qkZ t ht]
     ·by_cases m3 : upB a = zM
      ·have q1 : ¬ upB a = q05 := by rw [m3]; decide +kernel
       have q2 : ¬ upB a = zh := by rw [m3]; decide +kernel
       have q3 : ¬ upB a = wm := by rw [m3]; decide +kernel
       have q4 : ¬ upB a = q06 := by rw [m3]; decide +kernel
       obtain ⟨d', ho⟩ := hover (numB (t.length : Int))
       refine ⟨(t, (numB (t.length : Int), true)), .inl rfl, ?_, ?_⟩
       ·rw [hS]; simp only [dYF m1, dYF m2, dYT m3, dYF q1, dYF q2, dYF q3, dYF q4, cT, cF]
       ·simp only [dYF m1, dYF m2, dYT m3, cT, cF, ho, oB]
      ·by_cases m4 : upB a = wM
       ·have q1 : ¬ upB a = q05 := by rw [m4]; decide +kernel
        have q2 : ¬ upB a = zh := by rw [m4]; decide +kernel
        have q3 : ¬ upB a = wm := by rw [m4]; decide +kernel
        have q4 : ¬ upB a = q06 := by rw [m4]; decide +kernel
        have hb0 : Bd [] := wR q1Y
        obtain ⟨d', ho⟩ := q4k ([], (jR c_OK, false)) t h hb0
        have ho : qw (sayB ([], (eB, false)) (jR c_OK)) t = some (([], (jR c_OK, true)), (d', ())) := ho
        refine ⟨([], (jR c_OK, true)), .inr q1Y, ?_, ?_⟩
        ·rw [hS]; simp only [dYF m1, dYF m2, dYF m3, dYT m4, dYF q1, dYF q2, dYF q3, dYF q4, cT, cF]
        ·simp only [dYF m1, dYF m2, dYF m3, dYT m4, cT, cF, ho, oB]
       ·obtain ⟨k, vals, rfl, h2⟩ := qhq hu har m1 m2 m3 m4
        simp only [List.length_cons] at hl
        have hks : k.size <= 4194304 := by have := hs k (List.mem_cons_of_mem _ (List.mem_cons_self ..)); omega
        have hvs : ∀ s ∈ vals, s.size <= 4194304 := fun s hs' => by have := hs s (List.mem_cons_of_mem _ (List.mem_cons_of_mem _ hs')); omega
        obtain ⟨d', ho⟩ := q4k (keyD t now (upB a) k vals) t h (qjn t ht now (upB a) k vals hks)
        refine ⟨zX (keyD t now (upB a) k vals) t, q3v _ _, qd6 t ht now hn' a k vals (by omega) hp hks h2 (fun s h => by have := hs s h; omega) hu m1 m2 m3 m4, ?_⟩
        simp only [dYF m1, dYF m2, dYF m3, dYF m4, cF, qii t ht now hn' (upB a) k vals (by omega) (by omega) h2 hvs, ho, oB]
end Go.Den.S
