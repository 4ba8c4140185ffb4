/- PzA: equations of the functions of this seat as the executor tells them, or plain facts about them. Conditions: none here. -/
import Derived.Test.YtbgaejnkjmjkhaaGreatDoorPxZ
set_option linter.all false
namespace Go.Den.S
open Go Go.Den
theorem qo3 : (keyN.all fun u => bif decide (u = wX) || (decide (u = zo) || (decide (u = yS) || decide (u = yF))) then memB u ar0 else bif decide (u = yj) then !(memB u ar0) && (!(memB u ar1) && memB u ar2) else bif decide (u = wG) || decide (u = qZ) then !(memB u ar0) && (!(memB u ar1) && (!(memB u ar2) && (!(memB u ar3) && memB u ar4))) else !(memB u ar0) && memB u ar1) = true := by decide +kernel
theorem qd0 {a : BA} {r : List BA} (hu : upB a ∈ keyN) (h : j5 (a :: r) = true) (m1 : ¬ upB a = wX) (m2 : ¬ upB a = zo) (m3 : ¬ upB a = yS) (m4 : ¬ upB a = yF) : ∃ k vals, r = k :: vals /\ (upB a = yj -> 1 <= vals.length) := by
 have q := List.all_eq_true.1 qo3 _ hu
 unfold j5 at h
 simp only [Bool.and_eq_true] at h
 have h := h.2
 unfold arB at h
 have key : ∀ n : Nat, r.length = n + 1 -> ∃ k vals, r = k :: vals /\ vals.length = n := fun n hn => by
  match r, hn with
  | k :: vals, hn => exact ⟨k, vals, rfl, by simpa using hn⟩
 rw [dYF m1, dYF m2, dYF m3, dYF m4] at q
 simp only [Bool.or_self, cF] at q
 by_cases e1 : upB a = yj
 ·rw [dYT e1] at q
  simp only [cT, Bool.and_eq_true, Bool.not_eq_true'] at q
  obtain ⟨q0, q1, q2⟩ := q
  simp only [q0, q1, q2, cT, cF, beq_iff_eq] at h
  obtain ⟨k, vals, e, hl⟩ := key 1 (by omega)
  exact ⟨k, vals, e, fun _ => by omega⟩
 ·rw [dYF e1] at q
  simp only [cF] at q
  by_cases e2 : upB a = wG \/ upB a = qZ
  ·have e2' : (decide (upB a = wG) || decide (upB a = qZ)) = true := by simpa using e2
   rw [e2'] at q
   simp only [cT, Bool.and_eq_true, Bool.not_eq_true'] at q
   obtain ⟨q0, q1, q2, q3, q4⟩ := q
   simp only [q0, q1, q2, q3, q4, cT, cF, decide_eq_true_eq] at h
   obtain ⟨k, vals, e, hl⟩ := key (r.length - 1) (by omega)
   exact ⟨k, vals, e, fun h => absurd h e1⟩
  ·have e2' : (decide (upB a = wG) || decide (upB a = qZ)) = false := by simpa using e2
   rw [e2'] at q
   simp only [cF, Bool.and_eq_true, Bool.not_eq_true'] at q
   simp only [q.1, q.2, cT, cF, beq_iff_eq] at h
   obtain ⟨k, vals, e, hl⟩ := key 0 (by omega)
   exact ⟨k, vals, e, fun h => absurd h e1⟩
def q2X (t : List DE) : List BA := t.map fun e => e.1
theorem qcX {t : List DE} (ht : tabB t = true) : (q2X t).length <= 20 /\ ∀ s ∈ q2X t, s.size <= 60 := by
 refine ⟨by unfold q2X; rw [List.length_map]; exact q0o ht, fun s hs => ?_⟩
 obtain ⟨e, he, rfl⟩ := List.mem_map.1 hs
 have := (q8A ht he).2
 omega
theorem qg7 (t : List DE) (ht : tabB t = true) : q2d t [] 0 = some ((t, (arrB ((q2X t).map zO), true)), ()) := by
 have hb := wY ht
 have hl := q0o ht
 obtain ⟨z1, z2⟩ := qcX ht
 have := wW (fun acc i => q2d t acc i) t dflt (fun a e => a ++ [e.1]) (fun acc => (qo t).bind fun r5 => (jE acc).bind fun r6 => some ((r5.1, (r6.1, true)), ())) (fun acc i => acc.length = i)
  (fun acc i hi hI => by
   constructor
   ·conv => lhs; rw [q8a]
    simp only [dYT (show (i : Int) < (t.length : Int) by omega), dYT (show (0 : Int) <= (i : Int) by omega), Bool.and_self, cT, Int.toNat_natCast, qJ (show (acc.length + 1) * 16 <= 140737488355328 by omega), show w64 ((i : Int) + 1) = ((i + 1 : Nat) : Int) from qA (by omega)]
   ·rw [List.length_append, hI]; rfl)
  (fun acc hI => by
   show q2d t acc (t.length : Int) = _
   rw [q8a]
   simp only [Int.lt_irrefl, decide_false, cF]) [] rfl
 refine this.trans ?_
 rw [q33 (fun e : DE => e.1), List.nil_append, yC t hb]
 show ((some (t, ())).bind fun r5 : List DE × Unit => (jE (q2X t)).bind fun r6 => some ((r5.1, (r6.1, true)), ())) = _
 rw [q2C _ (q8s _ (by omega) z2)]
 rfl
theorem qlQ (t : List DE) (ht : tabB t = true) : q2c t [] t (t.length : Int) 0 t eB false = some ((t, (arrB ((q2X t).map zO), true)), ()) := by
 have hb := wY ht
 have hl := q0o ht
 obtain ⟨z1, z2⟩ := qcX ht
 have := wW (fun acc i => q2c t acc t (t.length : Int) i t eB false) t dflt (fun a e => a ++ [e.1]) (fun acc => (q19 acc).bind fun r10 => (q0b r10.1).bind fun r11 => (qb (t, (eB, false)) r11.1).bind fun r12 => (qx r12.2.1 t).bind fun r13 => some (r13.1, ())) (fun acc i => acc.length = i)
  (fun acc i hi hI => by
   constructor
   ·conv => lhs; rw [q89]
    simp only [dYT (show (i : Int) < (t.length : Int) by omega), dYT (show (0 : Int) <= (i : Int) by omega), Bool.and_self, cT, Int.toNat_natCast, qJ (show (acc.length + 1) * 16 <= 140737488355328 by omega), show w64 ((i : Int) + 1) = ((i + 1 : Nat) : Int) from qA (by omega)]
   ·rw [List.length_append, hI]; rfl)
  (fun acc hI => by
   show q2c t acc t (t.length : Int) (t.length : Int) t eB false = _
   rw [q89]
   simp only [Int.lt_irrefl, decide_false, cF]) [] rfl
 refine this.trans ?_
 rw [q33 (fun e : DE => e.1), List.nil_append]
 obtain ⟨d', ho⟩ := q4y (t, (arrB ((q2X t).map zO), false)) t hb hb
 show ((q19 (q2X t)).bind _) = _
 rw [q4r _ (by omega) (fun s hs => by have := z2 s hs; omega)]
 simp only [oB, q2P _ (q8r _ (q8s _ (show (q2X t).length <= 1000 by omega) z2)), wH]
 show ((qx (t, (arrB ((q2X t).map zO), false)) t).bind _) = _
 rw [ho]
 simp only [oB, yV t ht [] (by simp)]
theorem qld (t : List DE) (now : Int) (args : List BA) (h : Bd t) (ha : wB args <= 1048576) : ∃ r : RS, Back t r /\ jI t now args = some (r, ()) /\ q7i t now args = some (r, ()) := by
 have hl : args.length <= 1048576 := q0p ha
 have hs : ∀ s ∈ args, s.size <= 1048576 := fun s hs => q2t ha hs
 have hi := q4x t args q2u keyN h (by omega) (fun s h => by have := hs s h; omega) qoc (by decide)
 have hsp := zm t args keyN h (by omega) (fun s h => by have := hs s h; omega) (by decide)
 have hsp : yX t args [wX, zD, wG, qZ, jr, yj, zZ, wZ, zo, yS, yF] = some (isB t args keyN, ()) := hsp
 rw [qff, hi]
 cases hp : isB t args keyN with
 | false =>
  refine ⟨([], (eB, false)), .inr q2R, ?_, rfl⟩
  rw [jJ, q06, hsp, hp]
  simp only [oB]
  cases (decide (0 <= now) && decide (now <= 100000)) <;> rfl
 | true =>
  cases hn : (decide (0 <= now) && decide (now <= 100000)) with
  | false =>
   refine ⟨([], (eB, false)), .inr q2R, ?_, ?_⟩
   ·rw [jJ, q06, hn]; rfl
   ·simp only [oB, cT, q0M, hn]; rfl
  | true =>
   have hn' := hn
   simp only [Bool.and_eq_true, decide_eq_true_eq] at hn'
   have hp' := hp
   unfold isB at hp'
   simp only [Bool.and_eq_true] at hp'
   obtain ⟨ht, hm, har⟩ := hp'
   match args, hl, hs, hp, hm, har, hsp with
   | a :: r, hl, hs, hp, hm, har, hsp =>
    simp only [List.length_cons] at hl
    rw [hp] at hsp
    have hu := wQ.1 hm
    have k0 : (decide ((0 : Int) <= 0) && decide ((0 : Int) < ((a :: r).length : Int))) = true := by rw [dYT (show (0 : Int) < ((a :: r).length : Int) by simp only [List.length_cons]; omega)]; rfl
    have k2 : (decide ((0 : Int) <= 1) && (decide ((1 : Int) <= ((a :: r).length : Int)) && decide (((a :: r).length : Int) <= ((a :: r).length : Int)))) = true := by rw [dYT (show (1 : Int) <= ((a :: r).length : Int) by simp only [List.length_cons]; omega), dYT (Int.le_refl _)]; rfl
    have g0 : zI (List.getD (a :: r) (Int.toNat 0) eB) = some (upB a, ()) := q2M a (by have := hs a (List.mem_cons_self ..); omega)
    have g0' : yH (List.getD (a :: r) (Int.toNat 0) eB) = some (upB a, ()) := zC a (by have := hs a (List.mem_cons_self ..); omega)
    have g2 : List.take ((Int.toNat ((a :: r).length : Int)) - (Int.toNat 1)) (List.drop (Int.toNat 1) (a :: r)) = r := by
     rw [Int.toNat_natCast]
     exact List.take_of_length_le (by show r.length <= (a :: r).length - 1; simp)
    have hover : ∀ x : BA, ∃ d', qx (sayB (t, (eB, false)) x) t = some ((t, (x, true)), (d', ())) := fun x => by
     obtain ⟨d', ho⟩ := q4y (t, (x, false)) t h h
     rw [yV t ht [] (by simp)] at ho
     exact ⟨d', ho⟩
    have hS : jI t now (a :: r) = _ := jJ t now (a :: r)
    rw [q06, hn, hsp] at hS
    simp only [oB, Bool.not_true, cF, k0, cT, g0', qM, yC t h, q1o q5t (by decide), q1o c_OK (by decide), qY (t.length : Int) (by have := q0o ht; omega) (by have := q0o ht; omega)] at hS
    simp only [oB, cT, q0M, hn, Bool.not_true, cF, k0, k2, g0, g2, qM, q3u q5t (by decide), q3u c_OK (by decide), qR (t.length : Int) (by have := q0o ht; omega) (by have := q0o ht; omega), wH]
    by_cases m1 : upB a = wX
    ·obtain ⟨d', ho⟩ := hover (q02 q5t)
     refine ⟨(t, (q02 q5t, true)), .inl rfl, ?_, ?_⟩
     ·rw [hS]; simp only [dYT m1, cT]
     ·simp only [dYT m1, cT, ho, oB]
    ·by_cases m2 : upB a = zo
     ·have q1 : ¬ upB a = zD := by rw [m2]; decide +kernel
      have q2 : ¬ upB a = wG := by rw [m2]; decide +kernel
      have q3 : ¬ upB a = qZ := by rw [m2]; decide +kernel
      have q4 : ¬ upB a = jr := by rw [m2]; decide +kernel
      refine ⟨(t, (arrB ((q2X t).map zO), true)), .inl rfl, ?_, ?_⟩
      ·rw [hS]; simp only [dYF m1, dYT m2, dYF q1, dYF q2, dYF q3, dYF q4, cT, cF, qg7 t ht]
      ·simp only [dYF m1, dYT m2, cT, cF, qlQ t ht]
     ·by_cases m3 : upB a = yS
      ·have q1 : ¬ upB a = zD := by rw [m3]; decide +kernel
       have q2 : ¬ upB a = wG := by rw [m3]; decide +kernel
       have q3 : ¬ upB a = qZ := by rw [m3]; decide +kernel
       have q4 : ¬ upB a = jr := by rw [m3]; decide +kernel
       obtain ⟨d', ho⟩ := hover (numB (t.length : Int))
       refine ⟨(t, (numB (t.length : Int), true)), .inl rfl, ?_, ?_⟩
       ·rw [hS]; simp only [dYF m1, dYF m2, dYT m3, dYF q1, dYF q2, dYF q3, dYF q4, cT, cF]
       ·simp only [dYF m1, dYF m2, dYT m3, cT, cF, ho, oB]
      ·by_cases m4 : upB a = yF
       ·have q1 : ¬ upB a = zD := by rw [m4]; decide +kernel
        have q2 : ¬ upB a = wG := by rw [m4]; decide +kernel
        have q3 : ¬ upB a = qZ := by rw [m4]; decide +kernel
        have q4 : ¬ upB a = jr := by rw [m4]; decide +kernel
        have hb0 : Bd [] := wY q2R
        obtain ⟨d', ho⟩ := q4y ([], (q02 c_OK, false)) t h hb0
        have ho : qx (sayB ([], (eB, false)) (q02 c_OK)) t = some (([], (q02 c_OK, true)), (d', ())) := ho
        refine ⟨([], (q02 c_OK, true)), .inr q2R, ?_, ?_⟩
        ·rw [hS]; simp only [dYF m1, dYF m2, dYF m3, dYT m4, dYF q1, dYF q2, dYF q3, dYF q4, cT, cF]
        ·simp only [dYF m1, dYF m2, dYF m3, dYT m4, cT, cF, ho, oB]
       ·obtain ⟨k, vals, rfl, h2⟩ := qd0 hu har m1 m2 m3 m4
        simp only [List.length_cons] at hl
        have hks : k.size <= 4194304 := by have := hs k (List.mem_cons_of_mem _ (List.mem_cons_self ..)); omega
        have hvs : ∀ s ∈ vals, s.size <= 4194304 := fun s hs' => by have := hs s (List.mem_cons_of_mem _ (List.mem_cons_of_mem _ hs')); omega
        obtain ⟨d', ho⟩ := q4y (keyD t now (upB a) k vals) t h (qj8 t ht now (upB a) k vals hks)
        refine ⟨wT (keyD t now (upB a) k vals) t, q3I _ _, qcC t ht now hn' a k vals (by omega) hp hks h2 (fun s h => by have := hs s h; omega) hu m1 m2 m3 m4, ?_⟩
        simp only [dYF m1, dYF m2, dYF m3, dYF m4, cF, qix t ht now hn' (upB a) k vals (by omega) (by omega) h2 hvs, ho, oB]
end Go.Den.S
