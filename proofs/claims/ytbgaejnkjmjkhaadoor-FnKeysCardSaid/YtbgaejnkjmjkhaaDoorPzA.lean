/- PzA: equations of the functions of this seat as the executor tells them, or plain facts about them. Conditions: none here. -/
import Derived.Test.YtbgaejnkjmjkhaaDoorPxZ
set_option linter.all false
namespace Go.Den.S
open Go Go.Den
theorem qdn : (keyN.all fun u => bif decide (u = wY) || (decide (u = wX) || (decide (u = yM) || decide (u = yG))) then memB u ar0 else bif decide (u = zP) then !(memB u ar0) && (!(memB u ar1) && memB u ar2) else bif decide (u = zh) || decide (u = wZ) then !(memB u ar0) && (!(memB u ar1) && (!(memB u ar2) && (!(memB u ar3) && memB u ar4))) else !(memB u ar0) && memB u ar1) = true := by decide +kernel
theorem qch {a : BA} {r : List BA} (hu : upB a ∈ keyN) (h : q2D (a :: r) = true) (m1 : ¬ upB a = wY) (m2 : ¬ upB a = wX) (m3 : ¬ upB a = yM) (m4 : ¬ upB a = yG) : ∃ k vals, r = k :: vals /\ (upB a = zP -> 1 <= vals.length) := by
 have q := List.all_eq_true.1 qdn _ hu
 unfold q2D at h
 simp only [Bool.and_eq_true] at h
 have h := h.2
 unfold arB at h
 have key : ∀ n : Nat, r.length = n + 1 -> ∃ k vals, r = k :: vals /\ vals.length = n := fun n hn => by
  match r, hn with
  | k :: vals, hn => exact ⟨k, vals, rfl, by simpa using hn⟩
 rw [dYF m1, dYF m2, dYF m3, dYF m4] at q
 simp only [Bool.or_self, cF] at q
 by_cases e1 : upB a = zP
 ·rw [dYT e1] at q
  simp only [cT, Bool.and_eq_true, Bool.not_eq_true'] at q
  obtain ⟨q0, q1, q2⟩ := q
  simp only [q0, q1, q2, cT, cF, beq_iff_eq] at h
  obtain ⟨k, vals, e, hl⟩ := key 1 (by omega)
  exact ⟨k, vals, e, fun _ => by omega⟩
 ·rw [dYF e1] at q
  simp only [cF] at q
  by_cases e2 : upB a = zh \/ upB a = wZ
  ·have e2' : (decide (upB a = zh) || decide (upB a = wZ)) = true := by simpa using e2
   rw [e2'] at q
   simp only [cT, Bool.and_eq_true, Bool.not_eq_true'] at q
   obtain ⟨q0, q1, q2, q3, q4⟩ := q
   simp only [q0, q1, q2, q3, q4, cT, cF, decide_eq_true_eq] at h
   obtain ⟨k, vals, e, hl⟩ := key (r.length - 1) (by omega)
   exact ⟨k, vals, e, fun h => absurd h e1⟩
  ·have e2' : (decide (upB a = zh) || decide (upB a = wZ)) = false := by simpa using e2
   rw [e2'] at q
   simp only [cF, Bool.and_eq_true, Bool.not_eq_true'] at q
   simp only [q.1, q.2, cT, cF, beq_iff_eq] at h
   obtain ⟨k, vals, e, hl⟩ := key 0 (by omega)
   exact ⟨k, vals, e, fun h => absurd h e1⟩
def zM (t : List DE) : List BA := t.map fun e => e.1
theorem qc9 {t : List DE} (ht : tabB t = true) : (zM t).length <= 20 /\ ∀ s ∈ zM t, s.size <= 60 := by
 refine ⟨by unfold zM; rw [List.length_map]; exact zU ht, fun s hs => ?_⟩
 obtain ⟨e, he, rfl⟩ := List.mem_map.1 hs
 have := (q0E ht he).2
 omega
theorem qaW (t : List DE) (ht : tabB t = true) : zK t [] t (t.length : Int) 0 t eB false = some ((t, (arrB ((zM t).map zZ), true)), ()) := by
 have hb := q1q ht
 have hl := zU ht
 obtain ⟨z1, z2⟩ := qc9 ht
 have := q11 (fun acc i => zK t acc t (t.length : Int) i t eB false) t dflt (fun a e => a ++ [e.1]) (fun acc => (q1a acc).bind fun r10 => (q1m r10.1).bind fun r11 => (qb (t, (eB, false)) r11.1).bind fun r12 => (qm r12.2.1 t).bind fun r13 => some (r13.1, ())) (fun acc i => acc.length = i)
  (fun acc i hi hI => by
   constructor
   ·conv => lhs; rw [q2c]
    simp only [dYT (show (i : Int) < (t.length : Int) by omega), dYT (show (0 : Int) <= (i : Int) by omega), Bool.and_self, cT, Int.toNat_natCast, wN (show (acc.length + 1) * 16 <= 140737488355328 by omega), show w64 ((i : Int) + 1) = ((i + 1 : Nat) : Int) from qR (by omega)]
   ·rw [List.length_append, hI]; rfl)
  (fun acc hI => by
   show zK t acc t (t.length : Int) (t.length : Int) t eB false = _
   rw [q2c]
   simp only [Int.lt_irrefl, decide_false, cF]) [] rfl
 refine this.trans ?_
 rw [q2Y (fun e : DE => e.1), List.nil_append]
 obtain ⟨d', ho⟩ := q4J (t, (arrB ((zM t).map zZ), false)) t hb hb
 show ((q1a (zM t)).bind _) = _
 rw [q7m _ (by omega) (fun s hs => by have := z2 s hs; omega)]
 simp only [oB, q7s _ (q9y _ (qcX _ (show (zM t).length <= 1000 by omega) z2)), q0l]
 show ((qm (t, (arrB ((zM t).map zZ), false)) t).bind _) = _
 rw [ho]
 simp only [oB, q23 t ht [] (by simp)]
end Go.Den.S
