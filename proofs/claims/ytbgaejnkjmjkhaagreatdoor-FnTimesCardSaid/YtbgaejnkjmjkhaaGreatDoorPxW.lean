/- PxW: equations of the functions of this seat as the executor tells them, or plain facts about them. Conditions: none here. -/
import Derived.Test.YtbgaejnkjmjkhaaGreatDoorPxV
set_option linter.all false
namespace Go.Den.S
open Go Go.Den
def q2G (t : List DE) (ks : List BA) : List BA := ks.map fun k => txtR (fndB t k).1 (fndB t k).2
theorem qgo (v : DV) (b : Bool) (h : v.2.2.1.size <= 60) : (txtR v b).size <= 90 := by
 unfold txtR
 have hb := q5h v.2.2.1 (by omega)
 have hn : (nilR : BA).size <= 90 := by decide
 cases b with
 | false => exact hn
 | true =>
  cases decide (v.1 = 1) with
  | false => exact hn
  | true =>
   simp only [Bool.not_true, cF]
   omega
section
variable (t : List DE) (ht : tabB t = true)
include ht
theorem qjK (k : BA) : (fndB t k).1.2.2.1.size <= 60 := (q04 (k := k) ht).2.1
theorem qh7 (ks : List BA) (hl : ks.length <= 1048576) : wB (q2G t ks) <= 100000000 := by
 have : ∀ r : List BA, ((q2G t r).map ByteArray.size).sum <= 90 * r.length := by
  intro r
  induction r with
  | nil => simp [q2G]
  | cons x r ih =>
   have h1 := qgo (fndB t x).1 (fndB t x).2 (qjK t ht x)
   have e : q2G t (x :: r) = txtR (fndB t x).1 (fndB t x).2 :: q2G t r := rfl
   rw [e]
   simp only [List.map_cons, List.sum_cons, List.length_cons]; omega
 have h := this ks
 have hlen : (q2G t ks).length = ks.length := List.length_map ..
 unfold wB wl
 omega
theorem qkX (r : BA) (ks : List BA) (hl : ks.length <= 1048576) : yN [] ks (ks.length : Int) 0 t r false = some ((), ((t, (arrB (q2G t ks), false)), ())) := by
 have hb := wY ht
 have := wW (fun acc i => yN acc ks (ks.length : Int) i t r false) ks eB (fun a k => a ++ [txtR (fndB t k).1 (fndB t k).2]) (fun acc => (q0b acc).bind fun r9 => (qb (t, (r, false)) r9.1).bind fun r10 => some ((), (r10.2.1, ()))) (fun acc i => acc.length = i)
  (fun acc i hi hI => by
   constructor
   ·conv => lhs; rw [q0t]
    have hz := qjK t ht (ks.getD i eB)
    simp only [dYT (show (i : Int) < (ks.length : Int) by omega), dYT (show (0 : Int) <= (i : Int) by omega), Bool.and_self, cT, Int.toNat_natCast, q2l t _ hb, oB, qbH _ _ (show (fndB t (ks.getD i eB)).1.2.2.1.size <= 1000000000 by omega), qJ (show (acc.length + 1) * 16 <= 140737488355328 by omega), show w64 ((i : Int) + 1) = ((i + 1 : Nat) : Int) from qA (by omega)]
   ·rw [List.length_append, hI]; rfl)
  (fun acc hI => by
   show yN acc ks (ks.length : Int) (ks.length : Int) t r false = _
   rw [q0t]
   simp only [Int.lt_irrefl, decide_false, cF]) [] rfl
 rw [this, q33 (fun k => txtR (fndB t k).1 (fndB t k).2), List.nil_append]
 show ((q0b (q2G t ks)).bind _) = _
 rw [q2P _ (qh7 t ht ks hl)]
 simp only [oB, wH]
 rfl
theorem qgt (a : BA) (ks : List BA) (hl : ks.length <= 1048576) : q1a t (a :: ks) [] 1 = some ((t, (arrB (q2G t ks), true)), ()) := by
 have hb := wY ht
 have := wW (fun acc i => q1a t (a :: ks) acc (i + 1)) ks eB (fun a k => a ++ [txtR (fndB t k).1 (fndB t k).2]) (fun acc => (qo t).bind fun r6 => (q1U acc).bind fun r7 => some ((r6.1, (r7.1, true)), ())) (fun acc i => acc.length = i)
  (fun acc i hi hI => by
   have hg : (a :: ks).getD (i + 1) eB = ks.getD i eB := rfl
   constructor
   ·conv => lhs; rw [q7T]
    have e0 : (i : Int) + 1 = ((i + 1 : Nat) : Int) := rfl
    have e3 : w64 (((i + 1 : Nat) : Int) + 1) = ((i + 1 : Nat) : Int) + 1 := by rw [show w64 (((i + 1 : Nat) : Int) + 1) = ((i + 1 + 1 : Nat) : Int) from qA (by omega)]; rfl
    simp only [e0, e3, dYT (show ((i + 1 : Nat) : Int) < ((a :: ks).length : Int) by simp only [List.length_cons]; omega), dYT (show (0 : Int) <= ((i + 1 : Nat) : Int) by omega), Bool.and_self, cT, Int.toNat_natCast, hg, qe5 t _ hb, oB, qJ (show (acc.length + 1) * 16 <= 140737488355328 by omega)]
   ·rw [List.length_append, hI]; rfl)
  (fun acc hI => by
   show q1a t (a :: ks) acc ((ks.length : Int) + 1) = _
   rw [q7T]
   have e1 : decide ((ks.length : Int) + 1 < ((a :: ks).length : Int)) = false := dYF (by simp only [List.length_cons]; omega)
   simp only [e1, cF]) [] rfl
 have h2 : q1a t (a :: ks) [] 1 = _ := this
 rw [h2, q33 (fun k => txtR (fndB t k).1 (fndB t k).2), List.nil_append]
 show ((qo t).bind fun r6 => (q1U (q2G t ks)).bind fun r7 => some ((r6.1, (r7.1, true)), ())) = _
 rw [yC t hb, qaY _ (qh7 t ht ks hl)]
 rfl
end
theorem qnU : (txtN.all fun u => bif decide (u = ze) then !(memB u ar0) && (!(memB u ar1) && (!(memB u ar2) && (!(memB u ar3) && memB u ar4))) else bif decide (u = w9) then true else bif decide (u = jC) || (decide (u = yT) || (decide (u = jh) || decide (u = jA))) then !(memB u ar0) && memB u ar1 else !(memB u ar0) && (!(memB u ar1) && memB u ar2)) = true := by decide +kernel
theorem qde {a : BA} {r : List BA} (hu : upB a ∈ txtN) (h : j5 (a :: r) = true) (h1 : ¬ upB a = ze) (h1' : ¬ upB a = w9) : ∃ k vals, r = k :: vals /\ (¬ upB a = jC -> ¬ upB a = yT -> ¬ upB a = jh -> ¬ upB a = jA -> 1 <= vals.length) := by
 have q := List.all_eq_true.1 qnU _ hu
 unfold j5 at h
 simp only [Bool.and_eq_true] at h
 have h := h.2
 unfold arB at h
 have key : ∀ n : Nat, r.length = n + 1 -> ∃ k vals, r = k :: vals /\ vals.length = n := fun n hn => by
  match r, hn with
  | k :: vals, hn => exact ⟨k, vals, rfl, by simpa using hn⟩
 rw [dYF h1, dYF h1'] at q
 simp only [cF] at q
 by_cases e1 : upB a = jC \/ upB a = yT \/ upB a = jh \/ upB a = jA
 ·have e1' : (decide (upB a = jC) || (decide (upB a = yT) || (decide (upB a = jh) || decide (upB a = jA)))) = true := by simpa using e1
  rw [e1'] at q
  simp only [cT, Bool.and_eq_true, Bool.not_eq_true'] at q
  simp only [q.1, q.2, cT, cF, beq_iff_eq] at h
  obtain ⟨k, vals, e, hl⟩ := key 0 (by omega)
  refine ⟨k, vals, e, fun n1 n2 n3 n4 => ?_⟩
  rcases e1 with e1 | e1 | e1 | e1
  ·exact absurd e1 n1
  ·exact absurd e1 n2
  ·exact absurd e1 n3
  ·exact absurd e1 n4
 ·have e1' : (decide (upB a = jC) || (decide (upB a = yT) || (decide (upB a = jh) || decide (upB a = jA)))) = false := by simpa using e1
  rw [e1'] at q
  simp only [cF, Bool.and_eq_true, Bool.not_eq_true'] at q
  obtain ⟨q0, q1, q2⟩ := q
  simp only [q0, q1, q2, cT, cF, beq_iff_eq] at h
  obtain ⟨k, vals, e, hl⟩ := key 1 (by omega)
  exact ⟨k, vals, e, fun _ _ _ _ => by omega⟩
theorem qk0 (t : List DE) (args : List BA) (h : Bd t) (ha : wB args <= 1048576) : ∃ r : RS, Back t r /\ q52 t args = some (r, ()) /\ q6w t args = some (r, ()) := by
 have hl : args.length <= 1048576 := q0p ha
 have hs : ∀ s ∈ args, s.size <= 1048576 := fun s hs => q2t ha hs
 have hi := q4x t args q2y txtN h (by omega) (fun s h => by have := hs s h; omega) qo5 (by decide)
 have hsp := zm t args txtN h (by omega) (fun s h => by have := hs s h; omega) (by decide)
 rw [qez, hi]
 cases hp : isB t args txtN with
 | false =>
  rw [hp] at hsp
  refine ⟨([], (eB, false)), .inr q2R, ?_, rfl⟩
  rw [q0V, show yX t args [jC, q0x, j4, zw, zn, yT, jh, jA, q0F, zX, ze, w9] = some (false, ()) from hsp]
  rfl
 | true =>
  have hp' := hp
  unfold isB at hp'
  simp only [Bool.and_eq_true] at hp'
  obtain ⟨ht, hm, har⟩ := hp'
  have hbn : BdN 20 t := ⟨q0o ht, h.its, h.szs⟩
  have has := q1J ht
  rw [hp] at hsp
  match args, hl, hs, hp, hm, har, hsp with
  | a :: r, hl, hs, hp, hm, har, hsp =>
   simp only [List.length_cons] at hl
   have hrs : ∀ s ∈ r, s.size <= 4194304 := fun s hs' => by have := hs s (List.mem_cons_of_mem _ hs'); omega
   have k0 : (decide ((0 : Int) <= 0) && decide ((0 : Int) < ((a :: r).length : Int))) = true := by rw [dYT (show (0 : Int) < ((a :: r).length : Int) by simp only [List.length_cons]; omega)]; rfl
   have k2 : (decide ((0 : Int) <= 1) && (decide ((1 : Int) <= ((a :: r).length : Int)) && decide (((a :: r).length : Int) <= ((a :: r).length : Int)))) = true := by rw [dYT (show (1 : Int) <= ((a :: r).length : Int) by simp only [List.length_cons]; omega), dYT (Int.le_refl _)]; rfl
   have g0 : zI (List.getD (a :: r) (Int.toNat 0) eB) = some (upB a, ()) := q2M a (by have := hs a (List.mem_cons_self ..); omega)
   have g0' : yH (List.getD (a :: r) (Int.toNat 0) eB) = some (upB a, ()) := zC a (by have := hs a (List.mem_cons_self ..); omega)
   have g2 : List.take ((Int.toNat ((a :: r).length : Int)) - (Int.toNat 1)) (List.drop (Int.toNat 1) (a :: r)) = r := by
    rw [Int.toNat_natCast]
    exact List.take_of_length_le (by show r.length <= (a :: r).length - 1; simp)
   by_cases m1 : upB a = ze
   ·have hne : ¬ ze = w9 := by decide +kernel
    have hti : wP (t, (eB, false)) (upB a) r = some ((), ((t, (arrB (q2G t r), false)), ())) := by
     rw [q0R]
     simp only [qM, m1, dYF hne, cF]
     exact qkX t ht _ r (by omega)
    obtain ⟨d', ho⟩ := q4y (t, (arrB (q2G t r), false)) t h h
    refine ⟨wT (t, (arrB (q2G t r), false)) t, q3I _ _, ?_, ?_⟩
    ·rw [q0V, show yX t (a :: r) [jC, q0x, j4, zw, zn, yT, jh, jA, q0F, zX, ze, w9] = some (true, ()) from hsp]
     simp only [oB, Bool.not_true, cF, k0, cT, g0', qM, dYT m1]
     rw [qgt t ht a r (by omega), yV t ht [] (by simp)]
    ·simp only [oB, cT, Bool.not_true, cF, k0, k2, g0, g2, qM, dYT m1, hti, ho]
   ·by_cases m2 : upB a = w9
    ·have hmb := qfg r t 20 hbn has hrs
     have hmB : Bd (q7t r t) := hmb.bd (by omega)
     have hti : wP (t, (eB, false)) (upB a) r = some ((), ((q7t r t, (q02 c_OK, false)), ())) := by
      rw [q0R]
      simp only [qM, m2, decide_true, cT]
      exact qlc _ r.length r [] t 20 (Nat.le_refl _) hbn has (by omega) (by simp; omega) hrs
     obtain ⟨d', ho⟩ := q4y (q7t r t, (q02 c_OK, false)) t h hmB
     refine ⟨wT (q7t r t, (q02 c_OK, false)) t, q3I _ _, ?_, ?_⟩
     ·rw [q0V, show yX t (a :: r) [jC, q0x, j4, zw, zn, yT, jh, jA, q0F, zX, ze, w9] = some (true, ()) from hsp]
      simp only [oB, Bool.not_true, cF, k0, cT, g0', qM, dYF m1, dYT m2]
      have := qgm t r.length r [a] t 20 (Nat.le_refl _) hbn has (by omega) (by simp; omega) hrs
      rw [show ([a] ++ r) = a :: r from rfl] at this
      refine (show q14 t (a :: r) t 1 = _ from this).trans ?_
      rw [q62 t _ _ h hmB]; rfl
     ·simp only [oB, cT, Bool.not_true, cF, k0, k2, g0, g2, qM, dYF m1, dYT m2, hti, ho]
    ·obtain ⟨k, vals, rfl, h2⟩ := qde (wQ.1 hm) har m1 m2
     simp only [List.length_cons] at hl
     have hks : k.size <= 4194304 := hrs k (List.mem_cons_self ..)
     have hvs : ∀ s ∈ vals, s.size <= 2097152 := fun s hs' => by have := hs s (List.mem_cons_of_mem _ (List.mem_cons_of_mem _ hs')); omega
     obtain ⟨d', ho⟩ := q4y (txtD t (upB a) k vals) t h (qjq t ht k vals (by omega) (upB a) hks h2 hvs)
     refine ⟨wT (txtD t (upB a) k vals) t, q3I _ _, qbW t ht k vals (by omega) a hp m1 m2 hks (fun s h => by have := hs s h; omega) h2 (by simp only [List.length_cons]; omega), ?_⟩
     simp only [oB, cT, Bool.not_true, cF, k0, k2, g0, g2, qM, dYF m1, dYF m2, qhd t ht k vals (by omega) (upB a) (wQ.1 hm) m1 m2 h2 (fun s h => by have := hvs s h; omega), ho]
end Go.Den.S
