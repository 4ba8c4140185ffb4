/- PzC: equations of the functions of this seat as the executor tells them, or plain facts about them. Conditions: none here. -/
import Derived.Test.YtbgaejnkjmjkhaaDoorPzA
set_option linter.all false
namespace Go.Den.S
open Go Go.Den
theorem qcO {t : List DE} : tabB t = true ↔ t.length <= 20 /\ (∀ e ∈ t, 1 <= e.1.size /\ e.1.size <= 20 /\ valB e.2 = true) /\ Asc t := by
 constructor
 ·intro h
  refine ⟨zU h, fun e he => ?_, q1C h⟩
  obtain ⟨i, hi, rfl⟩ := List.mem_iff_getElem.1 he
  have := q4D h hi
  unfold enB at this
  rw [show ge t i = t[i] from wm hi] at this
  simp only [Bool.and_eq_true, decide_eq_true_eq] at this
  exact ⟨this.1.1.1, this.1.1.2, this.1.2⟩
 ·rintro ⟨h1, h2, h3⟩
  unfold tabB
  simp only [Bool.and_eq_true, decide_eq_true_eq, List.all_eq_true, List.mem_range]
  refine ⟨h1, fun i hi => ?_⟩
  unfold enB
  rw [show ge t i = t[i] from wm hi]
  obtain ⟨k1, k2, k3⟩ := h2 _ (List.getElem_mem hi)
  simp only [k1, k2, k3, decide_true, Bool.and_self, Bool.true_and, Bool.or_eq_true, Bool.not_eq_true', decide_eq_false_iff_not]
  by_cases hz : 0 < i
  ·right
   rw [show ge t (i - 1) = t[i - 1] from wm (by omega)]
   exact (List.pairwise_iff_getElem.1 h3) (i - 1) i (by omega) hi (by omega)
  ·left; exact hz
abbrev noR : RS := ([], (eB, false))
def q2v (t : List DE) (now : Int) (args : List BA) : RS := bif (decide (0 <= now) && decide (now <= 100000)) && isB t args keyN then q2l (match args with
 | a :: r => bif decide (upB a = wY) then (t, (zf q20, false)) else bif decide (upB a = wX) then (t, (arrB ((zM t).map zZ), false)) else bif decide (upB a = yM) then (t, (numB (t.length : Int), false)) else bif decide (upB a = yG) then ([], (zf c_OK, false)) else match r with | k :: vals => keyD t now (upB a) k vals | _ => (t, (eB, false))
 | _ => (t, (eB, false))) t else noR
theorem q0p (t : List DE) (now : Int) (args : List BA) (h : Bd t) (ha : wB args <= 1048576) : True /\ yh t now args = some (q2v t now args, ()) := by
 refine ⟨trivial, ?_⟩
 have hl : args.length <= 1048576 := q5V ha
 have hs : ∀ s ∈ args, s.size <= 1048576 := fun s hs => qaM ha hs
 have hi := q7v t args zN keyN h (by omega) (fun s h => by have := hs s h; omega) qdv (by decide)
 rw [q6p, hi]
 unfold q2v
 cases hp : isB t args keyN with
 | false =>
  rw [Bool.and_false]
  rfl
 | true =>
  cases hn : (decide (0 <= now) && decide (now <= 100000)) with
  | false =>
   simp only [oB, cT, q0X, hn]; rfl
  | true =>
   have hn' := hn
   simp only [Bool.and_eq_true, decide_eq_true_eq] at hn'
   have hp' := hp
   unfold isB at hp'
   simp only [Bool.and_eq_true] at hp'
   obtain ⟨ht, hm, har⟩ := hp'
   match args, hl, hs, hp, hm, har with
   | a :: r, hl, hs, hp, hm, har =>
    simp only [List.length_cons] at hl
    have hu := q3D.1 hm
    have k0 : (decide ((0 : Int) <= 0) && decide ((0 : Int) < ((a :: r).length : Int))) = true := by rw [dYT (show (0 : Int) < ((a :: r).length : Int) by simp only [List.length_cons]; omega)]; rfl
    have k2 : (decide ((0 : Int) <= 1) && (decide ((1 : Int) <= ((a :: r).length : Int)) && decide (((a :: r).length : Int) <= ((a :: r).length : Int)))) = true := by rw [dYT (show (1 : Int) <= ((a :: r).length : Int) by simp only [List.length_cons]; omega), dYT (Int.le_refl _)]; rfl
    have g0 : q0C (List.getD (a :: r) (Int.toNat 0) eB) = some (upB a, ()) := q3W a (by have := hs a (List.mem_cons_self ..); omega)
    have g2 : List.take ((Int.toNat ((a :: r).length : Int)) - (Int.toNat 1)) (List.drop (Int.toNat 1) (a :: r)) = r := by
     rw [Int.toNat_natCast]
     exact List.take_of_length_le (by show r.length <= (a :: r).length - 1; simp)
    have hover : ∀ x : BA, ∃ d', qm (sayB (t, (eB, false)) x) t = some ((t, (x, true)), (d', ())) := fun x => by
     obtain ⟨d', ho⟩ := q4J (t, (x, false)) t h h
     rw [q23 t ht [] (by simp)] at ho
     exact ⟨d', ho⟩
    simp only [oB, cT, q0X, hn, Bool.not_true, cF, k0, k2, g0, g2, jf, Bool.and_self, q1E q20 (by decide), q1E c_OK (by decide), wL (t.length : Int) (by have := zU ht; omega) (by have := zU ht; omega), q0l]
    by_cases m1 : upB a = wY
    ·obtain ⟨d', ho⟩ := hover (zf q20)
     simp only [dYT m1, cT, ho, oB]
     rw [q23 t ht [] (by simp)]
    ·by_cases m2 : upB a = wX
     ·simp only [dYF m1, dYT m2, cT, cF, qaW t ht]
      rw [q23 t ht [] (by simp)]
     ·by_cases m3 : upB a = yM
      ·obtain ⟨d', ho⟩ := hover (numB (t.length : Int))
       simp only [dYF m1, dYF m2, dYT m3, cT, cF, ho, oB]
       rw [q23 t ht [] (by simp)]
      ·by_cases m4 : upB a = yG
       ·have hb0 : Bd [] := q1q q6T
        obtain ⟨d', ho⟩ := q4J ([], (zf c_OK, false)) t h hb0
        have ho : qm (sayB ([], (eB, false)) (zf c_OK)) t = some (([], (zf c_OK, true)), (d', ())) := ho
        simp only [dYF m1, dYF m2, dYF m3, dYT m4, cT, cF, ho, oB]
        rfl
       ·obtain ⟨k, vals, rfl, h2⟩ := qch hu har m1 m2 m3 m4
        simp only [List.length_cons] at hl
        have hks : k.size <= 4194304 := by have := hs k (List.mem_cons_of_mem _ (List.mem_cons_self ..)); omega
        have hvs : ∀ s ∈ vals, s.size <= 4194304 := fun s hs' => by have := hs s (List.mem_cons_of_mem _ (List.mem_cons_of_mem _ hs')); omega
        obtain ⟨d', ho⟩ := q4J (keyD t now (upB a) k vals) t h (qcy t ht now (upB a) k vals hks)
        simp only [dYF m1, dYF m2, dYF m3, dYF m4, cF, q8X t ht now hn' (upB a) k vals (by omega) (by omega) h2 hvs, ho, oB]
end Go.Den.S
