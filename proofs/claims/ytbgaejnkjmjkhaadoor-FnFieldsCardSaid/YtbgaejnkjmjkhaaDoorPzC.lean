/- PzC: equations of the functions of this seat as the executor tells them, or plain facts about them. Conditions: none here. -/
import Derived.Test.YtbgaejnkjmjkhaaDoorPxX
set_option linter.all false
namespace Go.Den.S
open Go Go.Den
theorem qf1 {t : List DE} : tabB t = true ↔ t.length <= 20 /\ (∀ e ∈ t, 1 <= e.1.size /\ e.1.size <= 20 /\ valB e.2 = true) /\ Asc t := by
 constructor
 ·intro h
  refine ⟨q6n h, fun e he => ?_, q4G h⟩
  obtain ⟨i, hi, rfl⟩ := List.mem_iff_getElem.1 he
  have := qas h hi
  unfold enB at this
  rw [show ge t i = t[i] from yU hi] at this
  simp only [Bool.and_eq_true, decide_eq_true_eq] at this
  exact ⟨this.1.1.1, this.1.1.2, this.1.2⟩
 ·rintro ⟨h1, h2, h3⟩
  unfold tabB
  simp only [Bool.and_eq_true, decide_eq_true_eq, List.all_eq_true, List.mem_range]
  refine ⟨h1, fun i hi => ?_⟩
  unfold enB
  rw [show ge t i = t[i] from yU hi]
  obtain ⟨k1, k2, k3⟩ := h2 _ (List.getElem_mem hi)
  simp only [k1, k2, k3, decide_true, Bool.and_self, Bool.true_and, Bool.or_eq_true, Bool.not_eq_true', decide_eq_false_iff_not]
  by_cases hz : 0 < i
  ·right
   rw [show ge t (i - 1) = t[i - 1] from yU (by omega)]
   exact (List.pairwise_iff_getElem.1 h3) (i - 1) i (by omega) hi (by omega)
  ·left; exact hz
abbrev noR : RS := ([], (eB, false))
def zM (t : List DE) (args : List BA) : RS := bif isB t args setN then q6a (match args with | a :: k :: vals => setD t (upB a) k vals | _ => (t, (eB, false))) t else noR
def wX (t : List DE) (args : List BA) : RS := bif isB t args fldN then q6a (match args with | a :: k :: vals => fldD t (upB a) k vals | _ => (t, (eB, false))) t else noR
theorem q0i (t : List DE) (args : List BA) (h : Bd t) (ha : wB args <= 1048576) : True /\ yw t args = some (zM t args, ()) := by
 refine ⟨trivial, ?_⟩
 have hl : args.length <= 1048576 := q5Z ha
 have hs : ∀ s ∈ args, s.size <= 1048576 := fun s hs => q9s ha hs
 have hi := q5w t args jG setN h (by omega) (fun s h => by have := hs s h; omega) qfJ (by decide)
 rw [q8A, hi]
 unfold zM
 cases hp : isB t args setN with
 | false =>
  rfl
 | true =>
  have hp' := hp
  unfold isB at hp'
  simp only [Bool.and_eq_true] at hp'
  obtain ⟨ht, hm, har⟩ := hp'
  match args, hl, hs, hp, hm, har with
  | a :: r, hl, hs, hp, hm, har =>
   obtain ⟨k, vals, rfl, h2⟩ := qeh (jc.1 hm) har
   have hlen : (a :: k :: vals).length = vals.length + 2 := rfl
   have hv : vals.length <= 2097152 := by omega
   have hks : k.size <= 4194304 := by have := hs k (List.mem_cons_of_mem _ (List.mem_cons_self ..)); omega
   have k1 : (decide ((0 : Int) <= 1) && decide ((1 : Int) < ((a :: k :: vals).length : Int))) = true := by rw [dYT (show (1 : Int) < ((a :: k :: vals).length : Int) by omega)]; rfl
   have k0 : (decide ((0 : Int) <= 0) && decide ((0 : Int) < ((a :: k :: vals).length : Int))) = true := by rw [dYT (show (0 : Int) < ((a :: k :: vals).length : Int) by omega)]; rfl
   have k2 : (decide ((0 : Int) <= 2) && (decide ((2 : Int) <= ((a :: k :: vals).length : Int)) && decide (((a :: k :: vals).length : Int) <= ((a :: k :: vals).length : Int)))) = true := by rw [dYT (show (2 : Int) <= ((a :: k :: vals).length : Int) by omega), dYT (Int.le_refl _)]; rfl
   have g0 : ji (List.getD (a :: k :: vals) (Int.toNat 0) eB) = some (upB a, ()) := q3k a (by have := hs a (List.mem_cons_self ..); omega)
   have g1 : List.getD (a :: k :: vals) (Int.toNat 1) eB = k := rfl
   have g2 : List.take ((Int.toNat ((a :: k :: vals).length : Int)) - (Int.toNat 2)) (List.drop (Int.toNat 2) (a :: k :: vals)) = vals := by
    rw [Int.toNat_natCast]
    exact List.take_of_length_le (by show vals.length <= (a :: k :: vals).length - 2; omega)
   obtain ⟨d', ho⟩ := qbL (setD t (upB a) k vals) t h (qeV t ht k vals hv (upB a) hks (fun s hs' => by have := hs s (List.mem_cons_of_mem _ (List.mem_cons_of_mem _ hs')); omega))
   simp only [oB, cT, Bool.not_true, cF, k0, k1, k2, g0, g1, g2, qaU t ht k vals hv (upB a) (jc.1 hm) h2, ho]
theorem q0T (t : List DE) (args : List BA) (h : Bd t) (ha : wB args <= 1048576) : True /\ yT t args = some (wX t args, ()) := by
 refine ⟨trivial, ?_⟩
 have hl : args.length <= 1048576 := q5Z ha
 have hs : ∀ s ∈ args, s.size <= 1048576 := fun s hs => q9s ha hs
 have hi := q5w t args jE fldN h (by omega) (fun s h => by have := hs s h; omega) qfL (by decide)
 rw [q71, hi]
 unfold wX
 cases hp : isB t args fldN with
 | false =>
  rfl
 | true =>
  have hp' := hp
  unfold isB at hp'
  simp only [Bool.and_eq_true] at hp'
  obtain ⟨ht, hm, har⟩ := hp'
  match args, hl, hs, hp, hm, har with
  | a :: r, hl, hs, hp, hm, har =>
   obtain ⟨k, vals, rfl, h2⟩ := qe9 (jc.1 hm) har
   have hlen : (a :: k :: vals).length = vals.length + 2 := rfl
   have hv : vals.length <= 2097152 := by omega
   have hks : k.size <= 4194304 := by have := hs k (List.mem_cons_of_mem _ (List.mem_cons_self ..)); omega
   have k1 : (decide ((0 : Int) <= 1) && decide ((1 : Int) < ((a :: k :: vals).length : Int))) = true := by rw [dYT (show (1 : Int) < ((a :: k :: vals).length : Int) by omega)]; rfl
   have k0 : (decide ((0 : Int) <= 0) && decide ((0 : Int) < ((a :: k :: vals).length : Int))) = true := by rw [dYT (show (0 : Int) < ((a :: k :: vals).length : Int) by omega)]; rfl
   have k2 : (decide ((0 : Int) <= 2) && (decide ((2 : Int) <= ((a :: k :: vals).length : Int)) && decide (((a :: k :: vals).length : Int) <= ((a :: k :: vals).length : Int)))) = true := by rw [dYT (show (2 : Int) <= ((a :: k :: vals).length : Int) by omega), dYT (Int.le_refl _)]; rfl
   have g0 : ji (List.getD (a :: k :: vals) (Int.toNat 0) eB) = some (upB a, ()) := q3k a (by have := hs a (List.mem_cons_self ..); omega)
   have g1 : List.getD (a :: k :: vals) (Int.toNat 1) eB = k := rfl
   have g2 : List.take ((Int.toNat ((a :: k :: vals).length : Int)) - (Int.toNat 2)) (List.drop (Int.toNat 2) (a :: k :: vals)) = vals := by
    rw [Int.toNat_natCast]
    exact List.take_of_length_le (by show vals.length <= (a :: k :: vals).length - 2; omega)
   obtain ⟨d', ho⟩ := qbL (fldD t (upB a) k vals) t h (qeR t ht k vals hv (upB a) hks (fun s hs' => by have := hs s (List.mem_cons_of_mem _ (List.mem_cons_of_mem _ hs')); omega) h2.1)
   simp only [oB, cT, Bool.not_true, cF, k0, k1, k2, g0, g1, g2, q99 t ht k vals hv (upB a) h2, ho]
end Go.Den.S
