/- PzC: equations of the functions of this seat as the executor tells them, or plain facts about them. Conditions: none here. -/
import Derived.Test.YtbgaejnkjmjkhaaDoorPxX
set_option linter.all false
namespace Go.Den.S
open Go Go.Den
theorem qcy {t : List DE} : tabB t = true ↔ t.length <= 20 /\ (∀ e ∈ t, 1 <= e.1.size /\ e.1.size <= 20 /\ valB e.2 = true) /\ Asc t := by
 constructor
 ·intro h
  refine ⟨q6F h, fun e he => ?_, q4y h⟩
  obtain ⟨i, hi, rfl⟩ := List.mem_iff_getElem.1 he
  have := q8G h hi
  unfold enB at this
  rw [show ge t i = t[i] from je hi] at this
  simp only [Bool.and_eq_true, decide_eq_true_eq] at this
  exact ⟨this.1.1.1, this.1.1.2, this.1.2⟩
 ·rintro ⟨h1, h2, h3⟩
  unfold tabB
  simp only [Bool.and_eq_true, decide_eq_true_eq, List.all_eq_true, List.mem_range]
  refine ⟨h1, fun i hi => ?_⟩
  unfold enB
  rw [show ge t i = t[i] from je hi]
  obtain ⟨k1, k2, k3⟩ := h2 _ (List.getElem_mem hi)
  simp only [k1, k2, k3, decide_true, Bool.and_self, Bool.true_and, Bool.or_eq_true, Bool.not_eq_true', decide_eq_false_iff_not]
  by_cases hz : 0 < i
  ·right
   rw [show ge t (i - 1) = t[i - 1] from je (by omega)]
   exact (List.pairwise_iff_getElem.1 h3) (i - 1) i (by omega) hi (by omega)
  ·left; exact hz
abbrev noR : RS := ([], (eB, false))
def yF (t : List DE) (args : List BA) : RS := bif isB t args lstN then q5Q (match args with | a :: k :: vals => lstD t (upB a) k vals | _ => (t, (eB, false))) t else noR
theorem jd (t : List DE) (args : List BA) (h : Bd t) (ha : wB args <= 1048576) : True /\ qI t args = some (yF t args, ()) := by
 refine ⟨trivial, ?_⟩
 have hl : args.length <= 1048576 := q5T ha
 have hs : ∀ s ∈ args, s.size <= 1048576 := fun s hs => qb6 ha hs
 have hi := q7z t args zR lstN h (by omega) (fun s h => by have := hs s h; omega) qdf (by decide)
 rw [q69, hi]
 unfold yF
 cases hp : isB t args lstN with
 | false =>
  rfl
 | true =>
  have hp' := hp
  unfold isB at hp'
  simp only [Bool.and_eq_true] at hp'
  obtain ⟨ht, hm, har⟩ := hp'
  match args, hl, hs, hp, hm, har with
  | a :: r, hl, hs, hp, hm, har =>
   obtain ⟨k, vals, rfl, h2⟩ := qbV (q2D.1 hm) har
   have hlen : (a :: k :: vals).length = vals.length + 2 := rfl
   have hv : vals.length <= 2097152 := by omega
   have hks : k.size <= 4194304 := by have := hs k (List.mem_cons_of_mem _ (List.mem_cons_self ..)); omega
   have hvs : ∀ s ∈ vals, s.size <= 4194304 := fun s hs' => by have := hs s (List.mem_cons_of_mem _ (List.mem_cons_of_mem _ hs')); omega
   have k1 : (decide ((0 : Int) <= 1) && decide ((1 : Int) < ((a :: k :: vals).length : Int))) = true := by rw [dYT (show (1 : Int) < ((a :: k :: vals).length : Int) by omega)]; rfl
   have k0 : (decide ((0 : Int) <= 0) && decide ((0 : Int) < ((a :: k :: vals).length : Int))) = true := by rw [dYT (show (0 : Int) < ((a :: k :: vals).length : Int) by omega)]; rfl
   have k2 : (decide ((0 : Int) <= 2) && (decide ((2 : Int) <= ((a :: k :: vals).length : Int)) && decide (((a :: k :: vals).length : Int) <= ((a :: k :: vals).length : Int)))) = true := by rw [dYT (show (2 : Int) <= ((a :: k :: vals).length : Int) by omega), dYT (Int.le_refl _)]; rfl
   have g0 : q0q (List.getD (a :: k :: vals) (Int.toNat 0) eB) = some (upB a, ()) := q3M a (by have := hs a (List.mem_cons_self ..); omega)
   have g1 : List.getD (a :: k :: vals) (Int.toNat 1) eB = k := rfl
   have g2 : List.take ((Int.toNat ((a :: k :: vals).length : Int)) - (Int.toNat 2)) (List.drop (Int.toNat 2) (a :: k :: vals)) = vals := by
    rw [Int.toNat_natCast]
    exact List.take_of_length_le (by show vals.length <= (a :: k :: vals).length - 2; omega)
   obtain ⟨d', ho⟩ := qcO (lstD t (upB a) k vals) t h (qcp t ht k vals hv (upB a) hks hvs)
   simp only [oB, cT, Bool.not_true, cF, k0, k1, k2, g0, g1, g2, q8m t ht k vals hv (upB a) (q2D.1 hm) h2 hvs, ho]
end Go.Den.S
