/- PwA: equations of the functions of this seat as the executor tells them, or plain facts about them. Conditions: none here. -/
import Derived.Test.YtbgaejnkjmjkhaaDoorPzC
set_option linter.all false
namespace Go.Den.S
open Go Go.Den
theorem ar_1 {u : BA} (h : (!(memB u ar0) && memB u ar1) = true) (n : Int) : arB u n = (n == 1) := by
 simp only [Bool.and_eq_true, Bool.not_eq_true'] at h
 unfold arB; rw [h.1, h.2]; rfl
theorem ar_2 {u : BA} (h : (!(memB u ar0) && (!(memB u ar1) && memB u ar2)) = true) (n : Int) : arB u n = (n == 2) := by
 simp only [Bool.and_eq_true, Bool.not_eq_true'] at h
 unfold arB; rw [h.1, h.2.1, h.2.2]; rfl
theorem ar_3 {u : BA} (h : (!(memB u ar0) && (!(memB u ar1) && (!(memB u ar2) && memB u ar3))) = true) (n : Int) : arB u n = (n == 3) := by
 simp only [Bool.and_eq_true, Bool.not_eq_true'] at h
 unfold arB; rw [h.1, h.2.1, h.2.2.1, h.2.2.2]; rfl
theorem ar_5 {u : BA} (h : (!(memB u ar0) && (!(memB u ar1) && (!(memB u ar2) && (!(memB u ar3) && (!(memB u ar4) && memB u ar5))))) = true) (n : Int) : arB u n = decide (n >= 2) := by
 simp only [Bool.and_eq_true, Bool.not_eq_true'] at h
 unfold arB; rw [h.1, h.2.1, h.2.2.1, h.2.2.2.1, h.2.2.2.2.1, h.2.2.2.2.2]; rfl
theorem q6a {t : List DE} {u : BA} {r l : List BA} (ht : tabB t = true) (hm : memB (upB u) l = true) (hc : memB (upB u) cmds = true) (ha : arB (upB u) (r.length : Int) = true) : isB t (u :: r) l = true := by
 unfold isB q2y
 simp only [ht, hm, hc, ha, Bool.and_self]
theorem q0d {d t : List DE} {r : BA} (h : tabB d = true) : q5Q (d, (r, false)) t = (d, (r, true)) := by
 unfold q5Q; simp only [h, cT, cF]
theorem qdc (st : Nat) (l : List BA) (hs : ∀ s ∈ l, s.size <= 60) (h : ∀ i, i < l.length -> 0 < st -> i % st = 0 -> st <= i -> blt (gi l (i - st)) (gi l i) = true) : itsB st l = true := by
 unfold itsB
 rw [List.all_eq_true]
 intro i hi
 have hi := List.mem_range.1 hi
 unfold itB
 rw [Bool.and_eq_true]
 refine ⟨dYT (hs _ (wT hi)), ?_⟩
 by_cases h1 : 0 < st /\ i % st = 0 /\ st <= i
 ·rw [h i hi h1.1 h1.2.1 h1.2.2, Bool.or_true]
 ·rw [Bool.or_eq_true, Bool.not_eq_true']
  left
  by_cases a : 0 < st
  ·by_cases b : i % st = 0
   ·by_cases c : st <= i
    ·exact absurd ⟨a, b, c⟩ h1
    ·rw [dYF c, Bool.and_false]
   ·rw [dYF b, Bool.and_false, Bool.false_and]
  ·rw [dYF a]; rfl
theorem qbQ {u : Int} (hu : 0 <= u /\ u <= 100000) {l : List BA} (h1 : 1 <= l.length) (h2 : l.length <= 24) (hs : ∀ s ∈ l, s.size <= 60) : valB (2, (u, (eB, l))) = true := by
 have hi := qdc 0 l hs fun i hi h => absurd h (by omega)
 unfold valB
 simp only [dYT hu.1, dYT hu.2, dYT h1, dYT h2, show stB 2 = 0 from rfl, hi]
 rfl
def oneT (k : BA) (n : Int) (l : List BA) : List DE := bif decide (l = []) then [] else [(k, (n, (0, (eB, l))))]
theorem qcM (k : BA) (n : Int) : oneT k n [] = [] := rfl
theorem q2H {k : BA} {n : Int} {l : List BA} (h : l ≠ []) : oneT k n l = [(k, (n, (0, (eB, l))))] := by unfold oneT; rw [dYF h]; rfl
theorem q0V {k : BA} (hk : 1 <= k.size /\ k.size <= 20) {n : Int} {l : List BA} (h : l = [] \/ valB (n, (0, (eB, l))) = true) : tabB (oneT k n l) = true := by
 by_cases hl : l = []
 ·rw [hl]; exact q2l
 ·rw [q2H hl]
  refine qcy.2 ⟨by simp, fun e he => ?_, List.pairwise_singleton _ _⟩
  rw [List.mem_singleton] at he
  subst he
  exact ⟨hk.1, hk.2, h.resolve_left hl⟩
theorem q9w (k : BA) (v : DV) : fndB [(k, v)] k = (v, true) := by
 unfold fndB
 simp
theorem q1v (k : BA) (n : Int) (l : List BA) : undB (oneT k n l) k = (0, (eB, l)) := by
 unfold undB
 by_cases hl : l = []
 ·rw [hl]; rfl
 ·rw [q2H hl, q9w]
theorem q0o (k : BA) (n : Int) (l : List BA) : yG (oneT k n l) k n = false := by
 unfold yG
 by_cases hl : l = []
 ·rw [hl]; rfl
 ·rw [q2H hl, q9w, dYT rfl]; rfl
theorem qdi (k : BA) (n : Int) (l : List BA) (v : DV) : putB (oneT k n l) k v = [(k, v)] := by
 unfold putB lowB q1k
 by_cases hl : l = []
 ·rw [hl]; rfl
 ·rw [q2H hl]
  simp [q14]
theorem qd0 (k : BA) (n : Int) (l : List BA) : q0b (oneT k n l) k = [] := by
 unfold q0b lowB q1k
 by_cases hl : l = []
 ·rw [hl]; rfl
 ·rw [q2H hl]
  simp [q14]
theorem q5x (k : BA) (n : Int) (l l' : List BA) : q07 (oneT k n l) k (n, (0, (eB, l'))) = oneT k n l' := by
 unfold q07
 by_cases hl : l' = []
 ·rw [dYT hl, cT, qd0, hl]; rfl
 ·rw [dYF hl, cF, qdi, q2H hl]
section
variable {k : BA} (hk : 1 <= k.size /\ k.size <= 20) {l : List BA} (hl : l = [] \/ valB (4, (0, (eB, l))) = true)
include hk hl
end
end Go.Den.S
