/- PwA: equations of the functions of this seat as the executor tells them, or plain facts about them. Conditions: none here. -/
import Derived.Test.YtbgaejnkjmjkhaaDoorPzC
set_option linter.all false
namespace Go.Den.S
open Go Go.Den
theorem ar_1 {u : BA} (h : (!(memB u ar0) && memB u ar1) = true) (n : Int) : arB u n = (n == 1) := by
 simp only [Bool.and_eq_true, Bool.not_eq_true'] at h
 unfold arB; rw [h.1, h.2]; rfl
theorem ar_2 {u : BA} (h : (!(memB u ar0) && (!(memB u ar1) && memB u ar2)) = true) (n : Int) : arB u n = (n == 2) := by
 simp only [Bool.and_eq_true, Bool.not_eq_true'] at h
 unfold arB; rw [h.1, h.2.1, h.2.2]; rfl
theorem ar_3 {u : BA} (h : (!(memB u ar0) && (!(memB u ar1) && (!(memB u ar2) && memB u ar3))) = true) (n : Int) : arB u n = (n == 3) := by
 simp only [Bool.and_eq_true, Bool.not_eq_true'] at h
 unfold arB; rw [h.1, h.2.1, h.2.2.1, h.2.2.2]; rfl
theorem ar_5 {u : BA} (h : (!(memB u ar0) && (!(memB u ar1) && (!(memB u ar2) && (!(memB u ar3) && (!(memB u ar4) && memB u ar5))))) = true) (n : Int) : arB u n = decide (n >= 2) := by
 simp only [Bool.and_eq_true, Bool.not_eq_true'] at h
 unfold arB; rw [h.1, h.2.1, h.2.2.1, h.2.2.2.1, h.2.2.2.2.1, h.2.2.2.2.2]; rfl
theorem q2g {t : List DE} {u : BA} {r l : List BA} (ht : tabB t = true) (hm : memB (upB u) l = true) (hc : memB (upB u) cmds = true) (ha : arB (upB u) (r.length : Int) = true) : isB t (u :: r) l = true := by
 unfold isB q28
 simp only [ht, hm, hc, ha, Bool.and_self]
theorem jH {d t : List DE} {r : BA} (h : tabB d = true) : q6a (d, (r, false)) t = (d, (r, true)) := by
 unfold q6a; simp only [h, cT, cF]
theorem qam (st : Nat) (l : List BA) (hs : ∀ s ∈ l, s.size <= 60) (h : ∀ i, i < l.length -> 0 < st -> i % st = 0 -> st <= i -> blt (gi l (i - st)) (gi l i) = true) : itsB st l = true := by
 unfold itsB
 rw [List.all_eq_true]
 intro i hi
 have hi := List.mem_range.1 hi
 unfold itB
 rw [Bool.and_eq_true]
 refine ⟨dYT (hs _ (zK hi)), ?_⟩
 by_cases h1 : 0 < st /\ i % st = 0 /\ st <= i
 ·rw [h i hi h1.1 h1.2.1 h1.2.2, Bool.or_true]
 ·rw [Bool.or_eq_true, Bool.not_eq_true']
  left
  by_cases a : 0 < st
  ·by_cases b : i % st = 0
   ·by_cases c : st <= i
    ·exact absurd ⟨a, b, c⟩ h1
    ·rw [dYF c, Bool.and_false]
   ·rw [dYF b, Bool.and_false, Bool.false_and]
  ·rw [dYF a]; rfl
theorem qeI {l : List BA} (h : AscS l) {i j : Nat} (hij : i < j) (hj : j < l.length) : blt (gi l i) (gi l j) = true := by
 unfold AscS at h
 rw [List.pairwise_iff_getElem] at h
 rw [show gi l i = l[i] from yU (by omega), show gi l j = l[j] from yU hj]
 exact h i j (by omega) hj hij
theorem qbI {u : Int} (hu : 0 <= u /\ u <= 100000) {l : List BA} (h1 : 1 <= l.length) (h2 : l.length <= 24) (ha : AscS l) (hs : ∀ s ∈ l, s.size <= 60) : valB (4, (u, (eB, l))) = true := by
 have hi := qam 1 l hs fun i hi _ _ h => qeI ha (by omega) hi
 unfold valB
 simp only [dYT hu.1, dYT hu.2, dYT h1, dYT h2, show stB 4 = 1 from rfl, hi]
 rfl
theorem qdV {u : Int} (hu : 0 <= u /\ u <= 100000) {l : List BA} (h1 : 1 <= l.length) (h2 : l.length <= 24) (hs : ∀ s ∈ l, s.size <= 60) : valB (2, (u, (eB, l))) = true := by
 have hi := qam 0 l hs fun i hi h => absurd h (by omega)
 unfold valB
 simp only [dYT hu.1, dYT hu.2, dYT h1, dYT h2, show stB 2 = 0 from rfl, hi]
 rfl
theorem qeb {u : Int} (hu : 0 <= u /\ u <= 100000) {P : List PF} (h1 : 1 <= P.length) (h2 : P.length <= 12) (ha : AscF P) (hs : ∀ s ∈ qb P, s.size <= 60) : valB (3, (u, (eB, qb P))) = true := by
 have hl := yA P
 have hi := qam 2 (qb P) hs fun i hi _ hm h => by
  have e1 : gi (qb P) i = (P[i / 2]'(by omega)).1 := by
   have := (zq P (i / 2) (by omega)).1
   rw [show i / 2 * 2 = i by omega] at this
   exact this
  have e2 : gi (qb P) (i - 2) = (P[i / 2 - 1]'(by omega)).1 := by
   have := (zq P (i / 2 - 1) (by omega)).1
   rw [show (i / 2 - 1) * 2 = i - 2 by omega] at this
   exact this
  rw [e1, e2]
  unfold AscF at ha
  rw [List.pairwise_iff_getElem] at ha
  exact ha (i / 2 - 1) (i / 2) (by omega) (by omega) (by omega)
 unfold valB
 simp only [dYT hu.1, dYT hu.2, hl, dYT (show 1 <= P.length * 2 by omega), dYT (show P.length * 2 <= 24 by omega), dYT (show P.length * 2 % 2 = 0 by omega), show stB 3 = 2 from rfl, hi]
 rfl
def oneT (k : BA) (n : Int) (l : List BA) : List DE := bif decide (l = []) then [] else [(k, (n, (0, (eB, l))))]
theorem qeZ (k : BA) (n : Int) : oneT k n [] = [] := rfl
theorem q17 {k : BA} {n : Int} {l : List BA} (h : l ≠ []) : oneT k n l = [(k, (n, (0, (eB, l))))] := by unfold oneT; rw [dYF h]; rfl
theorem yO {k : BA} (hk : 1 <= k.size /\ k.size <= 20) {n : Int} {l : List BA} (h : l = [] \/ valB (n, (0, (eB, l))) = true) : tabB (oneT k n l) = true := by
 by_cases hl : l = []
 ·rw [hl]; exact q8r
 ·rw [q17 hl]
  refine qf1.2 ⟨by simp, fun e he => ?_, List.pairwise_singleton _ _⟩
  rw [List.mem_singleton] at he
  subst he
  exact ⟨hk.1, hk.2, h.resolve_left hl⟩
theorem q8k (k : BA) (v : DV) : fndB [(k, v)] k = (v, true) := by
 unfold fndB
 simp
theorem q0b (k : BA) (n : Int) (l : List BA) : undB (oneT k n l) k = (0, (eB, l)) := by
 unfold undB
 by_cases hl : l = []
 ·rw [hl]; rfl
 ·rw [q17 hl, q8k]
theorem zS (k : BA) (n : Int) (l : List BA) : zR (oneT k n l) k n = false := by
 unfold zR
 by_cases hl : l = []
 ·rw [hl]; rfl
 ·rw [q17 hl, q8k, dYT rfl]; rfl
theorem qcu {k : BA} {n m : Int} {l : List BA} (hl : l ≠ []) (h : n ≠ m) : zR (oneT k n l) k m = true := by
 unfold zR
 rw [q17 hl, q8k, dYF h]; rfl
theorem qev (k : BA) (n : Int) (l : List BA) (v : DV) : putB (oneT k n l) k v = [(k, v)] := by
 unfold putB lowB q2p
 by_cases hl : l = []
 ·rw [hl]; rfl
 ·rw [q17 hl]
  simp [q0n]
theorem qfB (k : BA) (n : Int) (l : List BA) : q0Y (oneT k n l) k = [] := by
 unfold q0Y lowB q2p
 by_cases hl : l = []
 ·rw [hl]; rfl
 ·rw [q17 hl]
  simp [q0n]
theorem q9q (k : BA) (n : Int) (l l' : List BA) : q2V (oneT k n l) k (n, (0, (eB, l'))) = oneT k n l' := by
 unfold q2V
 by_cases hl : l' = []
 ·rw [dYT hl, cT, qfB, hl]; rfl
 ·rw [dYF hl, cF, qev, q17 hl]
theorem q6u : upB yP = yP := by decide +kernel
theorem q6B : upB wZ = wZ := by decide +kernel
theorem q6r : upB qV = qV := by decide +kernel
theorem q5i : upB wS = wS := by decide +kernel
theorem q6w : upB w9 = w9 := by decide +kernel
theorem qeU : ¬ wZ = yP := by decide +kernel
theorem qbf : ¬ qV = yP /\ ¬ qV = wZ := ⟨by decide +kernel, by decide +kernel⟩
theorem q6Z : ¬ wS = yP /\ ¬ wS = wZ /\ ¬ wS = qV := ⟨by decide +kernel, by decide +kernel, by decide +kernel⟩
theorem q6A : ¬ w9 = yP /\ ¬ w9 = wZ /\ ¬ w9 = qV /\ ¬ w9 = wS := ⟨by decide +kernel, by decide +kernel, by decide +kernel, by decide +kernel⟩
theorem qbx {t : List DE} (ht : tabB t = true) (k : BA) (vals : List BA) (h : 1 <= vals.length) : isB t (yP :: k :: vals) setN = true :=
 q2g ht (by rw [q6u]; decide +kernel) (by rw [q6u]; decide +kernel) (by rw [q6u, ar_5 (by decide +kernel)]; exact dYT (by simp only [List.length_cons]; omega))
theorem qeG {t : List DE} (ht : tabB t = true) (k : BA) (vals : List BA) (h : 1 <= vals.length) : isB t (wZ :: k :: vals) setN = true :=
 q2g ht (by rw [q6B]; decide +kernel) (by rw [q6B]; decide +kernel) (by rw [q6B, ar_5 (by decide +kernel)]; exact dYT (by simp only [List.length_cons]; omega))
theorem qeK {t : List DE} (ht : tabB t = true) (k x : BA) : isB t [qV, k, x] setN = true :=
 q2g ht (by rw [q6r]; decide +kernel) (by rw [q6r]; decide +kernel) (by rw [q6r, ar_2 (by decide +kernel)]; rfl)
theorem qdO {t : List DE} (ht : tabB t = true) (k : BA) : isB t [wS, k] setN = true :=
 q2g ht (by rw [q5i]; decide +kernel) (by rw [q5i]; decide +kernel) (by rw [q5i, ar_1 (by decide +kernel)]; rfl)
theorem qeP {t : List DE} (ht : tabB t = true) (k : BA) : isB t [w9, k] setN = true :=
 q2g ht (by rw [q6w]; decide +kernel) (by rw [q6w]; decide +kernel) (by rw [q6w, ar_1 (by decide +kernel)]; rfl)
section
variable {k : BA} (hk : 1 <= k.size /\ k.size <= 20) {l : List BA} (hl : l = [] \/ valB (4, (0, (eB, l))) = true)
include hk hl
theorem qbE (vals : List BA) (h : 1 <= vals.length) (hr : tabB (oneT k 4 (wo l vals)) = true) : zM (oneT k 4 l) (yP :: k :: vals) = (oneT k 4 (wo l vals), (numB (((wo l vals).length : Int) - (l.length : Int)), true)) := by
 unfold zM
 rw [qbx (yO hk hl) k vals h]
 dsimp only
 unfold setD
 simp only [cT, q6u, zS, cF, decide_true, q0b, q9q]
 exact jH hr
theorem qf4 (vals : List BA) (h : 1 <= vals.length) (hr : tabB (oneT k 4 (q0N l vals)) = true) : zM (oneT k 4 l) (wZ :: k :: vals) = (oneT k 4 (q0N l vals), (numB ((l.length : Int) - ((q0N l vals).length : Int)), true)) := by
 unfold zM
 rw [qeG (yO hk hl) k vals h]
 dsimp only
 unfold setD
 simp only [cT, q6B, zS, cF, decide_true, dYF qeU, q0b, q9q]
 exact jH hr
theorem qbo (x : BA) : zM (oneT k 4 l) [qV, k, x] = (oneT k 4 l, (numB (bif memB x l then 1 else 0), true)) := by
 unfold zM
 rw [qeK (yO hk hl) k x]
 dsimp only
 unfold setD
 simp only [cT, q6r, zS, cF, decide_true, dYF qbf.1, dYF qbf.2, q0b]
 exact jH (yO hk hl)
theorem qe2 : zM (oneT k 4 l) [wS, k] = (oneT k 4 l, (numB (l.length : Int), true)) := by
 unfold zM
 rw [qdO (yO hk hl) k]
 dsimp only
 unfold setD
 simp only [cT, q5i, zS, cF, decide_true, dYF q6Z.1, dYF q6Z.2.1, dYF q6Z.2.2, q0b]
 exact jH (yO hk hl)
theorem qeL : zM (oneT k 4 l) [w9, k] = (oneT k 4 l, (arrB (l.map yj), true)) := by
 unfold zM
 rw [qeP (yO hk hl) k]
 dsimp only
 unfold setD
 simp only [cT, q6w, zS, cF, dYF q6A.1, dYF q6A.2.1, dYF q6A.2.2.1, dYF q6A.2.2.2, q0b]
 exact jH (yO hk hl)
end
theorem q9i {k : BA} (hk : 1 <= k.size /\ k.size <= 20) {l : List BA} (hl : valB (2, (0, (eB, l))) = true) (hne : l ≠ []) (vals : List BA) (h : 1 <= vals.length) : zM (oneT k 2 l) (yP :: k :: vals) = (oneT k 2 l, (q2a zQ, true)) := by
 unfold zM
 rw [qbx (yO hk (.inr hl)) k vals h]
 dsimp only
 unfold setD
 simp only [cT, qcu hne (show (2 : Int) ≠ 4 by decide)]
 rfl
theorem qef {l : List BA} {x : BA} (h : memB x l = true) : addS l x = l := by unfold addS; rw [h]; rfl
theorem q8F {l : List BA} (x s : BA) (h : s ∈ l \/ s = x) : s ∈ addS l x := by
 unfold addS
 cases hm : memB x l with
 | true =>
  rw [cT]
  rcases h with h | rfl
  ·exact h
  ·exact jc.1 hm
 | false =>
  rw [cF, List.mem_append, List.mem_cons, List.mem_filter, List.mem_filter]
  by_cases e : s = x
  ·exact .inr (.inl e)
  ·have hs := h.resolve_right e
   cases hb : blt s x with
   | true => exact .inl ⟨hs, rfl⟩
   | false => exact .inr (.inr ⟨hs, q47 e hb⟩)
theorem q6U : ∀ (xs l : List BA) (s : BA), s ∈ l \/ s ∈ xs -> s ∈ wo l xs
 | [], l, s, h => h.elim id (fun h => by cases h)
 | x :: r, l, s, h => by
  show s ∈ wo (addS l x) r
  refine q6U r _ s ?_
  rcases h with h | h
  ·exact .inl (q8F _ _ (.inl h))
  ·rcases List.mem_cons.1 h with h | h
   ·exact .inl (q8F _ _ (.inr h))
   ·exact .inr h
theorem q7N : ∀ (xs l : List BA), (∀ s ∈ xs, s ∈ l) -> wo l xs = l
 | [], _, _ => rfl
 | x :: r, l, h => by
  show wo (addS l x) r = l
  rw [qef (jc.2 (h x (List.mem_cons_self ..)))]
  exact q7N r l fun s hs => h s (List.mem_cons_of_mem _ hs)
theorem qeF {l : List BA} (h : AscS l) {x : BA} (hx : x ∈ l) : q0N l [x] = delS l x /\ (delS l x).length + 1 = l.length /\ memB x (delS l x) = false := by
 refine ⟨?_, qeo h (jc.2 hx), ?_⟩
 ·unfold q0N delS
  congr 1; funext s
  simp [memB]
 ·rw [q5k]
  unfold delS
  intro hm
  have := (List.mem_filter.1 hm).2
  simp at this
end Go.Den.S
