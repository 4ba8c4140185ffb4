/- PvF: equations of the functions of this seat as the executor tells them, or plain facts about them. Conditions: none here. -/
import Derived.Test.YtbgaejnkjmjkhaaDoorPvE
set_option linter.all false
namespace Go.Den.S
open Go Go.Den
theorem q7U {t : List DE} (ht : tabB t = true) {now : Int} (hn : 0 <= now /\ now <= 100000) {u k : BA} {vals : List BA} (hk : memB (upB u) keyN = true) (hc : memB (upB u) cmds = true) (ha : arB (upB u) ((k :: vals).length : Int) = true) (h : (!(decide (upB u = wY)) && (!(decide (upB u = wX)) && (!(decide (upB u = yM)) && !(decide (upB u = yG))))) = true) :
  q2v t now (u :: k :: vals) = q2l (keyD t now (upB u) k vals) t := by
 simp only [Bool.and_eq_true, Bool.not_eq_true'] at h
 unfold q2v
 rw [dYT hn.1, dYT hn.2, qcv ht hk hc ha]
 simp only [Bool.and_self, cT, h.1, h.2.1, h.2.2.1, h.2.2.2, cF]
theorem q50 {t : List DE} (ht : tabB t = true) {now : Int} (hn : 0 <= now /\ now <= 100000) {u : BA} (hk : memB (upB u) keyN = true) (hc : memB (upB u) cmds = true) (ha : arB (upB u) 0 = true) :
  q2v t now [u] = q2l (bif decide (upB u = wY) then (t, (zf q20, false)) else bif decide (upB u = wX) then (t, (arrB ((zM t).map zZ), false)) else bif decide (upB u = yM) then (t, (numB (t.length : Int), false)) else bif decide (upB u = yG) then ([], (zf c_OK, false)) else (t, (eB, false))) t := by
 unfold q2v
 rw [dYT hn.1, dYT hn.2, qcv (r := []) ht hk hc ha]
 rfl
theorem q4w : upB zh = zh := by decide +kernel
theorem q0a : upB wI = wI := by decide +kernel
theorem q4N : upB wX = wX := by decide +kernel
theorem q2W : upB yM = yM := by decide +kernel
theorem q3q : upB q3P = yG := by decide +kernel
theorem q4G : upB wY = wY := by decide +kernel
theorem qbI {t : List DE} (ha : Asc t) {k : BA} {v : DV} (hm : (k, v) ∈ t) : ∃ A C, t = A ++ (k, v) :: C /\ (∀ a ∈ A, ¬ a.1 = k) /\ (∀ c ∈ C, ¬ c.1 = k) /\ yJ t k = A ++ C := by
 obtain ⟨A, C, rfl⟩ := List.append_of_mem hm
 have hp := List.pairwise_append.1 ha
 have hA : ∀ a ∈ A, ¬ a.1 = k := fun a h => q42 (hp.2.2 a h (k, v) (List.mem_cons_self ..))
 have hC : ∀ c ∈ C, ¬ c.1 = k := fun c h e => q42 ((List.pairwise_cons.1 hp.2.1).1 c h) e.symm
 refine ⟨A, C, rfl, hA, hC, ?_⟩
 rw [<- jl _ _ ha, List.filter_append, List.filter_eq_self.2 (fun a h => by rw [dYF (hA a h)]; rfl), List.filter_cons_of_neg (by simp), List.filter_eq_self.2 (fun a h => by rw [dYF (hC a h)]; rfl)]
theorem qd0 {t : List DE} {k : BA} (h : ∀ e ∈ t, ¬ e.1 = k) : fndB t k = ((0, (0, (eB, []))), false) := by
 unfold fndB
 rw [List.find?_eq_none.2 (fun e he => by rw [dYF (h e he)]; decide)]
theorem qcg {t : List DE} (ha : Asc t) {k : BA} {v : DV} (hm : (k, v) ∈ t) : fndB t k = (v, true) /\ fndB (yJ t k) k = ((0, (0, (eB, []))), false) /\ (yJ t k).length + 1 = t.length /\ (k :: [k]).foldl (cntK true) (0, t) = (1, yJ t k) := by
 obtain ⟨A, C, h1, h2, h3, h4⟩ := qbI ha hm
 have hn : ∀ e ∈ yJ t k, ¬ e.1 = k := fun e he => by
  rw [h4] at he
  rcases List.mem_append.1 he with he | he
  ·exact h2 e he
  ·exact h3 e he
 have f1 : fndB t k = (v, true) := by
  unfold fndB
  rw [h1, List.find?_append, List.find?_eq_none.2 (fun e he => by rw [dYF (h2 e he)]; decide), List.find?_cons_of_pos (by simp)]
  rfl
 have f2 := qd0 hn
 have f3 : yJ (yJ t k) k = yJ t k := by
  rw [<- jl _ _ (q5B ha)]
  exact List.filter_eq_self.2 (fun a h => by rw [dYF (hn a h)]; rfl)
 refine ⟨f1, f2, by rw [h4, h1]; simp; omega, ?_⟩
 simp only [List.foldl_cons, List.foldl_nil, cntK, f1, f2, f3, cT, cF]
 rfl
theorem qbN {t : List DE} (ht : tabB t = true) (k : BA) : tabB (yJ t k) = true := by
 have ha := q1C ht
 have hsub : ∀ e ∈ yJ t k, e ∈ t := fun e he => by
  rw [<- jl _ _ ha] at he
  exact (List.mem_filter.1 he).1
 have hlen : (yJ t k).length <= t.length := by rw [<- jl _ _ ha]; exact List.length_filter_le _ _
 refine q7I (by have := zU ht; omega) (q5B ha) fun e he => ?_
 have hm := hsub e he
 refine ⟨?_, (q0E ht hm).2, (q0E ht hm).1⟩
 obtain ⟨i, hi, rfl⟩ := List.mem_iff_getElem.1 hm
 have := q4D ht hi
 unfold enB at this
 rw [show ge t i = t[i] from wm hi] at this
 simp only [Bool.and_eq_true, decide_eq_true_eq] at this
 exact this.1.1.1
theorem val_zero {n u : Int} {r : BA × List BA} (h : valB (n, (u, r)) = true) : valB (n, (0, r)) = true := by
 unfold valB at h ⊢
 simp only [Bool.and_eq_true] at h ⊢
 exact ⟨⟨rfl, rfl⟩, h.2⟩
theorem qdC {n : Int} (h1 : 1 <= n) (h4 : n <= 4) : ¬ zf (tyB n) = zf (tyB 0) := by
 have : n = 1 \/ n = 2 \/ n = 3 \/ n = 4 := by omega
 rcases this with rfl | rfl | rfl | rfl <;> decide +kernel
theorem qcA : zf (tyB 0) = q21 := by decide +kernel
theorem qdB : zf c_OK = q2E := by decide +kernel
theorem qcQ : zf q20 = q1X := by decide +kernel
theorem n05 : (0 : Int) <= 5 /\ (5 : Int) <= 100000 := by decide
def zE (e : DE) : DE := (e.1, (e.2.1, (0, e.2.2.2)))
theorem qdd {a : List DE} (h : Dt a) : tabB (a.map zE) = true /\ ∀ e ∈ a.map zE, 1 <= e.2.1 /\ e.2.1 <= 4 := by
 have hk : ∀ e ∈ a, 1 <= e.1.size /\ e.1.size <= 20 := fun e he => by
  obtain ⟨i, hi, rfl⟩ := List.mem_iff_getElem.1 he
  have := q4D h.tab hi
  unfold enB at this
  rw [show ge a i = a[i] from wm hi] at this
  simp only [Bool.and_eq_true, decide_eq_true_eq] at this
  exact this.1.1
 refine ⟨q7I (by rw [List.length_map]; exact zU h.tab) (List.pairwise_map.2 (q1C h.tab)) fun e he => ?_, fun e he => ?_⟩
 ·obtain ⟨x, hx, rfl⟩ := List.mem_map.1 he
  exact ⟨(hk x hx).1, (hk x hx).2, val_zero (n := x.2.1) (u := x.2.2.1) (h.val x hx).1⟩
 ·obtain ⟨x, hx, rfl⟩ := List.mem_map.1 he
  exact ⟨(h.val x hx).2.1, (h.val x hx).2.2.1⟩
theorem wk (r : List BA) (hl : r.length <= 5) (hs : ∀ s ∈ r, s.size <= 60) : wB r <= 1048576 := wsm (by omega) fun s h => by have := hs s h; omega
theorem q9J {t : List DE} (ht : tabB t = true) (hk : ∀ e ∈ t, 1 <= e.2.1 /\ e.2.1 <= 4) : ∀ (m i : Nat), m + i = t.length -> q0A t (i : Int) = some (true, ())
 | 0, i, hm => by
  rw [q2f]
  simp only [dYF (show ¬ (i : Int) < (t.length : Int) by omega), cF]
 | m + 1, i, hm => by
  have ih := q9J ht hk m (i + 1) (by omega)
  have hb := q1q ht
  have hl := zU ht
  have hmem : t.getD i dflt ∈ t := q0k (by omega)
  have hmem : ((t.getD i dflt).1, (t.getD i dflt).2) ∈ t := hmem
  obtain ⟨f1, f2, f3, f4⟩ := qcg (q1C ht) hmem
  have hs := (q0E ht hmem).2
  have hkd := hk _ hmem
  have hD := qbN ht (t.getD i dflt).1
  have wd : wB [zh, (t.getD i dflt).1, (t.getD i dflt).1] <= 1048576 := wk _ (by simp) (fun s h => by
   simp only [List.mem_cons, List.not_mem_nil, or_false] at h
   rcases h with rfl | rfl | rfl
   ·decide
   ·have : (t.getD i dflt).1.size <= 20 := hs
    omega
   ·have : (t.getD i dflt).1.size <= 20 := hs
    omega)
  have wt : wB [wI, (t.getD i dflt).1] <= 1048576 := wk _ (by simp) (fun s h => by
   simp only [List.mem_cons, List.not_mem_nil, or_false] at h
   rcases h with rfl | rfl
   ·decide
   ·have : (t.getD i dflt).1.size <= 20 := hs
    omega)
  have q1 : yh t 5 [zh, (t.getD i dflt).1, (t.getD i dflt).1] = some ((yJ t (t.getD i dflt).1, (numB 1, true)), ()) := by
   rw [(q0p t 5 _ hb wd).2, q7U ht n05 (by rw [q4w]; decide +kernel) (by rw [q4w]; decide +kernel) (by rw [q4w, ar_4 (by decide +kernel)]; rfl) (by rw [q4w]; decide +kernel)]
   unfold keyD
   simp only [q4w, dYF (show ¬ zh = q0L by decide +kernel), cF, decide_true, cT, f4]
   rw [q0U hD]
  have q2 : yh t 5 [wI, (t.getD i dflt).1] = some ((t, (zf (tyB (t.getD i dflt).2.1), true)), ()) := by
   rw [(q0p t 5 _ hb wt).2, q7U ht n05 (by rw [q0a]; decide +kernel) (by rw [q0a]; decide +kernel) (by rw [q0a, ar_1 (by decide +kernel)]; rfl) (by rw [q0a]; decide +kernel)]
   unfold keyD
   simp only [q0a, dYF (show ¬ wI = q0L by decide +kernel), dYF (show ¬ wI = zh by decide +kernel), dYF (show ¬ wI = wZ by decide +kernel), cF, decide_true, cT, f1]
   rw [q0U ht]
  have q3 : yh (yJ t (t.getD i dflt).1) 5 [wI, (t.getD i dflt).1] = some ((yJ t (t.getD i dflt).1, (zf (tyB 0), true)), ()) := by
   rw [(q0p _ 5 _ (q1q hD) wt).2, q7U hD n05 (by rw [q0a]; decide +kernel) (by rw [q0a]; decide +kernel) (by rw [q0a, ar_1 (by decide +kernel)]; rfl) (by rw [q0a]; decide +kernel)]
   unfold keyD
   simp only [q0a, dYF (show ¬ wI = q0L by decide +kernel), dYF (show ¬ wI = zh by decide +kernel), dYF (show ¬ wI = wZ by decide +kernel), cF, decide_true, cT, f2]
   rw [q0U hD]
  have n1 : decide (numB 1 = q1f) = true := dYT num1
  have hne : ¬ zf (tyB (t.getD i dflt).2.1) = zf (tyB 0) := qdC hkd.1 hkd.2
  have w1 : ((((yJ t (t.getD i dflt).1).length : Int)) != (w64 ((t.length : Int) - 1))) = false := by
   rw [show w64 ((t.length : Int) - 1) = (t.length : Int) - 1 from qH (by omega) (by omega), bneI, dYT (by omega)]; rfl
  rw [q2f]
  simp only [dYT (show (i : Int) < (t.length : Int) by omega), dYT (show (0 : Int) <= (i : Int) by omega), Bool.and_self, cT, Int.toNat_natCast, q1, q2, q3, oB, jf, n1, Bool.not_true, cF, w1, dYT qcA, dYF hne, show w64 ((i : Int) + 1) = ((i + 1 : Nat) : Int) from qR (by omega)]
  exact ih
theorem q9Q (L R : List DE) (x d : DE) : (L ++ x :: R).getD L.length d = x := by simp [List.getD_eq_getElem?_getD]
theorem qcP (L R : List DE) (x y : DE) : (L ++ x :: R).set L.length y = L ++ y :: R := by
 rw [List.set_append_right _ _ (Nat.le_refl _), Nat.sub_self]; rfl
def nB (e : DE) : BA := zZ e.1
theorem q9q : ∀ (R L : List DE), L.length + R.length <= 20 -> (∀ e ∈ R, e.1.size <= 20) -> z8 (L.map zE ++ R) (L.map nB) (L.length : Int) = z8 ((L ++ R).map zE) ((L ++ R).map nB) ((L ++ R).length : Int)
 | [], L, _, _ => by rw [List.append_nil, List.append_nil]
 | e :: R, L, hl, hs => by
  simp only [List.length_cons] at hl
  have ih := q9q R (L ++ [e]) (by simp; omega) (fun x h => hs x (List.mem_cons_of_mem _ h))
  have hm : (L.map zE).length = L.length := List.length_map ..
  have hn : (L.map nB).length = L.length := List.length_map ..
  have g : (L.map zE ++ e :: R).getD L.length dflt = e := by rw [<- hm]; exact q9Q _ _ _ _
  have st : ∀ y, (L.map zE ++ e :: R).set L.length y = L.map zE ++ y :: R := fun y => by rw [<- hm]; exact qcP _ _ _ _
  have g2 : ∀ y, (L.map zE ++ y :: R).getD L.length dflt = y := fun y => by rw [<- hm]; exact q9Q _ _ _ _
  have len : ∀ y : DE, ((L.map zE ++ y :: R).length : Int) = (L.length : Int) + (R.length : Int) + 1 := fun y => by rw [List.length_append, hm, List.length_cons]; omega
  have hb : q2T e.1 = some (zZ e.1, ()) := q8G e.1 (by have := hs e (List.mem_cons_self ..); omega)
  conv => lhs; rw [q2d]
  simp only [len, dYT (show (L.length : Int) < (L.length : Int) + (R.length : Int) + 1 by omega), dYT (show (0 : Int) <= (L.length : Int) by omega), Bool.and_self, cT, Int.toNat_natCast, g, st, g2, hb, oB, wN (show ((L.map nB).length + 1) * 16 <= 140737488355328 by omega), show w64 ((L.length : Int) + 1) = ((L.length + 1 : Nat) : Int) from qR (by omega)]
  rw [List.map_append, List.map_append, List.length_append, List.append_assoc, List.append_assoc] at ih
  exact ih
theorem qaG (code : List Int) : q5g code = some (true, ()) := by
 rw [q6R, q98]
 by_cases hb : (code.length : Int) > 1048576
 ·simp only [oB, dYT hb, cT]
 obtain ⟨a, b, hD, ha, _⟩ := q7o code (by omega)
 have la := zU ha.tab
 obtain ⟨ht, hk⟩ := qdd ha
 have L := q9q a [] (by simp; omega) (fun e he => (q0E ha.tab he).2)
 have L : z8 a [] 0 = z8 (a.map zE) (a.map nB) (a.length : Int) := L
 simp only [oB, dYF hb, cF, hD]
 rw [L]
 have hlen : (a.map zE).length = a.length := List.length_map ..
 have hnm : (zM (a.map zE)).map zZ = a.map nB := by
  unfold zM
  rw [List.map_map, List.map_map]; rfl
 have hbd := q1q ht
 have L2 := q9J ht hk (a.map zE).length 0 rfl
 generalize hT : a.map zE = t at *
 have hl := zU ht
 have w1 : ∀ c : BA, c.size <= 60 -> wB [c] <= 1048576 := fun c hc => wk _ (by simp) (fun s h => by rw [List.mem_singleton] at h; subst h; exact hc)
 have q1 : yh t 5 [wX] = some ((t, (arrB (a.map nB), true)), ()) := by
  rw [(q0p t 5 _ hbd (w1 _ (by decide))).2, q50 ht n05 (by rw [q4N]; decide +kernel) (by rw [q4N]; decide +kernel) (by rw [q4N, ar_0 (by decide +kernel)]; rfl)]
  simp only [q4N, dYF (show ¬ wX = wY by decide +kernel), cF, decide_true, cT, hnm]
  rw [q0U ht]
 have q2 : yh t 5 [yM] = some ((t, (numB (t.length : Int), true)), ()) := by
  rw [(q0p t 5 _ hbd (w1 _ (by decide))).2, q50 ht n05 (by rw [q2W]; decide +kernel) (by rw [q2W]; decide +kernel) (by rw [q2W, ar_0 (by decide +kernel)]; rfl)]
  simp only [q2W, dYF (show ¬ yM = wY by decide +kernel), dYF (show ¬ yM = wX by decide +kernel), cF, decide_true, cT]
  rw [q0U ht]
 have q3 : yh t 5 [q3P] = some (([], (zf c_OK, true)), ()) := by
  rw [(q0p t 5 _ hbd (w1 _ (by decide))).2, q50 ht n05 (by rw [q3q]; decide +kernel) (by rw [q3q]; decide +kernel) (by rw [q3q, ar_0 (by decide +kernel)]; rfl)]
  simp only [q3q, dYF (show ¬ yG = wY by decide +kernel), dYF (show ¬ yG = wX by decide +kernel), dYF (show ¬ yG = yM by decide +kernel), cF, decide_true, cT]
  rw [q0U q6T]
 have q4 : yh t 5 [wY] = some ((t, (zf q20, true)), ()) := by
  rw [(q0p t 5 _ hbd (w1 _ (by decide))).2, q50 ht n05 (by rw [q4G]; decide +kernel) (by rw [q4G]; decide +kernel) (by rw [q4G, ar_0 (by decide +kernel)]; rfl)]
  simp only [q4G, decide_true, cT]
  rw [q0U ht]
 have hA : q1l (a.map nB) = some (arrB (a.map nB), ()) := by
  rw [<- hnm]
  refine q7u _ (q9y _ ?_)
  have := wsm (l := zM t) (by unfold zM; rw [List.length_map]; omega) (fun s hs => by
   unfold zM at hs
   obtain ⟨e, he, rfl⟩ := List.mem_map.1 hs
   have := (q0E ht he).2; omega)
  omega
 rw [q2d]
 simp only [hlen, Int.lt_irrefl, decide_false, cF, q1, q2, q3, q4, oB, Bool.not_true, hA, jf, decide_true, q6A (a.length : Int) (by omega) (by omega), dYT qdB, dYT qcQ, List.length_nil, show (((0 : Nat) : Int) != 0) = false from rfl]
 exact L2
end Go.Den.S
