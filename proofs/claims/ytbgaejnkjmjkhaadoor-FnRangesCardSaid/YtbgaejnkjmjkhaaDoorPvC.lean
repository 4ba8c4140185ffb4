/- PvC: equations of the functions of this seat as the executor tells them, or plain facts about them. Conditions: none here. -/
import Derived.Test.YtbgaejnkjmjkhaaDoorPvB
set_option linter.all false
namespace Go.Den.S
open Go Go.Den
structure Sh (l : List BA) : Prop where
 len : l.length <= 24
 sz : ∀ s ∈ l, s.size <= 60
theorem Sh.ok {l : List BA} (h : Sh l) : l = [] \/ valB (2, (0, (eB, l))) = true := by
 cases l with
 | nil => exact .inl rfl
 | cons a r => exact .inr (qbQ (by decide) (by simp) h.len h.sz)
theorem Sh.tab {l : List BA} (h : Sh l) : tabB (oneT c_q 2 l) = true := q0V kq h.ok
theorem Sh.bd {l : List BA} (h : Sh l) : Bd (oneT c_q 2 l) := q1O h.tab
theorem Sh.drop {l : List BA} (h : Sh l) (i : Nat) : Sh (l.drop i) := ⟨by have := h.len; rw [List.length_drop]; omega, fun s hs => h.sz s (List.mem_of_mem_drop hs)⟩
theorem Sh.take {l : List BA} (h : Sh l) (i : Nat) : Sh (l.take i) := ⟨by have := h.len; rw [List.length_take]; omega, fun s hs => h.sz s (List.mem_of_mem_take hs)⟩
theorem Sh.rev {l : List BA} (h : Sh l) : Sh l.reverse := ⟨by have := h.len; rw [List.length_reverse]; omega, fun s hs => h.sz s (List.mem_reverse.1 hs)⟩
theorem w2 : wB [yR, c_q] <= 1048576 /\ wB [wo, c_q] <= 1048576 /\ wB [wO, c_q] <= 1048576 := by
 refine ⟨?_, ?_, ?_⟩ <;> exact wsm (by decide) (fun s hs => by revert s; decide)
theorem q7g {l : List BA} (h : 1 <= l.length) : l ≠ [] := by intro h'; rw [h'] at h; simp at h
theorem q9H {l : List BA} (h : Sh l) (h1 : 1 <= l.length) : qI (oneT c_q 2 l) [yR, c_q] = some ((oneT c_q 2 (l.drop 1), (yh (gi l 0), true)), ()) := by
 rw [(jd _ _ h.bd w2.1).2, qcD kq h.ok (q7g h1) (h.drop 1).tab]
theorem qcU {l : List BA} (h : Sh l) (h1 : 1 <= l.length) : qI (oneT c_q 2 l) [wo, c_q] = some ((oneT c_q 2 (l.take (l.length - 1)), (yh (gi l (l.length - 1)), true)), ()) := by
 rw [(jd _ _ h.bd w2.2.1).2, qcH kq h.ok (q7g h1) (h.take _).tab]
theorem q92 : qI [] [yR, c_q] = some (([], (nilR, true)), ()) := by
 rw [(jd _ _ (q1O q2l) w2.1).2, q8Y]
theorem qbi {l : List BA} {i : Nat} (h : i < l.length) : gi l.reverse i = gi l (l.length - 1 - i) := by
 simp only [gi, List.getD_eq_getElem?_getD]
 rw [List.getElem?_reverse h]
theorem q6c (l : List BA) (i j : Nat) : gi (l.drop i) j = gi l (i + j) := by
 simp only [gi, List.getD_eq_getElem?_getD, List.getElem?_drop]
theorem qcw {l : List BA} {i j : Nat} (h : j < i) : gi (l.take i) j = gi l j := by
 simp only [gi, List.getD_eq_getElem?_getD, List.getElem?_take, if_pos h]
theorem qat {l : List BA} (h : Sh l) (i : Nat) : (gi l i).size <= 60 := by
 by_cases hi : i < l.length
 ·exact h.sz _ (wT hi)
 ·simp only [gi, List.getD_eq_getElem?_getD]
  rw [List.getElem?_eq_none (by omega)]
  decide
theorem q5X {l : List BA} (h : Sh l) : ∀ (m i : Nat), m + i = l.length ->
  q09 l (oneT c_q 2 (l.reverse.drop i)) (oneT c_q 2 (l.reverse.take (l.length - i))) (oneT c_q 2 (l.drop i)) (i : Int) = some (true, ())
 | 0, i, hm => by
  have e1 : l.reverse.drop i = [] := List.drop_eq_nil_of_le (by rw [List.length_reverse]; omega)
  have e2 : l.reverse.take (l.length - i) = [] := by rw [show l.length - i = 0 by omega]; rfl
  have e3 : l.drop i = [] := List.drop_eq_nil_of_le (by omega)
  rw [e1, e2, e3, q1M]
  simp only [dYF (show ¬ (i : Int) < (l.length : Int) by omega), cF, qcM, q92, oB, List.length_nil, zy, decide_true]
  rfl
 | m + 1, i, hm => by
  have hl := h.len
  have ih := q5X h m (i + 1) (by omega)
  have hR := h.rev
  have p1 := q9H (hR.drop i) (by rw [List.length_drop, List.length_reverse]; omega)
  have p2 := qcU (hR.take (l.length - i)) (by rw [List.length_take, List.length_reverse]; omega)
  have p3 := q9H (h.drop i) (by rw [List.length_drop]; omega)
  have n2 : (l.reverse.take (l.length - i)).length = l.length - i := by rw [List.length_take, List.length_reverse]; omega
  rw [List.drop_drop, q6c, qbi (by omega)] at p1
  rw [n2, List.take_take, qcw (by omega), qbi (by omega), show min (l.length - i - 1) (l.length - i) = l.length - (i + 1) by omega, show l.length - 1 - (l.length - i - 1) = i by omega] at p2
  rw [List.drop_drop, q6c, show i + 0 = i from rfl] at p3
  rw [show i + 0 = i from rfl] at p1
  have w1 : w64 (w64 ((l.length : Int) - 1) - (i : Int)) = ((l.length - 1 - i : Nat) : Int) := by
   rw [show w64 ((l.length : Int) - 1) = (l.length : Int) - 1 from qx (by omega) (by omega)]
   rw [show w64 ((l.length : Int) - 1 - (i : Int)) = (l.length : Int) - 1 - (i : Int) from qx (by omega) (by omega)]
   omega
  have d1 := qat h (l.length - 1 - i)
  have d2 := qat h i
  rw [q1M]
  simp only [w1, dYT (show (i : Int) < (l.length : Int) by omega), dYT (show ((l.length - 1 - i : Nat) : Int) < (l.length : Int) by omega), dYT (show (0 : Int) <= ((l.length - 1 - i : Nat) : Int) by omega), dYT (show (0 : Int) <= (i : Int) by omega), Bool.and_self, cT, p1, p2, p3, oB, Int.toNat_natCast]
  have b1 : zX (l.getD (l.length - 1 - i) eB) = some (yh (gi l (l.length - 1 - i)), ()) := q2t (gi l (l.length - 1 - i)) (by omega)
  have b2 : zX (l.getD i eB) = some (yh (gi l i), ()) := q2t (gi l i) (by omega)
  simp only [b1, b2, oB, zy, decide_true, Bool.not_true, cF, show w64 ((i : Int) + 1) = ((i + 1 : Nat) : Int) from yB (by omega)]
  exact ih
theorem q91 (code : List Int) : q4d code = some (true, ()) := by
 rw [q5P, q4U]
 by_cases hb : (code.length : Int) > 1048576
 ·simp only [oB, dYT hb, cT]
 obtain ⟨l, hD, hl1, hl6, hlm⟩ := q51 code (by omega)
 have h : Sh l := ⟨by omega, fun s hs => q9f (hlm s hs)⟩
 have wv : ∀ c : BA, c.size <= 100 -> wB (c :: c_q :: l) <= 1048576 := fun c hc => wsm (by simp; omega) (fun s hs => by
  rcases List.mem_cons.1 hs with rfl | hs
  ·exact hc
  ·rcases List.mem_cons.1 hs with rfl | hs
   ·decide
   ·have := h.sz s hs; omega)
 have q1 : qI [] (yw :: c_q :: l) = some ((oneT c_q 2 l.reverse, (numB (l.length : Int), true)), ()) := by
  rw [(jd [] _ (q1O q2l) (wv _ (by decide))).2]
  have := qbP kq (l := []) (.inl rfl) l hl1 (by rw [List.append_nil]; exact h.rev.tab)
  rw [List.append_nil, List.length_reverse] at this
  rw [show yF [] (yw :: c_q :: l) = _ from this]
 have q2 : qI [] (yu :: c_q :: l) = some ((oneT c_q 2 l, (numB (l.length : Int), true)), ()) := by
  rw [(jd [] _ (q1O q2l) (wv _ (by decide))).2]
  have := qbW kq (l := []) (.inl rfl) l hl1 (by rw [List.nil_append]; exact h.tab)
  rw [List.nil_append] at this
  rw [show yF [] (yu :: c_q :: l) = _ from this]
 have q3 : qI (oneT c_q 2 l.reverse) [wO, c_q] = some ((oneT c_q 2 l.reverse, (numB (l.length : Int), true)), ()) := by
  rw [(jd _ _ h.rev.bd w2.2.2).2, qcA kq h.rev.ok, List.length_reverse]
 have L := q5X h l.length 0 rfl
 rw [List.drop_zero, List.drop_zero, Nat.sub_zero, List.take_of_length_le (by rw [List.length_reverse]; exact Nat.le_refl _)] at L
 simp only [oB, dYF hb, cF, hD, wQ (show (2 + l.length) * 16 <= 140737488355328 by omega), cT, List.cons_append, List.nil_append, q1, q2, q3, q6T (l.length : Int) (by omega) (by omega), zy, decide_true, Bool.not_true]
 exact L
theorem dec0 : c_0 = decB 0 := by rw [show (0 : Int) = ((0 : Nat) : Int) from rfl, qbb 0 (by decide)]; decide +kernel
theorem qdm : q4X = decB (-1) := by
 rw [show (-1 : Int) = -((1 : Nat) : Int) from rfl, q3r 1 (by decide), Lib.decDigits, dif_pos (by decide)]; decide +kernel
theorem q42 {l : List BA} (h : Sh l) (n : Int) (h0 : -1000000000 <= n) (h1 : n <= 1000000000) : qI (oneT c_q 2 l) [qV, c_q, decB n] = some ((oneT c_q 2 l, (idxR l n, true)), ()) := by
 have := zF n (by omega) (by omega)
 rw [(jd _ _ h.bd (wsm (by simp) (fun s hs => by
  simp only [List.mem_cons, List.not_mem_nil, or_false] at hs
  rcases hs with rfl | rfl | rfl
  ·decide
  ·decide
  ·omega))).2, qbt kq h.ok n h0 h1]
theorem q7f {l : List BA} (h : Sh l) (a b : Int) (ha : -1000000000 <= a /\ a <= 1000000000) (hb : -1000000000 <= b /\ b <= 1000000000) : qI (oneT c_q 2 l) [yj, c_q, decB a, decB b] = some ((oneT c_q 2 l, (arrB ((cutL l (bndB a b (l.length : Int))).map yh), true)), ()) := by
 have := zF a (by omega) (by omega)
 have := zF b (by omega) (by omega)
 rw [(jd _ _ h.bd (wsm (by simp) (fun s hs => by
  simp only [List.mem_cons, List.not_mem_nil, or_false] at hs
  rcases hs with rfl | rfl | rfl | rfl
  ·decide
  ·decide
  ·omega
  ·omega))).2, qaN kq h.ok a b ha hb]
theorem qd2 {l : List BA} {i : Nat} (h : i < l.length) : idxR l (i : Int) = yh (gi l i) := by
 unfold idxR
 dsimp only
 rw [if_neg (show ¬ (i : Int) < 0 by omega), if_pos (show 0 <= (i : Int) /\ (i : Int) <= (l.length : Int) - 1 by omega), Int.toNat_natCast]
theorem qbU {l : List BA} {i : Nat} (h : i < l.length) : idxR l ((i : Int) - (l.length : Int)) = yh (gi l i) := by
 unfold idxR
 dsimp only
 rw [if_pos (show (i : Int) - (l.length : Int) < 0 by omega), show (i : Int) - (l.length : Int) + (l.length : Int) = (i : Int) by omega, if_pos (show 0 <= (i : Int) /\ (i : Int) <= (l.length : Int) - 1 by omega), Int.toNat_natCast]
theorem qcl (l : List BA) : idxR l (l.length : Int) = nilR := by
 unfold idxR
 dsimp only
 rw [if_neg (show ¬ (l.length : Int) < 0 by omega), if_neg (show ¬ (0 <= (l.length : Int) /\ (l.length : Int) <= (l.length : Int) - 1) by omega)]
theorem q7d {l : List BA} {i : Nat} (h : i < l.length) : l.take (i + 1) = l.take i ++ [gi l i] := by
 rw [List.take_add_one, List.getElem?_eq_getElem h]
 simp only [gi, List.getD_eq_getElem?_getD, List.getElem?_eq_getElem h, Option.toList, Option.getD]
theorem q8v (code : List Int) : q3N code = some (true, ()) := by
 rw [q5m, q4U]
 by_cases hb : (code.length : Int) > 1048576
 ·simp only [oB, dYT hb, cT]
 obtain ⟨l, hD, hl1, hl6, hlm⟩ := q51 code (by omega)
 obtain ⟨p, hP, hp12, hpm⟩ := q7o code (by omega)
 have h : Sh l := ⟨by omega, fun s hs => q9f (hlm s hs)⟩
 have m0 := hpm (p.getD 0 0) (wT (by omega))
 have m1 := hpm (p.getD 1 0) (wT (by omega))
 have t0 := q2m m0.1 (show (1 : Int) <= 20 by decide)
 have t1 := q2m m1.1 (show (1 : Int) <= 20 by decide)
 have v0 : w64 (Int.tmod (p.getD (Int.toNat 0) 0) 20 - 9) = Int.tmod (p.getD 0 0) 20 - 9 := qx (by have := t0; simp only [Int.toNat_zero]; omega) (by have := t0; simp only [Int.toNat_zero]; omega)
 have v1 : w64 (Int.tmod (p.getD (Int.toNat 1) 0) 20 - 9) = Int.tmod (p.getD 1 0) 20 - 9 := qx (by have := t1; simp only [Int.toNat_one]; omega) (by have := t1; simp only [Int.toNat_one]; omega)
 generalize hA : Int.tmod (p.getD 0 0) 20 - 9 = a at v0
 generalize hB : Int.tmod (p.getD 1 0) 20 - 9 = b at v1
 have ha : -1000000000 <= a /\ a <= 1000000000 := by omega
 have hb' : -1000000000 <= b /\ b <= 1000000000 := by omega
 have hn : 0 <= (l.length : Int) /\ (l.length : Int) <= 1000000 := by omega
 obtain ⟨c1, c2, c3⟩ := qbr a b (l.length : Int) hn.1
 have r1 := q7f h a b ha hb'
 have r2 := q7f h 0 (-1) (by decide) (by decide)
 have hall : cutL l (bndB 0 (-1) (l.length : Int)) = l := by
  have : bndB 0 (-1) (l.length : Int) = (0, (l.length : Int)) := by
   unfold bndB
   dsimp only
   rw [if_neg (show ¬ (0 : Int) < 0 by omega), if_pos (show (-1 : Int) < 0 by omega), if_neg (show ¬ (-1 + (l.length : Int) < (l.length : Int) - 1) by omega), if_pos (show 1 <= (l.length : Int) /\ (l.length : Int) <= 1000 by omega), if_neg (show ¬ (0 : Int) > (l.length : Int) - 1 by omega), Int.sub_add_cancel]
  rw [this]
  simp only [cutL, Int.toNat_zero, List.drop_zero, Int.toNat_natCast, Nat.sub_zero, List.take_length]
 rw [hall, <- dec0, <- qdm] at r2
 generalize hq : bndB a b (l.length : Int) = q at *
 obtain ⟨f, hf⟩ : ∃ f : Nat, q.1 = (f : Int) := ⟨q.1.toNat, by omega⟩
 obtain ⟨t, ht⟩ : ∃ t : Nat, q.2 = (t : Int) := ⟨q.2.toNat, by omega⟩
 have hcut : cutL l q = (l.drop f).take (t - f) := by simp only [cutL, hf, ht, Int.toNat_natCast]
 rw [hcut] at r1
 have hwl : ∀ r : List BA, Sh r -> wB (r.map yh) <= 100000000 := fun r hr => q9v r (by
  have := wsm (l := r) (by have := hr.len; omega) (fun s hs => by have := hr.sz s hs; omega); omega)
 have loop : ∀ (m i : Nat), m + i = l.length -> wZ l (f : Int) (t : Int) (oneT c_q 2 l) (arrB (((l.drop f).take (t - f)).map yh)) true (arrB (l.map yh)) (((l.drop f).take (min i t - f)).map yh) ((l.take i).map yh) (i : Int) = some (true, ()) := by
  intro m
  induction m with
  | zero =>
   intro i hm
   have e0 : i = l.length := by omega
   subst e0
   rw [q1p]
   simp only [Int.lt_irrefl, decide_false, cF, wE (l.length : Int) (by omega) (by omega), oB, q42 h (l.length : Int) (by omega) (by omega), cT, qcl, show min l.length t = t by omega, List.take_length, q3P _ (hwl _ ((h.drop f).take (t - f))), q3P _ (hwl _ h), zy, decide_true]
  | succ m ih =>
   intro i hm
   have ih := ih (i + 1) (by omega)
   have d2 := qat h i
   have b2 : zX (l.getD i eB) = some (yh (gi l i), ()) := q2t (gi l i) (by omega)
   have w1 : w64 ((i : Int) - (l.length : Int)) = (i : Int) - (l.length : Int) := qx (by omega) (by omega)
   have eW : (l.take (i + 1)).map yh = (l.take i).map yh ++ [yh (gi l i)] := by rw [q7d (by omega), List.map_append]; rfl
   rw [q1p]
   simp only [dYT (show (i : Int) < (l.length : Int) by omega), cT, wE (i : Int) (by omega) (by omega), oB, q42 h (i : Int) (by omega) (by omega), w1, wE ((i : Int) - (l.length : Int)) (by omega) (by omega), q42 h ((i : Int) - (l.length : Int)) (by omega) (by omega), dYT (show (0 : Int) <= (i : Int) by omega), Bool.and_self, Int.toNat_natCast, b2, qd2 (show i < l.length by omega), qbU (show i < l.length by omega), zy, decide_true, Bool.not_true, cF, show w64 ((i : Int) + 1) = ((i + 1 : Nat) : Int) from yB (by omega)]
   rw [wQ (by rw [List.length_map, List.length_take]; omega), <- eW]
   simp only [cT]
   by_cases h1 : f <= i
   ·simp only [dYT (show (i : Int) >= (f : Int) by omega), cT]
    by_cases h2 : i < t
    ·simp only [dYT (show (i : Int) < (t : Int) by omega), cT]
     rw [wQ (by rw [List.length_map, List.length_take, List.length_drop]; omega)]
     simp only [cT]
     have e : ((l.drop f).take (min i t - f)).map yh ++ [yh (gi l i)] = ((l.drop f).take (min (i + 1) t - f)).map yh := by
      rw [show min i t - f = i - f by omega, show min (i + 1) t - f = i - f + 1 by omega, q7d (by rw [List.length_drop]; omega), List.map_append, q6c, show f + (i - f) = i by omega]; rfl
     rw [e]
     exact ih
    ·simp only [dYF (show ¬ (i : Int) < (t : Int) by omega), cF]
     rw [show min (i + 1) t = min i t by omega] at ih
     exact ih
   ·simp only [dYF (show ¬ (i : Int) >= (f : Int) by omega), cF]
    rw [show min (i + 1) t - f = 0 by omega] at ih
    rw [show min i t - f = 0 by omega]
    exact ih
 have p0 : (decide ((0 : Int) <= 0) && decide (0 < (p.length : Int))) = true := by rw [hp12]; rfl
 have p1 : (decide ((0 : Int) <= 1) && decide (1 < (p.length : Int))) = true := by rw [hp12]; rfl
 have L := loop l.length 0 rfl
 rw [show min 0 t - f = 0 by omega] at L
 simp only [List.take_zero, List.map_nil] at L
 simp only [oB, dYF hb, cF, hD, hP, p0, p1, cT, v0, v1, q35 a b _ ha hb' hn, q6Q a b _ ha hb' hn, hq, qbF l hl1 (by omega), wE a (by omega) (by omega), wE b (by omega) (by omega), r1, r2, bne_self_eq_false, hf, ht, dYF (show ¬ (f : Int) < 0 by omega), dYF (show ¬ (f : Int) > (t : Int) by omega), dYF (show ¬ (t : Int) > (l.length : Int) by omega)]
 exact L
end Go.Den.S
