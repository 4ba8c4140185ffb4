/- PvB: equations of the functions of this seat as the executor tells them, or plain facts about them. Conditions: none here. -/
import Derived.Test.YtbgaejnkjmjkhaaDoorPvA
import Derived.Test.YtbgaejnkjmjkhaaDoorPwC
set_option linter.all false
namespace Go.Den.S
open Go Go.Den
def q1W : List BA := [c_a, c_b, c_c, c_d, c_e, c_f]
theorem qdk : (q1W.all fun s => decide (1 <= s.size) && decide (s.size <= 60)) = true := by decide +kernel
theorem q3H {s : BA} (h : s ∈ q1W) : s.size <= 60 := by
 have := List.all_eq_true.1 qdk s h
 simp only [Bool.and_eq_true, decide_eq_true_eq] at this
 exact this.2
theorem q8Q : ∀ (m i : Nat) (l : List BA) (c : Cur), m + i = 6 -> l.length = i -> (∀ x ∈ l, x ∈ q1W) -> Cu c -> ∃ q, q0s l (i : Int) c.1 c.2.1 c.2.2 = some (q, ()) /\ (1 <= i \/ 1 <= q.length) /\ i <= q.length /\ q.length <= 6 /\ ∀ x ∈ q, x ∈ q1W
 | m, i, l, c, hm, hp, ha, hc => by
  obtain ⟨x, c1, e1, a1, b1, k1⟩ := qai hc 6 (by omega) (by omega)
  have e1 : q0P (c.1, (c.2.1, c.2.2)) 6 = some (x, (c1, ())) := e1
  have w1 : w64 (1 + x) = 1 + x := qG (by omega) (by omega)
  rw [q5x]
  simp only [e1, oB, w1]
  by_cases hi : (i : Int) < 1 + x
  ·match m, hm with
   | 0, hm => omega
   | m + 1, hm =>
    obtain ⟨y, c2, e2, a2, k2⟩ := qf3 k1 [c_a, c_b, c_c, c_d, c_e, c_f] (by decide) (by decide)
    simp only [dYT hi, cT, e2, oB, zh (show (l.length + 1) * 16 <= 140737488355328 by omega), show w64 ((i : Int) + 1) = ((i + 1 : Nat) : Int) from qM (by omega)]
    obtain ⟨q, f1, f2, f3, f4, f5⟩ := q8Q m (i + 1) (l ++ [y]) c2 (by omega) (by simp [hp]) (fun z hz => by
     rcases List.mem_append.1 hz with hz | hz
     ·exact ha z hz
     ·rw [List.mem_singleton] at hz; subst hz; exact a2) k2
    exact ⟨q, f1, .inr (by omega), by omega, f4, f5⟩
  ·simp only [dYF hi, cF]
   exact ⟨l, rfl, .inl (by omega), by omega, by omega, ha⟩
theorem q6T (code : List Int) (hl : code.length <= 1048576) : ∃ l : List BA, q1H code = some (l, ()) /\ 1 <= l.length /\ l.length <= 6 /\ ∀ x ∈ l, x ∈ q1W := by
 obtain ⟨c, e, k⟩ := qfp code hl
 rw [q7d, e]
 simp only [oB]
 obtain ⟨q, h1, h2, h3, h4, h5⟩ := q8Q 6 0 [] c rfl rfl (fun x h => by cases h) k
 exact ⟨q, h1, h2.resolve_left (by omega), h4, h5⟩
theorem kq : 1 <= c_q.size /\ c_q.size <= 20 := ⟨by decide, by decide⟩
theorem num0 : numB 0 = q2o := by
 unfold numB
 rw [show (0 : Int) = ((0 : Nat) : Int) from rfl, q8W 0 (by decide)]
 decide +kernel
theorem num1 : numB 1 = jN := by
 unfold numB
 rw [show (1 : Int) = ((1 : Nat) : Int) from rfl, q8W 1 (by decide)]
 decide +kernel
theorem qfu : q2a zQ = q1b := by decide +kernel
theorem qe3 (l : List BA) (h1 : 1 <= l.length) (h2 : l.length <= 1000) : q5m l = some (oneT c_q 2 l, ()) := by
 have hne : l ≠ [] := by intro h; rw [h] at h1; simp at h1
 rw [q95, q17 hne]
 simp only [zh (show (0 + l.length) * 16 <= 140737488355328 by omega), cT]
 rfl
theorem qcm (code : List Int) : q6Q code = some (true, ()) := by
 rw [q8i, q6K]
 by_cases hb : (code.length : Int) > 1048576
 ·simp only [oB, dYT hb, cT]
 obtain ⟨l, hD, hl1, hl6, hlm⟩ := q6T code (by omega)
 have hsz : ∀ s ∈ l, s.size <= 60 := fun s hs => q3H (hlm s hs)
 obtain ⟨A1, A2, A3⟩ := @q20 [] l [] List.Pairwise.nil
 have hne := q8V (l := []) List.Pairwise.nil hl1
 have hmem : ∀ s, s ∈ wo [] l ↔ s ∈ l := fun s => ⟨fun h => (q5o l [] s h).resolve_left (by simp), fun h => q6U l [] s (.inr h)⟩
 generalize hS : wo [] l = S at *
 have hS1 : 1 <= S.length := by
  cases S with
  | nil => exact absurd rfl hne
  | cons _ _ => simp
 have hSz : ∀ s ∈ S, s.size <= 60 := fun s hs => hsz s ((hmem s).1 hs)
 have hS6 : S.length <= 6 := by simpa using Nat.le_trans A3 (by simpa using hl6)
 have hv : valB (4, (0, (eB, S))) = true := qbI (by decide) hS1 (by omega) A1 hSz
 have hT := yO kq (.inr hv)
 have hB := q13 hT
 have hadd : wo S l = S := q7N l S fun s hs => (hmem s).2 hs
 have q1 : yw [] (yP :: c_q :: l) = some ((oneT c_q 4 S, (numB (S.length : Int), true)), ()) := by
  rw [(q0i [] _ (q13 q8r) (wsm (by simp; omega) (fun s hs => by
   rcases List.mem_cons.1 hs with rfl | hs
   ·decide
   ·rcases List.mem_cons.1 hs with rfl | hs
    ·decide
    ·have := hsz s hs; omega))).2]
  have := qbE kq (l := []) (.inl rfl) l hl1 (by rw [hS]; exact hT)
  rw [hS] at this
  rw [show zM [] (yP :: c_q :: l) = _ from this]
  simp
 have q2 : yw (oneT c_q 4 S) (yP :: c_q :: l) = some ((oneT c_q 4 S, (numB 0, true)), ()) := by
  rw [(q0i (oneT c_q 4 S) _ hB (wsm (by simp; omega) (fun s hs => by
   rcases List.mem_cons.1 hs with rfl | hs
   ·decide
   ·rcases List.mem_cons.1 hs with rfl | hs
    ·decide
    ·have := hsz s hs; omega))).2, qbE kq (.inr hv) l hl1 (by rw [hadd]; exact hT), hadd, Int.sub_self]
 have q3 : yw (oneT c_q 4 S) [wS, c_q] = some ((oneT c_q 4 S, (numB (S.length : Int), true)), ()) := by
  rw [(q0i (oneT c_q 4 S) _ hB (wsm (by decide) (fun s hs => by revert s; decide))).2, qe2 kq (.inr hv)]
 have q4 : yw (oneT c_q 4 S) [w9, c_q] = some ((oneT c_q 4 S, (arrB (S.map yj), true)), ()) := by
  rw [(q0i (oneT c_q 4 S) _ hB (wsm (by decide) (fun s hs => by revert s; decide))).2, qeL kq (.inr hv)]
 have wsz : ∀ c x : BA, c.size <= 100 -> x.size <= 100 -> wB [c, c_q, x] <= 1048576 := fun c x hc hx => wsm (by simp) (fun s hs => by
  simp only [List.mem_cons, List.not_mem_nil, or_false] at hs
  rcases hs with rfl | rfl | rfl
  ·exact hc
  ·decide
  ·exact hx)
 have q5 : ∀ x ∈ l, yw (oneT c_q 4 S) [qV, c_q, x] = some ((oneT c_q 4 S, (numB 1, true)), ()) := fun x hx => by
  rw [(q0i (oneT c_q 4 S) _ hB (wsz _ _ (by decide) (by have := hsz x hx; omega))).2, qbo kq (.inr hv), jc.2 ((hmem x).2 hx)]; rfl
 have q6 : ∀ x ∈ l, ∃ S', yw (oneT c_q 4 S) [wZ, c_q, x] = some ((oneT c_q 4 S', (numB 1, true)), ()) /\ yw (oneT c_q 4 S') [qV, c_q, x] = some ((oneT c_q 4 S', (numB 0, true)), ()) := fun x hx => by
  obtain ⟨d1, d2, d3⟩ := qeF A1 ((hmem x).2 hx)
  have hd : delS S x = [] \/ valB (4, (0, (eB, delS S x))) = true := by
   by_cases h0 : delS S x = []
   ·exact .inl h0
   ·refine .inr (qbI (by decide) ?_ (by omega) (qen x A1) fun s hs => hSz s (List.mem_filter.1 hs).1)
    cases hd : delS S x with
    | nil => exact absurd hd h0
    | cons _ _ => simp
  refine ⟨delS S x, ?_, ?_⟩
  ·rw [(q0i (oneT c_q 4 S) _ hB (wsz _ _ (by decide) (by have := hsz x hx; omega))).2, qf4 kq (.inr hv) [x] (by simp) (by rw [d1]; exact yO kq hd), d1]
   rw [show ((S.length : Int) - ((delS S x).length : Int)) = 1 by omega]
  ·rw [(q0i (oneT c_q 4 (delS S x)) _ (q13 (yO kq hd)) (wsz _ _ (by decide) (by have := hsz x hx; omega))).2, qbo kq hd, d3]; rfl
 have hlne : l ≠ [] := by intro h; rw [h] at hl1; simp at hl1
 have hvl : valB (2, (0, (eB, l))) = true := qdV (by decide) hl1 (by omega) hsz
 have hTl := yO kq (.inr hvl)
 have q7 : yw (oneT c_q 2 l) [yP, c_q, c_x] = some ((oneT c_q 2 l, (q2a zQ, true)), ()) := by
  rw [(q0i (oneT c_q 2 l) _ (q13 hTl) (wsz _ _ (by decide) (by decide))).2, q9i kq hvl hlne [c_x] (by simp)]
 have hSne : S ≠ [] := hne
 have eT : oneT c_q 4 S = [(c_q, (4, (0, (eB, S))))] := q17 hSne
 have hw : wB S <= 1048576 := wsm (by omega) (fun s hs => by have := hSz s hs; omega)
 have L2 : jv l (oneT c_q 4 S) (numB (S.length : Int)) (arrB (S.map yj)) (S.map yj) 0 = some (true, ()) := by
  have key := q58 l eB (fun i r => jv l (oneT c_q 4 S) (numB (S.length : Int)) (arrB (S.map yj)) (S.map yj) (i : Int) = some (true, ())) (by
   rw [q3n]
   have hlen : (S.map yj).length = S.length := List.length_map ..
   simp only [Int.lt_irrefl, decide_false, cF, qe3 l hl1 (by omega), oB, q7, q3i _ (q3J S (by omega)), wC, decide_true, cT, q4i _ hB, hT, hlen, q4S (S.length : Int) (by omega) (by omega), dYT qfu, qav (oneT c_q 2 l) (oneT c_q 2 l) (by have := q6n hTl; omega) (fun e he => by have := (q4J (q6y hTl he).1).1; omega)])
   (fun i x r hi hx hm ih => by
    obtain ⟨S', g1, g2⟩ := q6 x hm
    rw [q3n]
    simp only [dYT (show (i : Int) < (l.length : Int) by omega), dYT (show (0 : Int) <= (i : Int) by omega), Bool.and_self, cT, Int.toNat_natCast, hx, q5 x hm, g1, g2, oB, wC, dYT num1, dYT num0, Bool.not_true, cF, show w64 ((i : Int) + 1) = ((i + 1 : Nat) : Int) from qM (by omega), ih])
  exact key
 have L0 : jr l (oneT c_q 4 S) (numB (S.length : Int)) (arrB (S.map yj)) [] 0 = some (true, ()) := by
  rw [eT] at L2 ⊢
  have := q0j (fun acc i => jr l [(c_q, (4, (0, (eB, S))))] (numB (S.length : Int)) (arrB (S.map yj)) acc i) S eB (fun a x => a ++ [yj x]) (fun acc => jv l [(c_q, (4, (0, (eB, S))))] (numB (S.length : Int)) (arrB (S.map yj)) acc 0) (fun acc i => acc.length = i)
   (fun acc i hi hI => by
    constructor
    ·conv => lhs; rw [q3p]
     have hm := hSz _ (zK (d := eB) hi)
     have g : (List.getD [(c_q, ((4 : Int), ((0 : Int), (eB, S))))] (Int.toNat 0) (eB, (0, (0, (eB, []))))) = (c_q, (4, (0, (eB, S)))) := rfl
     have g0 : (decide ((0 : Int) <= 0) && decide ((0 : Int) < ([(c_q, ((4 : Int), ((0 : Int), (eB, S))))].length : Int))) = true := rfl
     simp only [g, g0, cT, dYT (show (i : Int) < (S.length : Int) by omega), dYT (show (0 : Int) <= (i : Int) by omega), Bool.and_self, Int.toNat_natCast, q2j (S.getD i eB) (by omega), oB, zh (show (acc.length + 1) * 16 <= 140737488355328 by omega), show w64 ((i : Int) + 1) = ((i + 1 : Nat) : Int) from qM (by omega)]
    ·rw [List.length_append, hI]; rfl)
   (fun acc hI => by
    show jr l [(c_q, (4, (0, (eB, S))))] (numB (S.length : Int)) (arrB (S.map yj)) acc (S.length : Int) = _
    rw [q3p]
    have g : (List.getD [(c_q, ((4 : Int), ((0 : Int), (eB, S))))] (Int.toNat 0) (eB, (0, (0, (eB, []))))) = (c_q, (4, (0, (eB, S)))) := rfl
    have g0 : (decide ((0 : Int) <= 0) && decide ((0 : Int) < ([(c_q, ((4 : Int), ((0 : Int), (eB, S))))].length : Int))) = true := rfl
    simp only [g, g0, cT, Int.lt_irrefl, decide_false, cF]) [] rfl
  refine this.trans ?_
  rw [q36 yj, List.nil_append]
  exact L2
 have hlen1 : (((oneT c_q 4 S).length : Int) != 1) = false := by rw [eT]; rfl
 simp only [oB, dYF hb, cF, hD, zh (show (2 + l.length) * 16 <= 140737488355328 by omega), cT, List.cons_append, List.nil_append, q1, q2, q3, q4, Bool.not_true, wC, dYT num0, decide_true, hlen1, L0]
end Go.Den.S
