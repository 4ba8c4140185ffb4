/- PvD: equations of the functions of this seat as the executor tells them, or plain facts about them. Conditions: none here. -/
import Derived.Test.YtbgaejnkjmjkhaaDoorPvB
set_option linter.all false
namespace Go.Den.S
open Go Go.Den
structure Fl (P : List PF) : Prop where
 asc : AscF P
 len : P.length <= 12
 nam : ∀ p ∈ P, p.1 ∈ q1W
 val : ∀ p ∈ P, 1 <= p.2.size /\ p.2.size <= 20
theorem Fl.sz {P : List PF} (h : Fl P) : ∀ s ∈ qb P, s.size <= 60 := fun s hs => by
 obtain ⟨p, hp, rfl | rfl⟩ := q5X hs
 ·exact q3H (h.nam p hp)
 ·have := h.val p hp; omega
theorem Fl.ok {P : List PF} (h : Fl P) : qb P = [] \/ valB (3, (0, (eB, qb P))) = true := by
 cases hP : P with
 | nil => exact .inl rfl
 | cons a r => exact .inr (hP ▸ qeb (by decide) (by rw [hP]; simp) h.len h.asc h.sz)
theorem Fl.tab {P : List PF} (h : Fl P) : tabB (oneT c_q 3 (qb P)) = true := yO kq h.ok
theorem Fl.bd {P : List PF} (h : Fl P) : Bd (oneT c_q 3 (qb P)) := q13 h.tab
theorem Fl.set {P : List PF} (h : Fl P) (hl : P.length + 1 <= 12) {x v : BA} (hx : x ∈ q1W) (hv : 1 <= v.size /\ v.size <= 20) : Fl (setF P x v) := by
 refine ⟨qdY h.asc x v, by have := q79 h.asc x v; omega, fun p hp => ?_, fun p hp => ?_⟩
 ·rcases q9T hp with hp | rfl
  ·exact h.nam p hp
  ·exact hx
 ·rcases q9T hp with hp | rfl
  ·exact h.val p hp
  ·exact hv
theorem qcY {P : List PF} (h : Fl P) {x : BA} (hx : hasF P x = true) : 1 <= (gi (qb P) (posF P x * 2 + 1)).size /\ (gi (qb P) (posF P x * 2 + 1)).size <= 20 := by
 have hlt : (lowF P x).length < P.length := by
  unfold hasF at hx
  obtain ⟨p, hp, he⟩ := List.any_eq_true.1 hx
  have he := of_decide_eq_true he
  unfold lowF
  refine List.length_filter_lt_length_iff_exists.2 ⟨p, hp, ?_⟩
  rw [he, q0n]; simp
 have e := (zq P (lowF P x).length hlt).2
 have e : gi (qb P) (posF P x * 2 + 1) = _ := e
 rw [e]
 exact h.val _ (List.getElem_mem hlt)
theorem ws3 (c x : BA) (hc : c.size <= 100) (hx : x.size <= 100) : wB [c, c_q, x] <= 1048576 := wsm (by simp) (fun s hs => by
 simp only [List.mem_cons, List.not_mem_nil, or_false] at hs
 rcases hs with rfl | rfl | rfl
 ·exact hc
 ·decide
 ·exact hx)
theorem qb9 {P : List PF} (h : Fl P) {x : BA} (hx : x ∈ q1W) : yT (oneT c_q 3 (qb P)) [wM, c_q, x] = some ((oneT c_q 3 (qb P), ((bif hasF P x then yj (gi (qb P) (posF P x * 2 + 1)) else nilR), true)), ()) := by
 have := q3H hx
 rw [(q0T _ _ h.bd (ws3 _ _ (by decide) (by omega))).2, qfk kq h.ok]
theorem qeT {P : List PF} (h : Fl P) (hl : P.length + 1 <= 12) {x v : BA} (hx : x ∈ q1W) (hv : 1 <= v.size /\ v.size <= 20) : yT (oneT c_q 3 (qb P)) [wN, c_q, x, v] = some ((oneT c_q 3 (qb (setF P x v)), (numB (bif hasF P x then 0 else 1), true)), ()) := by
 have := q3H hx
 rw [(q0T _ _ h.bd (wsm (by simp) (fun s hs => by
  simp only [List.mem_cons, List.not_mem_nil, or_false] at hs
  rcases hs with rfl | rfl | rfl | rfl
  ·decide
  ·decide
  ·omega
  ·omega))).2, qf9 kq h.ok x v (h.set hl hx hv).tab]
theorem w2f : wB [zI, c_q] <= 1048576 /\ wB [zY, c_q] <= 1048576 /\ wB [yQ, c_q] <= 1048576 /\ wB [za, c_q, c_a, c_b, c_c, c_d, c_e, c_f] <= 1048576 := by
 refine ⟨?_, ?_, ?_, ?_⟩ <;> exact wsm (by decide) (fun s hs => by revert s; decide)
theorem qfq {b : Bool} : decide (numB (bif b then 0 else 1) = jN) = !b := by
 cases b with
 | true =>
  show decide (numB 0 = _) = false
  refine dYF fun e => ?_
  rw [num0] at e
  exact absurd e (by decide +kernel)
 | false => exact dYT num1
theorem qfC {P : List PF} (h : Fl P) (x : BA) : decide ((bif hasF P x then yj (gi (qb P) (posF P x * 2 + 1)) else nilR) = nilR) = !(hasF P x) := by
 cases hx : hasF P x with
 | true => exact dYF (qeY _ (qcY h hx).1 (by have := (qcY h hx).2; omega))
 | false => exact dYT rfl
theorem qfA {n : Int} (h0 : 0 <= n) (h1 : n <= 1000000) : 1 <= (decB n).size /\ (decB n).size <= 20 := by
 refine ⟨?_, q0l n (by omega) (by omega)⟩
 obtain ⟨k, rfl⟩ : ∃ k : Nat, n = (k : Int) := ⟨n.toNat, by omega⟩
 rw [q75, q77]
 obtain ⟨c, r, hc, _⟩ := q8G k
 rw [hc]; simp
theorem qcV {P : List PF} (h : Fl P) (h1 : 1 <= P.length) : jC (oneT c_q 3 (qb P)) (numB (P.length : Int)) (arrB ((jg P).map yj)) (arrB ((qb P).map yj)) [] [] (qb P) 0 = some (true, ()) := by
 have hl := h.len
 have hfl := yA P
 have hkl : (jg P).length = P.length := List.length_map ..
 have hsz := h.sz
 have kw : wB (jg P) <= 2097152 := by
  have := wsm (l := jg P) (by omega) (fun s hs => by
   obtain ⟨p, hp, rfl⟩ := List.mem_map.1 hs
   have := q3H (h.nam p hp); omega)
  omega
 have fw : wB (qb P) <= 2097152 := by
  have := wsm (l := qb P) (by omega) (fun s hs => by have := hsz s hs; omega)
  omega
 have hdel : zi P [c_a, c_b, c_c, c_d, c_e, c_f] = [] := qcA fun p hp => h.nam p hp
 have q : yT (oneT c_q 3 (qb P)) [za, c_q, c_a, c_b, c_c, c_d, c_e, c_f] = some (([], (numB (P.length : Int), true)), ()) := by
  have := qeE kq h.ok [c_a, c_b, c_c, c_d, c_e, c_f] (by decide) (by rw [hdel]; exact q8r)
  rw [(q0T _ _ h.bd w2f.2.2.2).2, this, hdel]
  simp [qb, qeZ]
 have loop : ∀ (m i : Nat), m + i = P.length -> jC (oneT c_q 3 (qb P)) (numB (P.length : Int)) (arrB ((jg P).map yj)) (arrB ((qb P).map yj)) ((jg (P.take i)).map yj) ((qb (P.take i)).map yj) (qb P) ((i * 2 : Nat) : Int) = some (true, ()) := by
  intro m
  induction m with
  | zero =>
   intro i hm
   have ei : i = P.length := by omega
   subst ei
   have wz : w64 (((P.length * 2 : Nat) : Int) + 1) = ((P.length * 2 + 1 : Nat) : Int) := by rw [show w64 (((P.length * 2 : Nat) : Int) + 1) = ((P.length * 2 : Nat) : Int) + 1 from qG (by omega) (by omega)]; omega
   rw [q2D]
   simp only [wz, dYF (show ¬ ((P.length * 2 + 1 : Nat) : Int) < ((qb P).length : Int) by omega), cF, List.take_length, q, oB, List.length_map, hkl, q4S (P.length : Int) (by omega) (by omega), wC, decide_true, cT, q3i _ (q3J _ kw), q3i _ (q3J _ fw), q4i _ h.bd, h.tab, List.length_nil]
   rfl
  | succ m ih =>
   intro i hm
   have ih := ih (i + 1) (by omega)
   have hi : i < P.length := by omega
   obtain ⟨g1, g2⟩ := zq P i hi
   have et : P.take (i + 1) = P.take i ++ [P[i]] := by rw [List.take_add_one, List.getElem?_eq_getElem hi]; rfl
   have tk : ((jg (P.take i)).map yj).length = i := by rw [List.length_map]; unfold jg; rw [List.length_map, List.length_take]; omega
   have tf : ((qb (P.take i)).map yj).length = i * 2 := by rw [List.length_map, yA, List.length_take]; omega
   have wz : w64 (((i * 2 : Nat) : Int) + 1) = ((i * 2 + 1 : Nat) : Int) := by rw [show w64 (((i * 2 : Nat) : Int) + 1) = ((i * 2 : Nat) : Int) + 1 from qG (by omega) (by omega)]; omega
   have wz2 : w64 (((i * 2 : Nat) : Int) + 2) = (((i + 1) * 2 : Nat) : Int) := by rw [show w64 (((i * 2 : Nat) : Int) + 2) = ((i * 2 : Nat) : Int) + 2 from qG (by omega) (by omega)]; omega
   have s1 := q3H (h.nam _ (List.getElem_mem hi))
   have s2 := (h.val _ (List.getElem_mem hi)).2
   have kapp : jg (P.take i ++ [P[i]]) = jg (P.take i) ++ [P[i].1] := List.map_append ..
   rw [et, kapp, List.map_append, jT, List.map_append] at ih
   rw [q2D]
   simp only [wz, wz2, dYT (show ((i * 2 + 1 : Nat) : Int) < ((qb P).length : Int) by omega), dYT (show ((i * 2 : Nat) : Int) < ((qb P).length : Int) by omega), dYT (show (0 : Int) <= ((i * 2 : Nat) : Int) by omega), dYT (show (0 : Int) <= ((i * 2 + 1 : Nat) : Int) by omega), Bool.and_self, cT, Int.toNat_natCast, g1, g2, q2j (P[i]).1 (by omega), q2j (P[i]).2 (by omega), oB]
   rw [zh (by rw [tk]; omega), zh (by rw [tf]; omega)]
   simp only [cT]
   exact ih
 have := loop P.length 0 rfl
 exact this
theorem q8Y {l : List BA} (hl6 : l.length <= 6) (hlm : ∀ x ∈ l, x ∈ q1W) : ∀ (m i : Nat) (P : List PF), m + i = l.length -> 1 <= l.length -> Fl P -> P.length <= i -> (1 <= i -> 1 <= P.length) -> q0y l (oneT c_q 3 (qb P)) (i : Int) = some (true, ())
 | 0, i, P, hm, hl1, h, hi, hp => by
  have h1 := hp (by omega)
  have hne : qb P ≠ [] := fun e => by have := yA P; rw [e] at this; simp at this; omega
  have L2 := qcV h h1
  rw [q2w]
  simp only [dYF (show ¬ (i : Int) < (l.length : Int) by omega), cF, (q0T _ _ h.bd w2f.1).2, (q0T _ _ h.bd w2f.2.1).2, (q0T _ _ h.bd w2f.2.2.1).2, qf0 kq h.ok, qdH kq h.ok, qct kq h.ok, oB]
  rw [q17 hne] at L2 ⊢
  have g : List.getD [(c_q, ((3 : Int), ((0 : Int), (eB, qb P))))] (Int.toNat 0) (eB, (0, (0, (eB, [])))) = (c_q, (3, (0, (eB, qb P)))) := rfl
  have g0 : (decide ((0 : Int) <= 0) && decide ((0 : Int) < ([(c_q, ((3 : Int), ((0 : Int), (eB, qb P))))].length : Int))) = true := rfl
  simp only [g0, g, cT]
  exact L2
 | m + 1, i, P, hm, hl1, h, hi, hp => by
  have hx : l.getD i eB ∈ q1W := hlm _ (zK (by omega))
  have hv := qfA (n := (i : Int)) (by omega) (by omega)
  have hS := h.set (by omega) hx hv
  have ih := q8Y hl6 hlm m (i + 1) (setF P (l.getD i eB) (decB (i : Int))) (by omega) hl1 hS (by have := q79 h.asc (l.getD i eB) (decB (i : Int)); omega) (fun _ => by unfold setF; simp; omega)
  have s := qeT h (by omega) hx hv
  have g := qb9 h hx
  have g' := qb9 hS hx
  rw [qdN, qek, cT] at g'
  have hb := q2j (decB (i : Int)) (by omega)
  rw [q2w]
  simp only [dYT (show (i : Int) < (l.length : Int) by omega), dYT (show (0 : Int) <= (i : Int) by omega), Bool.and_self, cT, q0X (i : Int) (by omega) (by omega), oB, Int.toNat_natCast, s, g, g', Bool.not_true, cF, wC, qfq, qfC h, BEq.rfl, hb, decide_true, show w64 ((i : Int) + 1) = ((i + 1 : Nat) : Int) from qM (by omega)]
  exact ih
theorem q9z (code : List Int) : q5s code = some (true, ()) := by
 rw [q7j, q6K]
 by_cases hb : (code.length : Int) > 1048576
 ·simp only [oB, dYT hb, cT]
 obtain ⟨l, hD, hl1, hl6, hlm⟩ := q6T code (by omega)
 have := q8Y hl6 hlm l.length 0 [] rfl hl1 ⟨List.Pairwise.nil, (by simp), fun p h => (by cases h), fun p h => (by cases h)⟩ (by simp) (fun h => by omega)
 simp only [oB, dYF hb, cF, hD]
 exact this
end Go.Den.S
