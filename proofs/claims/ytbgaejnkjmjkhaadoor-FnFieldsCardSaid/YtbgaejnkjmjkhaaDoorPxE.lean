/- PxE: equations of the functions of this seat as the executor tells them, or plain facts about them. Conditions: none here. -/
import Derived.Test.YtbgaejnkjmjkhaaDoorPxD
set_option linter.all false
namespace Go.Den.S
open Go Go.Den
theorem qa3 {α : Type} (P : α -> Bool) : ∀ (l : List α) (i : Nat), (idxI P l i = -1 /\ l.find? P = none) \/ ∃ k x, k < l.length /\ idxI P l i = ((i + k : Nat) : Int) /\ l[k]? = some x /\ l.find? P = some x
 | [], i => .inl ⟨rfl, rfl⟩
 | x :: r, i => by
  unfold idxI
  rw [List.find?_cons]
  cases h : P x with
  | true => exact .inr ⟨0, x, by simp, by simp, rfl, rfl⟩
  | false =>
   simp only [cF]
   rcases qa3 P r (i + 1) with ⟨h1, h2⟩ | ⟨k, y, h1, h2, h3, h4⟩
   ·exact .inl ⟨h1, h2⟩
   ·exact .inr ⟨k + 1, y, by simp; omega, by rw [h2]; congr 1; omega, by simpa using h3, h4⟩
def fndB (t : List DE) (k : BA) : DV × Bool := match t.find? fun e => decide (e.1 = k) with
 | some e => (e.2, true)
 | none => ((0, (0, (eB, []))), false)
theorem qb4 {t : List DE} {k : BA} (h : tabB t = true) (hf : (fndB t k).2 = true) : valB (fndB t k).1 = true /\ (k, (fndB t k).1) ∈ t := by
 unfold fndB at hf ⊢
 cases hx : t.find? fun e => decide (e.1 = k) with
 | none => rw [hx] at hf; cases hf
 | some e =>
  have hm := List.mem_of_find?_eq_some hx
  have hk := List.find?_some hx
  simp only [decide_eq_true_eq] at hk
  refine ⟨(q6y h hm).1, ?_⟩
  rw [<- hk]
  exact hm
theorem q9M (t : List DE) (k : BA) (h : Bd t) : q5P t k = some (fndB t k, ()) := by
 have hl := h.len
 rw [qaJ, q2n]
 have := q78 (fun i => yK t (t.length : Int) i k) (fun e : DE => decide (e.1 = k)) dflt t (fun n => some (n, ((), ())))
  (fun i hi => by
   conv => lhs; rw [jo]
   have e1 : decide ((i : Int) < (t.length : Int)) = true := dYT (by omega)
   have e2 : decide (0 <= (i : Int)) = true := dYT (by omega)
   have e3 : w64 ((i : Int) + 1) = ((i + 1 : Nat) : Int) := qM (by omega)
   simp only [e1, e2, e3, Bool.and_self, cT, Int.toNat_natCast, q8l, oB, wC])
  (by
   show yK t (t.length : Int) (t.length : Int) k = _
   rw [jo]
   simp only [Int.lt_irrefl, decide_false, cF])
 rw [this]
 unfold fndB
 rcases qa3 (fun e : DE => decide (e.1 = k)) t 0 with ⟨h1, h2⟩ | ⟨j, x, hj, h1, h2, h3⟩
 ·rw [h1, h2]; rfl
 ·rw [h1, h3]
  have hg : t.getD j dflt = x := by rw [List.getD_eq_getElem?_getD, h2]; rfl
  have hm := h.its x (List.mem_of_getElem? h2)
  simp only [oB, Nat.zero_add, dYF (show ¬ ((j : Int) < 0) by omega), cF, dYT (show (0 : Int) <= (j : Int) by omega), dYT (show (j : Int) < (t.length : Int) by omega), Bool.and_self, cT, Int.toNat_natCast, hg, q4d x.2 (by omega)]
theorem q3e {α : Type} (key : α -> BA) (k : BA) : ∀ (l : List α), l.Pairwise (fun a b => blt (key a) (key b) = true) ->
  ∃ A B, l = A ++ B /\ A = l.filter (fun e => blt (key e) k) /\ (∀ a ∈ A, blt (key a) k = true) /\ (∀ b ∈ B, blt (key b) k = false) /\
   ((B = l.filter (fun e => blt k (key e)) /\ ∀ b ∈ B, key b ≠ k) \/ ∃ e C, B = e :: C /\ key e = k /\ C = l.filter (fun e => blt k (key e)) /\ ∀ c ∈ C, key c ≠ k)
 | [], _ => ⟨[], [], rfl, rfl, (fun _ h => by cases h), (fun _ h => by cases h), .inl ⟨rfl, fun _ h => by cases h⟩⟩
 | x :: r, h => by
  rw [List.pairwise_cons] at h
  cases hx : blt (key x) k with
  | true =>
   obtain ⟨A, B, h1, h2, h3, h4, h5⟩ := q3e key k r h.2
   have hgt : blt k (key x) = false := q4j hx
   refine ⟨x :: A, B, by rw [h1]; rfl, by rw [List.filter_cons_of_pos (by exact hx), <- h2], fun a ha => ?_, h4, ?_⟩
   ·rcases List.mem_cons.1 ha with rfl | ha
    ·exact hx
    ·exact h3 a ha
   ·rw [List.filter_cons_of_neg (by rw [hgt]; simp)]
    exact h5
  | false =>
   have hr : ∀ b ∈ r, blt k (key b) = true := fun b hb => by
    by_cases e : k = key x
    ·rw [e]; exact h.1 b hb
    ·exact q18 (q47 (fun e' => e e'.symm) hx) (h.1 b hb)
   have hr2 : ∀ b ∈ r, blt (key b) k = false := fun b hb => q4j (hr b hb)
   have f1 : (x :: r).filter (fun e => blt (key e) k) = [] := by
    rw [List.filter_eq_nil_iff]
    intro b hb
    rcases List.mem_cons.1 hb with rfl | hb
    ·rw [hx]; simp
    ·rw [hr2 b hb]; simp
   have f2 : r.filter (fun e => blt k (key e)) = r := List.filter_eq_self.2 hr
   refine ⟨[], x :: r, rfl, f1.symm, (fun _ h => by cases h), fun b hb => ?_, ?_⟩
   ·rcases List.mem_cons.1 hb with rfl | hb
    ·exact hx
    ·exact hr2 b hb
   ·by_cases e : key x = k
    ·right
     refine ⟨x, r, rfl, e, ?_, fun c hc => (q23 (hr c hc)).symm⟩
     rw [List.filter_cons_of_neg (by rw [e, q0n]; simp), f2]
    ·left
     have hkx : blt k (key x) = true := q47 e hx
     refine ⟨by rw [List.filter_cons_of_pos (p := fun e => blt k (key e)) hkx, f2], fun b hb => ?_⟩
     rcases List.mem_cons.1 hb with rfl | hb
     ·exact e
     ·exact (q23 (hr b hb)).symm
def lowB (t : List DE) (k : BA) : List DE := t.filter fun e => blt e.1 k
def q2p (t : List DE) (k : BA) : List DE := t.filter fun e => blt k e.1
def putB (t : List DE) (k : BA) (v : DV) : List DE := lowB t k ++ (k, v) :: q2p t k
def q0Y (t : List DE) (k : BA) : List DE := lowB t k ++ q2p t k
theorem qbB (e : DE) (k : BA) : yG e k = some ((if blt e.1 k then -1 else if e.1 = k then 0 else 1), ()) := by
 rw [q0c, q5K]
 unfold q0F
 rw [qaV]; rfl
def hdB (k : BA) : List DE -> Bool
 | [] => false
 | e :: _ => decide (e.1 = k)
theorem qf5 (b : Bool) (p : Prop) [Decidable p] : decide ((if b = true then (-1 : Int) else if p then 0 else 1) < 0) = b := by
 cases b with
 | true => rfl
 | false =>
  simp only [Bool.false_eq_true, if_false]
  split <;> rfl
theorem qfG (t : List DE) (k : BA) (h : Bd t) {A B : List DE} (hAB : t = A ++ B) (hA : ∀ a ∈ A, blt a.1 k = true) (hB : ∀ b ∈ B, blt b.1 k = false) :
  qx t k () = some (((A.length : Int), hdB k B), ((), ())) := by
 have hl := h.len
 have hlen : t.length = A.length + B.length := by rw [hAB, List.length_append]
 rw [yC]
 have hget : ∀ i, i < t.length -> blt (t.getD i dflt).1 k = decide (i < A.length) := fun i hi => by
  rw [yU hi]
  by_cases hlt : i < A.length
  ·rw [dYT hlt]
   have : t[i] = A[i] := by simp only [hAB]; rw [List.getElem_append_left hlt]
   rw [this]
   exact hA _ (List.getElem_mem _)
  ·rw [dYF hlt]
   have : t[i] = B[i - A.length]'(by omega) := by simp only [hAB]; rw [List.getElem_append_right (by omega)]
   rw [this]
   exact hB _ (List.getElem_mem _)
 have := qbM (fun lo hi => qg t k (t.length : Int) lo hi) (fun i => blt (t.getD i dflt).1 k) t.length A.length (by omega) hget
  (fun lo hi hlt hhi => by
   conv => lhs; rw [qI]
   have hm : w64 (shrI Go.IntKind.u64 (Go.IntKind.u64.wrap (w64 ((lo : Int) + (hi : Int)))) 1) = (((lo + hi) / 2 : Nat) : Int) := qdG (by omega)
   have e3 : w64 ((((lo + hi) / 2 : Nat) : Int) + 1) = (((lo + hi) / 2 + 1 : Nat) : Int) := qM (by omega)
   simp only [dYT (show (lo : Int) < (hi : Int) by omega), hm, e3, dYT (show (0 : Int) <= (((lo + hi) / 2 : Nat) : Int) by omega), dYT (show (((lo + hi) / 2 : Nat) : Int) < (t.length : Int) by omega), Bool.and_self, cT, Int.toNat_natCast, qbB, oB, qf5])
 rw [this, qI]
 simp only [Int.lt_irrefl, decide_false, cF]
 match B, hlen, hAB, hB with
 | [], hlen, _, _ =>
  simp only [List.length_nil, Nat.add_zero] at hlen
  rw [dYF (show ¬ ((A.length : Int) < (t.length : Int)) by omega)]
  rfl
 | e :: C, hlen, hAB, hB =>
  simp only [List.length_cons] at hlen
  have hg : t.getD A.length dflt = e := by rw [List.getD_eq_getElem?_getD, hAB]; simp
  have hb := hB e (List.mem_cons_self ..)
  simp only [dYT (show ((A.length : Int) < (t.length : Int)) by omega), dYT (show (0 : Int) <= (A.length : Int) by omega), Bool.and_self, cT, Int.toNat_natCast, hg, qbB, hb, oB, Bool.false_eq_true, if_false]
  by_cases he : e.1 = k
  ·rw [if_pos he, show hdB k (e :: C) = true from dYT he]; rfl
  ·rw [if_neg he, show hdB k (e :: C) = false from dYF he]; rfl
abbrev DD : Type := List DE × BA × Bool
theorem q2X (d : DD) (k : BA) (v : DV) (h : Bd d.1) (ha : Asc d.1) : qA d k v = some ((), ((bif d.2.2 then d else (putB d.1 k v, d.2)), ())) := by
 obtain ⟨t, r, b⟩ := d
 rw [q0Q]
 cases b with
 | true => rfl
 | false =>
  have hl := h.len
  obtain ⟨A, B, h1, h2, h3, h4, h5⟩ := q3e (fun e : DE => e.1) k t ha
  simp only [cF, qfG t k h h1 h3 h4, oB]
  have hlen : t.length = A.length + B.length := by rw [h1, List.length_append]
  have hlow : lowB t k = A := h2.symm
  rcases h5 with ⟨h5, h6⟩ | ⟨e, C, rfl, he, h5, h6⟩
  ·have hhigh : q2p t k = B := h5.symm
   have hf : hdB k B = false := by
    cases B with
    | nil => rfl
    | cons e C => exact dYF (h6 e (List.mem_cons_self ..))
   rw [hf]
   simp only [cF, yV]
   unfold insF
   simp only [dYT (show (0 : Int) <= (A.length : Int) by omega), dYT (show (A.length : Int) <= (t.length : Int) by omega), List.length_singleton, dYT (show 0 < 1 by omega), zh (show (t.length + 1) * 72 <= 140737488355328 by have : t.length <= 4194304 := hl; omega), Bool.and_self, cT, oB, Int.toNat_natCast]
   have e1 : t.take A.length = A := by rw [h1]; simp
   have e2 : t.drop A.length = B := by rw [h1]; simp
   unfold putB
   rw [hlow, hhigh, e1, e2, List.append_assoc]
   rfl
  ·have hhigh : q2p t k = C := h5.symm
   simp only [List.length_cons] at hlen
   have hg : t.getD A.length dflt = e := by rw [List.getD_eq_getElem?_getD, h1]; simp
   have hset : t.set A.length (e.1, v) = A ++ (k, v) :: C := by rw [h1, he]; simp
   have hhd : hdB k (e :: C) = true := dYT he
   simp only [hhd, cT, dYT (show (0 : Int) <= (A.length : Int) by omega), dYT (show (A.length : Int) < (t.length : Int) by omega), Bool.and_self, Int.toNat_natCast, hg]
   unfold putB
   rw [hlow, hhigh]
   show some ((), ((t.set A.length (e.1, v), (r, false)), ())) = _
   rw [hset]
theorem q6O (t : List DE) (k : BA) (ha : Asc t) : (t.filter fun e => !(decide (e.1 = k))) = q0Y t k := by
 obtain ⟨A, B, h1, h2, h3, h4, h5⟩ := q3e (fun e : DE => e.1) k t ha
 have hlow : lowB t k = A := h2.symm
 unfold q0Y
 have hAf : (A.filter fun e => !(decide (e.1 = k))) = A := List.filter_eq_self.2 fun a ha => by rw [dYF (q23 (h3 a ha))]; rfl
 rcases h5 with ⟨h5, h6⟩ | ⟨e, C, rfl, he, h5, h6⟩
 ·have hhigh : q2p t k = B := h5.symm
  have hBf : (B.filter fun e => !(decide (e.1 = k))) = B := List.filter_eq_self.2 fun a ha => by rw [dYF (h6 a ha)]; rfl
  rw [hlow, hhigh]
  conv => lhs; rw [h1, List.filter_append, hAf, hBf]
 ·have hhigh : q2p t k = C := h5.symm
  have hCf : (C.filter fun e => !(decide (e.1 = k))) = C := List.filter_eq_self.2 fun a ha => by rw [dYF (h6 a ha)]; rfl
  rw [hlow, hhigh]
  conv => lhs; rw [h1, List.filter_append, hAf, List.filter_cons_of_neg (by rw [dYT he]; simp), hCf]
theorem qar (d : DD) (k : BA) (h : Bd d.1) (ha : Asc d.1) : wI d k = some (decide ((q0Y d.1 k).length < d.1.length), ((q0Y d.1 k, d.2), ())) := by
 obtain ⟨t, r⟩ := d
 have hl : t.length <= 4194304 := h.len
 rw [q0E, q1V, q25]
 have hi := q78 (fun i => yL t (t.length : Int) i k) (fun e : DE => decide (e.1 = k)) dflt t (fun n => some (n, ((), ())))
  (fun i hi => by
   conv => lhs; rw [jq]
   have e1 : decide ((i : Int) < (t.length : Int)) = true := dYT (by omega)
   have e2 : decide (0 <= (i : Int)) = true := dYT (by omega)
   have e3 : w64 ((i : Int) + 1) = ((i + 1 : Nat) : Int) := qM (by omega)
   simp only [e1, e2, e3, Bool.and_self, cT, Int.toNat_natCast, zl, oB, wC])
  (by
   show yL t (t.length : Int) (t.length : Int) k = _
   rw [jq]
   simp only [Int.lt_irrefl, decide_false, cF])
 have hd : (bif idxI (fun e : DE => decide (e.1 = k)) t 0 == -1 then some (t, ((), ())) else qR t (idxI (fun e : DE => decide (e.1 = k)) t 0) (w64 (idxI (fun e : DE => decide (e.1 = k)) t 0 + 1)) k) = some (q0Y t k, ((), ())) := by
  rw [<- q6O t k ha]
  rcases q5Q (fun e : DE => decide (e.1 = k)) t 0 with ⟨h1, h2⟩ | ⟨j, h1, h2, h3, h4⟩
  ·rw [h1, filter_none h2]; rfl
  ·rw [h2]
   have hne : ((((0 + j : Nat) : Int)) == -1) = false := by rw [q3K]; exact dYF (by omega)
   rw [hne, cF, Nat.zero_add, show w64 ((j : Int) + 1) = ((j + 1 : Nat) : Int) from qM (by omega)]
   exact qbs (fun xs i j => qR xs i j k) (fun e : DE => decide (e.1 = k)) dflt t (fun l => some (l, ((), ())))
    (fun xs i j hj hij hxs _ => by
     conv => lhs; rw [jf]
     have e1 : decide ((j : Int) < (xs.length : Int)) = true := dYT (by omega)
     have e2 : decide (0 <= (j : Int)) = true := dYT (by omega)
     have e3 : w64 ((j : Int) + 1) = ((j + 1 : Nat) : Int) := qM (by omega)
     have e4 : w64 ((i : Int) + 1) = ((i + 1 : Nat) : Int) := qM (by omega)
     have e5 : decide ((i : Int) < (xs.length : Int)) = true := dYT (by omega)
     have e6 : decide (0 <= (i : Int)) = true := dYT (by omega)
     simp only [e1, e2, e3, e4, e5, e6, Bool.and_self, cT, Int.toNat_natCast, zl, oB, wC])
    (fun xs i hi hxs => by
     show qR xs (i : Int) (t.length : Int) k = _
     rw [jf, <- hxs]
     have hz : (((List.take i xs) ++ (List.replicate (xs.length - i) dflt)) ++ (List.drop xs.length xs)).length = xs.length := by
      simp only [List.length_append, List.length_take, List.length_replicate, List.length_drop]; omega
     have hz' : (((List.take i xs) ++ (List.replicate (xs.length - i) (eB, ((0 : Int), ((0 : Int), (eB, ([] : List BA))))))) ++ (List.drop xs.length xs)).length = xs.length := hz
     simp only [Int.lt_irrefl, decide_false, cF, dYT (show (0 : Int) <= (i : Int) by omega), dYT (show (i : Int) <= (xs.length : Int) by omega), Int.le_refl, decide_true, Bool.and_self, cT, Int.toNat_natCast, hz', show Int.toNat 0 = 0 from rfl, Nat.sub_zero, List.drop_zero]
     rw [List.append_assoc, List.take_append_of_le_length (by rw [List.length_take]; omega), List.take_take, Nat.min_self])
    j h1 h3 h4
 rw [hi]
 simp only [oB]
 rw [hd]
 simp only [oB]
 rw [show decide (((q0Y t k).length : Int) < (t.length : Int)) = decide ((q0Y t k).length < t.length) from decide_eq_decide.2 (by omega)]
end Go.Den.S
