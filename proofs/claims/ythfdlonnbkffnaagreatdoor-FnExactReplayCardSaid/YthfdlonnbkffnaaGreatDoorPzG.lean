/- PzG: equations of the functions of this seat as the executor tells them, or plain facts about them. Conditions: none here. -/
import Derived.Test.YthfdlonnbkffnaaGreatDoorPzF
set_option linter.all false
namespace Go.Den.S
open Go Go.Den
theorem qeD : ∀ q : List (List BA), jf q <= wl (wl ByteArray.size) q
 | [] => Nat.le_refl _
 | l :: r => by
  have := qeD r
  have e1 : jf (l :: r) = l.length + jf r := by simp [jf]
  have e2 : wl (wl ByteArray.size) (l :: r) = 1 + wl ByteArray.size l + wl (wl ByteArray.size) r := by simp [wl]; omega
  have e3 : wl ByteArray.size l = l.length + (l.map ByteArray.size).sum := rfl
  omega
theorem qcx {t : List (List BA)} (ht : Wf (.sl (.sl .str)) t) : t.length <= 9223372036854775807 /\ ∀ l ∈ t, l.length <= 9223372036854775807 /\ ∀ s ∈ l, ByteArray.size s <= 9223372036854775807 :=
 ⟨ht.1, fun l hl => ⟨(ht.2 l hl).1, fun s hs => (ht.2 l hl).2 s hs⟩⟩
theorem qm0 (a : List DE) (now : Int) (t : List (List BA)) (hw : Wf (.sl qc) a) (ht : Wf (.sl (.sl .str)) t) : q9R a now t = some (true, ()) := by
 rw [qbH, qas a 1048576 (by omega) (by omega) (wf_t hw).1 (wf_t hw).2, oB]
 by_cases hn : szv (wT a) 1048576 < 0
 ·simp only [dYT hn, cT]
 ·obtain ⟨k5, k6⟩ := q6g hn
  simp only [dYF hn, cF]
  rw [k6, q8K t _ (by omega) (by omega) (qcx ht).1 (qcx ht).2, oB]
  by_cases hn2 : szv (wl (wl ByteArray.size) t) (1048576 - (wT a : Int)) < 0
  ·simp only [dYT hn2, cT]
  ·obtain ⟨k7, _⟩ := q6g hn2
   simp only [dYF hn2, cF]
   have hsa : Sm a := sm_w (by omega)
   have hwt : wl (wl ByteArray.size) t <= 1048576 := by omega
   have htl : t.length <= 1048576 := wN hwt
   have hct := qeD t
   obtain ⟨hr1, hr2⟩ := qjd a now t (w_bd (by omega)) (fun x hx => jA hwt hx) (by omega)
   have hsr : Sm (q0q now (t.take 50) a).1 := (qdF now (t.take 50) a).elim (fun e => by rw [e]; exact hsa) qev
   have hln : (q0q now (t.take 50) a).2.length <= 50 := by rw [qdo, List.length_take]; omega
   generalize q0q now (t.take 50) a = r at *
   have c1 := hsa.cnt
   have c2 := hsr.cnt
   have l1 := hsa.len
   have l2 := hsr.len
   simp only [qaz a hsa.len hsa.its, q8M t (by omega), oB, hr1, hr2, q2Z r.1 r.1 (by omega) hsr.its, q2Z a a (by omega) hsa.its, q8H t t (by omega), q6J r.2 r.2 (by omega), qG, decide_true, Bool.not_true, Bool.not_false, beq_self_eq_true, bne_self_eq_false, cT, cF,
    q1s a 1 (by omega) (by omega) (by omega), q6s t (1 + (cntE a : Int)) (by omega) (by omega) (by omega), dYF (show ¬ (1 : Int) + (cntE a : Int) + (jf t : Int) < 0 by omega),
    q1s r.1 1 (by omega) (by omega) (by omega), q5M r.1 1 (by omega) (by omega) (by omega), dYF (show ¬ (1 : Int) + (cntE r.1 : Int) < 0 by omega),
    q5h r.2 (1 + (cntE r.1 : Int)) (by omega) (by omega), qaJ r.2.length (1 + (cntE r.1 : Int)) (by omega) (by omega), dYF (show ¬ (1 : Int) + (cntE r.1 : Int) + (r.2.length : Int) < 0 by omega)]
theorem qjN (a : List DE) (now : Int) (t : List (List BA)) (all : Bool) (hw : Wf (.sl qc) a) (ht : Wf (.sl (.sl .str)) t) : q84 a now t all = some (true, ()) := by
 rw [qaE, qas a 1048576 (by omega) (by omega) (wf_t hw).1 (wf_t hw).2, oB]
 by_cases hn : szv (wT a) 1048576 < 0
 ·simp only [dYT hn, cT]
 ·obtain ⟨k5, k6⟩ := q6g hn
  simp only [dYF hn, cF]
  rw [k6, q8K t _ (by omega) (by omega) (qcx ht).1 (qcx ht).2, oB]
  by_cases hn2 : szv (wl (wl ByteArray.size) t) (1048576 - (wT a : Int)) < 0
  ·simp only [dYT hn2, cT]
  ·obtain ⟨k7, _⟩ := q6g hn2
   simp only [dYF hn2, cF]
   have hsa : Sm a := sm_w (by omega)
   have hwt : wl (wl ByteArray.size) t <= 1048576 := by omega
   have htl : t.length <= 1048576 := wN hwt
   have hct := qeD t
   obtain ⟨hr1, hr2⟩ := qga a now t all (w_bd (by omega)) (fun x hx => jA hwt hx) (by omega)
   have hsr : Sm (doB a now t all).1 := (qey a now t all).elim (fun e => by rw [e]; exact hsa) qev
   generalize doB a now t all = r at *
   have c1 := hsa.cnt
   have c2 := hsr.cnt
   have l1 := hsa.len
   have l2 := hsr.len
   simp only [qaz a hsa.len hsa.its, q8M t (by omega), oB, hr1, hr2, q2Z r.1 r.1 (by omega) hsr.its, q2Z a a (by omega) hsa.its, q8H t t (by omega), qG, decide_true, Bool.not_true, Bool.not_false, beq_self_eq_true, bne_self_eq_false, cT, cF,
    q1s a 1 (by omega) (by omega) (by omega), q6s t (1 + (cntE a : Int)) (by omega) (by omega) (by omega), dYF (show ¬ (1 : Int) + (cntE a : Int) + (jf t : Int) < 0 by omega),
    q1s r.1 1 (by omega) (by omega) (by omega), q5M r.1 1 (by omega) (by omega) (by omega), dYF (show ¬ (1 : Int) + (cntE r.1 : Int) < 0 by omega)]
abbrev DU : Type := Int × Int × List (List BA) × Bool × BA × Bool
instance decU1 : DecidableEq (BA × Bool) := inferInstance
instance decU2 : DecidableEq (Bool × BA × Bool) := inferInstance
instance decU3 : DecidableEq (List (List BA)) := inferInstance
instance decU4 : DecidableEq (List (List BA) × Bool × BA × Bool) := inferInstance
instance decU5 : DecidableEq (Int × Int × List (List BA) × Bool × BA × Bool) := inferInstance
abbrev q5g : DU := (0, (0, ([], (false, (eB, false)))))
def wU (u : DU) : Nat := wl (wl ByteArray.size) u.2.2.1 + u.2.2.2.2.1.size
structure WfU (u : DU) : Prop where
 rep : u.2.2.2.2.1.size <= 9223372036854775807
 len : u.2.2.1.length <= 9223372036854775807
 its : ∀ l ∈ u.2.2.1, l.length <= 9223372036854775807 /\ ∀ s ∈ l, ByteArray.size s <= 9223372036854775807
theorem wf_u {t : List DU} (h : Wf (.sl yE) t) : t.length <= 9223372036854775807 /\ ∀ u ∈ t, WfU u :=
 ⟨h.1, fun u hu => by
  obtain ⟨_, _, h3, _, h5, _⟩ := h.2 u hu
  exact ⟨h5, (qcx h3).1, (qcx h3).2⟩⟩
theorem qkO (u : DU) (left : Int) (h0 : 0 <= left) (h1 : left <= 2097152) (hw : WfU u) : q7I u left = some (szv (wU u) left, ()) := by
 have hr := hw.rep
 rw [qeW, q8K _ _ h0 h1 hw.len hw.its, oB]
 have ew : wU u = wl (wl ByteArray.size) u.2.2.1 + u.2.2.2.2.1.size := rfl
 by_cases hn : (wl (wl ByteArray.size) u.2.2.1 : Int) <= left
 ·rw [q7V hn]
  simp only [dYF (show ¬ left - (wl (wl ByteArray.size) u.2.2.1 : Int) < 0 by omega), cF, show w64 (left - (wl (wl ByteArray.size) u.2.2.1 : Int) - (u.2.2.2.2.1.size : Int)) = left - (wl (wl ByteArray.size) u.2.2.1 : Int) - (u.2.2.2.2.1.size : Int) from qj (by omega) (by omega)]
  by_cases h : left - (wl (wl ByteArray.size) u.2.2.1 : Int) - (u.2.2.2.2.1.size : Int) < 0
  ·rw [q3j (by omega)]
   simp only [dYT h, cT]
  ·rw [q7V (by omega)]
   simp only [dYF h, cF]
   congr 2; omega
 ·rw [q3j (by omega), q3j (by omega)]
  rfl
def wUs (t : List DU) : Nat := wl wU t
theorem qk1 (a : List DU) (left : Int) (h0 : 0 <= left) (h1 : left <= 2097152) (hl : a.length <= 9223372036854775807) (hs : ∀ e ∈ a, WfU e) :
  q9Q a left = some (szv (wUs a) left, ()) := by
 rw [qeo]
 have e : w64 (left - (a.length : Int)) = left - (a.length : Int) := qj (by omega) (by omega)
 rw [e]
 rw [show wUs a = a.length + (a.map wU).sum from rfl]
 by_cases h : left - (a.length : Int) < 0
 ·simp only [dYT h, cT]
  unfold szv
  rw [if_neg (by omega)]
 ·simp only [dYF h, cF]
  have key := q12 a q5g (fun i r => ∀ left : Int, 0 <= left -> left <= 2097152 -> q4s a left (i : Int) = some (szv ((r.map wU).sum) left, ())) (fun left h0 h1 => by
   rw [q7Y]
   simp [szv, h0]) (fun i x r hi hx hm ih left h0 h1 => by
   rw [q7Y]
   have k1 : decide ((i : Int) < (a.length : Int)) = true := dYT (by omega)
   have k2 : decide (0 <= (i : Int)) = true := dYT (by omega)
   have k4 : w64 ((i : Int) + 1) = ((i + 1 : Nat) : Int) := qz (by omega)
   have hx' : a.getD i (0, (0, ([], (false, (eB, false))))) = x := hx
   simp only [k1, k2, Bool.and_self, cT, Int.toNat_natCast, hx', k4, List.map_cons, List.sum_cons]
   rw [show q7I (x.1, (x.2.1, (x.2.2.1, (x.2.2.2.1, x.2.2.2.2)))) left = some (szv (wU x) left, ()) from qkO x left h0 h1 (hs x hm), oB]
   by_cases hn : (wU x : Int) <= left
   ·rw [q7V hn]
    simp only [dYF (show ¬ left - (wU x : Int) < 0 by omega), cF]
    rw [ih _ (by omega) (by omega)]
    unfold szv
    split <;> split <;> first | rfl | omega | (congr 2; omega)
   ·rw [q3j (by omega), q3j (by omega)]
    rfl)
  refine (key _ (by omega) (by omega)).trans ?_
  unfold szv
  split <;> split <;> first | rfl | omega | (congr 2; omega)
theorem qln (u : DU) (h : wl (wl ByteArray.size) u.2.2.1 <= 2097152) : qaq u = some (u, ()) := by
 rw [qf3, q8M _ h]; rfl
theorem qjX (a : List DU) (ha : a.length <= 2097152) (hi : ∀ e ∈ a, wl (wl ByteArray.size) e.2.2.1 <= 2097152) : q3d a = some (a, ()) := by
 rw [qdP]
 have e : lim a.length 72 = true := yA (by omega)
 simp only [Int.le_refl, decide_true, Int.natCast_nonneg, Int.toNat_natCast, e, Bool.and_self, cT]
 refine (q8n (fun out i => q1l a out i) a q5g (List.replicate a.length q5g) (by simp) fun out i hi' hl => ?_).trans ?_
 ·show q1l a out i = _
  rw [q8e]
  have e : w64 ((i : Int) + 1) = (i : Int) + 1 := qj (by omega) (by omega)
  have h1 : decide ((i : Int) < (a.length : Int)) = true := dYT (by omega)
  have h2 : decide ((i : Int) < (out.length : Int)) = true := dYT (by omega)
  have h3 : decide (0 <= (i : Int)) = true := dYT (by omega)
  have hm := hi _ (yg (d := q5g) hi')
  simp only [h1, h2, h3, e, Bool.and_self, cT, Int.toNat_natCast, qln (a.getD i q5g) hm, oB]
 ·show q1l a a (a.length : Int) = _
  rw [q8e]
  simp
theorem qla (a b : DU) (h : wl (wl ByteArray.size) a.2.2.1 <= 2097152) : qal a b = some (decide (a = b), ()) := by
 rw [qfJ, q8H _ _ h]
 obtain ⟨a1, a2, a3, a4, a5, a6⟩ := a
 obtain ⟨b1, b2, b3, b4, b5, b6⟩ := b
 simp only [oB, qG, Prod.mk.injEq, qjl]
 simp only [Bool.beq_eq_decide_eq]
 by_cases h1 : a1 = b1 <;> by_cases h2 : a2 = b2 <;> by_cases h3 : a3 = b3 <;> by_cases h4 : a4 = b4 <;> by_cases h5 : a5 = b5 <;> by_cases h6 : a6 = b6 <;> simp [h1, h2, h3, h4, h5, h6]
theorem qjI (a b : List DU) (ha : a.length <= 4194304) (hi : ∀ e ∈ a, wl (wl ByteArray.size) e.2.2.1 <= 2097152) : q9r a b = some (decide (a = b), ()) := by
 rw [qee]
 by_cases hl : a.length = b.length
 ·have e : ((a.length : Int) != (b.length : Int)) = false := by simp [hl]
  simp only [e, cF]
  refine qcH (fun i => q4t a b i) a b q5g hl (fun i hi' => ?_) ?_
  ·rw [q8k]
   have e : w64 ((i : Int) + 1) = (i : Int) + 1 := qj (by omega) (by omega)
   have h1 : decide ((i : Int) < (a.length : Int)) = true := dYT (by omega)
   have h2 : decide ((i : Int) < (b.length : Int)) = true := dYT (by omega)
   have h3 : decide (0 <= (i : Int)) = true := dYT (by omega)
   have hm := hi _ (yg (d := q5g) hi')
   simp only [h1, h2, h3, e, Bool.and_self, cT, Int.toNat_natCast, qla (a.getD i q5g) (b.getD i q5g) hm, oB]
   by_cases h : a.getD i q5g = b.getD i q5g
   ·rw [dYT h, if_pos h, Bool.not_true, cF]
   ·rw [dYF h, if_neg h, Bool.not_false, cT]
  ·rw [q8k]
   simp
 ·have e : ((a.length : Int) != (b.length : Int)) = true := by simp; omega
  simp only [e, cT]
  rw [dYF fun h => hl (by rw [h])]
def cntU (t : List DU) : Nat := (t.map fun u => 5 + jf u.2.2.1).sum
theorem qhs (a : List DU) (k : Int) (h0 : 0 <= k) (hl : a.length <= 500000000) (hi : ∀ u ∈ a, u.2.2.1.length <= 1000000000) (hk : k + cntU a <= 1000000000) : ∃ out, q7n a k = some (k + (cntU a : Int), out, ()) := by
 rw [qcU, q8w, q8x]
 have key : ∀ (r pre : List DU) (k : Int), 0 <= k -> (∀ u ∈ r, u.2.2.1.length <= 1000000000) -> k + cntU r <= 1000000000 -> pre.length + r.length <= 500000000 -> ∃ out, q39 k (pre.length : Int) (pre ++ r) = some (k + (cntU r : Int), out, ()) := by
  intro r
  induction r with
  | nil =>
   intro pre k h0 _ hk hp
   refine ⟨pre ++ [], ?_⟩
   rw [q6F, q42]
   have k1 : decide ((pre.length : Int) < ((pre ++ ([] : List DU)).length : Int)) = false := dYF (by simp)
   simp only [k1, cF, q8B]
   simp [cntU]
  | cons e r ih =>
   intro pre k h0 hi hk hp
   have hc : cntU (e :: r) = 5 + jf e.2.2.1 + cntU r := by simp [cntU]
   have hle := hi e (List.mem_cons_self ..)
   rw [hc] at hk ⊢
   simp only [List.length_cons] at hp
   have hset : ∀ x y : DU, (pre ++ x :: r).set pre.length y = pre ++ y :: r := fun x y => by simp
   have hget : ∀ x : DU, (pre ++ x :: r).getD pre.length (0, (0, ([], (false, (eB, false))))) = x := fun x => by simp [List.getD_eq_getElem?_getD]
   have hlt : ∀ x : DU, decide ((pre.length : Int) < ((pre ++ x :: r).length : Int)) = true := fun x => dYT (by simp; omega)
   have k2 : decide (0 <= (pre.length : Int)) = true := dYT (by omega)
   have k3 : w64 ((pre.length : Int) + 1) = ((pre.length + 1 : Nat) : Int) := qz (by omega)
   have w1 : w64 (k + 1) = k + 1 := qj (by omega) (by omega)
   have w2 : w64 (k + 1 + 1) = k + 2 := by show IntKind.i64.wrap _ = _; rw [qj (by omega) (by omega)]; omega
   have w3 : w64 (k + 2 + (jf e.2.2.1 : Int) + 1) = k + 3 + (jf e.2.2.1 : Int) := by show IntKind.i64.wrap _ = _; rw [qj (by omega) (by omega)]; omega
   have w4 : w64 (k + 3 + (jf e.2.2.1 : Int) + 1) = k + 4 + (jf e.2.2.1 : Int) := by show IntKind.i64.wrap _ = _; rw [qj (by omega) (by omega)]; omega
   have w5 : w64 (k + 4 + (jf e.2.2.1 : Int) + 1) = k + 5 + (jf e.2.2.1 : Int) := by show IntKind.i64.wrap _ = _; rw [qj (by omega) (by omega)]; omega
   conv => enter [1, out]; lhs; rw [q6F, q42, hlt, cT]
   simp only [oB, k2, hlt, Bool.and_self, cT, Int.toNat_natCast, hset, hget]
   rw [q8A, w1, q8J]
   simp only [k2, hlt, Bool.and_self, cT, Int.toNat_natCast, hset, hget]
   rw [q8I, w2, q8v]
   simp only [k2, hlt, Bool.and_self, cT, Int.toNat_natCast, hset, hget]
   rw [q6s e.2.2.1 (k + 2) (by omega) hle (by omega), oB, q8O]
   simp only [k2, hlt, Bool.and_self, cT, Int.toNat_natCast, hset, hget]
   rw [q8C, w3, q8z, q2Y (k + 3 + (jf e.2.2.1 : Int)) (by omega)]
   simp only [oB, k2, hlt, Bool.and_self, cT, Int.toNat_natCast, hset, hget]
   rw [q8G, w4, q8N]
   simp only [k2, hlt, Bool.and_self, cT, Int.toNat_natCast, hset, hget]
   rw [q8y, w5, k3]
   generalize hy : (k, (k + 1, (mkSS (k + 2) e.2.2.1, _))) = y
   obtain ⟨out, this⟩ := ih (pre ++ [y]) (k + 5 + (jf e.2.2.1 : Int)) (by omega) (fun u hu => hi u (List.mem_cons_of_mem _ hu)) (by omega) (by simp only [List.length_append, List.length_singleton]; omega)
   refine ⟨out, ?_⟩
   rw [show (pre ++ [y]).length = pre.length + 1 by simp, List.append_assoc, List.singleton_append] at this
   rw [this, show k + 5 + (jf e.2.2.1 : Int) + (cntU r : Int) = k + ((5 + jf e.2.2.1 + cntU r : Nat) : Int) by omega]
 have := key a [] k h0 hi hk (by simpa using hl)
 simpa using this
theorem qm7 : ∀ q : List DU, cntU q <= 5 * wUs q
 | [] => Nat.zero_le _
 | u :: r => by
  have := qm7 r
  have h1 := qeD u.2.2.1
  have e1 : cntU (u :: r) = 5 + jf u.2.2.1 + cntU r := by simp [cntU]
  have e2 : wUs (u :: r) = 1 + wU u + wUs r := by simp [wUs, wl]; omega
  have e3 : wU u = wl (wl ByteArray.size) u.2.2.1 + u.2.2.2.2.1.size := rfl
  omega
def q2B : List DU -> List DE -> List DE × Bool
 | [], t => (t, true)
 | u :: r, t => bif !u.2.2.2.2.2 then q2B r t
  else bif !(decide (u.2.2.2.2.1 = eB)) && !(decide ((doB t u.2.1 u.2.2.1 u.2.2.2.1).2 = u.2.2.2.2.1)) then ([], false) else q2B r (doB t u.2.1 u.2.2.1 u.2.2.2.1).1
theorem qbe : ∀ (l : List DU) (t : List DE), tabB t = true -> tabB (q2B l t).1 = true
 | [], _, h => h
 | u :: r, t, h => by
  unfold q2B
  cases u.2.2.2.2.2 with
  | false => exact qbe r t h
  | true =>
   simp only [Bool.not_true, cF]
   cases (!(decide (u.2.2.2.2.1 = eB)) && !(decide ((doB t u.2.1 u.2.2.1 u.2.2.2.1).2 = u.2.2.2.2.1))) with
   | true => exact q1Y
   | false => exact qbe r _ ((qey t u.2.1 u.2.2.1 u.2.2.2.1).elim (fun e => by rw [e]; exact h) id)
theorem qlg (us : List DU) (hw : wUs us <= 2097152) (hm : ∀ u ∈ us, wl (wl ByteArray.size) u.2.2.1 <= 1048576) : qan us = some (q2B us [], ()) /\ q7F us = some (q2B us [], ()) := by
 have hl : us.length <= 2097152 := wN hw
 have hd : ∀ u ∈ us, ∀ t, Bd t -> q5D t u.2.1 u.2.2.1 u.2.2.2.1 = some (doB t u.2.1 u.2.2.1 u.2.2.2.1, ()) /\ q4j t u.2.1 u.2.2.1 u.2.2.2.1 = some (doB t u.2.1 u.2.2.1 u.2.2.2.1, ()) := fun u hu t h =>
  qga t _ _ _ h (fun x hx => jA (hm u hu) hx) (by have : u.2.2.1.length <= 1048576 := wN (hm u hu); omega)
 rw [qfb, qfu]
 constructor
 ·have key := q12 us q5g (fun i r => ∀ t, tabB t = true -> q1S us t (i : Int) = some (q2B r t, ())) (fun t ht => by
   rw [q8P]
   simp only [Int.lt_irrefl, decide_false, cF, qW t (wR ht), oB]
   rfl) (fun i u r hi hx hmem ih t ht => by
   rw [q8P]
   have hx' : us.getD i (0, (0, ([], (false, (eB, false))))) = u := hx
   have k4 : w64 ((i : Int) + 1) = ((i + 1 : Nat) : Int) := qz (by omega)
   simp only [dYT (show (i : Int) < (us.length : Int) by omega), dYT (show (0 : Int) <= (i : Int) by omega), Bool.and_self, cT, Int.toNat_natCast, hx', k4, (hd u hmem t (wR ht)).1, oB, qG, ih t ht, ih _ ((qey t u.2.1 u.2.2.1 u.2.2.2.1).elim (fun e => by rw [e]; exact ht) id)]
   conv => rhs; unfold q2B
   cases u.2.2.2.2.2 with
   | false => rfl
   | true =>
    cases decide (u.2.2.2.2.1 = eB) with
    | true => rfl
    | false => cases decide ((doB t u.2.1 u.2.2.1 u.2.2.2.1).2 = u.2.2.2.2.1) <;> rfl)
  exact key [] q1Y
 ·have key := q12 us q5g (fun i r => ∀ t, tabB t = true -> q1Z t us (us.length : Int) (i : Int) = some (q2B r t, ())) (fun t ht => by
   rw [q8W]
   simp only [Int.lt_irrefl, decide_false, cF]
   rfl) (fun i u r hi hx hmem ih t ht => by
   rw [q8W]
   have hx' : us.getD i (0, (0, ([], (false, (eB, false))))) = u := hx
   have k4 : w64 ((i : Int) + 1) = ((i + 1 : Nat) : Int) := qz (by omega)
   simp only [dYT (show (i : Int) < (us.length : Int) by omega), dYT (show (0 : Int) <= (i : Int) by omega), Bool.and_self, cT, Int.toNat_natCast, hx', k4, (hd u hmem t (wR ht)).2, oB, qG, ih t ht, ih _ ((qey t u.2.1 u.2.2.1 u.2.2.2.1).elim (fun e => by rw [e]; exact ht) id)]
   conv => rhs; unfold q2B
   cases u.2.2.2.2.2 with
   | false => rfl
   | true =>
    cases decide (u.2.2.2.2.1 = eB) with
    | true => rfl
    | false => cases decide ((doB t u.2.1 u.2.2.1 u.2.2.2.1).2 = u.2.2.2.2.1) <;> rfl)
  exact key [] q1Y
theorem qkj (a : List DU) (hw : Wf (.sl yE) a) : q7N a = some (true, ()) := by
 rw [qaD, qk1 a 1048576 (by omega) (by omega) (wf_u hw).1 (wf_u hw).2, oB]
 by_cases hn : szv (wUs a) 1048576 < 0
 ·simp only [dYT hn, cT]
 ·obtain ⟨k5, k6⟩ := q6g hn
  simp only [dYF hn, cF]
  have hwa : wl wU a <= 1048576 := by have : wUs a = wl wU a := rfl; omega
  have hlen : a.length <= 1048576 := wN hwa
  have hit : ∀ u ∈ a, wl (wl ByteArray.size) u.2.2.1 <= 1048576 := fun u hu => by
   have := jA hwa hu
   have e3 : wU u = wl (wl ByteArray.size) u.2.2.1 + u.2.2.2.2.1.size := rfl
   omega
  have hit2 : ∀ u ∈ a, wl (wl ByteArray.size) u.2.2.1 <= 2097152 := fun u hu => by have := hit u hu; omega
  have hll : ∀ u ∈ a, u.2.2.1.length <= 1000000000 := fun u hu => by have : u.2.2.1.length <= 1048576 := wN (hit u hu); omega
  have hc := qm7 a
  have hwu : wUs a = wl wU a := rfl
  obtain ⟨hr1, hr2⟩ := qlg a (by omega) hit
  have hsr : Sm (q2B a []).1 := qev (qbe a [] q1Y)
  obtain ⟨out, hout⟩ := qhs a 1 (by omega) (by omega) hll (by omega)
  generalize q2B a [] = r at *
  have c2 := hsr.cnt
  have l2 := hsr.len
  simp only [qjX a (by omega) hit2, oB, hr1, hr2, q2Z r.1 r.1 (by omega) hsr.its, qjI a a (by omega) hit2, hout, decide_true, Bool.not_true, Bool.not_false, beq_self_eq_true, bne_self_eq_false, cT, cF,
   dYF (show ¬ (1 : Int) + (cntU a : Int) < 0 by omega),
   q1s r.1 1 (by omega) (by omega) (by omega), q5M r.1 1 (by omega) (by omega) (by omega), dYF (show ¬ (1 : Int) + (cntE r.1 : Int) < 0 by omega)]
end Go.Den.S
