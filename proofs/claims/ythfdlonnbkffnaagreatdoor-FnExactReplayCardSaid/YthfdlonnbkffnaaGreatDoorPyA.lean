/- PyA: equations of the functions of this seat as the executor tells them, or plain facts about them. Conditions: none here. -/
import Derived.Test.YthfdlonnbkffnaaGreatDoorPxI
set_option linter.all false
namespace Go.Den.S
open Go Go.Den
theorem qbD : ∀ (n : Nat) (x : Int) (s : BA), 0 <= x -> x < 10 ^ n -> x <= 9223372036854775807 -> s.size + n <= 1000000 -> ∃ r, q3Q x s = some (r, ())
 | 0, x, s, h0, h1, hx, hs => by
  rw [q7d]
  have : ¬ x > 0 := by simp at h1; omega
  have e1 : (c_m : BA).size = 1 := rfl
  simp only [dYF this, cF, yj (show c_m.size + s.size <= 9223372036854775807 by omega), cT]
  exact ⟨_, rfl⟩
 | n + 1, x, s, h0, h1, hx, hs => by
  rw [q7d]
  by_cases h : x > 0
  ·have hd : w64 (Int.tdiv x 10) = x / 10 := by
    show IntKind.i64.wrap _ = _
    rw [Int.tdiv_eq_ediv_of_nonneg h0, qj (by omega) (by omega)]
   have e1 : ∀ (b : UInt8), (⟨List.toArray [b]⟩ : BA).size = 1 := fun _ => rfl
   simp only [dYT h, cT, List.map_cons, List.map_nil, e1, yj (show 1 + s.size <= 9223372036854775807 by omega), hd]
   refine qbD n (x / 10) _ (by omega) ?_ (by omega) ?_
   ·rw [Int.pow_succ] at h1; omega
   ·rw [ByteArray.size_append, e1]; omega
  ·have e1 : (c_m : BA).size = 1 := rfl
   simp only [dYF h, cF, yj (show c_m.size + s.size <= 9223372036854775807 by omega), cT]
   exact ⟨_, rfl⟩
theorem qgw (k : Int) (h : k <= 9223372036854775807) : ∃ r, zZ k = some (r, ()) := by
 rw [qdq]
 by_cases h0 : k <= 0
 ·exact ⟨_, by simp only [dYT h0, cT]; rfl⟩
 ·simp only [dYF h0, cF]
  exact qbD 19 k _ (by omega) (by omega) h (by decide)
noncomputable def mkT (k : Int) : BA := ((zZ k).getD (eB, ())).1
theorem q2Y (k : Int) (h : k <= 9223372036854775807) : zZ k = some (mkT k, ()) := by
 obtain ⟨r, hr⟩ := qgw k h
 unfold mkT
 rw [hr]; rfl
noncomputable def mkL (k : Int) : Nat -> List BA
 | 0 => []
 | n + 1 => mkT k :: mkL (k + 1) n
theorem q5c : ∀ (n : Nat) (k : Int), (mkL k n).length = n
 | 0, _ => rfl
 | n + 1, k => by simp [mkL, q5c n]
theorem qf9 : ∀ (n : Nat) (k : Int) (i : Nat), i < n -> (mkL k n)[i]? = some (mkT (k + i))
 | n + 1, k, 0, _ => by simp [mkL]
 | n + 1, k, i + 1, h => by
  simp only [mkL, List.getElem?_cons_succ]
  rw [qf9 n (k + 1) i (by omega)]
  congr 2; omega
theorem q5h (a : List BA) (k : Int) (h0 : 0 <= k) (hk : k + a.length <= 1000000000) : q13 a k = some (k + (a.length : Int), mkL k a.length, ()) := by
 rw [qbJ]
 have hF := q8n (fun out i => jV (k + i) i out) (mkL k a.length) eB a (by rw [q5c]) fun out i hi hl => by
  rw [q5c] at hi hl
  show jV (k + (i : Int)) (i : Int) out = jV (k + ((i : Int) + 1)) ((i : Int) + 1) _
  rw [q5E]
  have k1 : decide ((i : Int) < (out.length : Int)) = true := dYT (by omega)
  have k2 : decide (0 <= (i : Int)) = true := dYT (by omega)
  have k3 : w64 ((i : Int) + 1) = (i : Int) + 1 := qj (by omega) (by omega)
  have k4 : w64 (k + (i : Int) + 1) = k + ((i : Int) + 1) := by show IntKind.i64.wrap _ = _; rw [qj (by omega) (by omega)]; omega
  simp only [k1, k2, k3, k4, Bool.and_self, cT, Int.toNat_natCast, q2Y (k + (i : Int)) (by omega), oB]
  congr 2
  rw [List.getD_eq_getElem?_getD, qf9 _ _ _ hi]; rfl
 simp only [q5c, Int.add_zero] at hF
 rw [hF, q5E]
 have k1 : decide ((a.length : Int) < ((mkL k a.length).length : Int)) = false := dYF (by rw [q5c]; omega)
 simp only [k1, cF]
theorem qaJ (n : Nat) (k : Int) (h0 : 0 <= k) (hk : k + n <= 1000000000) : q2f (mkL k n) k = some (k + (n : Int), ()) := by
 rw [qbI]
 have key := q12 (mkL k n) eB (fun i r => q2r (mkL k n) (k + (i : Int)) (i : Int) = some (k + (n : Int), ())) (by
  rw [q5c, q5G]
  have k1 : decide ((n : Int) < ((mkL k n).length : Int)) = false := dYF (by rw [q5c]; omega)
  simp only [k1, cF]) (fun i x r hi hx hm ih => by
  rw [q5G]
  have hi' : i < n := by rwa [q5c] at hi
  have k1 : decide ((i : Int) < ((mkL k n).length : Int)) = true := dYT (by rw [q5c]; omega)
  have k2 : decide (0 <= (i : Int)) = true := dYT (by omega)
  have k3 : w64 ((i : Int) + 1) = ((i + 1 : Nat) : Int) := qz (by omega)
  have k4 : w64 (k + (i : Int) + 1) = k + ((i + 1 : Nat) : Int) := by show IntKind.i64.wrap _ = _; rw [qj (by omega) (by omega)]; omega
  have hx' : x = mkT (k + (i : Int)) := by
   rw [<- hx, List.getD_eq_getElem?_getD, qf9 _ _ _ hi']; rfl
  simp only [k1, k2, k3, k4, Bool.and_self, cT, Int.toNat_natCast, q2Y (k + (i : Int)) (by omega), oB, hx, qG, dYT hx', Bool.not_true, cF]
  exact ih)
 simpa using key
def jf (q : List (List BA)) : Nat := (q.map List.length).sum
noncomputable def mkSS (k : Int) : List (List BA) -> List (List BA)
 | [] => []
 | l :: r => mkL k l.length :: mkSS (k + l.length) r
theorem q6s (a : List (List BA)) (k : Int) (h0 : 0 <= k) (hl : a.length <= 1000000000) (hk : k + jf a <= 1000000000) : q1v a k = some (k + (jf a : Int), mkSS k a, ()) := by
 rw [qbd]
 have key : ∀ (r pre : List (List BA)) (k : Int), 0 <= k -> k + jf r <= 1000000000 -> pre.length + r.length <= 1000000000 -> q1A k (pre.length : Int) (pre ++ r) = some (k + (jf r : Int), pre ++ mkSS k r, ()) := by
  intro r
  induction r with
  | nil =>
   intro pre k h0 hk hp
   rw [q5s]
   have k1 : decide ((pre.length : Int) < ((pre ++ []).length : Int)) = false := dYF (by simp)
   simp only [k1, cF]
   simp [jf, mkSS]
  | cons l r ih =>
   intro pre k h0 hk hp
   have hc : jf (l :: r) = l.length + jf r := by simp [jf]
   rw [hc] at hk ⊢
   simp only [List.length_cons] at hp
   rw [q5s]
   have k1 : decide ((pre.length : Int) < ((pre ++ l :: r).length : Int)) = true := dYT (by simp; omega)
   have k2 : decide (0 <= (pre.length : Int)) = true := dYT (by omega)
   have k3 : w64 ((pre.length : Int) + 1) = ((pre.length + 1 : Nat) : Int) := qz (by omega)
   have hg : (pre ++ l :: r).getD pre.length [] = l := by simp [List.getD_eq_getElem?_getD]
   simp only [k1, k2, k3, Bool.and_self, cT, Int.toNat_natCast, hg, q5h l k h0 (by omega), oB]
   have hset : (pre ++ l :: r).set pre.length (mkL k l.length) = (pre ++ [mkL k l.length]) ++ r := by simp
   rw [hset]
   have := ih (pre ++ [mkL k l.length]) (k + (l.length : Int)) (by omega) (by omega) (by simp only [List.length_append, List.length_singleton]; omega)
   rw [show (pre ++ [mkL k l.length]).length = pre.length + 1 by simp] at this
   rw [this]
   simp only [mkSS, List.append_assoc, List.singleton_append]
   rw [show k + (l.length : Int) + (jf r : Int) = k + ((l.length + jf r : Nat) : Int) by omega]
 have := key a [] k h0 hk (by simpa using hl)
 simpa using this
theorem qjl (a b : Int) : (a != b) = !decide (a = b) := by
 by_cases e : a = b
 ·simp [e]
 ·simp [e]
def wV (v : DV) : Nat := v.2.2.1.size + wl ByteArray.size v.2.2.2
def wE (e : DE) : Nat := e.1.size + wV e.2
def wT (t : List DE) : Nat := wl wE t
structure WfE (e : DE) : Prop where
 key : e.1.size <= 9223372036854775807
 txt : e.2.2.2.1.size <= 9223372036854775807
 its : e.2.2.2.2.length <= 9223372036854775807
 szs : ∀ s ∈ e.2.2.2.2, s.size <= 9223372036854775807
theorem wf_e {e : DE} (h : Wf qc e) : WfE e := ⟨h.1, h.2.2.2.1, h.2.2.2.2.1, fun s hs => h.2.2.2.2.2 s hs⟩
theorem qlQ (v : DV) (left : Int) (h0 : 0 <= left) (h1 : left <= 2097152) (hx : v.2.2.1.size <= 9223372036854775807) (hl : v.2.2.2.length <= 9223372036854775807) (hs : ∀ s ∈ v.2.2.2, s.size <= 9223372036854775807) : qaX v left = some (szv (wV v) left, ()) := by
 rw [qgz, show w64 (left - (v.2.2.1.size : Int)) = left - (v.2.2.1.size : Int) from qj (by omega) (by omega)]
 have ew : wV v = v.2.2.1.size + wl ByteArray.size v.2.2.2 := rfl
 by_cases h : left - (v.2.2.1.size : Int) < 0
 ·rw [q3j (by omega)]
  simp only [dYT h, cT]
 ·simp only [dYF h, cF]
  rw [q9w _ _ (by omega) (by omega) hl hs, oB]
  by_cases hn : (wl ByteArray.size v.2.2.2 : Int) <= left - (v.2.2.1.size : Int)
  ·rw [q7V hn, q7V (by omega)]
   simp only [dYF (show ¬ left - (v.2.2.1.size : Int) - (wl ByteArray.size v.2.2.2 : Int) < 0 by omega), cF]
   congr 2; omega
  ·rw [q3j (by omega), q3j (by omega)]
   rfl
theorem qjF (e : DE) (left : Int) (h0 : 0 <= left) (h1 : left <= 2097152) (hw : WfE e) : q6U e left = some (szv (wE e) left, ()) := by
 have hk := hw.key
 rw [qef, show w64 (left - (e.1.size : Int)) = left - (e.1.size : Int) from qj (by omega) (by omega)]
 have ew : wE e = e.1.size + wV e.2 := rfl
 by_cases h : left - (e.1.size : Int) < 0
 ·rw [q3j (by omega)]
  simp only [dYT h, cT]
 ·simp only [dYF h, cF]
  rw [qlQ _ _ (by omega) (by omega) hw.txt hw.its hw.szs, oB]
  by_cases hn : (wV e.2 : Int) <= left - (e.1.size : Int)
  ·rw [q7V hn, q7V (by omega)]
   simp only [dYF (show ¬ left - (e.1.size : Int) - (wV e.2 : Int) < 0 by omega), cF]
   congr 2; omega
  ·rw [q3j (by omega), q3j (by omega)]
   rfl
theorem qas (a : List DE) (left : Int) (h0 : 0 <= left) (h1 : left <= 2097152) (hl : a.length <= 9223372036854775807) (hs : ∀ e ∈ a, WfE e) :
  q41 a left = some (szv (wT a) left, ()) := by
 rw [qdt]
 have e : w64 (left - (a.length : Int)) = left - (a.length : Int) := qj (by omega) (by omega)
 rw [e]
 rw [show wT a = a.length + (a.map wE).sum from rfl]
 by_cases h : left - (a.length : Int) < 0
 ·simp only [dYT h, cT]
  unfold szv
  rw [if_neg (by omega)]
 ·simp only [dYF h, cF]
  have key := q12 a dflt (fun i r => ∀ left : Int, 0 <= left -> left <= 2097152 -> q3I a left (i : Int) = some (szv ((r.map wE).sum) left, ())) (fun left h0 h1 => by
   rw [q70]
   simp [szv, h0]) (fun i x r hi hx hm ih left h0 h1 => by
   rw [q70]
   have k1 : decide ((i : Int) < (a.length : Int)) = true := dYT (by omega)
   have k2 : decide (0 <= (i : Int)) = true := dYT (by omega)
   have k4 : w64 ((i : Int) + 1) = ((i + 1 : Nat) : Int) := qz (by omega)
   have hx' : a.getD i (eB, 0, 0, eB, []) = x := hx
   simp only [k1, k2, Bool.and_self, cT, Int.toNat_natCast, hx', k4, List.map_cons, List.sum_cons]
   rw [show q6U (x.1, (x.2.1, (x.2.2.1, x.2.2.2))) left = some (szv (wE x) left, ()) from qjF x left h0 h1 (hs x hm), oB]
   by_cases hn : (wE x : Int) <= left
   ·rw [q7V hn]
    simp only [dYF (show ¬ left - (wE x : Int) < 0 by omega), cF]
    rw [ih _ (by omega) (by omega)]
    unfold szv
    split <;> split <;> first | rfl | omega | (congr 2; omega)
   ·rw [q3j (by omega), q3j (by omega)]
    rfl)
  refine (key _ (by omega) (by omega)).trans ?_
  unfold szv
  split <;> split <;> first | rfl | omega | (congr 2; omega)
theorem qm8 {t : List DE} {n : Nat} (h : wT t <= n) : t.length <= n /\ ∀ e ∈ t, e.1.size <= n /\ e.2.2.2.1.size <= n /\ e.2.2.2.2.length <= n /\ ∀ s ∈ e.2.2.2.2, s.size <= n := by
 refine ⟨wN h, fun e he => ?_⟩
 have h1 := jA h he
 have h2 : wE e = e.1.size + (e.2.2.2.1.size + wl ByteArray.size e.2.2.2.2) := rfl
 exact ⟨by omega, by omega, wN (f := ByteArray.size) (by omega), fun s hs => jA (f := ByteArray.size) (show wl ByteArray.size e.2.2.2.2 <= n by omega) hs⟩
theorem w_bd {t : List DE} (h : wT t <= 4194304) : Bd t := by
 obtain ⟨h1, h2⟩ := qm8 h
 exact ⟨h1, fun e he => (h2 e he).2.2.1, fun e he => ⟨(h2 e he).1, (h2 e he).2.1, (h2 e he).2.2.2⟩⟩
theorem qlS (v : DV) (h : v.2.2.2.length <= 2097152) : qbr v = some (v, ()) := by
 rw [qgr, q9j _ h]; rfl
theorem qaz (a : List DE) (ha : a.length <= 2097152) (hi : ∀ e ∈ a, e.2.2.2.2.length <= 2097152) : wZ a = some (a, ()) := by
 rw [qdM]
 have e : lim a.length 72 = true := yA (by omega)
 simp only [Int.le_refl, decide_true, Int.natCast_nonneg, Int.toNat_natCast, e, Bool.and_self, cT]
 refine (q8n (fun out i => q15 a out i) a dflt (List.replicate a.length dflt) (by simp) fun out i hi' hl => ?_).trans ?_
 ·show q15 a out i = _
  rw [q7g]
  have e : w64 ((i : Int) + 1) = (i : Int) + 1 := qj (by omega) (by omega)
  have h1 : decide ((i : Int) < (a.length : Int)) = true := dYT (by omega)
  have h2 : decide ((i : Int) < (out.length : Int)) = true := dYT (by omega)
  have h3 : decide (0 <= (i : Int)) = true := dYT (by omega)
  have hm := hi _ (yg (d := dflt) hi')
  simp only [h1, h2, h3, e, Bool.and_self, cT, Int.toNat_natCast, qep, qlS (a.getD i dflt).2 hm, oB]
 ·show q15 a a (a.length : Int) = _
  rw [q7g]
  simp
theorem qlx (a b : DV) (h : a.2.2.2.length <= 2097152) : qbo a b = some (decide (a = b), ()) := by
 rw [qgn, q6J _ _ h]
 obtain ⟨a1, a2, a3, a4⟩ := a
 obtain ⟨b1, b2, b3, b4⟩ := b
 simp only [oB, qG, Prod.mk.injEq, qjl]
 by_cases h1 : a1 = b1 <;> by_cases h2 : a2 = b2 <;> by_cases h3 : a3 = b3 <;> by_cases h4 : a4 = b4 <;> simp [h1, h2, h3, h4]
theorem qk3 (a b : DE) (h : a.2.2.2.2.length <= 2097152) : q9x a b = some (decide (a = b), ()) := by
 rw [qeL, qlx _ _ h]
 obtain ⟨a1, a2⟩ := a
 obtain ⟨b1, b2⟩ := b
 simp only [oB, qG, Prod.mk.injEq]
 by_cases h1 : a1 = b1 <;> by_cases h2 : a2 = b2 <;> simp [h1, h2]
theorem q2Z (a b : List DE) (ha : a.length <= 4194304) (hi : ∀ e ∈ a, e.2.2.2.2.length <= 2097152) : yZ a b = some (decide (a = b), ()) := by
 rw [qdN]
 by_cases hl : a.length = b.length
 ·have e : ((a.length : Int) != (b.length : Int)) = false := by simp [hl]
  simp only [e, cF]
  refine qcH (fun i => q3S a b i) a b dflt hl (fun i hi' => ?_) ?_
  ·rw [q7b]
   have e : w64 ((i : Int) + 1) = (i : Int) + 1 := qj (by omega) (by omega)
   have h1 : decide ((i : Int) < (a.length : Int)) = true := dYT (by omega)
   have h2 : decide ((i : Int) < (b.length : Int)) = true := dYT (by omega)
   have h3 : decide (0 <= (i : Int)) = true := dYT (by omega)
   have hm := hi _ (yg (d := dflt) hi')
   simp only [h1, h2, h3, e, Bool.and_self, cT, Int.toNat_natCast, qk3 (a.getD i dflt) (b.getD i dflt) hm, oB]
   by_cases h : a.getD i dflt = b.getD i dflt
   ·rw [dYT h, if_pos h, Bool.not_true, cF]
   ·rw [dYF h, if_neg h, Bool.not_false, cT]
  ·rw [q7b]
   simp
 ·have e : ((a.length : Int) != (b.length : Int)) = true := by simp; omega
  simp only [e, cT]
  rw [dYF fun h => hl (by rw [h])]
def cntE (t : List DE) : Nat := (t.map fun e => 4 + e.2.2.2.2.length).sum
noncomputable def mkE (k : Int) : List DE -> List DE
 | [] => []
 | e :: r => (mkT k, (k + 1, (k + 2, (mkT (k + 3), mkL (k + 4) e.2.2.2.2.length)))) :: mkE (k + ((4 + e.2.2.2.2.length : Nat) : Int)) r
theorem q1s (a : List DE) (k : Int) (h0 : 0 <= k) (hl : a.length <= 500000000) (hk : k + cntE a <= 1000000000) : jk a k = some (k + (cntE a : Int), mkE k a, ()) := by
 rw [qcp, q87, q8l]
 have key : ∀ (r pre : List DE) (k : Int), 0 <= k -> k + cntE r <= 1000000000 -> pre.length + r.length <= 500000000 -> q2N k (pre.length : Int) (pre ++ r) = some (k + (cntE r : Int), pre ++ mkE k r, ()) := by
  intro r
  induction r with
  | nil =>
   intro pre k h0 hk hp
   rw [q69, q3A]
   have k1 : decide ((pre.length : Int) < ((pre ++ ([] : List DE)).length : Int)) = false := dYF (by simp)
   simp only [k1, cF, q8m]
   simp [cntE, mkE]
  | cons e r ih =>
   intro pre k h0 hk hp
   have hc : cntE (e :: r) = 4 + e.2.2.2.2.length + cntE r := by simp [cntE]
   rw [hc] at hk ⊢
   simp only [List.length_cons] at hp
   have hset : ∀ x y : DE, (pre ++ x :: r).set pre.length y = pre ++ y :: r := fun x y => by simp
   have hget : ∀ x : DE, (pre ++ x :: r).getD pre.length (eB, 0, 0, eB, []) = x := fun x => by simp [List.getD_eq_getElem?_getD]
   have hlt : ∀ x : DE, decide ((pre.length : Int) < ((pre ++ x :: r).length : Int)) = true := fun x => dYT (by simp; omega)
   have k2 : decide (0 <= (pre.length : Int)) = true := dYT (by omega)
   have k3 : w64 ((pre.length : Int) + 1) = ((pre.length + 1 : Nat) : Int) := qz (by omega)
   have w1 : w64 (k + 1) = k + 1 := qj (by omega) (by omega)
   have w2 : w64 (k + 1 + 1) = k + 2 := by show IntKind.i64.wrap _ = _; rw [qj (by omega) (by omega)]; omega
   have w3 : w64 (k + 2 + 1) = k + 3 := by show IntKind.i64.wrap _ = _; rw [qj (by omega) (by omega)]; omega
   have w4 : w64 (k + 3 + 1) = k + 4 := by show IntKind.i64.wrap _ = _; rw [qj (by omega) (by omega)]; omega
   conv => lhs; rw [q69, q3A, hlt, cT, q2Y k (by omega)]
   simp only [oB, k2, hlt, Bool.and_self, cT, Int.toNat_natCast, hset, hget]
   rw [q8s, w1, q8c]
   simp only [k2, hlt, Bool.and_self, cT, Int.toNat_natCast, hset, hget]
   rw [q8t, w2, q7T]
   simp only [k2, hlt, Bool.and_self, cT, Int.toNat_natCast, hset, hget]
   rw [q8h, w3, q7W, q2Y (k + 3) (by omega)]
   simp only [oB, k2, hlt, Bool.and_self, cT, Int.toNat_natCast, hset, hget]
   rw [q80, w4, q8j]
   simp only [k2, hlt, Bool.and_self, cT, Int.toNat_natCast, hset, hget]
   rw [q5h e.2.2.2.2 (k + 4) (by omega) (by omega)]
   simp only [oB, k3]
   have := ih (pre ++ [(mkT k, (k + 1, (k + 2, (mkT (k + 3), mkL (k + 4) e.2.2.2.2.length))))]) (k + 4 + (e.2.2.2.2.length : Int)) (by omega) (by omega) (by simp only [List.length_append, List.length_singleton]; omega)
   rw [show (pre ++ [(mkT k, (k + 1, (k + 2, (mkT (k + 3), mkL (k + 4) e.2.2.2.2.length))))]).length = pre.length + 1 by simp, List.append_assoc, List.singleton_append] at this
   rw [this, mkE, List.append_assoc, List.singleton_append]
   rw [show k + 4 + (e.2.2.2.2.length : Int) = k + ((4 + e.2.2.2.2.length : Nat) : Int) by omega]
   rw [show k + ((4 + e.2.2.2.2.length : Nat) : Int) + (cntE r : Int) = k + ((4 + e.2.2.2.2.length + cntE r : Nat) : Int) by omega]
 have := key a [] k h0 hk (by simpa using hl)
 simpa using this
theorem q5M (a : List DE) (k : Int) (h0 : 0 <= k) (hl : a.length <= 500000000) (hk : k + cntE a <= 1000000000) : zP (mkE k a) k = some (k + (cntE a : Int), ()) := by
 rw [qcg]
 have key : ∀ (r pre : List DE) (k : Int), 0 <= k -> k + cntE r <= 1000000000 -> pre.length + r.length <= 500000000 -> q2S (pre ++ mkE k r) k (pre.length : Int) = some (k + (cntE r : Int), ()) := by
  intro r
  induction r with
  | nil =>
   intro pre k h0 hk hp
   rw [q6f]
   have k1 : decide ((pre.length : Int) < ((pre ++ mkE k []).length : Int)) = false := dYF (by simp [mkE])
   simp only [k1, cF]
   simp [cntE]
  | cons e r ih =>
   intro pre k h0 hk hp
   have hc : cntE (e :: r) = 4 + e.2.2.2.2.length + cntE r := by simp [cntE]
   rw [hc] at hk ⊢
   simp only [List.length_cons] at hp
   rw [q6f]
   have k1 : decide ((pre.length : Int) < ((pre ++ mkE k (e :: r)).length : Int)) = true := dYT (by simp [mkE]; omega)
   have k2 : decide (0 <= (pre.length : Int)) = true := dYT (by omega)
   have k3 : w64 ((pre.length : Int) + 1) = ((pre.length + 1 : Nat) : Int) := qz (by omega)
   have hg : (pre ++ mkE k (e :: r)).getD pre.length (eB, 0, 0, eB, []) = (mkT k, (k + 1, (k + 2, (mkT (k + 3), mkL (k + 4) e.2.2.2.2.length)))) := by simp [List.getD_eq_getElem?_getD, mkE]
   have w1 : w64 (k + 1) = k + 1 := qj (by omega) (by omega)
   have w2 : w64 (k + 1 + 1) = k + 2 := by show IntKind.i64.wrap _ = _; rw [qj (by omega) (by omega)]; omega
   have w3 : w64 (k + 2 + 1) = k + 3 := by show IntKind.i64.wrap _ = _; rw [qj (by omega) (by omega)]; omega
   have w4 : w64 (k + 3 + 1) = k + 4 := by show IntKind.i64.wrap _ = _; rw [qj (by omega) (by omega)]; omega
   have hn : ¬ (k + 4 + (e.2.2.2.2.length : Int) < 0) := by omega
   simp only [k1, k2, k3, Bool.and_self, cT, Int.toNat_natCast, hg, q2Y k (by omega), oB, qG, decide_true, Bool.not_true, cF, w1, bne_self_eq_false, w2, w3, q2Y (k + 3) (by omega), w4, qaJ e.2.2.2.2.length (k + 4) (by omega) (by omega), dYF hn]
   have e' : pre ++ mkE k (e :: r) = (pre ++ [(mkT k, (k + 1, (k + 2, (mkT (k + 3), mkL (k + 4) e.2.2.2.2.length))))]) ++ mkE (k + ((4 + e.2.2.2.2.length : Nat) : Int)) r := by simp [mkE]
   rw [e']
   have := ih (pre ++ [(mkT k, (k + 1, (k + 2, (mkT (k + 3), mkL (k + 4) e.2.2.2.2.length))))]) (k + ((4 + e.2.2.2.2.length : Nat) : Int)) (by omega) (by omega) (by simp only [List.length_append, List.length_singleton]; omega)
   rw [show (pre ++ [(mkT k, (k + 1, (k + 2, (mkT (k + 3), mkL (k + 4) e.2.2.2.2.length))))]).length = pre.length + 1 by simp] at this
   rw [show k + 4 + (e.2.2.2.2.length : Int) = k + ((4 + e.2.2.2.2.length : Nat) : Int) by omega]
   rw [this]
   rw [show k + ((4 + e.2.2.2.2.length : Nat) : Int) + (cntE r : Int) = k + ((4 + e.2.2.2.2.length + cntE r : Nat) : Int) by omega]
 have := key a [] k h0 hk (by simpa using hl)
 simpa using this
end Go.Den.S
