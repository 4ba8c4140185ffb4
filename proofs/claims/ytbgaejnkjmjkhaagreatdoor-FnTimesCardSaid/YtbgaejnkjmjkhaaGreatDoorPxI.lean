/- PxI: equations of the functions of this seat as the executor tells them, or plain facts about them. Conditions: none here. -/
import Derived.Test.YtbgaejnkjmjkhaaGreatDoorPxH
set_option linter.all false
namespace Go.Den.S
open Go Go.Den
def qL (t : List DE) (k : BA) (n : Int) : Bool := (fndB t k).2 && !(decide ((fndB t k).1.1 = n))
def undB (t : List DE) (k : BA) : Int × BA × List BA := (fndB t k).1.2
theorem qaG {t : List DE} {k : BA} {n : Int} (hw : qL t k n = false) : q8P t k n = ((n, undB t k), true) := by
 unfold qL at hw
 unfold q8P undB
 cases hf : (fndB t k).2 with
 | false =>
  have : (fndB t k).1 = (0, (0, (eB, []))) := by
   unfold fndB at hf ⊢
   cases hx : t.find? fun e => decide (e.1 = k) with
   | none => rfl
   | some e => rw [hx] at hf; cases hf
  rw [this]; rfl
 | true =>
  rw [hf] at hw
  simp only [Bool.true_and, Bool.not_eq_false', decide_eq_true_eq] at hw
  simp only [Bool.not_true, cF, dYT hw]
  rw [<- hw]
theorem q9O {t : List DE} {k : BA} {n : Int} (hw : qL t k n = true) : (q8P t k n).2 = false := by
 unfold qL at hw
 unfold q8P
 simp only [Bool.and_eq_true, Bool.not_eq_true'] at hw
 rw [hw.1]
 exact hw.2
theorem q5m (t : List DE) (k : BA) (n : Int) (h : Bd t) : qG (t, (eB, false)) k n = some ((((fndB t k).1.1, undB t k), (fndB t k).2), ((bif qL t k n then (t, (y8 yA, true)) else (t, (eB, false))), ())) :=
 (qcF (t, (eB, false)) k n h).trans rfl
theorem q04 {t : List DE} {k : BA} (h : tabB t = true) : (undB t k).2.2.length <= 24 /\ (undB t k).2.1.size <= 60 /\ ∀ s ∈ (undB t k).2.2, s.size <= 60 := by
 unfold undB
 cases hf : (fndB t k).2 with
 | true => exact q8u (q5T h hf).1
 | false =>
  have : (fndB t k).1 = (0, (0, (eB, []))) := by
   unfold fndB at hf ⊢
   cases hx : t.find? fun e => decide (e.1 = k) with
   | none => rfl
   | some e => rw [hx] at hf; cases hf
  rw [this]
  exact ⟨by simp, by decide, fun s hs => by cases hs⟩
theorem qjx {t : List DE} {k : BA} {n : Int} (h : tabB t = true) (hw : qL t k n = false) : (undB t k).2.2 = [] \/ valB (n, undB t k) = true := by
 have he := qaG hw
 unfold q8P at he
 cases hf : (fndB t k).2 with
 | true =>
  right
  rw [hf] at he
  simp only [Bool.not_true, cF, Prod.mk.injEq] at he
  rw [<- he.1]
  exact (q5T h hf).1
 | false =>
  left
  have : (fndB t k).1 = (0, (0, (eB, []))) := by
   unfold fndB at hf ⊢
   cases hx : t.find? fun e => decide (e.1 = k) with
   | none => rfl
   | some e => rw [hx] at hf; cases hf
  unfold undB
  rw [this]
theorem qbZ {t : List DE} {k : BA} (h : tabB t = true) (hw : qL t k 4 = false) : AscS (undB t k).2.2 := by
 rcases qjx h hw with h | h
 ·rw [h]; exact List.Pairwise.nil
 ·exact qmP (v := (4, undB t k)) h rfl
theorem qh0 {t : List DE} {k : BA} (h : tabB t = true) : wB (undB t k).2.2 <= 2097152 := by
 obtain ⟨h1, _, h2⟩ := q04 (k := k) h
 have : ∀ r : List BA, (∀ s ∈ r, s.size <= 60) -> (r.map ByteArray.size).sum <= 60 * r.length := by
  intro r
  induction r with
  | nil => intro _; simp
  | cons x r ih =>
   intro hr
   have h1 := hr x (List.mem_cons_self ..)
   have h2 := ih fun s hs => hr s (List.mem_cons_of_mem _ hs)
   simp only [List.map_cons, List.sum_cons, List.length_cons]; omega
 have := this _ h2
 unfold wB wl
 omega
def setD (t : List DE) (u k : BA) (vals : List BA) : DD :=
 let v := undB t k
 let l := v.2.2
 bif qL t k 4 then (t, (y8 yA, true))
 else bif decide (u = jP) then (q1C t k (4, (v.1, (v.2.1, jy l vals))), (numB (((jy l vals).length : Int) - (l.length : Int)), false))
 else bif decide (u = q0d) then (q1C t k (4, (v.1, (v.2.1, q15 l vals))), (numB ((l.length : Int) - ((q15 l vals).length : Int)), false))
 else bif decide (u = wD) then (t, (numB (bif memB (gi vals 0) l then 1 else 0), false))
 else bif decide (u = q0a) then (t, (numB (l.length : Int), false))
 else (t, (arrB (l.map zO), false))
theorem ql4 {l vals : List BA} (hl : AscS l) (h : 0 < vals.length) : jy l vals ≠ [] := by
 match vals, h with
 | x :: r, _ =>
  obtain ⟨_, _, _, _, _, _, _, _, h7⟩ := q7U hl x
  have := (q56 (l := addS l x) r h7).2.1
  have h2 := q8V l x hl
  intro e
  have e : jy (addS l x) r = [] := e
  rw [e] at this
  simp only [List.length_nil, Nat.le_zero] at this
  rw [this] at h2
  cases hm : memB x l with
  | true =>
   have := wQ.1 hm
   have : 0 < l.length := List.length_pos_of_mem this
   omega
  | false => rw [hm] at h2; simp at h2
theorem qhT (n : Int) (h0 : -5000000000 <= n) (h1 : n <= 5000000000) : qH (w64 n) = some (numB n, ()) := by
 rw [show w64 n = n from ql (by omega) (by omega)]
 exact qR n (by omega) (by omega)
section
variable (t : List DE) (ht : tabB t = true) (k : BA) (vals : List BA) (hv : vals.length <= 2097152)
include ht hv
theorem qiO (u : BA) (hu : u ∈ setN) (h2 : 0 < vals.length \/ u = q0a \/ u = q0y) : q07 (t, (eB, false)) u k vals = some ((), (setD t u k vals, ())) := by
 have hb := wY ht
 have has := q1J ht
 obtain ⟨n1, n2, n3⟩ := q04 (k := k) ht
 rw [q4u, q5m t k 4 hb]
 simp only [oB]
 unfold setD
 cases hw : qL t k 4 with
 | true => simp only [cT]
 | false =>
  simp only [cF, qM]
  have hasc := qbZ ht hw
  show (bif decide (u = jP) then y9 k ((undB t k).2.2.length : Int) vals (vals.length : Int) 0 t eB false 4 (undB t k).1 (undB t k).2.1 (undB t k).2.2 else _) = _
  by_cases e1 : u = jP
  ·simp only [dYT e1, cT]
   have hpos : 0 < vals.length := by
    rcases h2 with h | h | h
    ·exact h
    ·rw [h] at e1; exact absurd e1 (by decide +kernel)
    ·rw [h] at e1; exact absurd e1 (by decide +kernel)
   obtain ⟨_, k2, k3⟩ := q56 (l := (undB t k).2.2) vals hasc
   have := qkL k vals (t, (eB, false)) 4 (undB t k).1 (undB t k).2.1 (undB t k).2.2 ((undB t k).2.2.length : Int) hasc (by omega)
   rw [this, wm _ k _ hb has]
   unfold q1C
   simp only [oB, cF, qhT (((jy (undB t k).2.2 vals).length : Int) - ((undB t k).2.2.length : Int)) (by omega) (by omega), wH, dYF (ql4 hasc hpos)]
   rfl
  ·simp only [dYF e1, cF]
   by_cases e2 : u = q0d
   ·simp only [dYT e2, cT]
    have hr := qco (undB t k).2.2 vals
    show (jd (undB t k).2.2 (vals, ())).bind _ = _
    rw [qgF _ vals (by omega) hv]
    simp only [oB]
    rw [qeY _ k _ hb has]
    simp only [oB, cF]
    show (qH (w64 (((undB t k).2.2.length : Int) - ((q15 (undB t k).2.2 vals).length : Int)))).bind _ = _
    rw [qhT _ (by omega) (by omega)]
    simp only [oB, wH]
    rfl
   ·simp only [dYF e2, cF]
    by_cases e3 : u = wD
    ·simp only [dYT e3, cT]
     have hpos : 0 < vals.length := by
      rcases h2 with h | h | h
      ·exact h
      ·rw [h] at e3; exact absurd e3 (by decide +kernel)
      ·rw [h] at e3; exact absurd e3 (by decide +kernel)
     simp only [Int.le_refl, decide_true, dYT (show (0 : Int) < (vals.length : Int) by omega), Bool.and_self, cT]
     show (wS (undB t k).2.2 (gi vals 0)).bind _ = _
     rw [q9K _ _ (by omega)]
     simp only [oB, qR 1 (by omega) (by omega), qR 0 (by omega) (by omega), wH]
     cases memB (gi vals 0) (undB t k).2.2 <;> rfl
    ·simp only [dYF e3, cF]
     by_cases e4 : u = q0a
     ·simp only [dYT e4, cT]
      show (qH ((undB t k).2.2.length : Int)).bind _ = _
      rw [qR _ (by omega) (by omega)]
      simp only [oB, wH]
      rfl
     ·simp only [dYF e4, cF]
      show (q19 (undB t k).2.2).bind _ = _
      rw [q4r _ (by omega) (fun s hs => by have := n3 s hs; omega)]
      simp only [oB, q2P _ (q8r _ (qh0 ht)), wH]
      rfl
theorem qn6 (u : BA) (hk : k.size <= 4194304) (hs : ∀ s ∈ vals, s.size <= 4194304) : Bd (setD t u k vals).1 := by
 have hb := wY ht
 obtain ⟨n1, n2, n3⟩ := q04 (k := k) ht
 unfold setD
 cases hw : qL t k 4 with
 | true => exact hb
 | false =>
  simp only [cF]
  obtain ⟨_, k2, k3⟩ := q56 (l := (undB t k).2.2) vals (qbZ ht hw)
  have hr := qco (undB t k).2.2 vals
  by_cases e1 : u = jP
  ·simp only [dYT e1, cT]
   exact q5X ht hk (show (jy (undB t k).2.2 vals).length <= _ by omega) (by show (undB t k).2.1.size <= _; omega) fun s hs' => by
    rcases qaP vals _ s hs' with h | h
    ·have := n3 s h; omega
    ·exact hs s h
  ·simp only [dYF e1, cF]
   by_cases e2 : u = q0d
   ·simp only [dYT e2, cT]
    exact q5X ht hk (show (q15 (undB t k).2.2 vals).length <= _ by omega) (by show (undB t k).2.1.size <= _; omega) fun s hs' => by have := n3 s (List.mem_filter.1 hs').1; omega
   ·simp only [dYF e2, cF]
    cases decide (u = wD)
    ·cases decide (u = q0a) <;> exact hb
    ·exact hb
theorem yV (r : BA) : wT (t, (r, false)) t = (t, (r, true)) := by
 unfold wT
 simp only [cF, ht, cT]
theorem qai (a : BA) (hu : upB a ∈ setN) (hp : isB t (a :: k :: vals) setN = true) (hk : k.size <= 4194304) (hal : ∀ s ∈ (a :: k :: vals), s.size <= 2097152) (h2 : 0 < vals.length \/ upB a = q0a \/ upB a = q0y) (hl2 : (a :: k :: vals).length <= 2097152) :
  q25 t (a :: k :: vals) = some (wT (setD t (upB a) k vals) t, ()) := by
 have hb := wY ht
 have hs : ∀ s ∈ vals, s.size <= 4194304 := fun s hs => by have := hal s (List.mem_cons_of_mem _ (List.mem_cons_of_mem _ hs)); omega
 obtain ⟨n1, n2, n3⟩ := q04 (k := k) ht
 have k1 : (decide ((0 : Int) <= 1) && decide ((1 : Int) < ((a :: k :: vals).length : Int))) = true := by rw [dYT (show (1 : Int) < ((a :: k :: vals).length : Int) by simp only [List.length_cons]; omega)]; rfl
 have k0 : (decide ((0 : Int) <= 0) && decide ((0 : Int) < ((a :: k :: vals).length : Int))) = true := by rw [dYT (show (0 : Int) < ((a :: k :: vals).length : Int) by simp only [List.length_cons]; omega)]; rfl
 have g1 : List.getD (a :: k :: vals) (Int.toNat 1) eB = k := rfl
 have g0 : yH (List.getD (a :: k :: vals) (Int.toNat 0) eB) = some (upB a, ()) := zC a (by have := hal a (List.mem_cons_self ..); omega)
 rw [q7c, show yX t (a :: k :: vals) [jP, q0d, wD, q0a, q0y] = some (isB t (a :: k :: vals) setN, ()) from zm t _ _ hb hl2 hal (by decide), hp]
 simp only [oB, Bool.not_true, cF, k1, k0, cT, g1, g0, qdj t k 4 hb, qM, q6t t yA hb (by decide)]
 unfold setD
 cases hw : qL t k 4 with
 | true =>
  simp only [q9O hw, Bool.not_false, cT]
  rfl
 | false =>
  have hasc := qbZ ht hw
  obtain ⟨_, q2, q3⟩ := q56 (l := (undB t k).2.2) vals hasc
  have hr := qco (undB t k).2.2 vals
  simp only [qaG hw, Bool.not_true, cF]
  by_cases e1 : upB a = jP
  ·simp only [dYT e1, cT, qej t a k vals 4 (undB t k).1 (undB t k).2.1 (undB t k).2.2 hasc (by omega), qY (((jy (undB t k).2.2 vals).length : Int) - ((undB t k).2.2.length : Int)) (by omega) (by omega), oB]
   rw [q4Q t k (4, ((undB t k).1, ((undB t k).2.1, jy (undB t k).2.2 vals))) _ ht (show (4 : Int) ≠ 0 by decide) hk (show (jy (undB t k).2.2 vals).length <= _ by omega) (show (undB t k).2.1.size <= _ by omega) fun s hs' => by
    rcases qaP vals _ s hs' with h | h
    ·have := n3 s h; omega
    ·exact hs s h]
   rfl
  ·simp only [dYF e1, cF]
   by_cases e2 : upB a = q0d
   ·simp only [dYT e2, cT, qeR t a k vals 4 (undB t k).1 (undB t k).2.1 (undB t k).2.2 hasc (by omega), qY (((undB t k).2.2.length : Int) - ((q15 (undB t k).2.2 vals).length : Int)) (by omega) (by omega), oB]
    rw [q4Q t k (4, ((undB t k).1, ((undB t k).2.1, q15 (undB t k).2.2 vals))) _ ht (show (4 : Int) ≠ 0 by decide) hk (show (q15 (undB t k).2.2 vals).length <= _ by omega) (show (undB t k).2.1.size <= _ by omega) fun s hs' => by have := n3 s (List.mem_filter.1 hs').1; omega]
    rfl
   ·simp only [dYF e2, cF, yC t hb, oB]
    by_cases e3 : upB a = wD
    ·have hpos : 0 < vals.length := by
      rcases h2 with h | h | h
      ·exact h
      ·rw [h] at e3; exact absurd e3 (by decide +kernel)
      ·rw [h] at e3; exact absurd e3 (by decide +kernel)
     have g2 : List.getD (a :: k :: vals) (Int.toNat 2) eB = gi vals 0 := rfl
     obtain ⟨m, _, m2, _⟩ := qe0 (undB t k).2.2 (gi vals 0) hasc (by omega)
     simp only [dYT e3, cT, show decide ((0 : Int) <= 2) = true from rfl, dYT (show (2 : Int) < ((a :: k :: vals).length : Int) by simp only [List.length_cons]; omega), Bool.and_self, g2, m2, oB, qY 1 (by omega) (by omega), qY 0 (by omega) (by omega), yV t ht vals hv]
     cases memB (gi vals 0) (undB t k).2.2 <;> rfl
    ·simp only [dYF e3, cF]
     by_cases e4 : upB a = q0a
     ·simp only [dYT e4, cT, qY ((undB t k).2.2.length : Int) (by omega) (by omega), oB, yV t ht vals hv]
     ·simp only [dYF e4, cF, q2C _ (qh0 ht), oB, yV t ht vals hv]
end
theorem q2R : tabB [] = true := rfl
def Back (t : List DE) (r : RS) : Prop := (r.1 = t \/ tabB r.1 = true)
theorem q3I (d : DD) (t : List DE) : Back t (wT d t) := by
 unfold Back wT
 cases d.2.2 with
 | true => exact .inl rfl
 | false =>
  cases h : tabB d.1 with
  | true => exact .inr h
  | false => exact .inl rfl
theorem qnX : (setN.all fun u => bif decide (u = jP) || decide (u = q0d) then !(memB u ar0) && (!(memB u ar1) && (!(memB u ar2) && (!(memB u ar3) && (!(memB u ar4) && memB u ar5)))) else bif decide (u = wD) then !(memB u ar0) && (!(memB u ar1) && memB u ar2) else !(memB u ar0) && memB u ar1) = true := by decide +kernel
theorem qdA {a : BA} {r : List BA} (hu : upB a ∈ setN) (h : j5 (a :: r) = true) : ∃ k vals, r = k :: vals /\ (0 < vals.length \/ upB a = q0a \/ upB a = q0y) := by
 have h1 := List.all_eq_true.1 qnX _ hu
 unfold j5 at h
 simp only [Bool.and_eq_true] at h
 have h := h.2
 unfold arB at h
 have key : ∀ n : Nat, r.length = n + 1 -> ∃ k vals, r = k :: vals /\ vals.length = n := fun n hn => by
  match r, hn with
  | k :: vals, hn => exact ⟨k, vals, rfl, by simpa using hn⟩
 by_cases e1 : upB a = jP \/ upB a = q0d
 ·have e1' : (decide (upB a = jP) || decide (upB a = q0d)) = true := by simpa using e1
  rw [e1'] at h1
  simp only [cT, Bool.and_eq_true, Bool.not_eq_true'] at h1
  obtain ⟨h10, h11, h12, h13, h14, h15⟩ := h1
  simp only [h10, h11, h12, h13, h14, h15, cT, cF, decide_eq_true_eq] at h
  obtain ⟨k, vals, e, hl⟩ := key (r.length - 1) (by omega)
  exact ⟨k, vals, e, .inl (by omega)⟩
 ·have e1' : (decide (upB a = jP) || decide (upB a = q0d)) = false := by simpa using e1
  rw [e1'] at h1
  simp only [cF] at h1
  by_cases e3 : upB a = wD
  ·rw [dYT e3] at h1
   simp only [cT, Bool.and_eq_true, Bool.not_eq_true'] at h1
   obtain ⟨h10, h11, h12⟩ := h1
   simp only [h10, h11, h12, cT, cF, beq_iff_eq] at h
   obtain ⟨k, vals, e, hl⟩ := key 1 (by omega)
   exact ⟨k, vals, e, .inl (by omega)⟩
  ·rw [dYF e3] at h1
   simp only [cF, Bool.and_eq_true, Bool.not_eq_true'] at h1
   obtain ⟨h10, h11⟩ := h1
   simp only [h10, h11, cT, cF, beq_iff_eq] at h
   obtain ⟨k, vals, e, hl⟩ := key 0 (by omega)
   refine ⟨k, vals, e, .inr ?_⟩
   unfold setN at hu
   simp only [List.mem_cons, List.not_mem_nil, or_false] at hu
   rcases hu with h | h | h | h | h
   ·exact absurd (.inl h) e1
   ·exact absurd (.inr h) e1
   ·exact absurd h e3
   ·exact .inl h
   ·exact .inr h
theorem qkO (t : List DE) (args : List BA) (h : Bd t) (ha : wB args <= 1048576) : ∃ r : RS, Back t r /\ q25 t args = some (r, ()) /\ q7o t args = some (r, ()) := by
 have hl : args.length <= 1048576 := q0p ha
 have hs : ∀ s ∈ args, s.size <= 1048576 := fun s hs => q2t ha hs
 have hi := q4x t args q2r setN h (by omega) (fun s h => by have := hs s h; omega) qo6 (by decide)
 rw [qfb, hi]
 cases hp : isB t args setN with
 | false =>
  refine ⟨([], (eB, false)), .inr q2R, ?_, rfl⟩
  rw [q7c, show yX t args [jP, q0d, wD, q0a, q0y] = some (isB t args setN, ()) from zm t _ _ h (by omega) (fun s h => by have := hs s h; omega) (by decide), hp]
  rfl
 | true =>
  have hp' := hp
  unfold isB at hp'
  simp only [Bool.and_eq_true] at hp'
  obtain ⟨ht, hm, har⟩ := hp'
  match args, hl, hs, hp, hm, har with
  | a :: r, hl, hs, hp, hm, har =>
   obtain ⟨k, vals, rfl, h2⟩ := qdA (wQ.1 hm) har
   have hlen : (a :: k :: vals).length = vals.length + 2 := rfl
   have hv : vals.length <= 2097152 := by omega
   have hks : k.size <= 4194304 := by have := hs k (List.mem_cons_of_mem _ (List.mem_cons_self ..)); omega
   refine ⟨wT (setD t (upB a) k vals) t, q3I _ _, qai t ht k vals hv a (wQ.1 hm) hp hks (fun s h => by have := hs s h; omega) h2 (by omega), ?_⟩
   have k1 : (decide ((0 : Int) <= 1) && decide ((1 : Int) < ((a :: k :: vals).length : Int))) = true := by rw [dYT (show (1 : Int) < ((a :: k :: vals).length : Int) by omega)]; rfl
   have k0 : (decide ((0 : Int) <= 0) && decide ((0 : Int) < ((a :: k :: vals).length : Int))) = true := by rw [dYT (show (0 : Int) < ((a :: k :: vals).length : Int) by omega)]; rfl
   have k2 : (decide ((0 : Int) <= 2) && (decide ((2 : Int) <= ((a :: k :: vals).length : Int)) && decide (((a :: k :: vals).length : Int) <= ((a :: k :: vals).length : Int)))) = true := by rw [dYT (show (2 : Int) <= ((a :: k :: vals).length : Int) by omega), dYT (Int.le_refl _)]; rfl
   have g0 : zI (List.getD (a :: k :: vals) (Int.toNat 0) eB) = some (upB a, ()) := q2M a (by have := hs a (List.mem_cons_self ..); omega)
   have g1 : List.getD (a :: k :: vals) (Int.toNat 1) eB = k := rfl
   have g2 : List.take ((Int.toNat ((a :: k :: vals).length : Int)) - (Int.toNat 2)) (List.drop (Int.toNat 2) (a :: k :: vals)) = vals := by
    rw [Int.toNat_natCast]
    exact List.take_of_length_le (by show vals.length <= (a :: k :: vals).length - 2; omega)
   obtain ⟨d', ho⟩ := q4y (setD t (upB a) k vals) t h (qn6 t ht k vals hv (upB a) hks (fun s hs' => by have := hs s (List.mem_cons_of_mem _ (List.mem_cons_of_mem _ hs')); omega))
   simp only [oB, cT, Bool.not_true, cF, k0, k1, k2, g0, g1, g2, qiO t ht k vals hv (upB a) (wQ.1 hm) h2, ho]
end Go.Den.S
