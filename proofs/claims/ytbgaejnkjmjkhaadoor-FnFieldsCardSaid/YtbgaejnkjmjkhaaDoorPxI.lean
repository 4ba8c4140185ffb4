/- PxI: equations of the functions of this seat as the executor tells them, or plain facts about them. Conditions: none here. -/
import Derived.Test.YtbgaejnkjmjkhaaDoorPxH
set_option linter.all false
namespace Go.Den.S
open Go Go.Den
def zR (t : List DE) (k : BA) (n : Int) : Bool := (fndB t k).2 && !(decide ((fndB t k).1.1 = n))
def undB (t : List DE) (k : BA) : Int × BA × List BA := (fndB t k).1.2
theorem qep {t : List DE} {k : BA} {n : Int} (hw : zR t k n = false) : qag t k n = ((n, undB t k), true) := by
 unfold zR at hw
 unfold qag undB
 cases hf : (fndB t k).2 with
 | false =>
  have : (fndB t k).1 = (0, (0, (eB, []))) := by
   unfold fndB at hf ⊢
   cases hx : t.find? fun e => decide (e.1 = k) with
   | none => rfl
   | some e => rw [hx] at hf; cases hf
  rw [this]; rfl
 | true =>
  rw [hf] at hw
  simp only [Bool.true_and, Bool.not_eq_false', decide_eq_true_eq] at hw
  simp only [Bool.not_true, cF, dYT hw]
  rw [<- hw]
theorem q7x (t : List DE) (k : BA) (n : Int) (h : Bd t) : y5 (t, (eB, false)) k n = some ((((fndB t k).1.1, undB t k), (fndB t k).2), ((bif zR t k n then (t, (q2a zQ, true)) else (t, (eB, false))), ())) :=
 (qaP (t, (eB, false)) k n h).trans rfl
theorem q4I {t : List DE} {k : BA} (h : tabB t = true) : (undB t k).2.2.length <= 24 /\ (undB t k).2.1.size <= 60 /\ ∀ s ∈ (undB t k).2.2, s.size <= 60 := by
 unfold undB
 cases hf : (fndB t k).2 with
 | true => exact q4J (qb4 h hf).1
 | false =>
  have : (fndB t k).1 = (0, (0, (eB, []))) := by
   unfold fndB at hf ⊢
   cases hx : t.find? fun e => decide (e.1 = k) with
   | none => rfl
   | some e => rw [hx] at hf; cases hf
  rw [this]
  exact ⟨by simp, by decide, fun s hs => by cases hs⟩
theorem qba {t : List DE} {k : BA} {n : Int} (h : tabB t = true) (hw : zR t k n = false) : (undB t k).2.2 = [] \/ valB (n, undB t k) = true := by
 have he := qep hw
 unfold qag at he
 cases hf : (fndB t k).2 with
 | true =>
  right
  rw [hf] at he
  simp only [Bool.not_true, cF, Prod.mk.injEq] at he
  rw [<- he.1]
  exact (qb4 h hf).1
 | false =>
  left
  have : (fndB t k).1 = (0, (0, (eB, []))) := by
   unfold fndB at hf ⊢
   cases hx : t.find? fun e => decide (e.1 = k) with
   | none => rfl
   | some e => rw [hx] at hf; cases hf
  unfold undB
  rw [this]
theorem qb5 {t : List DE} {k : BA} (h : tabB t = true) (hw : zR t k 4 = false) : AscS (undB t k).2.2 := by
 rcases qba h hw with h | h
 ·rw [h]; exact List.Pairwise.nil
 ·exact qeD (v := (4, undB t k)) h rfl
theorem qeB {t : List DE} {k : BA} (h : tabB t = true) : wB (undB t k).2.2 <= 2097152 := by
 obtain ⟨h1, _, h2⟩ := q4I (k := k) h
 have : ∀ r : List BA, (∀ s ∈ r, s.size <= 60) -> (r.map ByteArray.size).sum <= 60 * r.length := by
  intro r
  induction r with
  | nil => intro _; simp
  | cons x r ih =>
   intro hr
   have h1 := hr x (List.mem_cons_self ..)
   have h2 := ih fun s hs => hr s (List.mem_cons_of_mem _ hs)
   simp only [List.map_cons, List.sum_cons, List.length_cons]; omega
 have := this _ h2
 unfold wB wl
 omega
def setD (t : List DE) (u k : BA) (vals : List BA) : DD :=
 let v := undB t k
 let l := v.2.2
 bif zR t k 4 then (t, (q2a zQ, true))
 else bif decide (u = yP) then (q2V t k (4, (v.1, (v.2.1, wo l vals))), (numB (((wo l vals).length : Int) - (l.length : Int)), false))
 else bif decide (u = wZ) then (q2V t k (4, (v.1, (v.2.1, q0N l vals))), (numB ((l.length : Int) - ((q0N l vals).length : Int)), false))
 else bif decide (u = qV) then (t, (numB (bif memB (gi vals 0) l then 1 else 0), false))
 else bif decide (u = wS) then (t, (numB (l.length : Int), false))
 else (t, (arrB (l.map yj), false))
theorem q8V {l vals : List BA} (hl : AscS l) (h : 0 < vals.length) : wo l vals ≠ [] := by
 match vals, h with
 | x :: r, _ =>
  obtain ⟨_, _, _, _, _, _, _, _, h7⟩ := q4M hl x
  have := (q20 (l := addS l x) r h7).2.1
  have h2 := q7c l x hl
  intro e
  have e : wo (addS l x) r = [] := e
  rw [e] at this
  simp only [List.length_nil, Nat.le_zero] at this
  rw [this] at h2
  cases hm : memB x l with
  | true =>
   have := jc.1 hm
   have : 0 < l.length := List.length_pos_of_mem this
   omega
  | false => rw [hm] at h2; simp at h2
theorem qaC (n : Int) (h0 : -5000000000 <= n) (h1 : n <= 5000000000) : y7 (w64 n) = some (numB n, ()) := by
 rw [show w64 n = n from qG (by omega) (by omega)]
 exact zm n (by omega) (by omega)
section
variable (t : List DE) (ht : tabB t = true) (k : BA) (vals : List BA) (hv : vals.length <= 2097152)
include ht hv
theorem qaU (u : BA) (hu : u ∈ setN) (h2 : 0 < vals.length \/ u = wS \/ u = w9) : wQ (t, (eB, false)) u k vals = some ((), (setD t u k vals, ())) := by
 have hb := q13 ht
 have has := q4G ht
 obtain ⟨n1, n2, n3⟩ := q4I (k := k) ht
 rw [q0M, q7x t k 4 hb]
 simp only [oB]
 unfold setD
 cases hw : zR t k 4 with
 | true => simp only [cT]
 | false =>
  simp only [cF, wC]
  have hasc := qb5 ht hw
  show (bif decide (u = yP) then qB k ((undB t k).2.2.length : Int) vals (vals.length : Int) 0 t eB false 4 (undB t k).1 (undB t k).2.1 (undB t k).2.2 else _) = _
  by_cases e1 : u = yP
  ·simp only [dYT e1, cT]
   have hpos : 0 < vals.length := by
    rcases h2 with h | h | h
    ·exact h
    ·rw [h] at e1; exact absurd e1 (by decide +kernel)
    ·rw [h] at e1; exact absurd e1 (by decide +kernel)
   obtain ⟨_, k2, k3⟩ := q20 (l := (undB t k).2.2) vals hasc
   have := qdp k vals (t, (eB, false)) 4 (undB t k).1 (undB t k).2.1 (undB t k).2.2 ((undB t k).2.2.length : Int) hasc (by omega)
   rw [this, q2X _ k _ hb has]
   unfold q2V
   simp only [oB, cF, qaC (((wo (undB t k).2.2 vals).length : Int) - ((undB t k).2.2.length : Int)) (by omega) (by omega), q07, dYF (q8V hasc hpos)]
   rfl
  ·simp only [dYF e1, cF]
   by_cases e2 : u = wZ
   ·simp only [dYT e2, cT]
    have hr := qbG (undB t k).2.2 vals
    show (yS (undB t k).2.2 (vals, ())).bind _ = _
    rw [q96 _ vals (by omega) hv]
    simp only [oB]
    rw [qb2 _ k _ hb has]
    simp only [oB, cF]
    show (y7 (w64 (((undB t k).2.2.length : Int) - ((q0N (undB t k).2.2 vals).length : Int)))).bind _ = _
    rw [qaC _ (by omega) (by omega)]
    simp only [oB, q07]
    rfl
   ·simp only [dYF e2, cF]
    by_cases e3 : u = qV
    ·simp only [dYT e3, cT]
     have hpos : 0 < vals.length := by
      rcases h2 with h | h | h
      ·exact h
      ·rw [h] at e3; exact absurd e3 (by decide +kernel)
      ·rw [h] at e3; exact absurd e3 (by decide +kernel)
     simp only [Int.le_refl, decide_true, dYT (show (0 : Int) < (vals.length : Int) by omega), Bool.and_self, cT]
     show (qZ (undB t k).2.2 (gi vals 0)).bind _ = _
     rw [q4m _ _ (by omega)]
     simp only [oB, zm 1 (by omega) (by omega), zm 0 (by omega) (by omega), q07]
     cases memB (gi vals 0) (undB t k).2.2 <;> rfl
    ·simp only [dYF e3, cF]
     by_cases e4 : u = wS
     ·simp only [dYT e4, cT]
      show (y7 ((undB t k).2.2.length : Int)).bind _ = _
      rw [zm _ (by omega) (by omega)]
      simp only [oB, q07]
      rfl
     ·simp only [dYF e4, cF]
      show (q0r (undB t k).2.2).bind _ = _
      rw [q3j _ (by omega) (fun s hs => by have := n3 s hs; omega)]
      simp only [oB, q3g _ (q3J _ (qeB ht)), q07]
      rfl
theorem qeV (u : BA) (hk : k.size <= 4194304) (hs : ∀ s ∈ vals, s.size <= 4194304) : Bd (setD t u k vals).1 := by
 have hb := q13 ht
 obtain ⟨n1, n2, n3⟩ := q4I (k := k) ht
 unfold setD
 cases hw : zR t k 4 with
 | true => exact hb
 | false =>
  simp only [cF]
  obtain ⟨_, k2, k3⟩ := q20 (l := (undB t k).2.2) vals (qb5 ht hw)
  have hr := qbG (undB t k).2.2 vals
  by_cases e1 : u = yP
  ·simp only [dYT e1, cT]
   exact q8t ht hk (show (wo (undB t k).2.2 vals).length <= _ by omega) (by show (undB t k).2.1.size <= _; omega) fun s hs' => by
    rcases q5o vals _ s hs' with h | h
    ·have := n3 s h; omega
    ·exact hs s h
  ·simp only [dYF e1, cF]
   by_cases e2 : u = wZ
   ·simp only [dYT e2, cT]
    exact q8t ht hk (show (q0N (undB t k).2.2 vals).length <= _ by omega) (by show (undB t k).2.1.size <= _; omega) fun s hs' => by have := n3 s (List.mem_filter.1 hs').1; omega
   ·simp only [dYF e2, cF]
    cases decide (u = qV)
    ·cases decide (u = wS) <;> exact hb
    ·exact hb
end
theorem q8r : tabB [] = true := rfl
def Back (t : List DE) (r : RS) : Prop := (r.1 = t \/ tabB r.1 = true)
theorem qfx : (setN.all fun u => bif decide (u = yP) || decide (u = wZ) then !(memB u ar0) && (!(memB u ar1) && (!(memB u ar2) && (!(memB u ar3) && (!(memB u ar4) && memB u ar5)))) else bif decide (u = qV) then !(memB u ar0) && (!(memB u ar1) && memB u ar2) else !(memB u ar0) && memB u ar1) = true := by decide +kernel
theorem qeh {a : BA} {r : List BA} (hu : upB a ∈ setN) (h : q28 (a :: r) = true) : ∃ k vals, r = k :: vals /\ (0 < vals.length \/ upB a = wS \/ upB a = w9) := by
 have h1 := List.all_eq_true.1 qfx _ hu
 unfold q28 at h
 simp only [Bool.and_eq_true] at h
 have h := h.2
 unfold arB at h
 have key : ∀ n : Nat, r.length = n + 1 -> ∃ k vals, r = k :: vals /\ vals.length = n := fun n hn => by
  match r, hn with
  | k :: vals, hn => exact ⟨k, vals, rfl, by simpa using hn⟩
 by_cases e1 : upB a = yP \/ upB a = wZ
 ·have e1' : (decide (upB a = yP) || decide (upB a = wZ)) = true := by simpa using e1
  rw [e1'] at h1
  simp only [cT, Bool.and_eq_true, Bool.not_eq_true'] at h1
  obtain ⟨h10, h11, h12, h13, h14, h15⟩ := h1
  simp only [h10, h11, h12, h13, h14, h15, cT, cF, decide_eq_true_eq] at h
  obtain ⟨k, vals, e, hl⟩ := key (r.length - 1) (by omega)
  exact ⟨k, vals, e, .inl (by omega)⟩
 ·have e1' : (decide (upB a = yP) || decide (upB a = wZ)) = false := by simpa using e1
  rw [e1'] at h1
  simp only [cF] at h1
  by_cases e3 : upB a = qV
  ·rw [dYT e3] at h1
   simp only [cT, Bool.and_eq_true, Bool.not_eq_true'] at h1
   obtain ⟨h10, h11, h12⟩ := h1
   simp only [h10, h11, h12, cT, cF, beq_iff_eq] at h
   obtain ⟨k, vals, e, hl⟩ := key 1 (by omega)
   exact ⟨k, vals, e, .inl (by omega)⟩
  ·rw [dYF e3] at h1
   simp only [cF, Bool.and_eq_true, Bool.not_eq_true'] at h1
   obtain ⟨h10, h11⟩ := h1
   simp only [h10, h11, cT, cF, beq_iff_eq] at h
   obtain ⟨k, vals, e, hl⟩ := key 0 (by omega)
   refine ⟨k, vals, e, .inr ?_⟩
   unfold setN at hu
   simp only [List.mem_cons, List.not_mem_nil, or_false] at hu
   rcases hu with h | h | h | h | h
   ·exact absurd (.inl h) e1
   ·exact absurd (.inr h) e1
   ·exact absurd h e3
   ·exact .inl h
   ·exact .inr h
end Go.Den.S
