/- PxQ: equations of the functions of this seat as the executor tells them, or plain facts about them. Conditions: none here. -/
import Derived.Test.YtbgaejnkjmjkhaaDoorPxP
set_option linter.all false
namespace Go.Den.S
open Go Go.Den
section
variable (t : List DE) (ht : tabB t = true) (k : BA) (vals : List BA) (hv : vals.length <= 2097152)
include ht hv
theorem qcp (u : BA) (hk : k.size <= 4194304) (hs : ∀ s ∈ vals, s.size <= 4194304) : Bd (lstD t u k vals).1 := by
 have hb := q1O ht
 obtain ⟨n1, n2, n3⟩ := qbp (k := k) ht
 have hm : ∀ s, s ∈ (undB t k).2.2 \/ s ∈ vals -> s.size <= 4194304 := fun s h => by
  rcases h with h | h
  ·have := n3 s h; omega
  ·exact hs s h
 unfold lstD
 cases yG t k 2 with
 | true => exact hb
 | false =>
  simp only [cF]
  by_cases e1 : u = yw
  ·simp only [dYT e1, cT]
   exact q4M ht hk (show (vals.reverse ++ (undB t k).2.2).length <= _ by rw [List.length_append, List.length_reverse]; omega) (by show (undB t k).2.1.size <= _; omega) fun s h => hm s ((List.mem_append.1 h).symm.imp id fun h => List.mem_reverse.1 h)
  ·simp only [dYF e1, cF]
   by_cases e2 : u = yu
   ·simp only [dYT e2, cT]
    exact q4M ht hk (show ((undB t k).2.2 ++ vals).length <= _ by rw [List.length_append]; omega) (by show (undB t k).2.1.size <= _; omega) fun s h => hm s (List.mem_append.1 h)
   ·simp only [dYF e2, cF]
    by_cases e3 : u = yR
    ·simp only [dYT e3, cT]
     cases decide ((undB t k).2.2 = []) with
     | true => exact hb
     | false => exact q4M ht hk (show ((undB t k).2.2.drop 1).length <= _ by rw [List.length_drop]; omega) (by show (undB t k).2.1.size <= _; omega) fun s h => hm s (.inl (List.mem_of_mem_drop h))
    ·simp only [dYF e3, cF]
     by_cases e4 : u = wo
     ·simp only [dYT e4, cT]
      cases decide ((undB t k).2.2 = []) with
      | true => exact hb
      | false => exact q4M ht hk (show ((undB t k).2.2.take ((undB t k).2.2.length - 1)).length <= _ by rw [List.length_take]; omega) (by show (undB t k).2.1.size <= _; omega) fun s h => hm s (.inl (List.mem_of_mem_take h))
     ·simp only [dYF e4, cF]
      cases decide (u = wO)
      ·simp only [cF]
       cases decide (u = qV)
       ·simp only [cF]
        cases (rdI (gi vals 0)).2
        ·exact hb
        ·cases (rdI (gi vals 1)).2 <;> exact hb
       ·simp only [cT]
        cases (rdI (gi vals 0)).2 <;> exact hb
      ·exact hb
end
theorem qda : (lstN.all fun u => bif decide (u = yw) || decide (u = yu) then !(memB u ar0) && (!(memB u ar1) && (!(memB u ar2) && (!(memB u ar3) && (!(memB u ar4) && memB u ar5)))) else bif decide (u = qV) then !(memB u ar0) && (!(memB u ar1) && memB u ar2) else bif decide (u = yj) then !(memB u ar0) && (!(memB u ar1) && (!(memB u ar2) && memB u ar3)) else !(memB u ar0) && memB u ar1) = true := by decide +kernel
theorem qbV {a : BA} {r : List BA} (hu : upB a ∈ lstN) (h : q2y (a :: r) = true) : ∃ k vals, r = k :: vals /\ (((upB a = yw \/ upB a = yu) -> 1 <= vals.length) /\ (upB a = qV -> 1 <= vals.length) /\ (upB a = yj -> 2 <= vals.length)) := by
 have h1 := List.all_eq_true.1 qda _ hu
 unfold q2y at h
 simp only [Bool.and_eq_true] at h
 have h := h.2
 unfold arB at h
 have key : ∀ n : Nat, r.length = n + 1 -> ∃ k vals, r = k :: vals /\ vals.length = n := fun n hn => by
  match r, hn with
  | k :: vals, hn => exact ⟨k, vals, rfl, by simpa using hn⟩
 by_cases e1 : upB a = yw \/ upB a = yu
 ·have e1' : (decide (upB a = yw) || decide (upB a = yu)) = true := by simpa using e1
  rw [e1'] at h1
  simp only [cT, Bool.and_eq_true, Bool.not_eq_true'] at h1
  obtain ⟨h10, h11, h12, h13, h14, h15⟩ := h1
  simp only [h10, h11, h12, h13, h14, h15, cT, cF, decide_eq_true_eq] at h
  obtain ⟨k, vals, e, hl⟩ := key (r.length - 1) (by omega)
  refine ⟨k, vals, e, fun _ => by omega, fun _ => by omega, fun h => ?_⟩
  rcases e1 with e1 | e1 <;> (rw [e1] at h; exact absurd h (by decide +kernel))
 ·have e1' : (decide (upB a = yw) || decide (upB a = yu)) = false := by simpa using e1
  rw [e1'] at h1
  simp only [cF] at h1
  by_cases e3 : upB a = qV
  ·rw [dYT e3] at h1
   simp only [cT, Bool.and_eq_true, Bool.not_eq_true'] at h1
   obtain ⟨h10, h11, h12⟩ := h1
   simp only [h10, h11, h12, cT, cF, beq_iff_eq] at h
   obtain ⟨k, vals, e, hl⟩ := key 1 (by omega)
   exact ⟨k, vals, e, fun h => absurd h e1, fun _ => by omega, fun h => by rw [e3] at h; exact absurd h (by decide +kernel)⟩
  ·rw [dYF e3] at h1
   simp only [cF] at h1
   by_cases e4 : upB a = yj
   ·rw [dYT e4] at h1
    simp only [cT, Bool.and_eq_true, Bool.not_eq_true'] at h1
    obtain ⟨h10, h11, h12, h13⟩ := h1
    simp only [h10, h11, h12, h13, cT, cF, beq_iff_eq] at h
    obtain ⟨k, vals, e, hl⟩ := key 2 (by omega)
    exact ⟨k, vals, e, fun h => absurd h e1, fun h => absurd h e3, fun _ => by omega⟩
   ·rw [dYF e4] at h1
    simp only [cF, Bool.and_eq_true, Bool.not_eq_true'] at h1
    obtain ⟨h10, h11⟩ := h1
    simp only [h10, h11, cT, cF, beq_iff_eq] at h
    obtain ⟨k, vals, e, hl⟩ := key 0 (by omega)
    exact ⟨k, vals, e, fun h => absurd h e1, fun h => absurd h e3, fun h => absurd h e4⟩
end Go.Den.S
