/- PxL: equations of the functions of this seat as the executor tells them, or plain facts about them. Conditions: none here. -/
import Derived.Test.YtbgaejnkjmjkhaaDoorPxK
set_option linter.all false
namespace Go.Den.S
open Go Go.Den
theorem jO : ∀ P : List PF, q1h (qb P) = P
 | [] => rfl
 | p :: P => by rw [jl]; show p :: q1h (qb P) = _; rw [jO P]
def posF (P : List PF) (x : BA) : Nat := (lowF P x).length
def fldD (t : List DE) (u k : BA) (vals : List BA) : DD :=
 let v := undB t k
 let P := q1h v.2.2
 bif zR t k 3 then (t, (q2a zQ, true))
 else bif decide (u = wN) then (putB t k (3, (v.1, (v.2.1, qb (setF P (gi vals 0) (gi vals 1))))), (numB (bif hasF P (gi vals 0) then 0 else 1), false))
 else bif decide (u = wM) then (t, (bif hasF P (gi vals 0) then yj (gi v.2.2 (posF P (gi vals 0) * 2 + 1)) else q0Z, false))
 else bif decide (u = za) then (q2V t k (3, (v.1, (v.2.1, qb (zi P vals)))), (numB ((P.length : Int) - ((zi P vals).length : Int)), false))
 else bif decide (u = zI) then (t, (numB (P.length : Int), false))
 else bif decide (u = yQ) then (t, (arrB (v.2.2.map yj), false))
 else (t, (arrB ((jg P).map yj), false))
theorem qeH (l : List BA) (hl : l.length <= 1000) (hs : ∀ s ∈ l, s.size <= 60) : wB l <= 2097152 := by
 have : ∀ r : List BA, (∀ s ∈ r, s.size <= 60) -> (r.map ByteArray.size).sum <= 60 * r.length := by
  intro r
  induction r with
  | nil => intro _; simp
  | cons x r ih =>
   intro hr
   have h1 := hr x (List.mem_cons_self ..)
   have h2 := ih fun s hs => hr s (List.mem_cons_of_mem _ hs)
   simp only [List.map_cons, List.sum_cons, List.length_cons]; omega
 have := this _ hs
 unfold wB wl
 omega
theorem qdF {P : List PF} {s : BA} (h : s ∈ jg P) : s ∈ qb P := by
 obtain ⟨p, hp, rfl⟩ := List.mem_map.1 h
 exact List.mem_flatMap.2 ⟨p, hp, by simp⟩
theorem q79 {P : List PF} (h : AscF P) (x v : BA) : (setF P x v).length <= P.length + 1 := by
 obtain ⟨A, B, h1, _, _, h4, h5⟩ := q51 h x
 unfold setF
 conv => rhs; rw [h1]
 rw [h4, List.length_append, List.length_cons, List.length_append]
 rcases h5 with ⟨_, h6⟩ | ⟨w, C, rfl, _, h6⟩
 ·rw [h6]; omega
 ·rw [h6, List.length_cons]; omega
theorem qfc (P : List PF) (x v : BA) : qb (setF P x v) ≠ [] := by
 unfold setF
 rw [jT, jl]
 simp
theorem qfO (n : Nat) (h : n <= 1000000) : w64 (Int.tdiv ((n * 2 : Nat) : Int) 2) = (n : Int) := by
 show IntKind.i64.wrap _ = _
 rw [Int.tdiv_eq_ediv_of_nonneg (by omega), qG (by omega) (by omega)]; omega
section
variable (t : List DE) (ht : tabB t = true) (k : BA) (vals : List BA) (hv : vals.length <= 2097152)
include ht
theorem qe7 (hw : zR t k 3 = false) (P : List PF) (hP : (undB t k).2.2 = qb P) (hk : k.size <= 4194304) (x v : BA) (hx : x.size <= 4194304) (hv' : v.size <= 4194304) (ha : AscF P) (hl : P.length <= 12) : ∀ s ∈ qb (setF P x v), s.size <= 4194304 := by
 intro s hs
 obtain ⟨n1, n2, n3⟩ := q4I (k := k) ht
 obtain ⟨p, hp, hs⟩ := q5X hs
 have hm : p ∈ P \/ p = (x, v) := by
  unfold setF at hp
  rcases List.mem_append.1 hp with hp | hp
  ·exact .inl (List.mem_filter.1 hp).1
  ·rcases List.mem_cons.1 hp with hp | hp
   ·exact .inr hp
   ·exact .inl (List.mem_filter.1 hp).1
 rcases hm with hm | hm
 ·have : s ∈ (undB t k).2.2 := by
   rw [hP]
   exact List.mem_flatMap.2 ⟨p, hm, by rcases hs with h | h <;> simp [h]⟩
  have := n3 s this
  omega
 ·rw [hm] at hs
  rcases hs with h | h <;> (rw [h]; assumption)
include hv
theorem q99 (u : BA) (h2 : (u = wN -> 2 <= vals.length) /\ (u = wM -> 1 <= vals.length)) : wu (t, (eB, false)) u k vals = some ((), (fldD t u k vals, ())) := by
 have hb := q13 ht
 have has := q4G ht
 obtain ⟨n1, n2, n3⟩ := q4I (k := k) ht
 rw [q0d, q7x t k 3 hb]
 simp only [oB]
 unfold fldD
 cases hw : zR t k 3 with
 | true => simp only [cT]
 | false =>
  obtain ⟨P, hP, hasc, hPl⟩ := q7s ht hw
  have hPf : q1h (undB t k).2.2 = P := by rw [hP, jO]
  simp only [cF, wC, hPf]
  by_cases e1 : u = wN
  ·have hp := h2.1 e1
   obtain ⟨n, hn, _, q2, q3, q4⟩ := q4h P hasc (by omega) (gi vals 0)
   have e0 : decide ((0 : Int) < (vals.length : Int)) = true := dYT (by omega)
   have e1' : decide ((1 : Int) < (vals.length : Int)) = true := dYT (by omega)
   simp only [dYT e1, cT, Int.le_refl, decide_true, show decide ((0 : Int) <= 1) = true from rfl, e0, e1', Bool.and_self]
   show ((zC (undB t k).2.2 (gi vals 0)).bind _) = _
   rw [hP, q2]
   simp only [oB]
   cases hf : hasF P (gi vals 0) with
   | true =>
    obtain ⟨r1, r2, w, r3, r4, r5, r6⟩ := q4 hf
    have e5 : w64 (((n * 2 : Nat) : Int) + 1) = ((n * 2 + 1 : Nat) : Int) := qM (by omega)
    have e6 : decide (((n * 2 + 1 : Nat) : Int) < ((qb P).length : Int)) = true := dYT (by rw [yA]; omega)
    simp only [cT, e5, dYT (show (0 : Int) <= ((n * 2 + 1 : Nat) : Int) by omega), e6, Bool.and_self, zm 0 (by omega) (by omega), oB, q07, Int.toNat_natCast]
    show ((qA (t, (numB 0, false)) k (3, ((undB t k).1, ((undB t k).2.1, (qb P).set (n * 2 + 1) (gi vals 1))))).bind _) = _
    rw [(r6 (gi vals 1)).2, q2X _ k _ hb has]
    rfl
   | false =>
    have r6 := ((q3 hf).2 (gi vals 1)).2
    simp only [cF]
    show ((qW (qb P) ((n * 2 : Nat) : Int) [gi vals 0, gi vals 1]).bind _) = _
    rw [r6]
    simp only [oB, zm 1 (by omega) (by omega), q07]
    rw [q2X _ k _ hb has]
    rfl
  ·simp only [dYF e1, cF]
   by_cases e2 : u = wM
   ·have hp := h2.2 e2
    obtain ⟨n, hn, _, q2, q3, q4⟩ := q4h P hasc (by omega) (gi vals 0)
    have e0 : decide ((0 : Int) < (vals.length : Int)) = true := dYT (by omega)
    simp only [dYT e2, cT, qaN, oB, q07, Int.le_refl, decide_true, e0, Bool.and_self]
    show ((zC (undB t k).2.2 (gi vals 0)).bind _) = _
    rw [hP, q2]
    simp only [oB]
    cases hf : hasF P (gi vals 0) with
    | true =>
     obtain ⟨r1, r2, w, r3, r4, r5, r6⟩ := q4 hf
     have e5 : w64 (((n * 2 : Nat) : Int) + 1) = ((n * 2 + 1 : Nat) : Int) := qM (by omega)
     have hlt : n * 2 + 1 < (qb P).length := by rw [yA]; omega
     have e6 : decide (((n * 2 + 1 : Nat) : Int) < ((qb P).length : Int)) = true := dYT (by omega)
     have hz := n3 ((qb P).getD (n * 2 + 1) eB) (by rw [hP]; exact zK hlt)
     simp only [cT, e5, dYT (show (0 : Int) <= ((n * 2 + 1 : Nat) : Int) by omega), e6, Bool.and_self, Int.toNat_natCast, q5I _ (show ((qb P).getD (n * 2 + 1) eB).size <= 1000000000 by omega), oB, q07]
     have hpos : posF P (gi vals 0) = n := hn.symm
     rw [hpos]
     rfl
    | false => simp only [cF]; rfl
   ·simp only [dYF e2, cF]
    by_cases e3 : u = za
    ·simp only [dYT e3, cT]
     have hd := q2c vals hasc
     show qy k 0 vals (vals.length : Int) 0 t eB false 3 (undB t k).1 (undB t k).2.1 (undB t k).2.2 = _
     rw [hP]
     have := qaO k vals hv (t, (eB, false)) 3 (undB t k).1 (undB t k).2.1 P hasc hPl
     rw [this, qb2 _ k _ hb has]
     simp only [oB, cF, zm ((P.length : Int) - ((zi P vals).length : Int)) (by omega) (by omega), q07]
     rfl
    ·simp only [dYF e3, cF]
     by_cases e4 : u = zI
     ·simp only [dYT e4, cT]
      show ((y7 (w64 (Int.tdiv ((undB t k).2.2.length : Int) 2))).bind _) = _
      rw [hP, yA, qfO _ (by omega), zm _ (by omega) (by omega)]
      simp only [oB, q07]
      rfl
     ·simp only [dYF e4, cF]
      by_cases e5 : u = yQ
      ·simp only [dYT e5, cT]
       show ((q0r (undB t k).2.2).bind _) = _
       rw [q3j _ (by omega) (fun s hs => by have := n3 s hs; omega)]
       simp only [oB, q3g _ (q3J _ (qeB ht)), q07]
       rfl
      ·simp only [dYF e5, cF]
       show ((q1M (undB t k).2.2).bind _) = _
       have hks : ∀ s ∈ jg P, s.size <= 60 := fun s hs => n3 s (by rw [hP]; exact qdF hs)
       have hkl : (jg P).length = P.length := List.length_map ..
       rw [hP, qaS P (by omega)]
       simp only [oB, q3j (jg P) (by omega) (fun s hs => by have := hks s hs; omega), q3g _ (q3J _ (qeH (jg P) (by omega) hks)), q07]
       rfl
theorem qeR (u : BA) (hk : k.size <= 4194304) (hs : ∀ s ∈ vals, s.size <= 4194304) (h2 : u = wN -> 2 <= vals.length) : Bd (fldD t u k vals).1 := by
 have hb := q13 ht
 obtain ⟨n1, n2, n3⟩ := q4I (k := k) ht
 unfold fldD
 cases hw : zR t k 3 with
 | true => exact hb
 | false =>
  obtain ⟨P, hP, hasc, hPl⟩ := q7s ht hw
  have hPf : q1h (undB t k).2.2 = P := by rw [hP, jO]
  simp only [cF, hPf]
  by_cases e1 : u = wN
  ·simp only [dYT e1, cT]
   have hp := h2 e1
   have hl := q79 hasc (gi vals 0) (gi vals 1)
   exact qdn ht hk (show (qb (setF P (gi vals 0) (gi vals 1))).length <= _ by rw [yA]; omega) (by show (undB t k).2.1.size <= _; omega) (qe7 t ht k hw P hP hk _ _ (hs _ (zK (by omega))) (hs _ (zK (by omega))) hasc hPl)
  ·simp only [dYF e1, cF]
   cases decide (u = wM)
   ·simp only [cF]
    cases decide (u = za)
    ·simp only [cF]
     cases decide (u = zI)
     ·cases decide (u = yQ) <;> exact hb
     ·exact hb
    ·simp only [cT]
     have hd := q2c vals hasc
     exact q8t ht hk (show (qb (zi P vals)).length <= _ by rw [yA]; omega) (by show (undB t k).2.1.size <= _; omega) fun s hs' => by
      obtain ⟨p, hp, hs''⟩ := q5X hs'
      have := n3 s (by rw [hP]; exact List.mem_flatMap.2 ⟨p, q7F vals hp, by rcases hs'' with h | h <;> simp [h]⟩)
      omega
   ·exact hb
end
theorem qfr : (fldN.all fun u => bif decide (u = wN) then !(memB u ar0) && (!(memB u ar1) && (!(memB u ar2) && memB u ar3)) else bif decide (u = wM) then !(memB u ar0) && (!(memB u ar1) && memB u ar2) else bif decide (u = za) then !(memB u ar0) && (!(memB u ar1) && (!(memB u ar2) && (!(memB u ar3) && (!(memB u ar4) && memB u ar5)))) else !(memB u ar0) && memB u ar1) = true := by decide +kernel
theorem qe9 {a : BA} {r : List BA} (hu : upB a ∈ fldN) (h : q28 (a :: r) = true) : ∃ k vals, r = k :: vals /\ ((upB a = wN -> 2 <= vals.length) /\ (upB a = wM -> 1 <= vals.length)) := by
 have h1 := List.all_eq_true.1 qfr _ hu
 unfold q28 at h
 simp only [Bool.and_eq_true] at h
 have h := h.2
 unfold arB at h
 have key : ∀ n : Nat, r.length = n + 1 -> ∃ k vals, r = k :: vals /\ vals.length = n := fun n hn => by
  match r, hn with
  | k :: vals, hn => exact ⟨k, vals, rfl, by simpa using hn⟩
 by_cases e1 : upB a = wN
 ·rw [dYT e1] at h1
  simp only [cT, Bool.and_eq_true, Bool.not_eq_true'] at h1
  obtain ⟨h10, h11, h12, h13⟩ := h1
  simp only [h10, h11, h12, h13, cT, cF, beq_iff_eq] at h
  obtain ⟨k, vals, e, hl⟩ := key 2 (by omega)
  exact ⟨k, vals, e, fun _ => by omega, fun _ => by omega⟩
 ·rw [dYF e1] at h1
  simp only [cF] at h1
  by_cases e3 : upB a = wM
  ·rw [dYT e3] at h1
   simp only [cT, Bool.and_eq_true, Bool.not_eq_true'] at h1
   obtain ⟨h10, h11, h12⟩ := h1
   simp only [h10, h11, h12, cT, cF, beq_iff_eq] at h
   obtain ⟨k, vals, e, hl⟩ := key 1 (by omega)
   exact ⟨k, vals, e, fun h => absurd h e1, fun _ => by omega⟩
  ·rw [dYF e3] at h1
   simp only [cF] at h1
   by_cases e4 : upB a = za
   ·rw [dYT e4] at h1
    simp only [cT, Bool.and_eq_true, Bool.not_eq_true'] at h1
    obtain ⟨h10, h11, h12, h13, h14, h15⟩ := h1
    simp only [h10, h11, h12, h13, h14, h15, cT, cF, decide_eq_true_eq] at h
    obtain ⟨k, vals, e, hl⟩ := key (r.length - 1) (by omega)
    exact ⟨k, vals, e, fun h => absurd h e1, fun h => absurd h e3⟩
   ·rw [dYF e4] at h1
    simp only [cF, Bool.and_eq_true, Bool.not_eq_true'] at h1
    obtain ⟨h10, h11⟩ := h1
    simp only [h10, h11, cT, cF, beq_iff_eq] at h
    obtain ⟨k, vals, e, hl⟩ := key 0 (by omega)
    exact ⟨k, vals, e, fun h => absurd h e1, fun h => absurd h e3⟩
end Go.Den.S
