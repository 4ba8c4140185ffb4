/- PxY: equations of the functions of this seat as the executor tells them, or plain facts about them. Conditions: none here. -/
import Derived.Test.YtbgaejnkjmjkhaaGreatDoorPxX
set_option linter.all false
namespace Go.Den.S
open Go Go.Den
def tyB (n : Int) : BA := bif decide (n = 1) then qdy else bif decide (n = 2) then qhF else bif decide (n = 3) then qhn else bif decide (n = 4) then qjJ else qi0
theorem qcW (n : Int) : (tyB n).size <= 100 := by
 unfold tyB
 cases decide (n = 1) <;> cases decide (n = 2) <;> cases decide (n = 3) <;> cases decide (n = 4) <;> decide
theorem qh6 (n : Int) : q8Y n = some (tyB n, ()) := by
 rw [qdX]
 unfold tyB
 simp only [wO]
 cases decide (n = 1) <;> cases decide (n = 2) <;> cases decide (n = 3) <;> cases decide (n = 4) <;> rfl
theorem qhS {t : List DE} {k : BA} (hf : (fndB t k).2 = false) : (fndB t k).1 = (0, (0, (eB, []))) := by
 unfold fndB at hf ⊢
 cases hx : t.find? fun e => decide (e.1 = k) with
 | none => rfl
 | some e => rw [hx] at hf; cases hf
theorem q8K {v : DV} (h : valB v = true) : (v.1 = 1 \/ v.1 = 2 \/ v.1 = 3 \/ v.1 = 4) /\ 0 <= v.2.1 /\ v.2.1 <= 100000 := by
 unfold valB at h
 simp only [Bool.and_eq_true, decide_eq_true_eq] at h
 refine ⟨?_, h.1.1, h.1.2⟩
 by_cases h1 : v.1 = 1
 ·exact .inl h1
 ·have := h.2
  simp only [dYF h1, cF, Bool.and_eq_true, decide_eq_true_eq] at this
  exact .inr this.1.1.1.1.1
theorem qiv {t : List DE} (ht : tabB t = true) (k : BA) : q7Y (fndB t k).1 (fndB t k).2 = some (tyB (fndB t k).1.1, ()) := by
 rw [qdC]
 cases hf : (fndB t k).2 with
 | false => rw [qhS hf]; rfl
 | true =>
  have hk := (q8K (q5T ht hf).1).1
  simp only [Bool.not_true, cF]
  rcases hk with h | h | h | h <;> (rw [h]; rfl)
def q58 (v : DV) (found : Bool) (now : Int) : Int := bif !found then -2 else bif decide (v.2.1 = 0) then -1 else v.2.1 - now
def keyD (t : List DE) (now : Int) (u k : BA) (vals : List BA) : DD :=
 let f := fndB t k
 bif decide (u = zD) then (t, (zO k, false))
 else bif decide (u = wG) then (((k :: vals).foldl (cntK true) (0, t)).2, (numB ((k :: vals).foldl (cntK true) (0, t)).1, false))
 else bif decide (u = qZ) then (((k :: vals).foldl (cntK false) (0, t)).2, (numB ((k :: vals).foldl (cntK false) (0, t)).1, false))
 else bif decide (u = jr) then (t, (q02 (tyB f.1.1), false))
 else bif decide (u = yj) then
  (bif !(rdI (gi vals 0)).2 then (t, (y8 qQ, true)) else bif !f.2 then (t, (numB 0, false)) else bif decide ((rdI (gi vals 0)).1 <= 0) then (q1t t k, (numB 1, false))
   else bif decide (now + (rdI (gi vals 0)).1 > 100000) then (t, (y8 yK, true)) else (putB t k (f.1.1, (now + (rdI (gi vals 0)).1, f.1.2.2)), (numB 1, false)))
 else bif decide (u = zZ) then (t, (numB (q58 f.1 f.2 now), false))
 else bif decide (f.1.2.1 = 0) then (t, (numB 0, false)) else (putB t k (f.1.1, (0, f.1.2.2)), (numB 1, false))
theorem q57 (del : Bool) (ks : List BA) : ∀ (p : Int × List DE), Ok2 p.2 -> p.1 <= (ks.foldl (cntK del) p).1 /\ (ks.foldl (cntK del) p).1 <= p.1 + ks.length /\ Ok2 (ks.foldl (cntK del) p).2 := by
 induction ks with
 | nil => intro p h; exact ⟨Int.le_refl _, by simp, h⟩
 | cons k r ih =>
  intro p h
  obtain ⟨h1, h2, h3⟩ := ih (cntK del p k) (qcV h del k)
  have hc : p.1 <= (cntK del p k).1 /\ (cntK del p k).1 <= p.1 + 1 := by
   show p.1 <= (bif (fndB p.2 k).2 then p.1 + 1 else p.1) /\ (bif (fndB p.2 k).2 then p.1 + 1 else p.1) <= p.1 + 1
   cases (fndB p.2 k).2 <;> simp only [cT, cF] <;> omega
  refine ⟨?_, ?_, h3⟩
  ·show p.1 <= (r.foldl (cntK del) (cntK del p k)).1
   omega
  ·show (r.foldl (cntK del) (cntK del p k)).1 <= _
   simp only [List.length_cons]; omega
theorem qix (t : List DE) (ht : tabB t = true) (now : Int) (hnow : 0 <= now /\ now <= 100000) (u k : BA) (vals : List BA) (hv : vals.length <= 2097151) (hk : k.size <= 1000000000) (h2 : u = yj -> 1 <= vals.length) (hs : ∀ s ∈ vals, s.size <= 4194304) :
  q08 (t, (eB, false)) now u (k :: vals) = some ((), (keyD t now u k vals, ())) := by
 have hb := wY ht
 have has := q1J ht
 have hok : Ok2 t := ⟨hb, has⟩
 have k0 : (decide ((0 : Int) <= 0) && decide ((0 : Int) < ((k :: vals).length : Int))) = true := by rw [dYT (show (0 : Int) < ((k :: vals).length : Int) by simp only [List.length_cons]; omega)]; rfl
 have g0 : List.getD (k :: vals) (Int.toNat 0) eB = k := rfl
 have g1 : List.getD (k :: vals) (Int.toNat 1) eB = gi vals 0 := rfl
 rw [q4f]
 simp only [k0, g0, g1, cT, qM, q2l t k hb, oB, wO]
 unfold keyD
 by_cases e1 : u = zD
 ·simp only [dYT e1, cT, q2w k hk, oB, wH]; rfl
 ·simp only [dYF e1, cF]
  have hcnt : ∀ del : Bool, ((wF (t, (eB, false)) (k :: vals) del).bind fun r7 => (qH r7.1).bind fun r8 => (qb r7.2.1 r8.1).bind fun r9 => some ((), (r9.2.1, ()))) = some ((), ((((k :: vals).foldl (cntK del) (0, t)).2, (numB ((k :: vals).foldl (cntK del) (0, t)).1, false)), ())) := fun del => by
   obtain ⟨b1, b2, _⟩ := q57 del (k :: vals) (0, t) hok
   simp only [List.length_cons] at b2
   rw [qk4 del t _ (k :: vals) hok (by simp only [List.length_cons]; omega)]
   simp only [oB]
   rw [qR _ (by omega) (by omega)]
   simp only [oB, wH]
   rfl
  by_cases e2 : u = wG
  ·simp only [dYT e2, cT]
   exact hcnt true
  ·simp only [dYF e2, cF]
   by_cases e3 : u = qZ
   ·simp only [dYT e3, cT]
    exact hcnt false
   ·simp only [dYF e3, cF]
    by_cases e4 : u = jr
    ·have := qcW (fndB t k).1.1
     simp only [dYT e4, cT, qiv ht k, oB, q3u _ (show (tyB (fndB t k).1.1).size <= 2097152 by omega), wH]
     rfl
    ·simp only [dYF e4, cF]
     by_cases e5 : u = yj
     ·have hp := h2 e5
      have k1 : (decide ((0 : Int) <= 1) && decide ((1 : Int) < ((k :: vals).length : Int))) = true := by rw [dYT (show (1 : Int) < ((k :: vals).length : Int) by simp only [List.length_cons]; omega)]; rfl
      have hz : (gi vals 0).size <= 4194304 := hs (gi vals 0) (yg (d := eB) (show 0 < vals.length by omega))
      have i0 := q1N (gi vals 0)
      have w1 : w64 (100000 - (rdI (gi vals 0)).1) = 100000 - (rdI (gi vals 0)).1 := ql (by omega) (by omega)
      have w2 : w64 (now + (rdI (gi vals 0)).1) = now + (rdI (gi vals 0)).1 := ql (by omega) (by omega)
      have hd : decide (now > 100000 - (rdI (gi vals 0)).1) = decide (now + (rdI (gi vals 0)).1 > 100000) := decide_eq_decide.2 (by omega)
      simp only [dYT e5, cT, k1]
      rw [q3r, q3P _ _ (by omega)]
      simp only [oB, w1, w2, hd]
      cases hr : (rdI (gi vals 0)).2 with
      | false =>
       simp only [Bool.not_false, cT]
       show (((q31 t k).bind _).bind _) = _
       rw [q2l t k hb]
       rfl
      | true =>
       simp only [Bool.not_true, cF, q2l t k hb, oB]
       cases (fndB t k).2 with
       | false =>
        simp only [Bool.not_false, cT, qR 0 (by omega) (by omega), oB, wH]
        rfl
       | true =>
        simp only [Bool.not_true, cF]
        cases decide ((rdI (gi vals 0)).1 <= 0) with
        | true =>
         simp only [cT, q8G (t, (eB, false)) k hb has, qR 1 (by omega) (by omega), oB, wH]
         rfl
        | false =>
         simp only [cF]
         cases decide (now + (rdI (gi vals 0)).1 > 100000) with
         | true =>
          simp only [cT, q2j _ yK (by decide), oB]
          rfl
         | false =>
          simp only [cF, wm (t, (eB, false)) k _ hb has, qR 1 (by omega) (by omega), oB, wH]
          rfl
     ·simp only [dYF e5, cF]
      by_cases e6 : u = zZ
      ·have hin : -5000000 <= q58 (fndB t k).1 (fndB t k).2 now /\ q58 (fndB t k).1 (fndB t k).2 now <= 5000000 /\ qbQ (fndB t k).1 (fndB t k).2 now = some (q58 (fndB t k).1 (fndB t k).2 now, ()) := by
        rw [qhs]
        unfold q58
        simp only [wO]
        cases hf : (fndB t k).2 with
        | false => exact ⟨by simp, by simp, by first | rfl | trivial⟩
        | true =>
         have hu := (q8K (q5T ht hf).1).2
         rw [show w64 ((fndB t k).1.2.1 - now) = (fndB t k).1.2.1 - now from ql (by omega) (by omega)]
         cases decide ((fndB t k).1.2.1 = 0) with
         | true => exact ⟨by simp, by simp, by first | rfl | trivial⟩
         | false =>
          simp only [Bool.not_true, cF]
          exact ⟨by omega, by omega, by first | rfl | trivial⟩
       simp only [dYT e6, cT, hin.2.2, oB, qR _ (show -9000000000000000000 <= q58 (fndB t k).1 (fndB t k).2 now by omega) (by omega), wH]
       rfl
      ·simp only [dYF e6, cF]
       cases decide ((fndB t k).1.2.1 = 0) with
       | true =>
        simp only [cT, qR 0 (by omega) (by omega), oB, wH]
        rfl
       | false =>
        simp only [cF, wm (t, (eB, false)) k _ hb has, qR 1 (by omega) (by omega), oB, wH]
        rfl
end Go.Den.S
