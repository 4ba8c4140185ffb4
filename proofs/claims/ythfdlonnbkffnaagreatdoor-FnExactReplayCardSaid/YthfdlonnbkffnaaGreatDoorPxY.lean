/- PxY: equations of the functions of this seat as the executor tells them, or plain facts about them. Conditions: none here. -/
import Derived.Test.YthfdlonnbkffnaaGreatDoorPxX
set_option linter.all false
namespace Go.Den.S
open Go Go.Den
def tyB (n : Int) : BA := bif decide (n = 1) then qdH else bif decide (n = 2) then qif else bif decide (n = 3) then qhu else bif decide (n = 4) then qkf else qhX
theorem qdp (n : Int) : (tyB n).size <= 100 := by
 unfold tyB
 cases decide (n = 1) <;> cases decide (n = 2) <;> cases decide (n = 3) <;> cases decide (n = 4) <;> decide
theorem qhV (n : Int) : q9I n = some (tyB n, ()) := by
 rw [qec]
 unfold tyB
 simp only [q0l]
 cases decide (n = 1) <;> cases decide (n = 2) <;> cases decide (n = 3) <;> cases decide (n = 4) <;> rfl
theorem qhT {t : List DE} {k : BA} (hf : (fndB t k).2 = false) : (fndB t k).1 = (0, (0, (eB, []))) := by
 unfold fndB at hf ⊢
 cases hx : t.find? fun e => decide (e.1 = k) with
 | none => rfl
 | some e => rw [hx] at hf; cases hf
theorem q9C {v : DV} (h : valB v = true) : (v.1 = 1 \/ v.1 = 2 \/ v.1 = 3 \/ v.1 = 4) /\ 0 <= v.2.1 /\ v.2.1 <= 100000 := by
 unfold valB at h
 simp only [Bool.and_eq_true, decide_eq_true_eq] at h
 refine ⟨?_, h.1.1, h.1.2⟩
 by_cases h1 : v.1 = 1
 ·exact .inl h1
 ·have := h.2
  simp only [dYF h1, cF, Bool.and_eq_true, decide_eq_true_eq] at this
  exact .inr this.1.1.1.1.1
theorem qir {t : List DE} (ht : tabB t = true) (k : BA) : q8E (fndB t k).1 (fndB t k).2 = some (tyB (fndB t k).1.1, ()) := by
 rw [qdE]
 cases hf : (fndB t k).2 with
 | false => rw [qhT hf]; rfl
 | true =>
  have hk := (q9C (q6a ht hf).1).1
  simp only [Bool.not_true, cF]
  rcases hk with h | h | h | h <;> (rw [h]; rfl)
def q6G (v : DV) (found : Bool) (now : Int) : Int := bif !found then -2 else bif decide (v.2.1 = 0) then -1 else v.2.1 - now
def keyD (t : List DE) (now : Int) (u k : BA) (vals : List BA) : DD :=
 let f := fndB t k
 bif decide (u = q05) then (t, (zG k, false))
 else bif decide (u = zh) then (((k :: vals).foldl (cntK true) (0, t)).2, (numB ((k :: vals).foldl (cntK true) (0, t)).1, false))
 else bif decide (u = wm) then (((k :: vals).foldl (cntK false) (0, t)).2, (numB ((k :: vals).foldl (cntK false) (0, t)).1, false))
 else bif decide (u = q06) then (t, (jR (tyB f.1.1), false))
 else bif decide (u = zD) then
  (bif !(rdI (gi vals 0)).2 then (t, (yw qL, true)) else bif !f.2 then (t, (numB 0, false)) else bif decide ((rdI (gi vals 0)).1 <= 0) then (q1E t k, (numB 1, false))
   else bif decide (now + (rdI (gi vals 0)).1 > 100000) then (t, (yw yx, true)) else (putB t k (f.1.1, (now + (rdI (gi vals 0)).1, f.1.2.2)), (numB 1, false)))
 else bif decide (u = q3b) then (t, (numB (q6G f.1 f.2 now), false))
 else bif decide (f.1.2.1 = 0) then (t, (numB 0, false)) else (putB t k (f.1.1, (0, f.1.2.2)), (numB 1, false))
theorem q59 (del : Bool) (ks : List BA) : ∀ (p : Int × List DE), Ok2 p.2 -> p.1 <= (ks.foldl (cntK del) p).1 /\ (ks.foldl (cntK del) p).1 <= p.1 + ks.length /\ Ok2 (ks.foldl (cntK del) p).2 := by
 induction ks with
 | nil => intro p h; exact ⟨Int.le_refl _, by simp, h⟩
 | cons k r ih =>
  intro p h
  obtain ⟨h1, h2, h3⟩ := ih (cntK del p k) (qdn h del k)
  have hc : p.1 <= (cntK del p k).1 /\ (cntK del p k).1 <= p.1 + 1 := by
   show p.1 <= (bif (fndB p.2 k).2 then p.1 + 1 else p.1) /\ (bif (fndB p.2 k).2 then p.1 + 1 else p.1) <= p.1 + 1
   cases (fndB p.2 k).2 <;> simp only [cT, cF] <;> omega
  refine ⟨?_, ?_, h3⟩
  ·show p.1 <= (r.foldl (cntK del) (cntK del p k)).1
   omega
  ·show (r.foldl (cntK del) (cntK del p k)).1 <= _
   simp only [List.length_cons]; omega
theorem qii (t : List DE) (ht : tabB t = true) (now : Int) (hnow : 0 <= now /\ now <= 100000) (u k : BA) (vals : List BA) (hv : vals.length <= 2097151) (hk : k.size <= 1000000000) (h2 : u = zD -> 1 <= vals.length) (hs : ∀ s ∈ vals, s.size <= 4194304) :
  jD (t, (eB, false)) now u (k :: vals) = some ((), (keyD t now u k vals, ())) := by
 have hb := wR ht
 have has := q1m ht
 have hok : Ok2 t := ⟨hb, has⟩
 have k0 : (decide ((0 : Int) <= 0) && decide ((0 : Int) < ((k :: vals).length : Int))) = true := by rw [dYT (show (0 : Int) < ((k :: vals).length : Int) by simp only [List.length_cons]; omega)]; rfl
 have g0 : List.getD (k :: vals) (Int.toNat 0) eB = k := rfl
 have g1 : List.getD (k :: vals) (Int.toNat 1) eB = gi vals 0 := rfl
 rw [q4a]
 simp only [k0, g0, g1, cT, qG, q2n t k hb, oB, q0l]
 unfold keyD
 by_cases e1 : u = q05
 ·simp only [dYT e1, cT, q2p k hk, oB, yR]; rfl
 ·simp only [dYF e1, cF]
  have hcnt : ∀ del : Bool, ((yT (t, (eB, false)) (k :: vals) del).bind fun r7 => (qF r7.1).bind fun r8 => (q9 r7.2.1 r8.1).bind fun r9 => some ((), (r9.2.1, ()))) = some ((), ((((k :: vals).foldl (cntK del) (0, t)).2, (numB ((k :: vals).foldl (cntK del) (0, t)).1, false)), ())) := fun del => by
   obtain ⟨b1, b2, _⟩ := q59 del (k :: vals) (0, t) hok
   simp only [List.length_cons] at b2
   rw [qjH del t _ (k :: vals) hok (by simp only [List.length_cons]; omega)]
   simp only [oB]
   rw [qM _ (by omega) (by omega)]
   simp only [oB, yR]
   rfl
  by_cases e2 : u = zh
  ·simp only [dYT e2, cT]
   exact hcnt true
  ·simp only [dYF e2, cF]
   by_cases e3 : u = wm
   ·simp only [dYT e3, cT]
    exact hcnt false
   ·simp only [dYF e3, cF]
    by_cases e4 : u = q06
    ·have := qdp (fndB t k).1.1
     simp only [dYT e4, cT, qir ht k, oB, q3i _ (show (tyB (fndB t k).1.1).size <= 2097152 by omega), yR]
     rfl
    ·simp only [dYF e4, cF]
     by_cases e5 : u = zD
     ·have hp := h2 e5
      have k1 : (decide ((0 : Int) <= 1) && decide ((1 : Int) < ((k :: vals).length : Int))) = true := by rw [dYT (show (1 : Int) < ((k :: vals).length : Int) by simp only [List.length_cons]; omega)]; rfl
      have hz : (gi vals 0).size <= 4194304 := hs (gi vals 0) (yg (d := eB) (show 0 < vals.length by omega))
      have i0 := q1u (gi vals 0)
      have w1 : w64 (100000 - (rdI (gi vals 0)).1) = 100000 - (rdI (gi vals 0)).1 := qj (by omega) (by omega)
      have w2 : w64 (now + (rdI (gi vals 0)).1) = now + (rdI (gi vals 0)).1 := qj (by omega) (by omega)
      have hd : decide (now > 100000 - (rdI (gi vals 0)).1) = decide (now + (rdI (gi vals 0)).1 > 100000) := decide_eq_decide.2 (by omega)
      simp only [dYT e5, cT, k1]
      rw [q3h, q3u _ _ (by omega)]
      simp only [oB, w1, w2, hd]
      cases hr : (rdI (gi vals 0)).2 with
      | false =>
       simp only [Bool.not_false, cT]
       show (((q2P t k).bind _).bind _) = _
       rw [q2n t k hb]
       rfl
      | true =>
       simp only [Bool.not_true, cF, q2n t k hb, oB]
       cases (fndB t k).2 with
       | false =>
        simp only [Bool.not_false, cT, qM 0 (by omega) (by omega), oB, yR]
        rfl
       | true =>
        simp only [Bool.not_true, cF]
        cases decide ((rdI (gi vals 0)).1 <= 0) with
        | true =>
         simp only [cT, q9m (t, (eB, false)) k hb has, qM 1 (by omega) (by omega), oB, yR]
         rfl
        | false =>
         simp only [cF]
         cases decide (now + (rdI (gi vals 0)).1 > 100000) with
         | true =>
          simp only [cT, q21 _ yx (by decide), oB]
          rfl
         | false =>
          simp only [cF, yN (t, (eB, false)) k _ hb has, qM 1 (by omega) (by omega), oB, yR]
          rfl
     ·simp only [dYF e5, cF]
      by_cases e6 : u = q3b
      ·have hin : -5000000 <= q6G (fndB t k).1 (fndB t k).2 now /\ q6G (fndB t k).1 (fndB t k).2 now <= 5000000 /\ qbU (fndB t k).1 (fndB t k).2 now = some (q6G (fndB t k).1 (fndB t k).2 now, ()) := by
        rw [qi4]
        unfold q6G
        simp only [q0l]
        cases hf : (fndB t k).2 with
        | false => exact ⟨by simp, by simp, by first | rfl | trivial⟩
        | true =>
         have hu := (q9C (q6a ht hf).1).2
         rw [show w64 ((fndB t k).1.2.1 - now) = (fndB t k).1.2.1 - now from qj (by omega) (by omega)]
         cases decide ((fndB t k).1.2.1 = 0) with
         | true => exact ⟨by simp, by simp, by first | rfl | trivial⟩
         | false =>
          simp only [Bool.not_true, cF]
          exact ⟨by omega, by omega, by first | rfl | trivial⟩
       simp only [dYT e6, cT, hin.2.2, oB, qM _ (show -9000000000000000000 <= q6G (fndB t k).1 (fndB t k).2 now by omega) (by omega), yR]
       rfl
      ·simp only [dYF e6, cF]
       cases decide ((fndB t k).1.2.1 = 0) with
       | true =>
        simp only [cT, qM 0 (by omega) (by omega), oB, yR]
        rfl
       | false =>
        simp only [cF, yN (t, (eB, false)) k _ hb has, qM 1 (by omega) (by omega), oB, yR]
        rfl
end Go.Den.S
