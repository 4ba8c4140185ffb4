/- PxZ: equations of the functions of this seat as the executor tells them, or plain facts about them. Conditions: none here. -/
import Derived.Test.YthfdlonnbkffnaaGreatDoorPxY
set_option linter.all false
namespace Go.Den.S
open Go Go.Den
def keyN : List BA := [q0f, q05, zh, wm, q06, zD, q3b, q1d, q0i, zM, wM]
theorem qn0 : strings_Fields q2e = some (keyN, ()) := (wu _).trans (by kernel_rfl)
theorem qky {t : List DE} (k : BA) (ht : tabB t = true) : (fndB t k).1.2.2.2.length <= 24 /\ (fndB t k).1.2.2.1.size <= 60 /\ ∀ s ∈ (fndB t k).1.2.2.2, s.size <= 60 := jE (k := k) ht
theorem qjn (t : List DE) (ht : tabB t = true) (now : Int) (u k : BA) (vals : List BA) (hk : k.size <= 4194304) : Bd (keyD t now u k vals).1 := by
 have hb := wR ht
 have has := q1m ht
 obtain ⟨n1, n2, n3⟩ := qky k ht
 have hput : ∀ n m : Int, Bd (putB t k (n, (m, (fndB t k).1.2.2))) := fun n m => qcu ht hk (show (fndB t k).1.2.2.2.length <= _ by omega) (show (fndB t k).1.2.2.1.size <= _ by omega) fun s hs => by have := n3 s hs; omega
 unfold keyD
 cases decide (u = q05)
 ·simp only [cF]
  cases decide (u = zh)
  ·simp only [cF]
   cases decide (u = wm)
   ·simp only [cF]
    cases decide (u = q06)
    ·simp only [cF]
     cases decide (u = zD)
     ·simp only [cF]
      cases decide (u = q3b)
      ·simp only [cF]
       cases decide ((fndB t k).1.2.1 = 0)
       ·exact hput _ _
       ·exact hb
      ·exact hb
     ·simp only [cT]
      cases (rdI (gi vals 0)).2
      ·exact hb
      ·cases (fndB t k).2
       ·exact hb
       ·cases decide ((rdI (gi vals 0)).1 <= 0)
        ·cases decide (now + (rdI (gi vals 0)).1 > 100000)
         ·exact hput _ _
         ·exact hb
        ·exact qfq hb has
    ·exact hb
   ·exact (q59 false (k :: vals) (0, t) ⟨hb, has⟩).2.2.bd
  ·exact (q59 true (k :: vals) (0, t) ⟨hb, has⟩).2.2.bd
 ·exact hb
theorem qiU {t : List DE} (ht : tabB t = true) {k : BA} (hf : (fndB t k).2 = true) : decide ((fndB t k).1.1 = 0) = false := by
 have := (q9C (q6a ht hf).1).1
 exact dYF (by omega)
theorem qd6 (t : List DE) (ht : tabB t = true) (now : Int) (hnow : 0 <= now /\ now <= 100000) (a k : BA) (vals : List BA) (hv : vals.length <= 2097150) (hp : isB t (a :: k :: vals) keyN = true) (hk : k.size <= 4194304) (h2 : upB a = zD -> 1 <= vals.length) (hal : ∀ s ∈ (a :: k :: vals), s.size <= 2097152)
  (hu : upB a ∈ keyN) (m1 : ¬ upB a = q0f) (m2 : ¬ upB a = q0i) (m3 : ¬ upB a = zM) (m4 : ¬ upB a = wM) :
  j5 t now (a :: k :: vals) = some (zX (keyD t now (upB a) k vals) t, ()) := by
 have hb := wR ht
 have has := q1m ht
 have hbd := qjn t ht now (upB a) k vals hk
 obtain ⟨n1, n2, n3⟩ := qky k ht
 have hcl : (a :: k :: vals).length = vals.length + 2 := rfl
 have k1 : (decide ((0 : Int) <= 1) && decide ((1 : Int) < ((a :: k :: vals).length : Int))) = true := by rw [dYT (show (1 : Int) < ((a :: k :: vals).length : Int) by omega)]; rfl
 have k0 : (decide ((0 : Int) <= 0) && decide ((0 : Int) < ((a :: k :: vals).length : Int))) = true := by rw [dYT (show (0 : Int) < ((a :: k :: vals).length : Int) by omega)]; rfl
 have g1 : List.getD (a :: k :: vals) (Int.toNat 1) eB = k := rfl
 have g2 : List.getD (a :: k :: vals) (Int.toNat 2) eB = gi vals 0 := rfl
 have g0 : yF (List.getD (a :: k :: vals) (Int.toNat 0) eB) = some (upB a, ()) := zo a (by have := hal a (List.mem_cons_self ..); omega)
 have hdone : ∀ (t' : List DE) (r : BA), Bd t' -> yh t t' r = some (zX (t', (r, false)) t, ()) := fun t' r h => q6b t t' r hb h
 have hkz := hal k (List.mem_cons_of_mem _ (List.mem_cons_self ..))
 rw [jc, jF, dYT hnow.1, dYT hnow.2]
 have hsp := wQ t (a :: k :: vals) keyN hb (by omega) hal (by decide)
 rw [hp] at hsp
 rw [show yG t (a :: k :: vals) [q0f, q05, zh, wm, q06, zD, q3b, q1d, q0i, zM, wM] = some (true, ()) from hsp]
 simp only [oB, Bool.and_self, Bool.not_true, cF, k0, k1, cT, g0, g1, qG, dYF m1, dYF m2, dYF m3, dYF m4, qW t hb, q2o t k hb]
 unfold keyD at hbd ⊢
 by_cases e1 : upB a = q05
 ·simp only [dYT e1, cT, q2g k (by omega), oB, yH t ht vals (by omega)]
 ·simp only [dYF e1, cF] at hbd ⊢
  have hmany : ∀ del, decide (upB a = zh) = del -> ((q6Z t (a :: k :: vals)).bind fun r8 => some (r8.1, ())) = some (zX ((((k :: vals).foldl (cntK del) (0, t)).2, (numB ((k :: vals).foldl (cntK del) (0, t)).1, false))) t, ()) := fun del hdel => by
   obtain ⟨b1, b2, b3⟩ := q59 del (k :: vals) (0, t) ⟨hb, has⟩
   simp only [List.length_cons] at b2
   rw [qeN, qmD t t a (k :: vals) ⟨hb, has⟩ (by simp only [List.length_cons]; omega) (hal a (List.mem_cons_self ..)), hdel, qR _ (by omega) (by omega)]
   simp only [oB]
   rw [hdone _ _ b3.bd]
   rfl
  by_cases e2 : upB a = zh
  ·simp only [dYT e2, cT]
   exact hmany true (dYT e2)
  ·simp only [dYF e2, cF] at hbd ⊢
   by_cases e3 : upB a = wm
   ·simp only [dYT e3, cT]
    exact hmany false (dYF e2)
   ·simp only [dYF e3, cF] at hbd ⊢
    by_cases e4 : upB a = q06
    ·have := qdp (fndB t k).1.1
     simp only [dYT e4, cT, qhV, q11 _ (show (tyB (fndB t k).1.1).size <= 2097152 by omega), oB, yH t ht vals (by omega)]
    ·simp only [dYF e4, cF] at hbd ⊢
     rw [qeQ]
     simp only [k0, k1, g0, g1, g2, cT, q2o t k hb, oB, qG, qW t hb, q0l, qR 0 (by omega) (by omega), qR 1 (by omega) (by omega), qR (-1) (by omega) (by omega), qR (-2) (by omega) (by omega), q6o t qL hb (by decide), q6o t yx hb (by decide)]
     by_cases e5 : upB a = zD
     ·have hp1 := h2 e5
      have d1 : decide (upB a = q3b) = false := dYF (by rw [e5]; decide +kernel)
      have d2 : decide (upB a = q1d) = false := dYF (by rw [e5]; decide +kernel)
      have k2 : (decide ((0 : Int) <= 2) && decide ((2 : Int) < ((a :: k :: vals).length : Int))) = true := by rw [dYT (show (2 : Int) < ((a :: k :: vals).length : Int) by omega)]; rfl
      have hz : (gi vals 0).size <= 2097152 := hal (gi vals 0) (List.mem_cons_of_mem _ (List.mem_cons_of_mem _ (yg (d := eB) (show 0 < vals.length by omega))))
      have i0 := q1u (gi vals 0)
      have w2 : w64 (now + (rdI (gi vals 0)).1) = now + (rdI (gi vals 0)).1 := qj (by omega) (by omega)
      simp only [dYT e5, d1, d2, k2, cT, cF, q1n _ (show (gi vals 0).size <= 100000000 by omega), oB, w2] at hbd ⊢
      cases hr : (rdI (gi vals 0)).2 with
      | false => rfl
      | true =>
       rw [hr] at hbd
       simp only [Bool.not_true, cF] at hbd ⊢
       cases hf : (fndB t k).2 with
       | false => simp only [Bool.not_false, cT, oB, yH t ht vals (by omega)]
       | true =>
        rw [hf] at hbd
        simp only [Bool.not_true, cF] at hbd ⊢
        cases hn : decide ((rdI (gi vals 0)).1 <= 0) with
        | true =>
         rw [hn] at hbd
         simp only [cT] at hbd ⊢
         simp only [q0u t k _ hb, decide_true, cT, oB, hdone _ _ hbd]
        | false =>
         rw [hn] at hbd
         simp only [cF] at hbd ⊢
         cases hx : decide (now + (rdI (gi vals 0)).1 > 100000) with
         | true => rfl
         | false =>
          rw [hx] at hbd
          simp only [cF] at hbd ⊢
          simp only [q0u t k _ hb, qiU ht hf, cF, oB, hdone _ _ hbd]
     ·simp only [dYF e5, cF] at hbd ⊢
      by_cases e6 : upB a = q3b
      ·simp only [dYT e6, cT]
       unfold q6G
       cases hf : (fndB t k).2 with
       | false => simp only [cF, Bool.not_false, cT, oB, yH t ht vals (by omega)]
       | true =>
        have hun := (q9C (q6a ht hf).1).2
        have w3 : w64 ((fndB t k).1.2.1 - now) = (fndB t k).1.2.1 - now := qj (by omega) (by omega)
        simp only [cT, Bool.not_true, cF, w3, qR ((fndB t k).1.2.1 - now) (by omega) (by omega), oB]
        by_cases hz : (fndB t k).1.2.1 = 0
        ·rw [dYF (show ¬ ((fndB t k).1.2.1 > 0) by omega), dYT hz]
         simp only [cT, cF, oB, yH t ht vals (by omega)]
        ·rw [dYT (show ((fndB t k).1.2.1 > 0) by omega), dYF hz]
         simp only [cT, cF, oB, yH t ht vals (by omega)]
      ·have e7 : upB a = q1d := by
        unfold keyN at hu
        simp only [List.mem_cons, List.not_mem_nil, or_false] at hu
        rcases hu with h | h | h | h | h | h | h | h | h | h | h
        ·exact absurd h m1
        ·exact absurd h e1
        ·exact absurd h e2
        ·exact absurd h e3
        ·exact absurd h e4
        ·exact absurd h e5
        ·exact absurd h e6
        ·exact h
        ·exact absurd h m2
        ·exact absurd h m3
        ·exact absurd h m4
       simp only [dYF e6, dYT e7, cT, cF] at hbd ⊢
       cases hz : decide ((fndB t k).1.2.1 = 0) with
       | true => simp only [cT, oB, yH t ht vals (by omega)]
       | false =>
        rw [hz] at hbd
        have hf : (fndB t k).2 = true := by
         cases hf : (fndB t k).2 with
         | true => rfl
         | false =>
          rw [qhT hf] at hz
          exact absurd hz (by decide)
        simp only [cF] at hbd ⊢
        simp only [q0u t k _ hb, qiU ht hf, cF, oB, hdone _ _ hbd]
end Go.Den.S
