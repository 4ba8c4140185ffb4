/- PxU: equations of the functions of this seat as the executor tells them, or plain facts about them. Conditions: none here. -/
import Derived.Test.YthfdlonnbkffnaaGreatDoorPxT
set_option linter.all false
namespace Go.Den.S
open Go Go.Den
theorem qnb {α : Type} (t : List DE) (k : BA) (NO TAIL : α) : (bif (fndB t k).2 then bif ((fndB t k).1.1 != 1) then NO else TAIL else TAIL) = bif qH t k 1 then NO else TAIL := by
 unfold qH
 rw [bneI]
 cases (fndB t k).2 <;> cases decide ((fndB t k).1.1 = 1) <;> rfl
section
variable (t : List DE) (ht : tabB t = true) (k : BA) (vals : List BA) (hv : vals.length <= 2097152)
include ht hv
theorem qcJ (hk : k.size <= 4194304) (u : Int) (x : BA) (hx : x.size <= 4194304) (l : List BA) (hl : l.length <= 4194304) (hs : ∀ s ∈ l, s.size <= 4194304) : Bd (putB t k (1, (u, (x, l)))) := qcu ht hk hl hx hs
theorem qiJ (u : BA) (hk : k.size <= 4194304) (h2 : ¬ u = jr -> ¬ u = yM -> ¬ u = zV -> ¬ u = zU -> 1 <= vals.length) (hs : ∀ s ∈ vals, s.size <= 2097152) : Bd (txtD t u k vals).1 := by
 have hb := wR ht
 obtain ⟨n1, n2, n3⟩ := jE (k := k) ht
 have hz0 : 1 <= vals.length -> (gi vals 0).size <= 2097152 := fun h => hs (gi vals 0) (yg (d := eB) (show 0 < vals.length by omega))
 unfold txtD
 by_cases e3 : u = q0L
 ·have hp := h2 (by rw [e3]; decide +kernel) (by rw [e3]; decide +kernel) (by rw [e3]; decide +kernel) (by rw [e3]; decide +kernel)
  simp only [dYT e3, cT]
  exact qcJ t ht k vals hv hk 0 _ (by have := hz0 hp; omega) [] (by simp) (fun s h => by cases h)
 ·simp only [dYF e3, cF]
  by_cases e4 : u = zN
  ·have hp := h2 (by rw [e4]; decide +kernel) (by rw [e4]; decide +kernel) (by rw [e4]; decide +kernel) (by rw [e4]; decide +kernel)
   simp only [dYT e4, cT]
   cases (fndB t k).2 with
   | true => exact hb
   | false => exact qcJ t ht k vals hv hk 0 _ (by have := hz0 hp; omega) [] (by simp) (fun s h => by cases h)
  ·simp only [dYF e4, cF]
   cases hw : qH t k 1 with
   | true => exact hb
   | false =>
    simp only [cF]
    by_cases e1 : u = jr
    ·simp only [dYT e1, cT]; exact hb
    ·simp only [dYF e1, cF]
     by_cases e5 : u = z8
     ·have hp := h2 e1 (by rw [e5]; decide +kernel) (by rw [e5]; decide +kernel) (by rw [e5]; decide +kernel)
      simp only [dYT e5, cT]
      exact qcJ t ht k vals hv hk 0 _ (by have := hz0 hp; omega) [] (by simp) (fun s h => by cases h)
     ·simp only [dYF e5, cF]
      by_cases e6 : u = za
      ·have hp := h2 e1 (by rw [e6]; decide +kernel) (by rw [e6]; decide +kernel) (by rw [e6]; decide +kernel)
       simp only [dYT e6, cT]
       exact qcJ t ht k vals hv hk _ _ (by rw [ByteArray.size_append]; have := hz0 hp; omega) _ (by omega) (fun s h => by have := n3 s h; omega)
      ·simp only [dYF e6, cF]
       cases decide (u = yM) with
       | true => exact hb
       | false =>
        simp only [cF]
        cases (byB u vals).2 with
        | false => exact hb
        | true => exact qji t ht k hk _ (qk4 u vals)
theorem qcb (a : BA) (hp : isB t (a :: k :: vals) txtN = true) (h1 : ¬ upB a = zR) (h1' : ¬ upB a = zI) (hk : k.size <= 4194304) (hal : ∀ s ∈ (a :: k :: vals), s.size <= 2097152) (h2 : ¬ upB a = jr -> ¬ upB a = yM -> ¬ upB a = zV -> ¬ upB a = zU -> 1 <= vals.length) (hl2 : (a :: k :: vals).length <= 2097152) :
  q4y t (a :: k :: vals) = some (zX (txtD t (upB a) k vals) t, ()) := by
 have hb := wR ht
 have hs : ∀ s ∈ vals, s.size <= 2097152 := fun s hs => hal s (List.mem_cons_of_mem _ (List.mem_cons_of_mem _ hs))
 obtain ⟨n1, n2, n3⟩ := jE (k := k) ht
 have hft := qdv k hb
 have hbd := qiJ t ht k vals hv (upB a) hk h2 hs
 have hz0 : 1 <= vals.length -> (gi vals 0).size <= 2097152 := fun h => hs (gi vals 0) (yg (d := eB) (show 0 < vals.length by omega))
 have hcl : (a :: k :: vals).length = vals.length + 2 := rfl
 have k1 : (decide ((0 : Int) <= 1) && decide ((1 : Int) < ((a :: k :: vals).length : Int))) = true := by rw [dYT (show (1 : Int) < ((a :: k :: vals).length : Int) by omega)]; rfl
 have k0 : (decide ((0 : Int) <= 0) && decide ((0 : Int) < ((a :: k :: vals).length : Int))) = true := by rw [dYT (show (0 : Int) < ((a :: k :: vals).length : Int) by omega)]; rfl
 have k2 : 1 <= vals.length -> (decide ((0 : Int) <= 2) && decide ((2 : Int) < ((a :: k :: vals).length : Int))) = true := fun h => by rw [dYT (show (2 : Int) < ((a :: k :: vals).length : Int) by omega)]; rfl
 have g1 : List.getD (a :: k :: vals) (Int.toNat 1) eB = k := rfl
 have g2 : List.getD (a :: k :: vals) (Int.toNat 2) eB = gi vals 0 := rfl
 have g0 : yF (List.getD (a :: k :: vals) (Int.toNat 0) eB) = some (upB a, ()) := zo a (by have := hal a (List.mem_cons_self ..); omega)
 have hdone : ∀ (t' : List DE) (r : BA), Bd t' -> yh t t' r = some (zX (t', (r, false)) t, ()) := fun t' r h => q6b t t' r hb h
 rw [q0D, show yG t (a :: k :: vals) [jr, q0L, zN, z8, za, yM, zV, zU, q0C, zO, zR, zI] = some (isB t (a :: k :: vals) txtN, ()) from wQ t _ _ hb hl2 hal (by decide), hp]
 simp only [oB, Bool.not_true, cF, k1, k0, cT, g1, g2, g0, qG, dYF h1, dYF h1', q2o t k hb, qgd t k _ hb, qek t k hb, qW t hb, q6o t y5 hb (by decide), q6o t qL hb (by decide), q11 c_OK (by decide), qR 0 (by omega) (by omega), qR 1 (by omega) (by omega)]
 unfold txtD at hbd ⊢
 by_cases e3 : upB a = q0L
 ·have hp := h2 (by rw [e3]; decide +kernel) (by rw [e3]; decide +kernel) (by rw [e3]; decide +kernel) (by rw [e3]; decide +kernel)
  simp only [dYT e3, cT] at hbd ⊢
  simp only [k2 hp, cT, hdone _ _ hbd, oB]
 ·simp only [dYF e3, cF] at hbd ⊢
  by_cases e4 : upB a = zN
  ·have hp := h2 (by rw [e4]; decide +kernel) (by rw [e4]; decide +kernel) (by rw [e4]; decide +kernel) (by rw [e4]; decide +kernel)
   simp only [dYT e4, cT, k2 hp] at hbd ⊢
   cases hf : (fndB t k).2 with
   | true => simp only [cT, yH t ht vals hv]
   | false =>
    rw [hf] at hbd
    simp only [cF] at hbd ⊢
    rw [hdone _ _ hbd]; rfl
  ·simp only [dYF e4, cF] at hbd ⊢
   rw [qnb]
   cases hw : qH t k 1 with
   | true => rfl
   | false =>
    rw [hw] at hbd
    simp only [cF] at hbd ⊢
    by_cases e1 : upB a = jr
    ·simp only [dYT e1, cT, yH t ht vals hv]
    ·simp only [dYF e1, cF] at hbd ⊢
     by_cases e5 : upB a = z8
     ·have hp := h2 e1 (by rw [e5]; decide +kernel) (by rw [e5]; decide +kernel) (by rw [e5]; decide +kernel)
      simp only [dYT e5, cT] at hbd ⊢
      simp only [k2 hp, cT, hdone _ _ hbd, oB]
     ·simp only [dYF e5, cF] at hbd ⊢
      by_cases e6 : upB a = za
      ·have hp := h2 e1 (by rw [e6]; decide +kernel) (by rw [e6]; decide +kernel) (by rw [e6]; decide +kernel)
       have hz := hz0 hp
       have hsz : ((undB t k).2.1 ++ gi vals 0).size = (undB t k).2.1.size + (gi vals 0).size := ByteArray.size_append
       have hN := qR (((undB t k).2.1 ++ gi vals 0).size : Int) (by omega) (by omega)
       have hN' : qD ((((fndB t k).1.2.2.1 ++ gi vals 0).size : Nat) : Int) = some (numB (((undB t k).2.1 ++ gi vals 0).size : Int), ()) := hN
       have hL : limS ((fndB t k).1.2.2.1.size + (gi vals 0).size) = true := yj (by omega)
       simp only [dYT e6, cT] at hbd ⊢
       simp only [k2 hp, hL, cT, q0u t k _ hb, show decide ((1 : Int) = 0) = false from rfl, cF, hN', oB]
       have hd := hdone _ (numB (((undB t k).2.1 ++ gi vals 0).size : Int)) hbd
       show ((yh t (putB t k (1, ((undB t k).1, ((undB t k).2.1 ++ gi vals 0, (undB t k).2.2)))) (numB (((undB t k).2.1 ++ gi vals 0).size : Int))).bind _) = _
       rw [hd]
       rfl
      ·simp only [dYF e6, cF] at hbd ⊢
       by_cases e2 : upB a = yM
       ·have hN := qR ((undB t k).2.1.size : Int) (by omega) (by omega)
        have hN' : qD ((fndB t k).1.2.2.1.size : Int) = some (numB ((undB t k).2.1.size : Int), ()) := hN
        simp only [dYT e2, cT, hN', oB, yH t ht vals hv]
       ·simp only [dYF e2, cF] at hbd ⊢
        have hBy : q91 (upB a) (a :: k :: vals) = some (byB (upB a) vals, ()) := by
         rw [qgQ]
         unfold byB
         simp only [qG]
         by_cases e7 : upB a = zV
         ·simp only [dYT e7, cT]
         ·simp only [dYF e7, cF]
          by_cases e8 : upB a = zU
          ·simp only [dYT e8, cT]
          ·have hp := h2 e1 e2 e7 e8
           have hz := hz0 hp
           have i0 := q1u (gi vals 0)
           have w1 : w64 (0 - (rdI (gi vals 0)).1) = -(rdI (gi vals 0)).1 := by show IntKind.i64.wrap _ = _; rw [qj (by omega) (by omega)]; omega
           simp only [dYF e8, cF, k2 hp, cT, g2, q1n _ (show (gi vals 0).size <= 100000000 by omega), oB, w1]
           cases decide (upB a = zO) <;> rfl
        rw [hBy]
        simp only [oB]
        cases hr : (byB (upB a) vals).2 with
        | false => rfl
        | true =>
         simp only [Bool.not_true, cF]
         rw [qiq t ht k hk _ (qk4 _ _) hw]
         rfl
end
end Go.Den.S
