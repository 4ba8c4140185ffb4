/- PxU: equations of the functions of this seat as the executor tells them, or plain facts about them. Conditions: none here. -/
import Derived.Test.YtbgaejnkjmjkhaaGreatDoorPxT
set_option linter.all false
namespace Go.Den.S
open Go Go.Den
theorem qo7 {α : Type} (t : List DE) (k : BA) (NO TAIL : α) : (bif (fndB t k).2 then bif ((fndB t k).1.1 != 1) then NO else TAIL else TAIL) = bif qL t k 1 then NO else TAIL := by
 unfold qL
 rw [bneI]
 cases (fndB t k).2 <;> cases decide ((fndB t k).1.1 = 1) <;> rfl
section
variable (t : List DE) (ht : tabB t = true) (k : BA) (vals : List BA) (hv : vals.length <= 2097152)
include ht hv
theorem qcb (hk : k.size <= 4194304) (u : Int) (x : BA) (hx : x.size <= 4194304) (l : List BA) (hl : l.length <= 4194304) (hs : ∀ s ∈ l, s.size <= 4194304) : Bd (putB t k (1, (u, (x, l)))) := qbb ht hk hl hx hs
theorem qjq (u : BA) (hk : k.size <= 4194304) (h2 : ¬ u = jC -> ¬ u = yT -> ¬ u = jh -> ¬ u = jA -> 1 <= vals.length) (hs : ∀ s ∈ vals, s.size <= 2097152) : Bd (txtD t u k vals).1 := by
 have hb := wY ht
 obtain ⟨n1, n2, n3⟩ := q04 (k := k) ht
 have hz0 : 1 <= vals.length -> (gi vals 0).size <= 2097152 := fun h => hs (gi vals 0) (yg (d := eB) (show 0 < vals.length by omega))
 unfold txtD
 by_cases e3 : u = q0x
 ·have hp := h2 (by rw [e3]; decide +kernel) (by rw [e3]; decide +kernel) (by rw [e3]; decide +kernel) (by rw [e3]; decide +kernel)
  simp only [dYT e3, cT]
  exact qcb t ht k vals hv hk 0 _ (by have := hz0 hp; omega) [] (by simp) (fun s h => by cases h)
 ·simp only [dYF e3, cF]
  by_cases e4 : u = j4
  ·have hp := h2 (by rw [e4]; decide +kernel) (by rw [e4]; decide +kernel) (by rw [e4]; decide +kernel) (by rw [e4]; decide +kernel)
   simp only [dYT e4, cT]
   cases (fndB t k).2 with
   | true => exact hb
   | false => exact qcb t ht k vals hv hk 0 _ (by have := hz0 hp; omega) [] (by simp) (fun s h => by cases h)
  ·simp only [dYF e4, cF]
   cases hw : qL t k 1 with
   | true => exact hb
   | false =>
    simp only [cF]
    by_cases e1 : u = jC
    ·simp only [dYT e1, cT]; exact hb
    ·simp only [dYF e1, cF]
     by_cases e5 : u = zw
     ·have hp := h2 e1 (by rw [e5]; decide +kernel) (by rw [e5]; decide +kernel) (by rw [e5]; decide +kernel)
      simp only [dYT e5, cT]
      exact qcb t ht k vals hv hk 0 _ (by have := hz0 hp; omega) [] (by simp) (fun s h => by cases h)
     ·simp only [dYF e5, cF]
      by_cases e6 : u = zn
      ·have hp := h2 e1 (by rw [e6]; decide +kernel) (by rw [e6]; decide +kernel) (by rw [e6]; decide +kernel)
       simp only [dYT e6, cT]
       exact qcb t ht k vals hv hk _ _ (by rw [ByteArray.size_append]; have := hz0 hp; omega) _ (by omega) (fun s h => by have := n3 s h; omega)
      ·simp only [dYF e6, cF]
       cases decide (u = yT) with
       | true => exact hb
       | false =>
        simp only [cF]
        cases (byB u vals).2 with
        | false => exact hb
        | true => exact qja t ht k hk _ (qk7 u vals)
theorem qbW (a : BA) (hp : isB t (a :: k :: vals) txtN = true) (h1 : ¬ upB a = ze) (h1' : ¬ upB a = w9) (hk : k.size <= 4194304) (hal : ∀ s ∈ (a :: k :: vals), s.size <= 2097152) (h2 : ¬ upB a = jC -> ¬ upB a = yT -> ¬ upB a = jh -> ¬ upB a = jA -> 1 <= vals.length) (hl2 : (a :: k :: vals).length <= 2097152) :
  q52 t (a :: k :: vals) = some (wT (txtD t (upB a) k vals) t, ()) := by
 have hb := wY ht
 have hs : ∀ s ∈ vals, s.size <= 2097152 := fun s hs => hal s (List.mem_cons_of_mem _ (List.mem_cons_of_mem _ hs))
 obtain ⟨n1, n2, n3⟩ := q04 (k := k) ht
 have hft := qdl k hb
 have hbd := qjq t ht k vals hv (upB a) hk h2 hs
 have hz0 : 1 <= vals.length -> (gi vals 0).size <= 2097152 := fun h => hs (gi vals 0) (yg (d := eB) (show 0 < vals.length by omega))
 have hcl : (a :: k :: vals).length = vals.length + 2 := rfl
 have k1 : (decide ((0 : Int) <= 1) && decide ((1 : Int) < ((a :: k :: vals).length : Int))) = true := by rw [dYT (show (1 : Int) < ((a :: k :: vals).length : Int) by omega)]; rfl
 have k0 : (decide ((0 : Int) <= 0) && decide ((0 : Int) < ((a :: k :: vals).length : Int))) = true := by rw [dYT (show (0 : Int) < ((a :: k :: vals).length : Int) by omega)]; rfl
 have k2 : 1 <= vals.length -> (decide ((0 : Int) <= 2) && decide ((2 : Int) < ((a :: k :: vals).length : Int))) = true := fun h => by rw [dYT (show (2 : Int) < ((a :: k :: vals).length : Int) by omega)]; rfl
 have g1 : List.getD (a :: k :: vals) (Int.toNat 1) eB = k := rfl
 have g2 : List.getD (a :: k :: vals) (Int.toNat 2) eB = gi vals 0 := rfl
 have g0 : yH (List.getD (a :: k :: vals) (Int.toNat 0) eB) = some (upB a, ()) := zC a (by have := hal a (List.mem_cons_self ..); omega)
 have hdone : ∀ (t' : List DE) (r : BA), Bd t' -> yE t t' r = some (wT (t', (r, false)) t, ()) := fun t' r h => q62 t t' r hb h
 rw [q0V, show yX t (a :: k :: vals) [jC, q0x, j4, zw, zn, yT, jh, jA, q0F, zX, ze, w9] = some (isB t (a :: k :: vals) txtN, ()) from zm t _ _ hb hl2 hal (by decide), hp]
 simp only [oB, Bool.not_true, cF, k1, k0, cT, g1, g2, g0, qM, dYF h1, dYF h1', q2F t k hb, qgs t k _ hb, qe5 t k hb, yC t hb, q6t t yA hb (by decide), q6t t qQ hb (by decide), q1o c_OK (by decide), qY 0 (by omega) (by omega), qY 1 (by omega) (by omega)]
 unfold txtD at hbd ⊢
 by_cases e3 : upB a = q0x
 ·have hp := h2 (by rw [e3]; decide +kernel) (by rw [e3]; decide +kernel) (by rw [e3]; decide +kernel) (by rw [e3]; decide +kernel)
  simp only [dYT e3, cT] at hbd ⊢
  simp only [k2 hp, cT, hdone _ _ hbd, oB]
 ·simp only [dYF e3, cF] at hbd ⊢
  by_cases e4 : upB a = j4
  ·have hp := h2 (by rw [e4]; decide +kernel) (by rw [e4]; decide +kernel) (by rw [e4]; decide +kernel) (by rw [e4]; decide +kernel)
   simp only [dYT e4, cT, k2 hp] at hbd ⊢
   cases hf : (fndB t k).2 with
   | true => simp only [cT, yV t ht vals hv]
   | false =>
    rw [hf] at hbd
    simp only [cF] at hbd ⊢
    rw [hdone _ _ hbd]; rfl
  ·simp only [dYF e4, cF] at hbd ⊢
   rw [qo7]
   cases hw : qL t k 1 with
   | true => rfl
   | false =>
    rw [hw] at hbd
    simp only [cF] at hbd ⊢
    by_cases e1 : upB a = jC
    ·simp only [dYT e1, cT, yV t ht vals hv]
    ·simp only [dYF e1, cF] at hbd ⊢
     by_cases e5 : upB a = zw
     ·have hp := h2 e1 (by rw [e5]; decide +kernel) (by rw [e5]; decide +kernel) (by rw [e5]; decide +kernel)
      simp only [dYT e5, cT] at hbd ⊢
      simp only [k2 hp, cT, hdone _ _ hbd, oB]
     ·simp only [dYF e5, cF] at hbd ⊢
      by_cases e6 : upB a = zn
      ·have hp := h2 e1 (by rw [e6]; decide +kernel) (by rw [e6]; decide +kernel) (by rw [e6]; decide +kernel)
       have hz := hz0 hp
       have hsz : ((undB t k).2.1 ++ gi vals 0).size = (undB t k).2.1.size + (gi vals 0).size := ByteArray.size_append
       have hN := qY (((undB t k).2.1 ++ gi vals 0).size : Int) (by omega) (by omega)
       have hN' : qF ((((fndB t k).1.2.2.1 ++ gi vals 0).size : Nat) : Int) = some (numB (((undB t k).2.1 ++ gi vals 0).size : Int), ()) := hN
       have hL : limS ((fndB t k).1.2.2.1.size + (gi vals 0).size) = true := yJ (by omega)
       simp only [dYT e6, cT] at hbd ⊢
       simp only [k2 hp, hL, cT, q0U t k _ hb, show decide ((1 : Int) = 0) = false from rfl, cF, hN', oB]
       have hd := hdone _ (numB (((undB t k).2.1 ++ gi vals 0).size : Int)) hbd
       show ((yE t (putB t k (1, ((undB t k).1, ((undB t k).2.1 ++ gi vals 0, (undB t k).2.2)))) (numB (((undB t k).2.1 ++ gi vals 0).size : Int))).bind _) = _
       rw [hd]
       rfl
      ·simp only [dYF e6, cF] at hbd ⊢
       by_cases e2 : upB a = yT
       ·have hN := qY ((undB t k).2.1.size : Int) (by omega) (by omega)
        have hN' : qF ((fndB t k).1.2.2.1.size : Int) = some (numB ((undB t k).2.1.size : Int), ()) := hN
        simp only [dYT e2, cT, hN', oB, yV t ht vals hv]
       ·simp only [dYF e2, cF] at hbd ⊢
        have hBy : q8m (upB a) (a :: k :: vals) = some (byB (upB a) vals, ()) := by
         rw [qgO]
         unfold byB
         simp only [qM]
         by_cases e7 : upB a = jh
         ·simp only [dYT e7, cT]
         ·simp only [dYF e7, cF]
          by_cases e8 : upB a = jA
          ·simp only [dYT e8, cT]
          ·have hp := h2 e1 e2 e7 e8
           have hz := hz0 hp
           have i0 := q1N (gi vals 0)
           have w1 : w64 (0 - (rdI (gi vals 0)).1) = -(rdI (gi vals 0)).1 := by show IntKind.i64.wrap _ = _; rw [ql (by omega) (by omega)]; omega
           simp only [dYF e8, cF, k2 hp, cT, g2, q1I _ (show (gi vals 0).size <= 100000000 by omega), oB, w1]
           cases decide (upB a = zX) <;> rfl
        rw [hBy]
        simp only [oB]
        cases hr : (byB (upB a) vals).2 with
        | false => rfl
        | true =>
         simp only [Bool.not_true, cF]
         rw [qiF t ht k hk _ (qk7 _ _) hw]
         rfl
end
end Go.Den.S
