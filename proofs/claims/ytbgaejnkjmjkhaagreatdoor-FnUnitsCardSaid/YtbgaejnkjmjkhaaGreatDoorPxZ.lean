/- PxZ: equations of the functions of this seat as the executor tells them, or plain facts about them. Conditions: none here. -/
import Derived.Test.YtbgaejnkjmjkhaaGreatDoorPxY
set_option linter.all false
namespace Go.Den.S
open Go Go.Den
def keyN:List BA:=[zf,jc,wQ,yN,q02,zy,q1Q,q1u,zn,yT,yD]
theorem qnr:strings_Fields q2n=some (keyN,()):=(wH _).trans (by kernel_rfl)
theorem ql5 {t:List DE} (k:BA) (ht:tabB t=true):(fndB t k).1.2.2.2.length<=24/\(fndB t k).1.2.2.1.size<=60/\∀ s∈(fndB t k).1.2.2.2,s.size<=60:=jX (k:=k) ht
theorem qiV (t:List DE) (ht:tabB t=true) (now:Int) (u k:BA) (vals:List BA) (hk:k.size<=4194304):Bd (keyD t now u k vals).1:=by
 have hb:=z8 ht
 have has:=q1x ht
 obtain ⟨n1,n2,n3⟩:=ql5 k ht
 have hput:∀ n m:Int,Bd (putB t k (n,(m,(fndB t k).1.2.2))):=fun n m=>qbb ht hk (show (fndB t k).1.2.2.2.length<=_ by omega) (show (fndB t k).1.2.2.1.size<=_ by omega) fun s hs=>by have:=n3 s hs; omega
 unfold keyD
 cases decide (u=jc)
 ·simp only [cF]
  cases decide (u=wQ)
  ·simp only [cF]
   cases decide (u=yN)
   ·simp only [cF]
    cases decide (u=q02)
    ·simp only [cF]
     cases decide (u=zy)
     ·simp only [cF]
      cases decide (u=q1Q)
      ·simp only [cF]
       cases decide ((fndB t k).1.2.1=0)
       ·exact hput _ _
       ·exact hb
      ·exact hb
     ·simp only [cT]
      cases (rdI (gi vals 0)).2
      ·exact hb
      ·cases (fndB t k).2
       ·exact hb
       ·cases decide ((rdI (gi vals 0)).1<=0)
        ·cases decide (now+(rdI (gi vals 0)).1 > 100000)
         ·exact hput _ _
         ·exact hb
        ·exact qeY hb has
    ·exact hb
   ·exact (q52 false (k::vals) (0,t) ⟨hb,has⟩).2.2.bd
  ·exact (q52 true (k::vals) (0,t) ⟨hb,has⟩).2.2.bd
 ·exact hb
theorem qj7 {t:List DE} (ht:tabB t=true) {k:BA} (hf:(fndB t k).2=true):decide ((fndB t k).1.1=0)=false:=by
 have:=(q8I (q5N ht hf).1).1
 exact dYF (by omega)
theorem qcf (t:List DE) (ht:tabB t=true) (now:Int) (hnow:0<=now/\now<=100000) (a k:BA) (vals:List BA) (hv:vals.length<=2097150) (hp:isB t (a::k::vals) keyN=true) (hk:k.size<=4194304) (h2:upB a=zy->1<=vals.length) (hal:∀ s∈(a::k::vals),s.size<=2097152)
  (hu:upB a∈keyN) (m1:¬ upB a=zf) (m2:¬ upB a=zn) (m3:¬ upB a=yT) (m4:¬ upB a=yD) :
  jC t now (a::k::vals)=some (zJ (keyD t now (upB a) k vals) t,()):=by
 have hb:=z8 ht
 have has:=q1x ht
 have hbd:=qiV t ht now (upB a) k vals hk
 obtain ⟨n1,n2,n3⟩:=ql5 k ht
 have hcl:(a::k::vals).length=vals.length+2:=rfl
 have k1:(decide ((0:Int)<=1)&&decide ((1:Int) < ((a::k::vals).length:Int)))=true:=by rw [dYT (show (1:Int) < ((a::k::vals).length:Int) by omega)]; rfl
 have k0:(decide ((0:Int)<=0)&&decide ((0:Int) < ((a::k::vals).length:Int)))=true:=by rw [dYT (show (0:Int) < ((a::k::vals).length:Int) by omega)]; rfl
 have g1:List.getD (a::k::vals) (Int.toNat 1) eB=k:=rfl
 have g2:List.getD (a::k::vals) (Int.toNat 2) eB=gi vals 0:=rfl
 have g0:yC (List.getD (a::k::vals) (Int.toNat 0) eB)=some (upB a,()):=zx a (by have:=hal a (List.mem_cons_self ..); omega)
 have hdone:∀ (t':List DE) (r:BA),Bd t'->yA t t' r=some (zJ (t',(r,false)) t,()):=fun t' r h=>q5I t t' r hb h
 have hkz:=hal k (List.mem_cons_of_mem _ (List.mem_cons_self ..))
 rw [jv,jW,dYT hnow.1,dYT hnow.2]
 have hsp:=zh t (a::k::vals) keyN hb (by omega) hal (by decide)
 rw [hp] at hsp
 rw [show yS t (a::k::vals) [zf,jc,wQ,yN,q02,zy,q1Q,q1u,zn,yT,yD]=some (true,()) from hsp]
 simp only [oB,Bool.and_self,Bool.not_true,cF,k0,k1,cT,g0,g1,qN,dYF m1,dYF m2,dYF m3,dYF m4,yw t hb,q2e t k hb]
 unfold keyD at hbd ⊢
 by_cases e1:upB a=jc
 ·simp only [dYT e1,cT,q2j k (by omega),oB,yR t ht vals (by omega)]
 ·simp only [dYF e1,cF] at hbd ⊢
  have hmany:∀ del,decide (upB a=wQ)=del->((q5U t (a::k::vals)).bind fun r8=>some (r8.1,()))=some (zJ ((((k::vals).foldl (cntK del) (0,t)).2,(numB ((k::vals).foldl (cntK del) (0,t)).1,false))) t,()):=fun del hdel=>by
   obtain ⟨b1,b2,b3⟩:=q52 del (k::vals) (0,t) ⟨hb,has⟩
   simp only [List.length_cons] at b2
   rw [qdi,qmu t t a (k::vals) ⟨hb,has⟩ (by simp only [List.length_cons]; omega) (hal a (List.mem_cons_self ..)),hdel,qW _ (by omega) (by omega)]
   simp only [oB]
   rw [hdone _ _ b3.bd]
   rfl
  by_cases e2:upB a=wQ
  ·simp only [dYT e2,cT]
   exact hmany true (dYT e2)
  ·simp only [dYF e2,cF] at hbd ⊢
   by_cases e3:upB a=yN
   ·simp only [dYT e3,cT]
    exact hmany false (dYF e2)
   ·simp only [dYF e3,cF] at hbd ⊢
    by_cases e4:upB a=q02
    ·have:=qdd (fndB t k).1.1
     simp only [dYT e4,cT,qgD,q1j _ (show (tyB (fndB t k).1.1).size<=2097152 by omega),oB,yR t ht vals (by omega)]
    ·simp only [dYF e4,cF] at hbd ⊢
     rw [qeb]
     simp only [k0,k1,g0,g1,g2,cT,q2e t k hb,oB,qN,yw t hb,wL,qW 0 (by omega) (by omega),qW 1 (by omega) (by omega),qW (-1) (by omega) (by omega),qW (-2) (by omega) (by omega),q68 t qO hb (by decide),q68 t yG hb (by decide)]
     by_cases e5:upB a=zy
     ·have hp1:=h2 e5
      have d1:decide (upB a=q1Q)=false:=dYF (by rw [e5]; decide +kernel)
      have d2:decide (upB a=q1u)=false:=dYF (by rw [e5]; decide +kernel)
      have k2:(decide ((0:Int)<=2)&&decide ((2:Int) < ((a::k::vals).length:Int)))=true:=by rw [dYT (show (2:Int) < ((a::k::vals).length:Int) by omega)]; rfl
      have hz:(gi vals 0).size<=2097152:=hal (gi vals 0) (List.mem_cons_of_mem _ (List.mem_cons_of_mem _ (yj (d:=eB) (show 0 < vals.length by omega))))
      have i0:=q1H (gi vals 0)
      have w2:w64 (now+(rdI (gi vals 0)).1)=now+(rdI (gi vals 0)).1:=ql (by omega) (by omega)
      simp only [dYT e5,d1,d2,k2,cT,cF,q1C _ (show (gi vals 0).size<=100000000 by omega),oB,w2] at hbd ⊢
      cases hr:(rdI (gi vals 0)).2 with
      | false=>rfl
      | true=>
       rw [hr] at hbd
       simp only [Bool.not_true,cF] at hbd ⊢
       cases hf:(fndB t k).2 with
       | false=>simp only [Bool.not_false,cT,oB,yR t ht vals (by omega)]
       | true=>
        rw [hf] at hbd
        simp only [Bool.not_true,cF] at hbd ⊢
        cases hn:decide ((rdI (gi vals 0)).1<=0) with
        | true=>
         rw [hn] at hbd
         simp only [cT] at hbd ⊢
         simp only [q0Q t k _ hb,decide_true,cT,oB,hdone _ _ hbd]
        | false=>
         rw [hn] at hbd
         simp only [cF] at hbd ⊢
         cases hx:decide (now+(rdI (gi vals 0)).1 > 100000) with
         | true=>rfl
         | false=>
          rw [hx] at hbd
          simp only [cF] at hbd ⊢
          simp only [q0Q t k _ hb,qj7 ht hf,cF,oB,hdone _ _ hbd]
     ·simp only [dYF e5,cF] at hbd ⊢
      by_cases e6:upB a=q1Q
      ·simp only [dYT e6,cT]
       unfold q6u
       cases hf:(fndB t k).2 with
       | false=>simp only [cF,Bool.not_false,cT,oB,yR t ht vals (by omega)]
       | true=>
        have hun:=(q8I (q5N ht hf).1).2
        have w3:w64 ((fndB t k).1.2.1 - now)=(fndB t k).1.2.1 - now:=ql (by omega) (by omega)
        simp only [cT,Bool.not_true,cF,w3,qW ((fndB t k).1.2.1 - now) (by omega) (by omega),oB]
        by_cases hz:(fndB t k).1.2.1=0
        ·rw [dYF (show ¬ ((fndB t k).1.2.1 > 0) by omega),dYT hz]
         simp only [cT,cF,oB,yR t ht vals (by omega)]
        ·rw [dYT (show ((fndB t k).1.2.1 > 0) by omega),dYF hz]
         simp only [cT,cF,oB,yR t ht vals (by omega)]
      ·have e7:upB a=q1u:=by
        unfold keyN at hu
        simp only [List.mem_cons,List.not_mem_nil,or_false] at hu
        rcases hu with h | h | h | h | h | h | h | h | h | h | h
        ·exact absurd h m1
        ·exact absurd h e1
        ·exact absurd h e2
        ·exact absurd h e3
        ·exact absurd h e4
        ·exact absurd h e5
        ·exact absurd h e6
        ·exact h
        ·exact absurd h m2
        ·exact absurd h m3
        ·exact absurd h m4
       simp only [dYF e6,dYT e7,cT,cF] at hbd ⊢
       cases hz:decide ((fndB t k).1.2.1=0) with
       | true=>simp only [cT,oB,yR t ht vals (by omega)]
       | false=>
        rw [hz] at hbd
        have hf:(fndB t k).2=true:=by
         cases hf:(fndB t k).2 with
         | true=>rfl
         | false=>
          rw [qgA hf] at hz
          exact absurd hz (by decide)
        simp only [cF] at hbd ⊢
        simp only [q0Q t k _ hb,qj7 ht hf,cF,oB,hdone _ _ hbd]
end Go.Den.S
