/- PxU: equations of the functions of this seat as the executor tells them, or plain facts about them. Conditions: none here. -/
import Derived.Test.YtbgaejnkjmjkhaaGreatDoorPxT
set_option linter.all false
namespace Go.Den.S
open Go Go.Den
theorem qnB {α:Type} (t:List DE) (k:BA) (NO TAIL:α):(bif (fndB t k).2 then bif ((fndB t k).1.1 != 1) then NO else TAIL else TAIL)=bif qK t k 1 then NO else TAIL:=by
 unfold qK
 rw [bneI]
 cases (fndB t k).2<;>cases decide ((fndB t k).1.1=1)<;>rfl
section
variable (t:List DE) (ht:tabB t=true) (k:BA) (vals:List BA) (hv:vals.length<=2097152)
include ht hv
theorem qbT (hk:k.size<=4194304) (u:Int) (x:BA) (hx:x.size<=4194304) (l:List BA) (hl:l.length<=4194304) (hs:∀ s∈l,s.size<=4194304):Bd (putB t k (1,(u,(x,l)))):=qbb ht hk hl hx hs
theorem qiD (u:BA) (hk:k.size<=4194304) (h2:¬ u=jk->¬ u=yP->¬ u=j6->¬ u=jh->1<=vals.length) (hs:∀ s∈vals,s.size<=2097152):Bd (txtD t u k vals).1:=by
 have hb:=z8 ht
 obtain ⟨n1,n2,n3⟩:=jX (k:=k) ht
 have hz0:1<=vals.length->(gi vals 0).size<=2097152:=fun h=>hs (gi vals 0) (yj (d:=eB) (show 0 < vals.length by omega))
 unfold txtD
 by_cases e3:u=q0s
 ·have hp:=h2 (by rw [e3]; decide +kernel) (by rw [e3]; decide +kernel) (by rw [e3]; decide +kernel) (by rw [e3]; decide +kernel)
  simp only [dYT e3,cT]
  exact qbT t ht k vals hv hk 0 _ (by have:=hz0 hp; omega) [] (by simp) (fun s h=>by cases h)
 ·simp only [dYF e3,cF]
  by_cases e4:u=zV
  ·have hp:=h2 (by rw [e4]; decide +kernel) (by rw [e4]; decide +kernel) (by rw [e4]; decide +kernel) (by rw [e4]; decide +kernel)
   simp only [dYT e4,cT]
   cases (fndB t k).2 with
   | true=>exact hb
   | false=>exact qbT t ht k vals hv hk 0 _ (by have:=hz0 hp; omega) [] (by simp) (fun s h=>by cases h)
  ·simp only [dYF e4,cF]
   cases hw:qK t k 1 with
   | true=>exact hb
   | false=>
    simp only [cF]
    by_cases e1:u=jk
    ·simp only [dYT e1,cT]; exact hb
    ·simp only [dYF e1,cF]
     by_cases e5:u=zl
     ·have hp:=h2 e1 (by rw [e5]; decide +kernel) (by rw [e5]; decide +kernel) (by rw [e5]; decide +kernel)
      simp only [dYT e5,cT]
      exact qbT t ht k vals hv hk 0 _ (by have:=hz0 hp; omega) [] (by simp) (fun s h=>by cases h)
     ·simp only [dYF e5,cF]
      by_cases e6:u=zi
      ·have hp:=h2 e1 (by rw [e6]; decide +kernel) (by rw [e6]; decide +kernel) (by rw [e6]; decide +kernel)
       simp only [dYT e6,cT]
       exact qbT t ht k vals hv hk _ _ (by rw [ByteArray.size_append]; have:=hz0 hp; omega) _ (by omega) (fun s h=>by have:=n3 s h; omega)
      ·simp only [dYF e6,cF]
       cases decide (u=yP) with
       | true=>exact hb
       | false=>
        simp only [cF]
        cases (byB u vals).2 with
        | false=>exact hb
        | true=>exact qj0 t ht k hk _ (qk2 u vals)
theorem qbh (a:BA) (hp:isB t (a::k::vals) txtN=true) (h1:¬ upB a=wV) (h1':¬ upB a=yX) (hk:k.size<=4194304) (hal:∀ s∈(a::k::vals),s.size<=2097152) (h2:¬ upB a=jk->¬ upB a=yP->¬ upB a=j6->¬ upB a=jh->1<=vals.length) (hl2:(a::k::vals).length<=2097152) :
  q4M t (a::k::vals)=some (zJ (txtD t (upB a) k vals) t,()):=by
 have hb:=z8 ht
 have hs:∀ s∈vals,s.size<=2097152:=fun s hs=>hal s (List.mem_cons_of_mem _ (List.mem_cons_of_mem _ hs))
 obtain ⟨n1,n2,n3⟩:=jX (k:=k) ht
 have hft:=qcv k hb
 have hbd:=qiD t ht k vals hv (upB a) hk h2 hs
 have hz0:1<=vals.length->(gi vals 0).size<=2097152:=fun h=>hs (gi vals 0) (yj (d:=eB) (show 0 < vals.length by omega))
 have hcl:(a::k::vals).length=vals.length+2:=rfl
 have k1:(decide ((0:Int)<=1)&&decide ((1:Int) < ((a::k::vals).length:Int)))=true:=by rw [dYT (show (1:Int) < ((a::k::vals).length:Int) by omega)]; rfl
 have k0:(decide ((0:Int)<=0)&&decide ((0:Int) < ((a::k::vals).length:Int)))=true:=by rw [dYT (show (0:Int) < ((a::k::vals).length:Int) by omega)]; rfl
 have k2:1<=vals.length->(decide ((0:Int)<=2)&&decide ((2:Int) < ((a::k::vals).length:Int)))=true:=fun h=>by rw [dYT (show (2:Int) < ((a::k::vals).length:Int) by omega)]; rfl
 have g1:List.getD (a::k::vals) (Int.toNat 1) eB=k:=rfl
 have g2:List.getD (a::k::vals) (Int.toNat 2) eB=gi vals 0:=rfl
 have g0:yC (List.getD (a::k::vals) (Int.toNat 0) eB)=some (upB a,()):=zx a (by have:=hal a (List.mem_cons_self ..); omega)
 have hdone:∀ (t':List DE) (r:BA),Bd t'->yA t t' r=some (zJ (t',(r,false)) t,()):=fun t' r h=>q5I t t' r hb h
 rw [q0S,show yS t (a::k::vals) [jk,q0s,zV,zl,zi,yP,j6,jh,q0y,zT,wV,yX]=some (isB t (a::k::vals) txtN,()) from zh t _ _ hb hl2 hal (by decide),hp]
 simp only [oB,Bool.not_true,cF,k1,k0,cT,g1,g2,g0,qN,dYF h1,dYF h1',q2e t k hb,qfv t k _ hb,qem t k hb,yw t hb,q68 t yh hb (by decide),q68 t qO hb (by decide),q1j c_OK (by decide),qW 0 (by omega) (by omega),qW 1 (by omega) (by omega)]
 unfold txtD at hbd ⊢
 by_cases e3:upB a=q0s
 ·have hp:=h2 (by rw [e3]; decide +kernel) (by rw [e3]; decide +kernel) (by rw [e3]; decide +kernel) (by rw [e3]; decide +kernel)
  simp only [dYT e3,cT] at hbd ⊢
  simp only [k2 hp,cT,hdone _ _ hbd,oB]
 ·simp only [dYF e3,cF] at hbd ⊢
  by_cases e4:upB a=zV
  ·have hp:=h2 (by rw [e4]; decide +kernel) (by rw [e4]; decide +kernel) (by rw [e4]; decide +kernel) (by rw [e4]; decide +kernel)
   simp only [dYT e4,cT,k2 hp] at hbd ⊢
   cases hf:(fndB t k).2 with
   | true=>simp only [cT,yR t ht vals hv]
   | false=>
    rw [hf] at hbd
    simp only [cF] at hbd ⊢
    rw [hdone _ _ hbd]; rfl
  ·simp only [dYF e4,cF] at hbd ⊢
   rw [qnB]
   cases hw:qK t k 1 with
   | true=>rfl
   | false=>
    rw [hw] at hbd
    simp only [cF] at hbd ⊢
    by_cases e1:upB a=jk
    ·simp only [dYT e1,cT,yR t ht vals hv]
    ·simp only [dYF e1,cF] at hbd ⊢
     by_cases e5:upB a=zl
     ·have hp:=h2 e1 (by rw [e5]; decide +kernel) (by rw [e5]; decide +kernel) (by rw [e5]; decide +kernel)
      simp only [dYT e5,cT] at hbd ⊢
      simp only [k2 hp,cT,hdone _ _ hbd,oB]
     ·simp only [dYF e5,cF] at hbd ⊢
      by_cases e6:upB a=zi
      ·have hp:=h2 e1 (by rw [e6]; decide +kernel) (by rw [e6]; decide +kernel) (by rw [e6]; decide +kernel)
       have hz:=hz0 hp
       have hsz:((undB t k).2.1++gi vals 0).size=(undB t k).2.1.size+(gi vals 0).size:=ByteArray.size_append
       have hN:=qW (((undB t k).2.1++gi vals 0).size:Int) (by omega) (by omega)
       have hN':qE ((((fndB t k).1.2.2.1++gi vals 0).size:Nat):Int)=some (numB (((undB t k).2.1++gi vals 0).size:Int),()):=hN
       have hL:limS ((fndB t k).1.2.2.1.size+(gi vals 0).size)=true:=yF (by omega)
       simp only [dYT e6,cT] at hbd ⊢
       simp only [k2 hp,hL,cT,q0Q t k _ hb,show decide ((1:Int)=0)=false from rfl,cF,hN',oB]
       have hd:=hdone _ (numB (((undB t k).2.1++gi vals 0).size:Int)) hbd
       show ((yA t (putB t k (1,((undB t k).1,((undB t k).2.1++gi vals 0,(undB t k).2.2)))) (numB (((undB t k).2.1++gi vals 0).size:Int))).bind _)=_
       rw [hd]
       rfl
      ·simp only [dYF e6,cF] at hbd ⊢
       by_cases e2:upB a=yP
       ·have hN:=qW ((undB t k).2.1.size:Int) (by omega) (by omega)
        have hN':qE ((fndB t k).1.2.2.1.size:Int)=some (numB ((undB t k).2.1.size:Int),()):=hN
        simp only [dYT e2,cT,hN',oB,yR t ht vals hv]
       ·simp only [dYF e2,cF] at hbd ⊢
        have hBy:q86 (upB a) (a::k::vals)=some (byB (upB a) vals,()):=by
         rw [qg8]
         unfold byB
         simp only [qN]
         by_cases e7:upB a=j6
         ·simp only [dYT e7,cT]
         ·simp only [dYF e7,cF]
          by_cases e8:upB a=jh
          ·simp only [dYT e8,cT]
          ·have hp:=h2 e1 e2 e7 e8
           have hz:=hz0 hp
           have i0:=q1H (gi vals 0)
           have w1:w64 (0 - (rdI (gi vals 0)).1)=-(rdI (gi vals 0)).1:=by show IntKind.i64.wrap _=_; rw [ql (by omega) (by omega)]; omega
           simp only [dYF e8,cF,k2 hp,cT,g2,q1C _ (show (gi vals 0).size<=100000000 by omega),oB,w1]
           cases decide (upB a=zT)<;>rfl
        rw [hBy]
        simp only [oB]
        cases hr:(byB (upB a) vals).2 with
        | false=>rfl
        | true=>
         simp only [Bool.not_true,cF]
         rw [qi1 t ht k hk _ (qk2 _ _) hw]
         rfl
end
end Go.Den.S
