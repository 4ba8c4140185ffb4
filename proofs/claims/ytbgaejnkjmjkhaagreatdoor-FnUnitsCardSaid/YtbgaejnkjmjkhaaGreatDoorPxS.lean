/- PxS: equations of the functions of this seat as the executor tells them, or plain facts about them. Conditions: none here. -/
import Derived.Test.YtbgaejnkjmjkhaaGreatDoorPxR
set_option linter.all false
namespace Go.Den.S
open Go Go.Den
def byB (u:BA) (vals:List BA):Int×Bool:=
 bif decide (u=j6) then (1,true) else bif decide (u=jh) then (-1,true) else bif decide (u=zT) then (-(rdI (gi vals 0)).1,(rdI (gi vals 0)).2) else rdI (gi vals 0)
def txtD (t:List DE) (u k:BA) (vals:List BA):DD:=
 let v:=undB t k
 bif decide (u=q0s) then (putB t k (1,(0,(gi vals 0,[]))),(jV c_OK,false))
 else bif decide (u=zV) then (bif (fndB t k).2 then (t,(numB 0,false)) else (putB t k (1,(0,(gi vals 0,[]))),(numB 1,false)))
 else bif qK t k 1 then (t,(y5 yh,true))
 else bif decide (u=jk) then (t,(txtR (fndB t k).1 (fndB t k).2,false))
 else bif decide (u=zl) then (putB t k (1,(0,(gi vals 0,[]))),(txtR (fndB t k).1 (fndB t k).2,false))
 else bif decide (u=zi) then (putB t k (1,(v.1,(v.2.1++gi vals 0,v.2.2))),(numB ((v.2.1++gi vals 0).size:Int),false))
 else bif decide (u=yP) then (t,(numB (v.2.1.size:Int),false))
 else bif !(byB u vals).2 then (t,(y5 qO,true)) else cntD t k (byB u vals).1
theorem qdA (t:List DE) (h:Bd t) (ha:Asc t) (d:DD) (r:BA) (k:BA) (by_:Int) (h1:-1000000000<=by_/\by_<=1000000000) (hz:(undB t k).2.1.size<=100000000)
  (hfind:qF d k 1=some ((((fndB t k).1.1,undB t k),(fndB t k).2),((t,(r,true)),()))):qM d k by_=some ((),((t,(r,true)),())):=by
 have hnum:∀ s:BA,s.size<=100000000->qD (t,(r,true)) s=some ((rdI s).1,((t,(r,true)),())):=fun s hs=>by
  rw [q3C _ s hs]
  cases (rdI s).2<;>rfl
 rw [q0O,hfind]
 have hfl:qU (t,(r,true)) yG=some ((),((t,(r,true)),())):=q2x _ yG (by decide)
 have hput:∀ v,qg (t,(r,true)) k v=some ((),((t,(r,true)),())):=fun v=>yZ _ k v h ha
 have hsay:∀ s,q9 (t,(r,true)) s=some ((),((t,(r,true)),())):=fun s=>wz _ s
 simp only [oB]
 cases (fndB t k).2 with
 | false=>
  have i0:=q1H c_0
  have w1:w64 ((rdI c_0).1+by_)=(rdI c_0).1+by_:=ql (by omega) (by omega)
  simp only [Bool.not_false,cT,hnum c_0 (by decide),oB,w1,q0D,q0d ((rdI c_0).1+by_) (by omega) (by omega),qP ((rdI c_0).1+by_) (by omega) (by omega),hfl,hput,hsay]
  cases (decide (-1000000000<=(rdI c_0).1+by_)&&decide ((rdI c_0).1+by_<=1000000000))<;>rfl
 | true=>
  have i0:=q1H (undB t k).2.1
  have w1:w64 ((rdI (undB t k).2.1).1+by_)=(rdI (undB t k).2.1).1+by_:=ql (by omega) (by omega)
  simp only [Bool.not_true,cF,hnum (undB t k).2.1 hz,oB,w1,q0D,q0d ((rdI (undB t k).2.1).1+by_) (by omega) (by omega),qP ((rdI (undB t k).2.1).1+by_) (by omega) (by omega),hfl,hput,hsay]
  cases (decide (-1000000000<=(rdI (undB t k).2.1).1+by_)&&decide ((rdI (undB t k).2.1).1+by_<=1000000000))<;>rfl
theorem qfW (t:List DE) (h:Bd t) (ha:Asc t) (r:BA) (k:BA) (by_:Int) (h1:-1000000000<=by_/\by_<=1000000000) (hz:(undB t k).2.1.size<=100000000):qM (t,(r,true)) k by_=some ((),((t,(r,true)),())):=
 qdA t h ha _ r k by_ h1 hz (by
  rw [qca (t,(r,true)) k 1 h]
  cases ((fndB t k).2&&!(decide ((fndB t k).1.1=1)))<;>rfl)
theorem qci (t:List DE) (h:Bd t) (ha:Asc t) (k:BA) (by_:Int) (h1:-1000000000<=by_/\by_<=1000000000) (hz:(undB t k).2.1.size<=100000000) (hw:qK t k 1=true):qM (t,(eB,false)) k by_=some ((),((t,(y5 yh,true)),())):=
 qdA t h ha _ _ k by_ h1 hz (by rw [q57 t k 1 h,hw]; rfl)
section
variable (t:List DE) (ht:tabB t=true) (k:BA) (vals:List BA) (hv:vals.length<=2097152)
include ht hv
theorem qgH (u:BA) (hu:u∈txtN) (h1:¬ u=wV) (h1':¬ u=yX) (h2:¬ u=jk->¬ u=yP->¬ u=j6->¬ u=jh->1<=vals.length) (hs:∀ s∈vals,s.size<=4194304) :
  jR (t,(eB,false)) u (k::vals)=some ((),(txtD t u k vals,())):=by
 have hb:=z8 ht
 have has:=q1x ht
 obtain ⟨n1,n2,n3⟩:=jX (k:=k) ht
 have hft:=qcv k hb
 have k0:(decide ((0:Int)<=0)&&decide ((0:Int) < ((k::vals).length:Int)))=true:=by rw [dYT (show (0:Int) < ((k::vals).length:Int) by simp only [List.length_cons]; omega)]; rfl
 have g0:List.getD (k::vals) (Int.toNat 0) eB=k:=rfl
 have g1:List.getD (k::vals) (Int.toNat 1) eB=gi vals 0:=rfl
 have hz0:1<=vals.length->(gi vals 0).size<=4194304:=fun h=>hs (gi vals 0) (yj (d:=eB) (show 0 < vals.length by omega))
 have k1:1<=vals.length->(decide ((0:Int)<=1)&&decide ((1:Int) < ((k::vals).length:Int)))=true:=fun h=>by rw [dYT (show (1:Int) < ((k::vals).length:Int) by simp only [List.length_cons]; omega)]; rfl
 have hfr:((fndB t k).1.1,undB t k)=(fndB t k).1:=rfl
 rw [q3T]
 simp only [k0,g0,g1,cT,qN,q57 t k 1 hb,hfr,oB,qaV _ _ (show (fndB t k).1.2.2.1.size<=1000000000 by omega),wz]
 unfold txtD
 by_cases e1:u=jk
 ·have d1:decide (u=q0s)=false:=dYF (by rw [e1]; decide +kernel)
  have d2:decide (u=zV)=false:=dYF (by rw [e1]; decide +kernel)
  have d3:decide (u=yP)=false:=dYF (by rw [e1]; decide +kernel)
  simp only [dYT e1,d1,d2,d3,cT,cF]
  cases qK t k 1<;>rfl
 ·simp only [dYF e1,cF]
  by_cases e2:u=yP
  ·have d1:decide (u=q0s)=false:=dYF (by rw [e2]; decide +kernel)
   have d2:decide (u=zV)=false:=dYF (by rw [e2]; decide +kernel)
   have d3:decide (u=zl)=false:=dYF (by rw [e2]; decide +kernel)
   have d4:decide (u=zi)=false:=dYF (by rw [e2]; decide +kernel)
   have hN:=qP ((undB t k).2.1.size:Int) (by omega) (by omega)
   have hN':qG ((fndB t k).1.2.2.1.size:Int)=some (numB ((undB t k).2.1.size:Int),()):=hN
   simp only [dYT e2,d1,d2,d3,d4,cT,cF,hN',oB]
   cases qK t k 1<;>rfl
  ·simp only [dYF e2,cF]
   by_cases e3:u=q0s
   ·have hp:=h2 e1 e2 (by rw [e3]; decide +kernel) (by rw [e3]; decide +kernel)
    simp only [dYT e3,cT,k1 hp,q3l c_OK (by decide),yZ (t,(eB,false)) k _ hb has,oB,cF]
    rfl
   ·simp only [dYF e3,cF]
    by_cases e4:u=zV
    ·have hp:=h2 e1 e2 (by rw [e4]; decide +kernel) (by rw [e4]; decide +kernel)
     simp only [dYT e4,cT,k1 hp,q2A t k hb,qP 0 (by omega) (by omega),qP 1 (by omega) (by omega),yZ (t,(eB,false)) k _ hb has,oB,cF]
     cases (fndB t k).2<;>rfl
    ·simp only [dYF e4,cF]
     by_cases e5:u=zl
     ·have hp:=h2 e1 e2 (by rw [e5]; decide +kernel) (by rw [e5]; decide +kernel)
      simp only [dYT e5,cT,k1 hp]
      cases hw:qK t k 1 with
      | true=>
       simp only [cT,yZ (t,(y5 yh,true)) k _ hb has,oB]
       rfl
      | false=>
       simp only [cF,yZ (t,(eB,false)) k _ hb has,oB]
       rfl
     ·simp only [dYF e5,cF]
      by_cases e6:u=zi
      ·have hp:=h2 e1 e2 (by rw [e6]; decide +kernel) (by rw [e6]; decide +kernel)
       have hz:=hz0 hp
       have hsz:((undB t k).2.1++gi vals 0).size=(undB t k).2.1.size+(gi vals 0).size:=ByteArray.size_append
       have hN:=qP (((undB t k).2.1++gi vals 0).size:Int) (by omega) (by omega)
       have hN':qG ((((fndB t k).1.2.2.1++gi vals 0).size:Nat):Int)=some (numB (((undB t k).2.1++gi vals 0).size:Int),()):=hN
       have hL:limS ((fndB t k).1.2.2.1.size+(gi vals 0).size)=true:=yF (by omega)
       simp only [dYT e6,cT,k1 hp,hL,hN',oB]
       cases hw:qK t k 1 with
       | true=>
        simp only [cT,yZ (t,(y5 yh,true)) k _ hb has,oB]
        rfl
       | false=>
        simp only [cF,yZ (t,(eB,false)) k _ hb has,oB]
        rfl
      ·simp only [dYF e6,cF]
       by_cases e7:u=j6
       ·have hb7:byB u vals=(1,true):=by unfold byB; rw [dYT e7,cT]
        simp only [dYT e7,cT,hb7,Bool.not_true,cF]
        cases hw:qK t k 1 with
        | true=>rw [qci t hb has k 1 (by omega) (by omega) hw]; rfl
        | false=>rw [qd7 t ht k 1 (by omega) hw]; rfl
       ·simp only [dYF e7,cF]
        by_cases e8:u=jh
        ·have hb8:byB u vals=(-1,true):=by unfold byB; rw [dYF e7,cF,dYT e8,cT]
         simp only [dYT e8,cT,hb8,Bool.not_true,cF]
         cases hw:qK t k 1 with
         | true=>rw [qci t hb has k (-1) (by omega) (by omega) hw]; rfl
         | false=>rw [qd7 t ht k (-1) (by omega) hw]; rfl
        ·have hp:=h2 e1 e2 e7 e8
         have hz:=hz0 hp
         have i0:=q1H (gi vals 0)
         have w1:w64 (0 - (rdI (gi vals 0)).1)=-(rdI (gi vals 0)).1:=by show IntKind.i64.wrap _=_; rw [ql (by omega) (by omega)]; omega
         have hcount:∀ (d:DD) (n:Int),-1000000000<=n/\n<=1000000000->(qK t k 1=true->d=(t,(y5 yh,true)))->(qK t k 1=false->(rdI (gi vals 0)).2=false->d=(t,(y5 qO,true)))->(qK t k 1=false->(rdI (gi vals 0)).2=true->d=(t,(eB,false)))->
           qM d k n=some ((),((bif qK t k 1 then (t,(y5 yh,true)) else bif !(rdI (gi vals 0)).2 then (t,(y5 qO,true)) else cntD t k n),())):=fun d n hn q1 q2 q3=>by
          cases hw:qK t k 1 with
          | true=>rw [q1 hw,qfW t hb has _ k n hn (by omega)]; rfl
          | false=>
           cases hr:(rdI (gi vals 0)).2 with
           | false=>rw [q2 hw hr,qfW t hb has _ k n hn (by omega)]; rfl
           | true=>rw [q3 hw hr,qd7 t ht k n hn hw]; rfl
         have hd:∀ d:DD,d=(bif !(rdI (gi vals 0)).2 then badB (bif qK t k 1 then (t,(y5 yh,true)) else (t,(eB,false))) qO else (bif qK t k 1 then (t,(y5 yh,true)) else (t,(eB,false))))->
           (qK t k 1=true->d=(t,(y5 yh,true)))/\(qK t k 1=false->(rdI (gi vals 0)).2=false->d=(t,(y5 qO,true)))/\(qK t k 1=false->(rdI (gi vals 0)).2=true->d=(t,(eB,false))):=fun d e=>by
          rw [e]
          cases qK t k 1<;>cases (rdI (gi vals 0)).2<;>exact ⟨(fun h=>by first | rfl | (cases h)),(fun h h'=>by first | rfl | (cases h; done) | (cases h'; done)),(fun h h'=>by first | rfl | (cases h; done) | (cases h'; done))⟩
         obtain ⟨q1,q2,q3⟩:=hd _ rfl
         simp only [dYF e8,cF,k1 hp,cT,q3C _ _ (show (gi vals 0).size<=100000000 by omega),oB,w1]
         rw [hcount _ (-(rdI (gi vals 0)).1) (by omega) q1 q2 q3,hcount _ (rdI (gi vals 0)).1 i0 q1 q2 q3]
         unfold byB
         rw [dYF e7,dYF e8]
         simp only [cF,oB]
         cases decide (u=zT)<;>rfl
end
end Go.Den.S
