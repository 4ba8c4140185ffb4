/- PxL: equations of the functions of this seat as the executor tells them, or plain facts about them. Conditions: none here. -/
import Derived.Test.YtbgaejnkjmjkhaaGreatDoorPxK
set_option linter.all false
namespace Go.Den.S
open Go Go.Den
theorem q6p:∀ P:List PF,q44 (qx P)=P
 | []=>rfl
 | p::P=>by rw [q1P]; show p::q44 (qx P)=_; rw [q6p P]
def posF (P:List PF) (x:BA):Nat:=(lowF P x).length
def fldD (t:List DE) (u k:BA) (vals:List BA):DD:=
 let v:=undB t k
 let P:=q44 v.2.2
 bif qK t k 3 then (t,(y5 yh,true))
 else bif decide (u=jm) then (putB t k (3,(v.1,(v.2.1,qx (setF P (gi vals 0) (gi vals 1))))),(numB (bif hasF P (gi vals 0) then 0 else 1),false))
 else bif decide (u=jL) then (t,(bif hasF P (gi vals 0) then zI (gi v.2.2 (posF P (gi vals 0) * 2+1)) else q4t,false))
 else bif decide (u=q0I) then (q1v t k (3,(v.1,(v.2.1,qx (q0E P vals)))),(numB ((P.length:Int) - ((q0E P vals).length:Int)),false))
 else bif decide (u=q1M) then (t,(numB (P.length:Int),false))
 else bif decide (u=jD) then (t,(arrB (v.2.2.map zI),false))
 else (t,(arrB ((q0M P).map zI),false))
theorem q8d (l:List BA) (hl:l.length<=1000) (hs:∀ s∈l,s.size<=60):wB l<=2097152:=by
 have:∀ r:List BA,(∀ s∈r,s.size<=60)->(r.map ByteArray.size).sum<=60 * r.length:=by
  intro r
  induction r with
  | nil=>intro _; simp
  | cons x r ih=>
   intro hr
   have h1:=hr x (List.mem_cons_self ..)
   have h2:=ih fun s hs=>hr s (List.mem_cons_of_mem _ hs)
   simp only [List.map_cons,List.sum_cons,List.length_cons]; omega
 have:=this _ hs
 unfold wB wl
 omega
theorem qbw {P:List PF} {s:BA} (h:s∈q0M P):s∈qx P:=by
 obtain ⟨p,hp,rfl⟩:=List.mem_map.1 h
 exact List.mem_flatMap.2 ⟨p,hp,by simp⟩
theorem qhB {P:List PF} (h:AscF P) (x v:BA):(setF P x v).length<=P.length+1:=by
 obtain ⟨A,B,h1,_,_,h4,h5⟩:=qcB h x
 unfold setF
 conv=>rhs; rw [h1]
 rw [h4,List.length_append,List.length_cons,List.length_append]
 rcases h5 with ⟨_,h6⟩ | ⟨w,C,rfl,_,h6⟩
 ·rw [h6]; omega
 ·rw [h6,List.length_cons]; omega
theorem qmk (P:List PF) (x v:BA):qx (setF P x v)≠[]:=by
 unfold setF
 rw [q33,q1P]
 simp
theorem qm5 (n:Nat) (h:n<=1000000):w64 (Int.tdiv ((n * 2:Nat):Int) 2)=(n:Int):=by
 show IntKind.i64.wrap _=_
 rw [Int.tdiv_eq_ediv_of_nonneg (by omega),ql (by omega) (by omega)]; omega
section
variable (t:List DE) (ht:tabB t=true) (k:BA) (vals:List BA) (hv:vals.length<=2097152)
include ht
theorem qhS (hw:qK t k 3=false) (P:List PF) (hP:(undB t k).2.2=qx P) (hk:k.size<=4194304) (x v:BA) (hx:x.size<=4194304) (hv':v.size<=4194304) (ha:AscF P) (hl:P.length<=12):∀ s∈qx (setF P x v),s.size<=4194304:=by
 intro s hs
 obtain ⟨n1,n2,n3⟩:=jX (k:=k) ht
 obtain ⟨p,hp,hs⟩:=q8Y hs
 have hm:p∈P\/p=(x,v):=by
  unfold setF at hp
  rcases List.mem_append.1 hp with hp | hp
  ·exact .inl (List.mem_filter.1 hp).1
  ·rcases List.mem_cons.1 hp with hp | hp
   ·exact .inr hp
   ·exact .inl (List.mem_filter.1 hp).1
 rcases hm with hm | hm
 ·have:s∈(undB t k).2.2:=by
   rw [hP]
   exact List.mem_flatMap.2 ⟨p,hm,by rcases hs with h | h<;>simp [h]⟩
  have:=n3 s this
  omega
 ·rw [hm] at hs
  rcases hs with h | h<;>(rw [h]; assumption)
include hv
theorem qgd (u:BA) (h2:(u=jm->2<=vals.length)/\(u=jL->1<=vals.length)):jG (t,(eB,false)) u k vals=some ((),(fldD t u k vals,())):=by
 have hb:=z8 ht
 have has:=q1x ht
 obtain ⟨n1,n2,n3⟩:=jX (k:=k) ht
 rw [q3t,q57 t k 3 hb]
 simp only [oB]
 unfold fldD
 cases hw:qK t k 3 with
 | true=>simp only [cT]
 | false=>
  obtain ⟨P,hP,hasc,hPl⟩:=q7Y ht hw
  have hPf:q44 (undB t k).2.2=P:=by rw [hP,q6p]
  simp only [cF,qN,hPf]
  by_cases e1:u=jm
  ·have hp:=h2.1 e1
   obtain ⟨n,hn,_,q2,q3,q4⟩:=q4P P hasc (by omega) (gi vals 0)
   have e0:decide ((0:Int) < (vals.length:Int))=true:=dYT (by omega)
   have e1':decide ((1:Int) < (vals.length:Int))=true:=dYT (by omega)
   simp only [dYT e1,cT,Int.le_refl,decide_true,show decide ((0:Int)<=1)=true from rfl,e0,e1',Bool.and_self]
   show ((q1q (undB t k).2.2 (gi vals 0)).bind _)=_
   rw [hP,q2]
   simp only [oB]
   cases hf:hasF P (gi vals 0) with
   | true=>
    obtain ⟨r1,r2,w,r3,r4,r5,r6⟩:=q4 hf
    have e5:w64 (((n * 2:Nat):Int)+1)=((n * 2+1:Nat):Int):=qz (by omega)
    have e6:decide (((n * 2+1:Nat):Int) < ((qx P).length:Int))=true:=dYT (by rw [wI]; omega)
    simp only [cT,e5,dYT (show (0:Int)<=((n * 2+1:Nat):Int) by omega),e6,Bool.and_self,qP 0 (by omega) (by omega),oB,wz,Int.toNat_natCast]
    show ((qg (t,(numB 0,false)) k (3,((undB t k).1,((undB t k).2.1,(qx P).set (n * 2+1) (gi vals 1))))).bind _)=_
    rw [(r6 (gi vals 1)).2,yZ _ k _ hb has]
    rfl
   | false=>
    have r6:=((q3 hf).2 (gi vals 1)).2
    simp only [cF]
    show ((wF (qx P) ((n * 2:Nat):Int) [gi vals 0,gi vals 1]).bind _)=_
    rw [r6]
    simp only [oB,qP 1 (by omega) (by omega),wz]
    rw [yZ _ k _ hb has]
    rfl
  ·simp only [dYF e1,cF]
   by_cases e2:u=jL
   ·have hp:=h2.2 e2
    obtain ⟨n,hn,_,q2,q3,q4⟩:=q4P P hasc (by omega) (gi vals 0)
    have e0:decide ((0:Int) < (vals.length:Int))=true:=dYT (by omega)
    simp only [dYT e2,cT,q78,oB,wz,Int.le_refl,decide_true,e0,Bool.and_self]
    show ((q1q (undB t k).2.2 (gi vals 0)).bind _)=_
    rw [hP,q2]
    simp only [oB]
    cases hf:hasF P (gi vals 0) with
    | true=>
     obtain ⟨r1,r2,w,r3,r4,r5,r6⟩:=q4 hf
     have e5:w64 (((n * 2:Nat):Int)+1)=((n * 2+1:Nat):Int):=qz (by omega)
     have hlt:n * 2+1 < (qx P).length:=by rw [wI]; omega
     have e6:decide (((n * 2+1:Nat):Int) < ((qx P).length:Int))=true:=dYT (by omega)
     have hz:=n3 ((qx P).getD (n * 2+1) eB) (by rw [hP]; exact yj hlt)
     simp only [cT,e5,dYT (show (0:Int)<=((n * 2+1:Nat):Int) by omega),e6,Bool.and_self,Int.toNat_natCast,q2t _ (show ((qx P).getD (n * 2+1) eB).size<=1000000000 by omega),oB,wz]
     have hpos:posF P (gi vals 0)=n:=hn.symm
     rw [hpos]
     rfl
    | false=>simp only [cF]; rfl
   ·simp only [dYF e2,cF]
    by_cases e3:u=q0I
    ·simp only [dYT e3,cT]
     have hd:=q2O vals hasc
     show qX k 0 vals (vals.length:Int) 0 t eB false 3 (undB t k).1 (undB t k).2.1 (undB t k).2.2=_
     rw [hP]
     have:=qi3 k vals hv (t,(eB,false)) 3 (undB t k).1 (undB t k).2.1 P hasc hPl
     rw [this,qeG _ k _ hb has]
     simp only [oB,cF,qP ((P.length:Int) - ((q0E P vals).length:Int)) (by omega) (by omega),wz]
     rfl
    ·simp only [dYF e3,cF]
     by_cases e4:u=q1M
     ·simp only [dYT e4,cT]
      show ((qG (w64 (Int.tdiv ((undB t k).2.2.length:Int) 2))).bind _)=_
      rw [hP,wI,qm5 _ (by omega),qP _ (by omega) (by omega)]
      simp only [oB,wz]
      rfl
     ·simp only [dYF e4,cF]
      by_cases e5:u=jD
      ·simp only [dYT e5,cT]
       show ((q0W (undB t k).2.2).bind _)=_
       rw [q4a _ (by omega) (fun s hs=>by have:=n3 s hs; omega)]
       simp only [oB,q2F _ (q8f _ (qgx ht)),wz]
       rfl
      ·simp only [dYF e5,cF]
       show ((q5u (undB t k).2.2).bind _)=_
       have hks:∀ s∈q0M P,s.size<=60:=fun s hs=>n3 s (by rw [hP]; exact qbw hs)
       have hkl:(q0M P).length=P.length:=List.length_map ..
       rw [hP,qi2 P (by omega)]
       simp only [oB,q4a (q0M P) (by omega) (fun s hs=>by have:=hks s hs; omega),q2F _ (q8f _ (q8d (q0M P) (by omega) hks)),wz]
       rfl
theorem qmc (u:BA) (hk:k.size<=4194304) (hs:∀ s∈vals,s.size<=4194304) (h2:u=jm->2<=vals.length):Bd (fldD t u k vals).1:=by
 have hb:=z8 ht
 obtain ⟨n1,n2,n3⟩:=jX (k:=k) ht
 unfold fldD
 cases hw:qK t k 3 with
 | true=>exact hb
 | false=>
  obtain ⟨P,hP,hasc,hPl⟩:=q7Y ht hw
  have hPf:q44 (undB t k).2.2=P:=by rw [hP,q6p]
  simp only [cF,hPf]
  by_cases e1:u=jm
  ·simp only [dYT e1,cT]
   have hp:=h2 e1
   have hl:=qhB hasc (gi vals 0) (gi vals 1)
   exact qbb ht hk (show (qx (setF P (gi vals 0) (gi vals 1))).length<=_ by rw [wI]; omega) (by show (undB t k).2.1.size<=_; omega) (qhS t ht k hw P hP hk _ _ (hs _ (yj (by omega))) (hs _ (yj (by omega))) hasc hPl)
  ·simp only [dYF e1,cF]
   cases decide (u=jL)
   ·simp only [cF]
    cases decide (u=q0I)
    ·simp only [cF]
     cases decide (u=q1M)
     ·cases decide (u=jD)<;>exact hb
     ·exact hb
    ·simp only [cT]
     have hd:=q2O vals hasc
     exact q5P ht hk (show (qx (q0E P vals)).length<=_ by rw [wI]; omega) (by show (undB t k).2.1.size<=_; omega) fun s hs'=>by
      obtain ⟨p,hp,hs''⟩:=q8Y hs'
      have:=n3 s (by rw [hP]; exact List.mem_flatMap.2 ⟨p,qa1 vals hp,by rcases hs'' with h | h<;>simp [h]⟩)
      omega
   ·exact hb
theorem q8K (a:BA) (hp:isB t (a::k::vals) fldN=true) (hk:k.size<=4194304) (hal:∀ s∈(a::k::vals),s.size<=2097152) (h2:(upB a=jm->2<=vals.length)/\(upB a=jL->1<=vals.length)) (hl2:(a::k::vals).length<=2097152) :
  q2H t (a::k::vals)=some (zJ (fldD t (upB a) k vals) t,()):=by
 have hb:=z8 ht
 have hs:∀ s∈vals,s.size<=4194304:=fun s hs=>by have:=hal s (List.mem_cons_of_mem _ (List.mem_cons_of_mem _ hs)); omega
 obtain ⟨n1,n2,n3⟩:=jX (k:=k) ht
 have k1:(decide ((0:Int)<=1)&&decide ((1:Int) < ((a::k::vals).length:Int)))=true:=by rw [dYT (show (1:Int) < ((a::k::vals).length:Int) by simp only [List.length_cons]; omega)]; rfl
 have k0:(decide ((0:Int)<=0)&&decide ((0:Int) < ((a::k::vals).length:Int)))=true:=by rw [dYT (show (0:Int) < ((a::k::vals).length:Int) by simp only [List.length_cons]; omega)]; rfl
 have g1:List.getD (a::k::vals) (Int.toNat 1) eB=k:=rfl
 have g2:List.getD (a::k::vals) (Int.toNat 2) eB=gi vals 0:=rfl
 have g3:List.getD (a::k::vals) (Int.toNat 3) eB=gi vals 1:=rfl
 have g0:yC (List.getD (a::k::vals) (Int.toNat 0) eB)=some (upB a,()):=zx a (by have:=hal a (List.mem_cons_self ..); omega)
 rw [q5x,show yS t (a::k::vals) [jm,jL,q0I,q1M,jD,q54]=some (isB t (a::k::vals) fldN,()) from zh t _ _ hb hl2 hal (by decide),hp]
 simp only [oB,Bool.not_true,cF,k1,k0,cT,g1,g2,g3,g0,qcQ t k 3 hb,qN,q68 t yh hb (by decide)]
 unfold fldD
 cases hw:qK t k 3 with
 | true=>
  simp only [q9n hw,Bool.not_false,cT]
  rfl
 | false=>
  obtain ⟨P,hP,hasc,hPl⟩:=q7Y ht hw
  have hPf:q44 (undB t k).2.2=P:=by rw [hP,q6p]
  simp only [qam hw,Bool.not_true,cF,hPf]
  rw [hP]
  by_cases e1:upB a=jm
  ·have hp:=h2.1 e1
   obtain ⟨n,hn,q1,_,q3,q4⟩:=q4P P hasc (by omega) (gi vals 0)
   have e0:decide ((2:Int) < ((a::k::vals).length:Int))=true:=dYT (by simp only [List.length_cons]; omega)
   have e1':decide ((3:Int) < ((a::k::vals).length:Int))=true:=dYT (by simp only [List.length_cons]; omega)
   have hl:=qhB hasc (gi vals 0) (gi vals 1)
   have hkeep:=fun r=>q4N t k (3,((undB t k).1,((undB t k).2.1,qx (setF P (gi vals 0) (gi vals 1))))) r ht (show (3:Int)≠0 by decide) hk (show (qx (setF P (gi vals 0) (gi vals 1))).length<=_ by rw [wI]; omega) (show (undB t k).2.1.size<=_ by omega) (qhS t ht k hw P hP hk _ _ (hs _ (yj (by omega))) (hs _ (yj (by omega))) hasc hPl)
   have hkp:q1v t k (3,((undB t k).1,((undB t k).2.1,qx (setF P (gi vals 0) (gi vals 1)))))=putB t k (3,((undB t k).1,((undB t k).2.1,qx (setF P (gi vals 0) (gi vals 1))))):=by
    unfold q1v
    rw [dYF (qmk P _ _),cF]
   simp only [dYT e1,cT,show decide ((0:Int)<=2)=true from rfl,show decide ((0:Int)<=3)=true from rfl,e0,e1',Bool.and_self,q1,oB]
   cases hf:hasF P (gi vals 0) with
   | true=>
    obtain ⟨r1,r2,w,r3,r4,r5,r6⟩:=q4 hf
    simp only [cT,r4,oB,(r6 (gi vals 1)).1,qW 0 (by omega) (by omega),hkeep,hkp]
    rfl
   | false=>
    simp only [cF,((q3 hf).2 (gi vals 1)).1,oB,qW 1 (by omega) (by omega),hkeep,hkp]
    rfl
  ·simp only [dYF e1,cF]
   by_cases e2:upB a=jL
   ·have hp:=h2.2 e2
    obtain ⟨n,hn,q1,_,q3,q4⟩:=q4P P hasc (by omega) (gi vals 0)
    have e0:decide ((2:Int) < ((a::k::vals).length:Int))=true:=dYT (by simp only [List.length_cons]; omega)
    simp only [dYT e2,cT,show decide ((0:Int)<=2)=true from rfl,e0,Bool.and_self,q1,oB,yw t hb,q75,yR t ht vals hv]
    cases hf:hasF P (gi vals 0) with
    | true=>
     obtain ⟨r1,r2,w,r3,r4,r5,r6⟩:=q4 hf
     have e5:w64 (((n * 2:Nat):Int)+1)=((n * 2+1:Nat):Int):=qz (by omega)
     have hlt:n * 2+1 < (qx P).length:=by rw [wI]; omega
     have e6:decide (((n * 2+1:Nat):Int) < ((qx P).length:Int))=true:=dYT (by omega)
     have hz:=n3 ((qx P).getD (n * 2+1) eB) (by rw [hP]; exact yj hlt)
     have hpos:posF P (gi vals 0)=n:=hn.symm
     simp only [Bool.not_true,cF,cT,e5,dYT (show (0:Int)<=((n * 2+1:Nat):Int) by omega),e6,Bool.and_self,Int.toNat_natCast,q2j _ (show ((qx P).getD (n * 2+1) eB).size<=1000000000 by omega),oB,hpos]
    | false=>simp only [Bool.not_false,cT,cF]
   ·simp only [dYF e2,cF]
    by_cases e3:upB a=q0I
    ·have hd:=q2O vals hasc
     simp only [dYT e3,cT,qc7 t a k vals hv 3 (undB t k).1 (undB t k).2.1 P hasc hPl,qW ((P.length:Int) - ((q0E P vals).length:Int)) (by omega) (by omega),oB]
     rw [q4N t k (3,((undB t k).1,((undB t k).2.1,qx (q0E P vals)))) _ ht (show (3:Int)≠0 by decide) hk (show (qx (q0E P vals)).length<=_ by rw [wI]; omega) (show (undB t k).2.1.size<=_ by omega) fun s hs'=>by
      obtain ⟨p,hp,hs''⟩:=q8Y hs'
      have:=n3 s (by rw [hP]; exact List.mem_flatMap.2 ⟨p,qa1 vals hp,by rcases hs'' with h | h<;>simp [h]⟩)
      omega]
     rfl
    ·simp only [dYF e3,cF,yw t hb,oB]
     by_cases e4:upB a=q1M
     ·simp only [dYT e4,cT,wI,qm5 P.length (by omega),qW (P.length:Int) (by omega) (by omega),oB,yR t ht vals hv]
     ·simp only [dYF e4,cF]
      by_cases e5:upB a=jD
      ·have:=q2f _ (qgx (k:=k) ht)
       rw [hP] at this
       simp only [dYT e5,cT,this,oB,yR t ht vals hv]
      ·have hks:∀ s∈q0M P,s.size<=60:=fun s hs=>n3 s (by rw [hP]; exact qbw hs)
       have hkl:(q0M P).length=P.length:=List.length_map ..
       simp only [dYF e5,cF,qk1 t 3 (undB t k).1 (undB t k).2.1 P (by omega),yw t hb,q2f (q0M P) (q8d _ (by omega) hks),oB,yR t ht vals hv]
end
theorem qmQ:(fldN.all fun u=>bif decide (u=jm) then !(memB u ar0)&&(!(memB u ar1)&&(!(memB u ar2)&&memB u ar3)) else bif decide (u=jL) then !(memB u ar0)&&(!(memB u ar1)&&memB u ar2) else bif decide (u=q0I) then !(memB u ar0)&&(!(memB u ar1)&&(!(memB u ar2)&&(!(memB u ar3)&&(!(memB u ar4)&&memB u ar5)))) else !(memB u ar0)&&memB u ar1)=true:=by decide +kernel
theorem qcL {a:BA} {r:List BA} (hu:upB a∈fldN) (h:jo (a::r)=true):∃ k vals,r=k::vals/\((upB a=jm->2<=vals.length)/\(upB a=jL->1<=vals.length)):=by
 have h1:=List.all_eq_true.1 qmQ _ hu
 unfold jo at h
 simp only [Bool.and_eq_true] at h
 have h:=h.2
 unfold arB at h
 have key:∀ n:Nat,r.length=n+1->∃ k vals,r=k::vals/\vals.length=n:=fun n hn=>by
  match r,hn with
  | k::vals,hn=>exact ⟨k,vals,rfl,by simpa using hn⟩
 by_cases e1:upB a=jm
 ·rw [dYT e1] at h1
  simp only [cT,Bool.and_eq_true,Bool.not_eq_true'] at h1
  obtain ⟨h10,h11,h12,h13⟩:=h1
  simp only [h10,h11,h12,h13,cT,cF,beq_iff_eq] at h
  obtain ⟨k,vals,e,hl⟩:=key 2 (by omega)
  exact ⟨k,vals,e,fun _=>by omega,fun _=>by omega⟩
 ·rw [dYF e1] at h1
  simp only [cF] at h1
  by_cases e3:upB a=jL
  ·rw [dYT e3] at h1
   simp only [cT,Bool.and_eq_true,Bool.not_eq_true'] at h1
   obtain ⟨h10,h11,h12⟩:=h1
   simp only [h10,h11,h12,cT,cF,beq_iff_eq] at h
   obtain ⟨k,vals,e,hl⟩:=key 1 (by omega)
   exact ⟨k,vals,e,fun h=>absurd h e1,fun _=>by omega⟩
  ·rw [dYF e3] at h1
   simp only [cF] at h1
   by_cases e4:upB a=q0I
   ·rw [dYT e4] at h1
    simp only [cT,Bool.and_eq_true,Bool.not_eq_true'] at h1
    obtain ⟨h10,h11,h12,h13,h14,h15⟩:=h1
    simp only [h10,h11,h12,h13,h14,h15,cT,cF,decide_eq_true_eq] at h
    obtain ⟨k,vals,e,hl⟩:=key (r.length - 1) (by omega)
    exact ⟨k,vals,e,fun h=>absurd h e1,fun h=>absurd h e3⟩
   ·rw [dYF e4] at h1
    simp only [cF,Bool.and_eq_true,Bool.not_eq_true'] at h1
    obtain ⟨h10,h11⟩:=h1
    simp only [h10,h11,cT,cF,beq_iff_eq] at h
    obtain ⟨k,vals,e,hl⟩:=key 0 (by omega)
    exact ⟨k,vals,e,fun h=>absurd h e1,fun h=>absurd h e3⟩
theorem qib (t:List DE) (args:List BA) (h:Bd t) (ha:wB args<=1048576):∃ r:RS,Back t r/\q2H t args=some (r,())/\q5p t args=some (r,()):=by
 have hl:args.length<=1048576:=q0q ha
 have hs:∀ s∈args,s.size<=1048576:=fun s hs=>q2p ha hs
 have hi:=q4g t args q2u fldN h (by omega) (fun s h=>by have:=hs s h; omega) qnw (by decide)
 rw [qcZ,hi]
 cases hp:isB t args fldN with
 | false=>
  refine ⟨([],(eB,false)),.inr q56,?_,rfl⟩
  rw [q5x,show yS t args [jm,jL,q0I,q1M,jD,q54]=some (isB t args fldN,()) from zh t _ _ h (by omega) (fun s h=>by have:=hs s h; omega) (by decide),hp]
  rfl
 | true=>
  have hp':=hp
  unfold isB at hp'
  simp only [Bool.and_eq_true] at hp'
  obtain ⟨ht,hm,har⟩:=hp'
  match args,hl,hs,hp,hm,har with
  | a::r,hl,hs,hp,hm,har=>
   obtain ⟨k,vals,rfl,h2⟩:=qcL (wO.1 hm) har
   have hlen:(a::k::vals).length=vals.length+2:=rfl
   have hv:vals.length<=2097152:=by omega
   have hks:k.size<=4194304:=by have:=hs k (List.mem_cons_of_mem _ (List.mem_cons_self ..)); omega
   refine ⟨zJ (fldD t (upB a) k vals) t,q3B _ _,q8K t ht k vals hv a hp hks (fun s h=>by have:=hs s h; omega) h2 (by omega),?_⟩
   have k1:(decide ((0:Int)<=1)&&decide ((1:Int) < ((a::k::vals).length:Int)))=true:=by rw [dYT (show (1:Int) < ((a::k::vals).length:Int) by omega)]; rfl
   have k0:(decide ((0:Int)<=0)&&decide ((0:Int) < ((a::k::vals).length:Int)))=true:=by rw [dYT (show (0:Int) < ((a::k::vals).length:Int) by omega)]; rfl
   have k2:(decide ((0:Int)<=2)&&(decide ((2:Int)<=((a::k::vals).length:Int))&&decide (((a::k::vals).length:Int)<=((a::k::vals).length:Int))))=true:=by rw [dYT (show (2:Int)<=((a::k::vals).length:Int) by omega),dYT (Int.le_refl _)]; rfl
   have g0:zA (List.getD (a::k::vals) (Int.toNat 0) eB)=some (upB a,()):=q2I a (by have:=hs a (List.mem_cons_self ..); omega)
   have g1:List.getD (a::k::vals) (Int.toNat 1) eB=k:=rfl
   have g2:List.take ((Int.toNat ((a::k::vals).length:Int)) - (Int.toNat 2)) (List.drop (Int.toNat 2) (a::k::vals))=vals:=by
    rw [Int.toNat_natCast]
    exact List.take_of_length_le (by show vals.length<=(a::k::vals).length - 2; omega)
   obtain ⟨d',ho⟩:=q4n (fldD t (upB a) k vals) t h (qmc t ht k vals hv (upB a) hks (fun s hs'=>by have:=hs s (List.mem_cons_of_mem _ (List.mem_cons_of_mem _ hs')); omega) h2.1)
   simp only [oB,cT,Bool.not_true,cF,k0,k1,k2,g0,g1,g2,qgd t ht k vals hv (upB a) h2,ho]
end Go.Den.S
