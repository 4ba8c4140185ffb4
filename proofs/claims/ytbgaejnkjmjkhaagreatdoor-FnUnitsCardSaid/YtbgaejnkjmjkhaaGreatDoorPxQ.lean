/- PxQ: equations of the functions of this seat as the executor tells them, or plain facts about them. Conditions: none here. -/
import Derived.Test.YtbgaejnkjmjkhaaGreatDoorPxP
set_option linter.all false
namespace Go.Den.S
open Go Go.Den
theorem qhY (l:List BA) (s:BA) (hl:l.length<=1000000) (hs:s.size<=100000000) (hz:∀ x∈l,x.size<=1000000):q7O l s=some ((bif !(rdI s).2 then (eB,false) else (idxR l (rdI s).1,true)),()):=by
 rw [qcV,q1C s hs]
 have i0:=q1H s
 have w1:w64 ((rdI s).1+(l.length:Int))=(rdI s).1+(l.length:Int):=ql (by omega) (by omega)
 have w2:w64 ((l.length:Int) - 1)=(l.length:Int) - 1:=ql (by omega) (by omega)
 simp only [oB,w1,w2,jW,q75]
 cases (rdI s).2 with
 | false=>rfl
 | true=>
  simp only [Bool.not_true,cF]
  have key:∀ i:Int,(bif !(decide (0<=i)&&decide (i<=(l.length:Int) - 1)) then some ((nilR,true),()) else bif (decide (0<=i)&&decide (i < (l.length:Int))) then (q1p (l.getD (Int.toNat i) eB)).bind fun r6=>some ((r6.1,true),()) else none)=some (((if 0<=i/\i<=(l.length:Int) - 1 then zI (gi l i.toNat) else nilR),true),()):=fun i=>by
   by_cases hr:0<=i/\i<=(l.length:Int) - 1
   ·have hsz:(gi l i.toNat).size<=1000000000:=by have:=hz (gi l i.toNat) (yj (d:=eB) (show i.toNat < l.length by omega)); omega
    rw [dYT hr.1,dYT hr.2,dYT (show i < (l.length:Int) by omega),if_pos hr]
    simp only [Bool.and_self,Bool.not_true,cF,cT,q2j _ hsz,oB]
   ·have hb':(decide (0<=i)&&decide (i<=(l.length:Int) - 1))=false:=by
     rw [Bool.and_eq_false_iff,decide_eq_false_iff_not,decide_eq_false_iff_not]; omega
    rw [hb',if_neg hr]; rfl
  unfold idxR
  by_cases h:(rdI s).1 < 0
  ·rw [dYT h]
   have:=key ((rdI s).1+(l.length:Int))
   simp only [cT,if_pos h]
   exact this
  ·rw [dYF h]
   have:=key (rdI s).1
   simp only [cF,if_neg h]
   exact this
section
variable (t:List DE) (ht:tabB t=true) (k:BA) (vals:List BA) (hv:vals.length<=2097152)
include ht hv
theorem qmd (u:BA) (hk:k.size<=4194304) (hs:∀ s∈vals,s.size<=4194304):Bd (lstD t u k vals).1:=by
 have hb:=z8 ht
 obtain ⟨n1,n2,n3⟩:=jX (k:=k) ht
 have hm:∀ s,s∈(undB t k).2.2\/s∈vals->s.size<=4194304:=fun s h=>by
  rcases h with h | h
  ·have:=n3 s h; omega
  ·exact hs s h
 unfold lstD
 cases qK t k 2 with
 | true=>exact hb
 | false=>
  simp only [cF]
  by_cases e1:u=zH
  ·simp only [dYT e1,cT]
   exact q5P ht hk (show (vals.reverse++(undB t k).2.2).length<=_ by rw [List.length_append,List.length_reverse]; omega) (by show (undB t k).2.1.size<=_; omega) fun s h=>hm s ((List.mem_append.1 h).symm.imp id fun h=>List.mem_reverse.1 h)
  ·simp only [dYF e1,cF]
   by_cases e2:u=zK
   ·simp only [dYT e2,cT]
    exact q5P ht hk (show ((undB t k).2.2++vals).length<=_ by rw [List.length_append]; omega) (by show (undB t k).2.1.size<=_; omega) fun s h=>hm s (List.mem_append.1 h)
   ·simp only [dYF e2,cF]
    by_cases e3:u=q2l
    ·simp only [dYT e3,cT]
     cases decide ((undB t k).2.2=[]) with
     | true=>exact hb
     | false=>exact q5P ht hk (show ((undB t k).2.2.drop 1).length<=_ by rw [List.length_drop]; omega) (by show (undB t k).2.1.size<=_; omega) fun s h=>hm s (.inl (List.mem_of_mem_drop h))
    ·simp only [dYF e3,cF]
     by_cases e4:u=q1g
     ·simp only [dYT e4,cT]
      cases decide ((undB t k).2.2=[]) with
      | true=>exact hb
      | false=>exact q5P ht hk (show ((undB t k).2.2.take ((undB t k).2.2.length - 1)).length<=_ by rw [List.length_take]; omega) (by show (undB t k).2.1.size<=_; omega) fun s h=>hm s (.inl (List.mem_of_mem_take h))
     ·simp only [dYF e4,cF]
      cases decide (u=q1I)
      ·simp only [cF]
       cases decide (u=zm)
       ·simp only [cF]
        cases (rdI (gi vals 0)).2
        ·exact hb
        ·cases (rdI (gi vals 1)).2<;>exact hb
       ·simp only [cT]
        cases (rdI (gi vals 0)).2<;>exact hb
      ·exact hb
theorem q8T (a:BA) (hp:isB t (a::k::vals) lstN=true) (hu:upB a∈lstN) (hk:k.size<=4194304) (hal:∀ s∈(a::k::vals),s.size<=2097152) (h2:((upB a=zH\/upB a=zK)->1<=vals.length)/\(upB a=zm->1<=vals.length)/\(upB a=j5->2<=vals.length)) (hl2:(a::k::vals).length<=2097152) :
  q4B t (a::k::vals)=some (zJ (lstD t (upB a) k vals) t,()):=by
 have hb:=z8 ht
 have hs:∀ s∈vals,s.size<=4194304:=fun s hs=>by have:=hal s (List.mem_cons_of_mem _ (List.mem_cons_of_mem _ hs)); omega
 obtain ⟨n1,n2,n3⟩:=jX (k:=k) ht
 have hm:∀ s,s∈(undB t k).2.2\/s∈vals->s.size<=4194304:=fun s h=>by
  rcases h with h | h
  ·have:=n3 s h; omega
  ·exact hs s h
 have hcl:(a::k::vals).length=vals.length+2:=rfl
 have k1:(decide ((0:Int)<=1)&&decide ((1:Int) < ((a::k::vals).length:Int)))=true:=by rw [dYT (show (1:Int) < ((a::k::vals).length:Int) by omega)]; rfl
 have k0:(decide ((0:Int)<=0)&&decide ((0:Int) < ((a::k::vals).length:Int)))=true:=by rw [dYT (show (0:Int) < ((a::k::vals).length:Int) by omega)]; rfl
 have kk:(decide ((0:Int)<=2)&&(decide ((2:Int)<=((a::k::vals).length:Int))&&decide (((a::k::vals).length:Int)<=((a::k::vals).length:Int))))=true:=by rw [dYT (show (2:Int)<=((a::k::vals).length:Int) by omega),dYT (Int.le_refl _)]; rfl
 have g1:List.getD (a::k::vals) (Int.toNat 1) eB=k:=rfl
 have g2:List.getD (a::k::vals) (Int.toNat 2) eB=gi vals 0:=rfl
 have g3:List.getD (a::k::vals) (Int.toNat 3) eB=gi vals 1:=rfl
 have gt:List.take ((Int.toNat ((a::k::vals).length:Int)) - (Int.toNat 2)) (List.drop (Int.toNat 2) (a::k::vals))=vals:=by
  rw [Int.toNat_natCast]
  exact List.take_of_length_le (by show vals.length<=(a::k::vals).length - 2; omega)
 have g0:yC (List.getD (a::k::vals) (Int.toNat 0) eB)=some (upB a,()):=zx a (by have:=hal a (List.mem_cons_self ..); omega)
 rw [q60,show yS t (a::k::vals) [zH,zK,q2l,q1g,q1I,j5,zm]=some (isB t (a::k::vals) lstN,()) from zh t _ _ hb hl2 hal (by decide),hp]
 simp only [oB,Bool.not_true,cF,k1,k0,kk,gt,cT,g1,g2,g3,g0,qcQ t k 2 hb,qN,q68 t yh hb (by decide),q68 t qO hb (by decide)]
 unfold lstD
 cases hw:qK t k 2 with
 | true=>
  simp only [q9n hw,Bool.not_false,cT]
  rfl
 | false=>
  simp only [qam hw,Bool.not_true,cF]
  have hkeep:=fun (l:List BA) (r:BA) (hl:l.length<=4194304) (hsz:∀ s∈l,s.size<=4194304)=>q4N t k (2,((undB t k).1,((undB t k).2.1,l))) r ht (show (2:Int)≠0 by decide) hk hl (show (undB t k).2.1.size<=_ by omega) hsz
  by_cases e1:upB a=zH
  ·have hlen:(vals.reverse++(undB t k).2.2).length=vals.length+(undB t k).2.2.length:=by simp
   simp only [dYT e1,cT,qdb t a k vals 2 (undB t k).1 (undB t k).2.1 (undB t k).2.2 (by omega),qW ((vals.reverse++(undB t k).2.2).length:Int) (by omega) (by omega),oB]
   rw [hkeep _ _ (by omega) fun s h=>hm s ((List.mem_append.1 h).symm.imp id fun h=>List.mem_reverse.1 h)]
   rfl
  ·simp only [dYF e1,cF]
   by_cases e2:upB a=zK
   ·have hlen:((undB t k).2.2++vals).length=(undB t k).2.2.length+vals.length:=List.length_append
    simp only [dYT e2,cT,qI (show ((undB t k).2.2.length+vals.length) * 16<=140737488355328 by omega),qW (((undB t k).2.2++vals).length:Int) (by omega) (by omega),oB]
    rw [hkeep _ _ (by omega) fun s h=>hm s (List.mem_append.1 h)]
    rfl
   ·simp only [dYF e2,cF,yw t hb,q75,oB,wL]
    have hnil:decide (((undB t k).2.2.length:Int)=0)=decide ((undB t k).2.2=[]):=decide_eq_decide.2 (by rw [<- List.length_eq_zero_iff]; omega)
    rw [hnil]
    by_cases e3:upB a=q2l
    ·simp only [dYT e3,cT]
     by_cases hz:(undB t k).2.2=[]
     ·simp only [dYT hz,cT,yR t ht vals hv]
     ·have hpos:1<=(undB t k).2.2.length:=by have:=List.length_pos_iff.2 hz; omega
      have hsz:(gi (undB t k).2.2 0).size<=1000000000:=by have:=n3 (gi (undB t k).2.2 0) (yj (by omega)); omega
      have e7:((undB t k).2.2.drop 1).take ((undB t k).2.2.length - 1)=(undB t k).2.2.drop 1:=List.take_of_length_le (by rw [List.length_drop]; exact Nat.le_refl _)
      simp only [dYF hz,cF,Int.le_refl,decide_true,show decide ((0:Int)<=1)=true from rfl,dYT (show (0:Int) < ((undB t k).2.2.length:Int) by omega),dYT (show (1:Int)<=((undB t k).2.2.length:Int) by omega),Bool.and_self,cT,show Int.toNat 0=0 from rfl,show Int.toNat 1=1 from rfl,Int.toNat_natCast,e7,q2j _ hsz,oB]
      rw [hkeep _ _ (by rw [List.length_drop]; omega) fun s h=>hm s (.inl (List.mem_of_mem_drop h))]
      rfl
    ·simp only [dYF e3,cF]
     by_cases e4:upB a=q1g
     ·simp only [dYT e4,cT]
      by_cases hz:(undB t k).2.2=[]
      ·simp only [dYT hz,cT,yR t ht vals hv]
      ·have hpos:1<=(undB t k).2.2.length:=by have:=List.length_pos_iff.2 hz; omega
       have hsz:(gi (undB t k).2.2 ((undB t k).2.2.length - 1)).size<=1000000000:=by have:=n3 (gi (undB t k).2.2 ((undB t k).2.2.length - 1)) (yj (by omega)); omega
       have q3:w64 (((undB t k).2.2.length:Int) - 1)=(((undB t k).2.2.length - 1:Nat):Int):=by show IntKind.i64.wrap _=_; rw [ql (by omega) (by omega)]; omega
       simp only [dYF hz,cF,q3,Int.le_refl,decide_true,dYT (show (0:Int)<=(((undB t k).2.2.length - 1:Nat):Int) by omega),dYT (show (((undB t k).2.2.length - 1:Nat):Int) < ((undB t k).2.2.length:Int) by omega),dYT (show (((undB t k).2.2.length - 1:Nat):Int)<=((undB t k).2.2.length:Int) by omega),Bool.and_self,cT,show Int.toNat 0=0 from rfl,Nat.sub_zero,List.drop_zero,Int.toNat_natCast,q2j _ hsz,oB]
       rw [hkeep _ _ (by rw [List.length_take]; omega) fun s h=>hm s (.inl (List.mem_of_mem_take h))]
       rfl
     ·simp only [dYF e4,cF]
      by_cases e5:upB a=q1I
      ·simp only [dYT e5,cT,qW ((undB t k).2.2.length:Int) (by omega) (by omega),oB,yR t ht vals hv]
      ·simp only [dYF e5,cF]
       by_cases e6:upB a=zm
       ·have hp1:=h2.2.1 e6
        have hz0:(gi vals 0).size<=100000000:=by have:=hs (gi vals 0) (yj (d:=eB) (show 0 < vals.length by omega)); omega
        simp only [dYT e6,cT,show decide ((0:Int)<=2)=true from rfl,dYT (show (2:Int) < ((a::k::vals).length:Int) by omega),Bool.and_self,qhY _ _ (show (undB t k).2.2.length<=1000000 by omega) hz0 (fun s h=>by have:=n3 s h; omega),oB]
        cases (rdI (gi vals 0)).2 with
        | false=>rfl
        | true=>simp only [Bool.not_true,cF,yR t ht vals hv]
       ·have e7:upB a=j5:=by
         unfold lstN at hu
         simp only [List.mem_cons,List.not_mem_nil,or_false] at hu
         rcases hu with h | h | h | h | h | h | h
         ·exact absurd h e1
         ·exact absurd h e2
         ·exact absurd h e3
         ·exact absurd h e4
         ·exact absurd h e5
         ·exact h
         ·exact absurd h e6
        have hp1:=h2.2.2 e7
        have hz0:(gi vals 0).size<=100000000:=by have:=hs (gi vals 0) (yj (d:=eB) (show 0 < vals.length by omega)); omega
        have hz1:(gi vals 1).size<=100000000:=by have:=hs (gi vals 1) (yj (d:=eB) (show 1 < vals.length by omega)); omega
        have i0:=q1H (gi vals 0)
        have i1:=q1H (gi vals 1)
        have hin:=qlb (rdI (gi vals 0)).1 (rdI (gi vals 1)).1 ((undB t k).2.2.length:Int) (by omega)
        have hB:=qey (rdI (gi vals 0)).1 (rdI (gi vals 1)).1 ((undB t k).2.2.length:Int) i0 i1 (by omega)
        have hcm:∀ s∈cutL (undB t k).2.2 (bndB (rdI (gi vals 0)).1 (rdI (gi vals 1)).1 ((undB t k).2.2.length:Int)),s.size<=60:=fun s hs=>n3 s (List.mem_of_mem_drop (List.mem_of_mem_take hs))
        have hcl:(cutL (undB t k).2.2 (bndB (rdI (gi vals 0)).1 (rdI (gi vals 1)).1 ((undB t k).2.2.length:Int))).length<=24:=by
         unfold cutL
         rw [List.length_take,List.length_drop]; omega
        have hbk:=q2f _ (q8d _ (show (cutL (undB t k).2.2 (bndB (rdI (gi vals 0)).1 (rdI (gi vals 1)).1 ((undB t k).2.2.length:Int))).length<=1000 by omega) hcm)
        unfold cutL at hbk ⊢
        simp only [dYF e6,cF,show decide ((0:Int)<=2)=true from rfl,show decide ((0:Int)<=3)=true from rfl,dYT (show (2:Int) < ((a::k::vals).length:Int) by omega),dYT (show (3:Int) < ((a::k::vals).length:Int) by omega),Bool.and_self,cT,q1C _ hz0,q1C _ hz1,oB,hB,dYT hin.1,dYT hin.2.1,dYT hin.2.2,hbk]
        cases (rdI (gi vals 0)).2 with
        | false=>rfl
        | true=>
         cases (rdI (gi vals 1)).2 with
         | false=>rfl
         | true=>simp only [Bool.not_true,cF,yR t ht vals hv]
end
theorem qmR:(lstN.all fun u=>bif decide (u=zH)||decide (u=zK) then !(memB u ar0)&&(!(memB u ar1)&&(!(memB u ar2)&&(!(memB u ar3)&&(!(memB u ar4)&&memB u ar5)))) else bif decide (u=zm) then !(memB u ar0)&&(!(memB u ar1)&&memB u ar2) else bif decide (u=j5) then !(memB u ar0)&&(!(memB u ar1)&&(!(memB u ar2)&&memB u ar3)) else !(memB u ar0)&&memB u ar1)=true:=by decide +kernel
theorem qcU {a:BA} {r:List BA} (hu:upB a∈lstN) (h:jo (a::r)=true):∃ k vals,r=k::vals/\(((upB a=zH\/upB a=zK)->1<=vals.length)/\(upB a=zm->1<=vals.length)/\(upB a=j5->2<=vals.length)):=by
 have h1:=List.all_eq_true.1 qmR _ hu
 unfold jo at h
 simp only [Bool.and_eq_true] at h
 have h:=h.2
 unfold arB at h
 have key:∀ n:Nat,r.length=n+1->∃ k vals,r=k::vals/\vals.length=n:=fun n hn=>by
  match r,hn with
  | k::vals,hn=>exact ⟨k,vals,rfl,by simpa using hn⟩
 by_cases e1:upB a=zH\/upB a=zK
 ·have e1':(decide (upB a=zH)||decide (upB a=zK))=true:=by simpa using e1
  rw [e1'] at h1
  simp only [cT,Bool.and_eq_true,Bool.not_eq_true'] at h1
  obtain ⟨h10,h11,h12,h13,h14,h15⟩:=h1
  simp only [h10,h11,h12,h13,h14,h15,cT,cF,decide_eq_true_eq] at h
  obtain ⟨k,vals,e,hl⟩:=key (r.length - 1) (by omega)
  refine ⟨k,vals,e,fun _=>by omega,fun _=>by omega,fun h=>?_⟩
  rcases e1 with e1 | e1<;>(rw [e1] at h; exact absurd h (by decide +kernel))
 ·have e1':(decide (upB a=zH)||decide (upB a=zK))=false:=by simpa using e1
  rw [e1'] at h1
  simp only [cF] at h1
  by_cases e3:upB a=zm
  ·rw [dYT e3] at h1
   simp only [cT,Bool.and_eq_true,Bool.not_eq_true'] at h1
   obtain ⟨h10,h11,h12⟩:=h1
   simp only [h10,h11,h12,cT,cF,beq_iff_eq] at h
   obtain ⟨k,vals,e,hl⟩:=key 1 (by omega)
   exact ⟨k,vals,e,fun h=>absurd h e1,fun _=>by omega,fun h=>by rw [e3] at h; exact absurd h (by decide +kernel)⟩
  ·rw [dYF e3] at h1
   simp only [cF] at h1
   by_cases e4:upB a=j5
   ·rw [dYT e4] at h1
    simp only [cT,Bool.and_eq_true,Bool.not_eq_true'] at h1
    obtain ⟨h10,h11,h12,h13⟩:=h1
    simp only [h10,h11,h12,h13,cT,cF,beq_iff_eq] at h
    obtain ⟨k,vals,e,hl⟩:=key 2 (by omega)
    exact ⟨k,vals,e,fun h=>absurd h e1,fun h=>absurd h e3,fun _=>by omega⟩
   ·rw [dYF e4] at h1
    simp only [cF,Bool.and_eq_true,Bool.not_eq_true'] at h1
    obtain ⟨h10,h11⟩:=h1
    simp only [h10,h11,cT,cF,beq_iff_eq] at h
    obtain ⟨k,vals,e,hl⟩:=key 0 (by omega)
    exact ⟨k,vals,e,fun h=>absurd h e1,fun h=>absurd h e3,fun h=>absurd h e4⟩
theorem qkc (t:List DE) (args:List BA) (h:Bd t) (ha:wB args<=1048576):∃ r:RS,Back t r/\q4B t args=some (r,())/\q61 t args=some (r,()):=by
 have hl:args.length<=1048576:=q0q ha
 have hs:∀ s∈args,s.size<=1048576:=fun s hs=>q2p ha hs
 have hi:=q4g t args q2E lstN h (by omega) (fun s h=>by have:=hs s h; omega) qnA (by decide)
 rw [qdn,hi]
 cases hp:isB t args lstN with
 | false=>
  refine ⟨([],(eB,false)),.inr q56,?_,rfl⟩
  rw [q60,show yS t args [zH,zK,q2l,q1g,q1I,j5,zm]=some (isB t args lstN,()) from zh t _ _ h (by omega) (fun s h=>by have:=hs s h; omega) (by decide),hp]
  rfl
 | true=>
  have hp':=hp
  unfold isB at hp'
  simp only [Bool.and_eq_true] at hp'
  obtain ⟨ht,hm,har⟩:=hp'
  match args,hl,hs,hp,hm,har with
  | a::r,hl,hs,hp,hm,har=>
   obtain ⟨k,vals,rfl,h2⟩:=qcU (wO.1 hm) har
   have hlen:(a::k::vals).length=vals.length+2:=rfl
   have hv:vals.length<=2097152:=by omega
   have hks:k.size<=4194304:=by have:=hs k (List.mem_cons_of_mem _ (List.mem_cons_self ..)); omega
   have hvs:∀ s∈vals,s.size<=4194304:=fun s hs'=>by have:=hs s (List.mem_cons_of_mem _ (List.mem_cons_of_mem _ hs')); omega
   refine ⟨zJ (lstD t (upB a) k vals) t,q3B _ _,q8T t ht k vals hv a hp (wO.1 hm) hks (fun s h=>by have:=hs s h; omega) h2 (by omega),?_⟩
   have k1:(decide ((0:Int)<=1)&&decide ((1:Int) < ((a::k::vals).length:Int)))=true:=by rw [dYT (show (1:Int) < ((a::k::vals).length:Int) by omega)]; rfl
   have k0:(decide ((0:Int)<=0)&&decide ((0:Int) < ((a::k::vals).length:Int)))=true:=by rw [dYT (show (0:Int) < ((a::k::vals).length:Int) by omega)]; rfl
   have k2:(decide ((0:Int)<=2)&&(decide ((2:Int)<=((a::k::vals).length:Int))&&decide (((a::k::vals).length:Int)<=((a::k::vals).length:Int))))=true:=by rw [dYT (show (2:Int)<=((a::k::vals).length:Int) by omega),dYT (Int.le_refl _)]; rfl
   have g0:zA (List.getD (a::k::vals) (Int.toNat 0) eB)=some (upB a,()):=q2I a (by have:=hs a (List.mem_cons_self ..); omega)
   have g1:List.getD (a::k::vals) (Int.toNat 1) eB=k:=rfl
   have g2:List.take ((Int.toNat ((a::k::vals).length:Int)) - (Int.toNat 2)) (List.drop (Int.toNat 2) (a::k::vals))=vals:=by
    rw [Int.toNat_natCast]
    exact List.take_of_length_le (by show vals.length<=(a::k::vals).length - 2; omega)
   obtain ⟨d',ho⟩:=q4n (lstD t (upB a) k vals) t h (qmd t ht k vals hv (upB a) hks hvs)
   simp only [oB,cT,Bool.not_true,cF,k0,k1,k2,g0,g1,g2,qh6 t ht k vals hv (upB a) (wO.1 hm) h2 hvs,ho]
end Go.Den.S
