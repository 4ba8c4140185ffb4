/- PxP: equations of the functions of this seat as the executor tells them, or plain facts about them. Conditions: none here. -/
import Derived.Test.YtbgaejnkjmjkhaaGreatDoorPxN
set_option linter.all false
namespace Go.Den.S
open Go Go.Den
theorem qiz {t:List DE} {k:BA} (hf:(fndB t k).2=false):(undB t k).2.2=[]:=by
 have:(fndB t k).1=(0,(0,(eB,[]))):=by
  unfold fndB at hf ⊢
  cases hx:t.find? fun e=>decide (e.1=k) with
  | none=>rfl
  | some e=>rw [hx] at hf; cases hf
 unfold undB
 rw [this]
theorem qmq {v:DV} (h:valB v=true) (h2:v.1=2):1<=v.2.2.2.length:=by
 unfold valB at h
 have h1:¬ v.1=1:=by omega
 simp only [dYF h1,cF,Bool.and_eq_true,decide_eq_true_eq] at h
 exact h.2.1.1.1.2
section
variable (t:List DE) (ht:tabB t=true) (k:BA) (vals:List BA) (hv:vals.length<=2097152)
include ht
theorem qeQ (hw:qK t k 2=false) (hf:(fndB t k).2=true):1<=(undB t k).2.2.length:=by
 have hx:=(q5N ht hf).1
 unfold qK at hw
 rw [hf] at hw
 simp only [Bool.true_and,Bool.not_eq_false',decide_eq_true_eq] at hw
 exact qmq hx hw
include hv
theorem qh6 (u:BA) (hu:u∈lstN) (h2:((u=zH\/u=zK)->1<=vals.length)/\(u=zm->1<=vals.length)/\(u=j5->2<=vals.length)) (hs:∀ s∈vals,s.size<=4194304):jS (t,(eB,false)) u k vals=some ((),(lstD t u k vals,())):=by
 have hb:=z8 ht
 have has:=q1x ht
 obtain ⟨n1,n2,n3⟩:=jX (k:=k) ht
 rw [q3R,q57 t k 2 hb]
 simp only [oB,qN]
 unfold lstD
 obtain ⟨d,hd⟩:∃ d:DD,d=(bif qK t k 2 then (t,(y5 yh,true)) else (t,(eB,false))):=⟨_,rfl⟩
 have hd1:d.1=t:=by rw [hd]; cases qK t k 2<;>rfl
 have hd2:d.2.2=qK t k 2:=by rw [hd]; cases qK t k 2<;>rfl
 have hdw:qK t k 2=true->d=(t,(y5 yh,true)):=fun h=>by rw [hd,h]; rfl
 have hdr:qK t k 2=false->d=(t,(eB,false)):=fun h=>by rw [hd,h]; rfl
 rw [<- hd]
 have hbd:Bd d.1:=by rw [hd1]; exact hb
 have had:Asc d.1:=by rw [hd1]; exact has
 have hsay:∀ r,qK t k 2=true->sayB d r=(t,(y5 yh,true)):=fun r h=>by rw [hdw h]; rfl
 by_cases e1:u=zH
 ·have hp:=h2.1 (.inl e1)
  have hlen:(vals.reverse++(undB t k).2.2).length=vals.length+(undB t k).2.2.length:=by simp
  have hne:¬ (vals.reverse++(undB t k).2.2)=[]:=fun e=>by rw [e] at hlen; simp at hlen; omega
  simp only [dYT e1,cT]
  show yx k vals (vals.length:Int) 0 d.1 d.2.1 d.2.2 2 (undB t k).1 (undB t k).2.1 (undB t k).2.2=_
  rw [qjA k vals d 2 _ _ _ (by omega),yZ d k _ hbd had,qP _ (by omega) (by omega)]
  simp only [oB,wz]
  unfold q1v
  rw [dYF hne]
  cases hw:qK t k 2 with
  | true=>rw [hdw hw]; rfl
  | false=>rw [hdr hw]; rfl
 ·simp only [dYF e1,cF]
  by_cases e2:u=zK
  ·have hp:=h2.1 (.inr e2)
   have hlen:((undB t k).2.2++vals).length=(undB t k).2.2.length+vals.length:=List.length_append
   have hne:¬ ((undB t k).2.2++vals)=[]:=fun e=>by rw [e] at hlen; simp at hlen; omega
   simp only [dYT e2,cT,qI (show ((undB t k).2.2.length+vals.length) * 16<=140737488355328 by omega)]
   rw [yZ d k _ hbd had,qP _ (by omega) (by omega)]
   simp only [oB,wz]
   unfold q1v
   rw [dYF hne]
   cases hw:qK t k 2 with
   | true=>rw [hdw hw]; rfl
   | false=>rw [hdr hw]; rfl
  ·simp only [dYF e2,cF]
   have hpop:∀ back:Bool,wT d k (2,undB t k) (fndB t k).2 back=some ((),(popD d k (2,undB t k) (fndB t k).2 back,())):=fun back=>
    qn6 d k (2,undB t k) _ back hbd had (fun h1 h2=>qeQ t ht k (by rw [<- hd2]; exact h2) h1) (show (undB t k).2.2.length<=_ by omega) (fun s hs=>by have:=n3 s hs; omega)
   by_cases e3:u=q2l
   ·simp only [dYT e3,cT,hpop,oB]
    have eb:¬ u=q1g:=fun e=>by rw [e3] at e; exact absurd e (by decide +kernel)
    rw [dYF eb]
    unfold popD
    cases hw:qK t k 2 with
    | true=>
     have hf:(fndB t k).2=true:=by unfold qK at hw; simp only [Bool.and_eq_true] at hw; exact hw.1
     rw [hd2,hw,hf,hsay _ hw]; rfl
    | false=>
     cases hf:(fndB t k).2 with
     | false=>rw [dYT (qiz hf),hdr hw]; rfl
     | true=>
      have:=qeQ t ht k hw hf
      rw [dYF (show ¬ (undB t k).2.2=[] from fun e=>by rw [e] at this; simp at this),hd2,hw,hd1]; rfl
   ·simp only [dYF e3,cF]
    by_cases e4:u=q1g
    ·simp only [dYT e4,cT,hpop,oB]
     unfold popD
     cases hw:qK t k 2 with
     | true=>
      have hf:(fndB t k).2=true:=by unfold qK at hw; simp only [Bool.and_eq_true] at hw; exact hw.1
      rw [hd2,hw,hf,hsay _ hw]; rfl
     | false=>
      cases hf:(fndB t k).2 with
      | false=>rw [dYT (qiz hf),hdr hw]; rfl
      | true=>
       have:=qeQ t ht k hw hf
       rw [dYF (show ¬ (undB t k).2.2=[] from fun e=>by rw [e] at this; simp at this),hd2,hw,hd1]; rfl
    ·simp only [dYF e4,cF]
     by_cases e5:u=q1I
     ·simp only [dYT e5,cT]
      rw [qP _ (by omega) (by omega)]
      simp only [oB,wz]
      cases hw:qK t k 2 with
      | true=>rw [hsay _ hw]; rfl
      | false=>rw [hdr hw]; rfl
     ·simp only [dYF e5,cF]
      have hz0:1<=vals.length->(gi vals 0).size<=100000000:=fun h=>by have:=hs (gi vals 0) (yj (d:=eB) (show 0 < vals.length by omega)); omega
      have hbad:∀ r,qK t k 2=true->badB d r=d:=fun r h=>by rw [hdw h]; rfl
      by_cases e6:u=j5
      ·have hp:=h2.2.2 e6
       have e7:¬ u=zm:=fun e=>by rw [e6] at e; exact absurd e (by decide +kernel)
       have k1:decide ((0:Int) < (vals.length:Int))=true:=dYT (by omega)
       have k2:decide ((1:Int) < (vals.length:Int))=true:=dYT (by omega)
       have hz1:(gi vals 1).size<=100000000:=by have:=hs (gi vals 1) (yj (d:=eB) (show 1 < vals.length by omega)); omega
       have i0:=q1H (gi vals 0)
       have i1:=q1H (gi vals 1)
       have hin:=qlb (rdI (gi vals 0)).1 (rdI (gi vals 1)).1 ((undB t k).2.2.length:Int) (by omega)
       have hB:=qf3 (rdI (gi vals 0)).1 (rdI (gi vals 1)).1 ((undB t k).2.2.length:Int) i0 i1 (by omega)
       have hcm:∀ s∈cutL (undB t k).2.2 (bndB (rdI (gi vals 0)).1 (rdI (gi vals 1)).1 ((undB t k).2.2.length:Int)),s.size<=60:=fun s hs=>n3 s (List.mem_of_mem_drop (List.mem_of_mem_take hs))
       have hcl:(cutL (undB t k).2.2 (bndB (rdI (gi vals 0)).1 (rdI (gi vals 1)).1 ((undB t k).2.2.length:Int))).length<=24:=by
        unfold cutL
        rw [List.length_take,List.length_drop]; omega
       simp only [dYT e6,dYF e7,cT,cF,Int.le_refl,decide_true,show decide ((0:Int)<=1)=true from rfl,k1,k2,Bool.and_self]
       show ((qD d (gi vals 0)).bind _)=_
       rw [q3C d _ (hz0 (by omega))]
       simp only [oB]
       have hnum1:=fun d'=>q3C d' (gi vals 1) hz1
       have hk:=fun (d':DD)=>show ((qD d' (List.getD vals (Int.toNat 1) eB)))=some ((rdI (gi vals 1)).1,((bif !(rdI (gi vals 1)).2 then badB d' qO else d'),())) from hnum1 d'
       simp only [hk,oB]
       show ((q76 (rdI (gi vals 0)).1 (rdI (gi vals 1)).1 ((undB t k).2.2.length:Int)).bind _)=_
       rw [hB]
       simp only [oB,dYT hin.1,dYT hin.2.1,dYT hin.2.2,Bool.and_self,cT]
       have hbk:=q4a _ (show (cutL (undB t k).2.2 (bndB (rdI (gi vals 0)).1 (rdI (gi vals 1)).1 ((undB t k).2.2.length:Int))).length<=100000000 by omega) (fun s hs=>by have:=hcm s hs; omega)
       have har:=q2F _ (q8f _ (q8d _ (show (cutL (undB t k).2.2 (bndB (rdI (gi vals 0)).1 (rdI (gi vals 1)).1 ((undB t k).2.2.length:Int))).length<=1000 by omega) hcm))
       unfold cutL at hbk har ⊢
       simp only [hbk,har,oB,wz]
       cases hw:qK t k 2 with
       | true=>
        rw [hdw hw]
        cases (rdI (gi vals 0)).2<;>cases (rdI (gi vals 1)).2<;>rfl
       | false=>
        rw [hdr hw]
        cases (rdI (gi vals 0)).2<;>cases (rdI (gi vals 1)).2<;>rfl
      ·have e7:u=zm:=by
        unfold lstN at hu
        simp only [List.mem_cons,List.not_mem_nil,or_false] at hu
        rcases hu with h | h | h | h | h | h | h
        ·exact absurd h e1
        ·exact absurd h e2
        ·exact absurd h e3
        ·exact absurd h e4
        ·exact absurd h e5
        ·exact absurd h e6
        ·exact h
       have hp:=h2.2.1 e7
       have k1:decide ((0:Int) < (vals.length:Int))=true:=dYT (by omega)
       have i0:=q1H (gi vals 0)
       simp only [dYF e6,dYT e7,cT,cF,Int.le_refl,decide_true,k1,Bool.and_self]
       show ((qD d (gi vals 0)).bind _)=_
       rw [q3C d _ (hz0 (by omega))]
       simp only [oB]
       have w3:w64 (((undB t k).2.2.length:Int) - 1)=((undB t k).2.2.length:Int) - 1:=ql (by omega) (by omega)
       have fE:q2m (rdI (gi vals 0)).1 ((undB t k).2.2.length:Int)=some ((if (rdI (gi vals 0)).1 < 0 then (rdI (gi vals 0)).1+((undB t k).2.2.length:Int) else (rdI (gi vals 0)).1),()):=by
        rw [q5W,show w64 ((rdI (gi vals 0)).1+((undB t k).2.2.length:Int))=(rdI (gi vals 0)).1+((undB t k).2.2.length:Int) from ql (by omega) (by omega)]
        by_cases h:(rdI (gi vals 0)).1 < 0
        ·rw [dYT h,if_pos h]; rfl
        ·rw [dYF h,if_neg h]; rfl
       simp only [fE,oB,q0D,w3]
       unfold idxR
       generalize (if (rdI (gi vals 0)).1 < 0 then (rdI (gi vals 0)).1+((undB t k).2.2.length:Int) else (rdI (gi vals 0)).1)=i
       by_cases hr:0<=i/\i<=((undB t k).2.2.length:Int) - 1
       ·have hsz:(gi (undB t k).2.2 i.toNat).size<=1000000000:=by have:=n3 (gi (undB t k).2.2 i.toNat) (yj (d:=eB) (show i.toNat < (undB t k).2.2.length by omega)); omega
        rw [dYT hr.1,dYT hr.2,dYT (show i < ((undB t k).2.2.length:Int) by omega)]
        simp only [Bool.and_self,cT,if_pos hr,q2t _ hsz,oB,wz]
        cases hw:qK t k 2 with
        | true=>rw [hdw hw]; cases (rdI (gi vals 0)).2<;>rfl
        | false=>rw [hdr hw]; cases (rdI (gi vals 0)).2<;>rfl
       ·have hb':(decide (0<=i)&&decide (i<=((undB t k).2.2.length:Int) - 1))=false:=by
         rw [Bool.and_eq_false_iff,decide_eq_false_iff_not,decide_eq_false_iff_not]; omega
        rw [hb']
        simp only [cF,if_neg hr,q78,oB,wz]
        cases hw:qK t k 2 with
        | true=>rw [hdw hw]; cases (rdI (gi vals 0)).2<;>rfl
        | false=>rw [hdr hw]; cases (rdI (gi vals 0)).2<;>rfl
end
end Go.Den.S
