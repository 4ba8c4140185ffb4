/- PxY: equations of the functions of this seat as the executor tells them, or plain facts about them. Conditions: none here. -/
import Derived.Test.YtbgaejnkjmjkhaaGreatDoorPxX
set_option linter.all false
namespace Go.Den.S
open Go Go.Den
def tyB (n:Int):BA:=bif decide (n=1) then qd1 else bif decide (n=2) then qhf else bif decide (n=3) then qh0 else bif decide (n=4) then qjV else qha
theorem qdd (n:Int):(tyB n).size<=100:=by
 unfold tyB
 cases decide (n=1)<;>cases decide (n=2)<;>cases decide (n=3)<;>cases decide (n=4)<;>decide
theorem qgD (n:Int):q8A n=some (tyB n,()):=by
 rw [qen]
 unfold tyB
 simp only [wL]
 cases decide (n=1)<;>cases decide (n=2)<;>cases decide (n=3)<;>cases decide (n=4)<;>rfl
theorem qgA {t:List DE} {k:BA} (hf:(fndB t k).2=false):(fndB t k).1=(0,(0,(eB,[]))):=by
 unfold fndB at hf ⊢
 cases hx:t.find? fun e=>decide (e.1=k) with
 | none=>rfl
 | some e=>rw [hx] at hf; cases hf
theorem q8I {v:DV} (h:valB v=true):(v.1=1\/v.1=2\/v.1=3\/v.1=4)/\0<=v.2.1/\v.2.1<=100000:=by
 unfold valB at h
 simp only [Bool.and_eq_true,decide_eq_true_eq] at h
 refine ⟨?_,h.1.1,h.1.2⟩
 by_cases h1:v.1=1
 ·exact .inl h1
 ·have:=h.2
  simp only [dYF h1,cF,Bool.and_eq_true,decide_eq_true_eq] at this
  exact .inr this.1.1.1.1.1
theorem qia {t:List DE} (ht:tabB t=true) (k:BA):q7L (fndB t k).1 (fndB t k).2=some (tyB (fndB t k).1.1,()):=by
 rw [qcs]
 cases hf:(fndB t k).2 with
 | false=>rw [qgA hf]; rfl
 | true=>
  have hk:=(q8I (q5N ht hf).1).1
  simp only [Bool.not_true,cF]
  rcases hk with h | h | h | h<;>(rw [h]; rfl)
def q6u (v:DV) (found:Bool) (now:Int):Int:=bif !found then -2 else bif decide (v.2.1=0) then -1 else v.2.1 - now
def keyD (t:List DE) (now:Int) (u k:BA) (vals:List BA):DD:=
 let f:=fndB t k
 bif decide (u=jc) then (t,(zI k,false))
 else bif decide (u=wQ) then (((k::vals).foldl (cntK true) (0,t)).2,(numB ((k::vals).foldl (cntK true) (0,t)).1,false))
 else bif decide (u=yN) then (((k::vals).foldl (cntK false) (0,t)).2,(numB ((k::vals).foldl (cntK false) (0,t)).1,false))
 else bif decide (u=q02) then (t,(jV (tyB f.1.1),false))
 else bif decide (u=zy) then
  (bif !(rdI (gi vals 0)).2 then (t,(y5 qO,true)) else bif !f.2 then (t,(numB 0,false)) else bif decide ((rdI (gi vals 0)).1<=0) then (q1T t k,(numB 1,false))
   else bif decide (now+(rdI (gi vals 0)).1 > 100000) then (t,(y5 yG,true)) else (putB t k (f.1.1,(now+(rdI (gi vals 0)).1,f.1.2.2)),(numB 1,false)))
 else bif decide (u=q1Q) then (t,(numB (q6u f.1 f.2 now),false))
 else bif decide (f.1.2.1=0) then (t,(numB 0,false)) else (putB t k (f.1.1,(0,f.1.2.2)),(numB 1,false))
theorem q52 (del:Bool) (ks:List BA):∀ (p:Int×List DE),Ok2 p.2->p.1<=(ks.foldl (cntK del) p).1/\(ks.foldl (cntK del) p).1<=p.1+ks.length/\Ok2 (ks.foldl (cntK del) p).2:=by
 induction ks with
 | nil=>intro p h; exact ⟨Int.le_refl _,by simp,h⟩
 | cons k r ih=>
  intro p h
  obtain ⟨h1,h2,h3⟩:=ih (cntK del p k) (qcW h del k)
  have hc:p.1<=(cntK del p k).1/\(cntK del p k).1<=p.1+1:=by
   show p.1<=(bif (fndB p.2 k).2 then p.1+1 else p.1)/\(bif (fndB p.2 k).2 then p.1+1 else p.1)<=p.1+1
   cases (fndB p.2 k).2<;>simp only [cT,cF]<;>omega
  refine ⟨?_,?_,h3⟩
  ·show p.1<=(r.foldl (cntK del) (cntK del p k)).1
   omega
  ·show (r.foldl (cntK del) (cntK del p k)).1<=_
   simp only [List.length_cons]; omega
theorem qi5 (t:List DE) (ht:tabB t=true) (now:Int) (hnow:0<=now/\now<=100000) (u k:BA) (vals:List BA) (hv:vals.length<=2097151) (hk:k.size<=1000000000) (h2:u=zy->1<=vals.length) (hs:∀ s∈vals,s.size<=4194304) :
  jZ (t,(eB,false)) now u (k::vals)=some ((),(keyD t now u k vals,())):=by
 have hb:=z8 ht
 have has:=q1x ht
 have hok:Ok2 t:=⟨hb,has⟩
 have k0:(decide ((0:Int)<=0)&&decide ((0:Int) < ((k::vals).length:Int)))=true:=by rw [dYT (show (0:Int) < ((k::vals).length:Int) by simp only [List.length_cons]; omega)]; rfl
 have g0:List.getD (k::vals) (Int.toNat 0) eB=k:=rfl
 have g1:List.getD (k::vals) (Int.toNat 1) eB=gi vals 0:=rfl
 rw [q4f]
 simp only [k0,g0,g1,cT,qN,q2A t k hb,oB,wL]
 unfold keyD
 by_cases e1:u=jc
 ·simp only [dYT e1,cT,q2t k hk,oB,wz]; rfl
 ·simp only [dYF e1,cF]
  have hcnt:∀ del:Bool,((wE (t,(eB,false)) (k::vals) del).bind fun r7=>(qG r7.1).bind fun r8=>(q9 r7.2.1 r8.1).bind fun r9=>some ((),(r9.2.1,())))=some ((),((((k::vals).foldl (cntK del) (0,t)).2,(numB ((k::vals).foldl (cntK del) (0,t)).1,false)),())):=fun del=>by
   obtain ⟨b1,b2,_⟩:=q52 del (k::vals) (0,t) hok
   simp only [List.length_cons] at b2
   rw [qjw del t _ (k::vals) hok (by simp only [List.length_cons]; omega)]
   simp only [oB]
   rw [qP _ (by omega) (by omega)]
   simp only [oB,wz]
   rfl
  by_cases e2:u=wQ
  ·simp only [dYT e2,cT]
   exact hcnt true
  ·simp only [dYF e2,cF]
   by_cases e3:u=yN
   ·simp only [dYT e3,cT]
    exact hcnt false
   ·simp only [dYF e3,cF]
    by_cases e4:u=q02
    ·have:=qdd (fndB t k).1.1
     simp only [dYT e4,cT,qia ht k,oB,q3l _ (show (tyB (fndB t k).1.1).size<=2097152 by omega),wz]
     rfl
    ·simp only [dYF e4,cF]
     by_cases e5:u=zy
     ·have hp:=h2 e5
      have k1:(decide ((0:Int)<=1)&&decide ((1:Int) < ((k::vals).length:Int)))=true:=by rw [dYT (show (1:Int) < ((k::vals).length:Int) by simp only [List.length_cons]; omega)]; rfl
      have hz:(gi vals 0).size<=4194304:=hs (gi vals 0) (yj (d:=eB) (show 0 < vals.length by omega))
      have i0:=q1H (gi vals 0)
      have w1:w64 (100000 - (rdI (gi vals 0)).1)=100000 - (rdI (gi vals 0)).1:=ql (by omega) (by omega)
      have w2:w64 (now+(rdI (gi vals 0)).1)=now+(rdI (gi vals 0)).1:=ql (by omega) (by omega)
      have hd:decide (now > 100000 - (rdI (gi vals 0)).1)=decide (now+(rdI (gi vals 0)).1 > 100000):=decide_eq_decide.2 (by omega)
      simp only [dYT e5,cT,k1]
      rw [q3m,q3C _ _ (by omega)]
      simp only [oB,w1,w2,hd]
      cases hr:(rdI (gi vals 0)).2 with
      | false=>
       simp only [Bool.not_false,cT]
       show (((q2Z t k).bind _).bind _)=_
       rw [q2A t k hb]
       rfl
      | true=>
       simp only [Bool.not_true,cF,q2A t k hb,oB]
       cases (fndB t k).2 with
       | false=>
        simp only [Bool.not_false,cT,qP 0 (by omega) (by omega),oB,wz]
        rfl
       | true=>
        simp only [Bool.not_true,cF]
        cases decide ((rdI (gi vals 0)).1<=0) with
        | true=>
         simp only [cT,q8z (t,(eB,false)) k hb has,qP 1 (by omega) (by omega),oB,wz]
         rfl
        | false=>
         simp only [cF]
         cases decide (now+(rdI (gi vals 0)).1 > 100000) with
         | true=>
          simp only [cT,q2x _ yG (by decide),oB]
          rfl
         | false=>
          simp only [cF,yZ (t,(eB,false)) k _ hb has,qP 1 (by omega) (by omega),oB,wz]
          rfl
     ·simp only [dYF e5,cF]
      by_cases e6:u=q1Q
      ·have hin:-5000000<=q6u (fndB t k).1 (fndB t k).2 now/\q6u (fndB t k).1 (fndB t k).2 now<=5000000/\qbl (fndB t k).1 (fndB t k).2 now=some (q6u (fndB t k).1 (fndB t k).2 now,()):=by
        rw [qhr]
        unfold q6u
        simp only [wL]
        cases hf:(fndB t k).2 with
        | false=>exact ⟨by simp,by simp,by first | rfl | trivial⟩
        | true=>
         have hu:=(q8I (q5N ht hf).1).2
         rw [show w64 ((fndB t k).1.2.1 - now)=(fndB t k).1.2.1 - now from ql (by omega) (by omega)]
         cases decide ((fndB t k).1.2.1=0) with
         | true=>exact ⟨by simp,by simp,by first | rfl | trivial⟩
         | false=>
          simp only [Bool.not_true,cF]
          exact ⟨by omega,by omega,by first | rfl | trivial⟩
       simp only [dYT e6,cT,hin.2.2,oB,qP _ (show -9000000000000000000<=q6u (fndB t k).1 (fndB t k).2 now by omega) (by omega),wz]
       rfl
      ·simp only [dYF e6,cF]
       cases decide ((fndB t k).1.2.1=0) with
       | true=>
        simp only [cT,qP 0 (by omega) (by omega),oB,wz]
        rfl
       | false=>
        simp only [cF,yZ (t,(eB,false)) k _ hb has,qP 1 (by omega) (by omega),oB,wz]
        rfl
end Go.Den.S
