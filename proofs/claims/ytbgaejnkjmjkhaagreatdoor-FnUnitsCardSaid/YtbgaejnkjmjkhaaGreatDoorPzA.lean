/- PzA: equations of the functions of this seat as the executor tells them, or plain facts about them. Conditions: none here. -/
import Derived.Test.YtbgaejnkjmjkhaaGreatDoorPxZ
set_option linter.all false
namespace Go.Den.S
open Go Go.Den
theorem qmX:(keyN.all fun u=>bif decide (u=zf)||(decide (u=zn)||(decide (u=yT)||decide (u=yD))) then memB u ar0 else bif decide (u=zy) then !(memB u ar0)&&(!(memB u ar1)&&memB u ar2) else bif decide (u=wQ)||decide (u=yN) then !(memB u ar0)&&(!(memB u ar1)&&(!(memB u ar2)&&(!(memB u ar3)&&memB u ar4))) else !(memB u ar0)&&memB u ar1)=true:=by decide +kernel
theorem qcA {a:BA} {r:List BA} (hu:upB a∈keyN) (h:jo (a::r)=true) (m1:¬ upB a=zf) (m2:¬ upB a=zn) (m3:¬ upB a=yT) (m4:¬ upB a=yD):∃ k vals,r=k::vals/\(upB a=zy->1<=vals.length):=by
 have q:=List.all_eq_true.1 qmX _ hu
 unfold jo at h
 simp only [Bool.and_eq_true] at h
 have h:=h.2
 unfold arB at h
 have key:∀ n:Nat,r.length=n+1->∃ k vals,r=k::vals/\vals.length=n:=fun n hn=>by
  match r,hn with
  | k::vals,hn=>exact ⟨k,vals,rfl,by simpa using hn⟩
 rw [dYF m1,dYF m2,dYF m3,dYF m4] at q
 simp only [Bool.or_self,cF] at q
 by_cases e1:upB a=zy
 ·rw [dYT e1] at q
  simp only [cT,Bool.and_eq_true,Bool.not_eq_true'] at q
  obtain ⟨q0,q1,q2⟩:=q
  simp only [q0,q1,q2,cT,cF,beq_iff_eq] at h
  obtain ⟨k,vals,e,hl⟩:=key 1 (by omega)
  exact ⟨k,vals,e,fun _=>by omega⟩
 ·rw [dYF e1] at q
  simp only [cF] at q
  by_cases e2:upB a=wQ\/upB a=yN
  ·have e2':(decide (upB a=wQ)||decide (upB a=yN))=true:=by simpa using e2
   rw [e2'] at q
   simp only [cT,Bool.and_eq_true,Bool.not_eq_true'] at q
   obtain ⟨q0,q1,q2,q3,q4⟩:=q
   simp only [q0,q1,q2,q3,q4,cT,cF,decide_eq_true_eq] at h
   obtain ⟨k,vals,e,hl⟩:=key (r.length - 1) (by omega)
   exact ⟨k,vals,e,fun h=>absurd h e1⟩
  ·have e2':(decide (upB a=wQ)||decide (upB a=yN))=false:=by simpa using e2
   rw [e2'] at q
   simp only [cF,Bool.and_eq_true,Bool.not_eq_true'] at q
   simp only [q.1,q.2,cT,cF,beq_iff_eq] at h
   obtain ⟨k,vals,e,hl⟩:=key 0 (by omega)
   exact ⟨k,vals,e,fun h=>absurd h e1⟩
def q31 (t:List DE):List BA:=t.map fun e=>e.1
theorem qcI {t:List DE} (ht:tabB t=true):(q31 t).length<=20/\∀ s∈q31 t,s.size<=60:=by
 refine ⟨by unfold q31; rw [List.length_map]; exact q0j ht,fun s hs=>?_⟩
 obtain ⟨e,he,rfl⟩:=List.mem_map.1 hs
 have:=(q8c ht he).2
 omega
theorem qfx (t:List DE) (ht:tabB t=true):q27 t [] 0=some ((t,(arrB ((q31 t).map zI),true)),()):=by
 have hb:=z8 ht
 have hl:=q0j ht
 obtain ⟨z1,z2⟩:=qcI ht
 have:=wX (fun acc i=>q27 t acc i) t dflt (fun a e=>a++[e.1]) (fun acc=>(qm t).bind fun r5=>(jr acc).bind fun r6=>some ((r5.1,(r6.1,true)),())) (fun acc i=>acc.length=i)
  (fun acc i hi hI=>by
   constructor
   ·conv=>lhs; rw [q7W]
    simp only [dYT (show (i:Int) < (t.length:Int) by omega),dYT (show (0:Int)<=(i:Int) by omega),Bool.and_self,cT,Int.toNat_natCast,qI (show (acc.length+1) * 16<=140737488355328 by omega),show w64 ((i:Int)+1)=((i+1:Nat):Int) from qz (by omega)]
   ·rw [List.length_append,hI]; rfl)
  (fun acc hI=>by
   show q27 t acc (t.length:Int)=_
   rw [q7W]
   simp only [Int.lt_irrefl,decide_false,cF]) [] rfl
 refine this.trans ?_
 rw [q2W (fun e:DE=>e.1),List.nil_append,yw t hb]
 show ((some (t,())).bind fun r5:List DE×Unit=>(jr (q31 t)).bind fun r6=>some ((r5.1,(r6.1,true)),()))=_
 rw [q2f _ (q8d _ (by omega) z2)]
 rfl
theorem qkh (t:List DE) (ht:tabB t=true):q2b t [] t (t.length:Int) 0 t eB false=some ((t,(arrB ((q31 t).map zI),true)),()):=by
 have hb:=z8 ht
 have hl:=q0j ht
 obtain ⟨z1,z2⟩:=qcI ht
 have:=wX (fun acc i=>q2b t acc t (t.length:Int) i t eB false) t dflt (fun a e=>a++[e.1]) (fun acc=>(q0W acc).bind fun r10=>(q05 r10.1).bind fun r11=>(q9 (t,(eB,false)) r11.1).bind fun r12=>(qw r12.2.1 t).bind fun r13=>some (r13.1,())) (fun acc i=>acc.length=i)
  (fun acc i hi hI=>by
   constructor
   ·conv=>lhs; rw [q7X]
    simp only [dYT (show (i:Int) < (t.length:Int) by omega),dYT (show (0:Int)<=(i:Int) by omega),Bool.and_self,cT,Int.toNat_natCast,qI (show (acc.length+1) * 16<=140737488355328 by omega),show w64 ((i:Int)+1)=((i+1:Nat):Int) from qz (by omega)]
   ·rw [List.length_append,hI]; rfl)
  (fun acc hI=>by
   show q2b t acc t (t.length:Int) (t.length:Int) t eB false=_
   rw [q7X]
   simp only [Int.lt_irrefl,decide_false,cF]) [] rfl
 refine this.trans ?_
 rw [q2W (fun e:DE=>e.1),List.nil_append]
 obtain ⟨d',ho⟩:=q4n (t,(arrB ((q31 t).map zI),false)) t hb hb
 show ((q0W (q31 t)).bind _)=_
 rw [q4a _ (by omega) (fun s hs=>by have:=z2 s hs; omega)]
 simp only [oB,q2F _ (q8f _ (q8d _ (show (q31 t).length<=1000 by omega) z2)),wz]
 show ((qw (t,(arrB ((q31 t).map zI),false)) t).bind _)=_
 rw [ho]
 simp only [oB,yR t ht [] (by simp)]
theorem qkE (t:List DE) (now:Int) (args:List BA) (h:Bd t) (ha:wB args<=1048576):∃ r:RS,Back t r/\jC t now args=some (r,())/\q7c t now args=some (r,()):=by
 have hl:args.length<=1048576:=q0q ha
 have hs:∀ s∈args,s.size<=1048576:=fun s hs=>q2p ha hs
 have hi:=q4g t args q2n keyN h (by omega) (fun s h=>by have:=hs s h; omega) qnr (by decide)
 have hsp:=zh t args keyN h (by omega) (fun s h=>by have:=hs s h; omega) (by decide)
 have hsp:yS t args [zf,jc,wQ,yN,q02,zy,q1Q,q1u,zn,yT,yD]=some (isB t args keyN,()):=hsp
 rw [qeH,hi]
 cases hp:isB t args keyN with
 | false=>
  refine ⟨([],(eB,false)),.inr q56,?_,rfl⟩
  rw [jv,jW,hsp,hp]
  simp only [oB]
  cases (decide (0<=now)&&decide (now<=100000))<;>rfl
 | true=>
  cases hn:(decide (0<=now)&&decide (now<=100000)) with
  | false=>
   refine ⟨([],(eB,false)),.inr q56,?_,?_⟩
   ·rw [jv,jW,hn]; rfl
   ·simp only [oB,cT,q0D,hn]; rfl
  | true=>
   have hn':=hn
   simp only [Bool.and_eq_true,decide_eq_true_eq] at hn'
   have hp':=hp
   unfold isB at hp'
   simp only [Bool.and_eq_true] at hp'
   obtain ⟨ht,hm,har⟩:=hp'
   match args,hl,hs,hp,hm,har,hsp with
   | a::r,hl,hs,hp,hm,har,hsp=>
    simp only [List.length_cons] at hl
    rw [hp] at hsp
    have hu:=wO.1 hm
    have k0:(decide ((0:Int)<=0)&&decide ((0:Int) < ((a::r).length:Int)))=true:=by rw [dYT (show (0:Int) < ((a::r).length:Int) by simp only [List.length_cons]; omega)]; rfl
    have k2:(decide ((0:Int)<=1)&&(decide ((1:Int)<=((a::r).length:Int))&&decide (((a::r).length:Int)<=((a::r).length:Int))))=true:=by rw [dYT (show (1:Int)<=((a::r).length:Int) by simp only [List.length_cons]; omega),dYT (Int.le_refl _)]; rfl
    have g0:zA (List.getD (a::r) (Int.toNat 0) eB)=some (upB a,()):=q2I a (by have:=hs a (List.mem_cons_self ..); omega)
    have g0':yC (List.getD (a::r) (Int.toNat 0) eB)=some (upB a,()):=zx a (by have:=hs a (List.mem_cons_self ..); omega)
    have g2:List.take ((Int.toNat ((a::r).length:Int)) - (Int.toNat 1)) (List.drop (Int.toNat 1) (a::r))=r:=by
     rw [Int.toNat_natCast]
     exact List.take_of_length_le (by show r.length<=(a::r).length - 1; simp)
    have hover:∀ x:BA,∃ d',qw (sayB (t,(eB,false)) x) t=some ((t,(x,true)),(d',())):=fun x=>by
     obtain ⟨d',ho⟩:=q4n (t,(x,false)) t h h
     rw [yR t ht [] (by simp)] at ho
     exact ⟨d',ho⟩
    have hS:jC t now (a::r)=_:=jv t now (a::r)
    rw [jW,hn,hsp] at hS
    simp only [oB,Bool.not_true,cF,k0,cT,g0',qN,yw t h,q1j q5j (by decide),q1j c_OK (by decide),qW (t.length:Int) (by have:=q0j ht; omega) (by have:=q0j ht; omega)] at hS
    simp only [oB,cT,q0D,hn,Bool.not_true,cF,k0,k2,g0,g2,qN,q3l q5j (by decide),q3l c_OK (by decide),qP (t.length:Int) (by have:=q0j ht; omega) (by have:=q0j ht; omega),wz]
    by_cases m1:upB a=zf
    ·obtain ⟨d',ho⟩:=hover (jV q5j)
     refine ⟨(t,(jV q5j,true)),.inl rfl,?_,?_⟩
     ·rw [hS]; simp only [dYT m1,cT]
     ·simp only [dYT m1,cT,ho,oB]
    ·by_cases m2:upB a=zn
     ·have q1:¬ upB a=jc:=by rw [m2]; decide +kernel
      have q2:¬ upB a=wQ:=by rw [m2]; decide +kernel
      have q3:¬ upB a=yN:=by rw [m2]; decide +kernel
      have q4:¬ upB a=q02:=by rw [m2]; decide +kernel
      refine ⟨(t,(arrB ((q31 t).map zI),true)),.inl rfl,?_,?_⟩
      ·rw [hS]; simp only [dYF m1,dYT m2,dYF q1,dYF q2,dYF q3,dYF q4,cT,cF,qfx t ht]
      ·simp only [dYF m1,dYT m2,cT,cF,qkh t ht]
     ·by_cases m3:upB a=yT
      ·have q1:¬ upB a=jc:=by rw [m3]; decide +kernel
       have q2:¬ upB a=wQ:=by rw [m3]; decide +kernel
       have q3:¬ upB a=yN:=by rw [m3]; decide +kernel
       have q4:¬ upB a=q02:=by rw [m3]; decide +kernel
       obtain ⟨d',ho⟩:=hover (numB (t.length:Int))
       refine ⟨(t,(numB (t.length:Int),true)),.inl rfl,?_,?_⟩
       ·rw [hS]; simp only [dYF m1,dYF m2,dYT m3,dYF q1,dYF q2,dYF q3,dYF q4,cT,cF]
       ·simp only [dYF m1,dYF m2,dYT m3,cT,cF,ho,oB]
      ·by_cases m4:upB a=yD
       ·have q1:¬ upB a=jc:=by rw [m4]; decide +kernel
        have q2:¬ upB a=wQ:=by rw [m4]; decide +kernel
        have q3:¬ upB a=yN:=by rw [m4]; decide +kernel
        have q4:¬ upB a=q02:=by rw [m4]; decide +kernel
        have hb0:Bd []:=z8 q56
        obtain ⟨d',ho⟩:=q4n ([],(jV c_OK,false)) t h hb0
        have ho:qw (sayB ([],(eB,false)) (jV c_OK)) t=some (([],(jV c_OK,true)),(d',())):=ho
        refine ⟨([],(jV c_OK,true)),.inr q56,?_,?_⟩
        ·rw [hS]; simp only [dYF m1,dYF m2,dYF m3,dYT m4,dYF q1,dYF q2,dYF q3,dYF q4,cT,cF]
        ·simp only [dYF m1,dYF m2,dYF m3,dYT m4,cT,cF,ho,oB]
       ·obtain ⟨k,vals,rfl,h2⟩:=qcA hu har m1 m2 m3 m4
        simp only [List.length_cons] at hl
        have hks:k.size<=4194304:=by have:=hs k (List.mem_cons_of_mem _ (List.mem_cons_self ..)); omega
        have hvs:∀ s∈vals,s.size<=4194304:=fun s hs'=>by have:=hs s (List.mem_cons_of_mem _ (List.mem_cons_of_mem _ hs')); omega
        obtain ⟨d',ho⟩:=q4n (keyD t now (upB a) k vals) t h (qiV t ht now (upB a) k vals hks)
        refine ⟨zJ (keyD t now (upB a) k vals) t,q3B _ _,qcf t ht now hn' a k vals (by omega) hp hks h2 (fun s h=>by have:=hs s h; omega) hu m1 m2 m3 m4,?_⟩
        simp only [dYF m1,dYF m2,dYF m3,dYF m4,cF,qi5 t ht now hn' (upB a) k vals (by omega) (by omega) h2 hvs,ho,oB]
end Go.Den.S
