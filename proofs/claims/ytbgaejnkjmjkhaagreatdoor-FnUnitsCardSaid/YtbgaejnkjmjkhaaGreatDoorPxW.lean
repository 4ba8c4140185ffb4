/- PxW: equations of the functions of this seat as the executor tells them, or plain facts about them. Conditions: none here. -/
import Derived.Test.YtbgaejnkjmjkhaaGreatDoorPxV
set_option linter.all false
namespace Go.Den.S
open Go Go.Den
def q2C (t:List DE) (ks:List BA):List BA:=ks.map fun k=>txtR (fndB t k).1 (fndB t k).2
theorem qfA (v:DV) (b:Bool) (h:v.2.2.1.size<=60):(txtR v b).size<=90:=by
 unfold txtR
 have hb:=q4V v.2.2.1 (by omega)
 have hn:(nilR:BA).size<=90:=by decide
 cases b with
 | false=>exact hn
 | true=>
  cases decide (v.1=1) with
  | false=>exact hn
  | true=>
   simp only [Bool.not_true,cF]
   omega
section
variable (t:List DE) (ht:tabB t=true)
include ht
theorem qjF (k:BA):(fndB t k).1.2.2.1.size<=60:=(jX (k:=k) ht).2.1
theorem qhb (ks:List BA) (hl:ks.length<=1048576):wB (q2C t ks)<=100000000:=by
 have:∀ r:List BA,((q2C t r).map ByteArray.size).sum<=90 * r.length:=by
  intro r
  induction r with
  | nil=>simp [q2C]
  | cons x r ih=>
   have h1:=qfA (fndB t x).1 (fndB t x).2 (qjF t ht x)
   have e:q2C t (x::r)=txtR (fndB t x).1 (fndB t x).2::q2C t r:=rfl
   rw [e]
   simp only [List.map_cons,List.sum_cons,List.length_cons]; omega
 have h:=this ks
 have hlen:(q2C t ks).length=ks.length:=List.length_map ..
 unfold wB wl
 omega
theorem qkt (r:BA) (ks:List BA) (hl:ks.length<=1048576):yJ [] ks (ks.length:Int) 0 t r false=some ((),((t,(arrB (q2C t ks),false)),())):=by
 have hb:=z8 ht
 have:=wX (fun acc i=>yJ acc ks (ks.length:Int) i t r false) ks eB (fun a k=>a++[txtR (fndB t k).1 (fndB t k).2]) (fun acc=>(q05 acc).bind fun r9=>(q9 (t,(r,false)) r9.1).bind fun r10=>some ((),(r10.2.1,()))) (fun acc i=>acc.length=i)
  (fun acc i hi hI=>by
   constructor
   ·conv=>lhs; rw [q0r]
    have hz:=qjF t ht (ks.getD i eB)
    simp only [dYT (show (i:Int) < (ks.length:Int) by omega),dYT (show (0:Int)<=(i:Int) by omega),Bool.and_self,cT,Int.toNat_natCast,q2A t _ hb,oB,qaV _ _ (show (fndB t (ks.getD i eB)).1.2.2.1.size<=1000000000 by omega),qI (show (acc.length+1) * 16<=140737488355328 by omega),show w64 ((i:Int)+1)=((i+1:Nat):Int) from qz (by omega)]
   ·rw [List.length_append,hI]; rfl)
  (fun acc hI=>by
   show yJ acc ks (ks.length:Int) (ks.length:Int) t r false=_
   rw [q0r]
   simp only [Int.lt_irrefl,decide_false,cF]) [] rfl
 rw [this,q2W (fun k=>txtR (fndB t k).1 (fndB t k).2),List.nil_append]
 show ((q05 (q2C t ks)).bind _)=_
 rw [q2F _ (qhb t ht ks hl)]
 simp only [oB,wz]
 rfl
theorem qfI (a:BA) (ks:List BA) (hl:ks.length<=1048576):q0V t (a::ks) [] 1=some ((t,(arrB (q2C t ks),true)),()):=by
 have hb:=z8 ht
 have:=wX (fun acc i=>q0V t (a::ks) acc (i+1)) ks eB (fun a k=>a++[txtR (fndB t k).1 (fndB t k).2]) (fun acc=>(qm t).bind fun r6=>(q1O acc).bind fun r7=>some ((r6.1,(r7.1,true)),())) (fun acc i=>acc.length=i)
  (fun acc i hi hI=>by
   have hg:(a::ks).getD (i+1) eB=ks.getD i eB:=rfl
   constructor
   ·conv=>lhs; rw [q7o]
    have e0:(i:Int)+1=((i+1:Nat):Int):=rfl
    have e3:w64 (((i+1:Nat):Int)+1)=((i+1:Nat):Int)+1:=by rw [show w64 (((i+1:Nat):Int)+1)=((i+1+1:Nat):Int) from qz (by omega)]; rfl
    simp only [e0,e3,dYT (show ((i+1:Nat):Int) < ((a::ks).length:Int) by simp only [List.length_cons]; omega),dYT (show (0:Int)<=((i+1:Nat):Int) by omega),Bool.and_self,cT,Int.toNat_natCast,hg,qem t _ hb,oB,qI (show (acc.length+1) * 16<=140737488355328 by omega)]
   ·rw [List.length_append,hI]; rfl)
  (fun acc hI=>by
   show q0V t (a::ks) acc ((ks.length:Int)+1)=_
   rw [q7o]
   have e1:decide ((ks.length:Int)+1 < ((a::ks).length:Int))=false:=dYF (by simp only [List.length_cons]; omega)
   simp only [e1,cF]) [] rfl
 have h2:q0V t (a::ks) [] 1=_:=this
 rw [h2,q2W (fun k=>txtR (fndB t k).1 (fndB t k).2),List.nil_append]
 show ((qm t).bind fun r6=>(q1O (q2C t ks)).bind fun r7=>some ((r6.1,(r7.1,true)),()))=_
 rw [yw t hb,qaE _ (qhb t ht ks hl)]
 rfl
end
theorem qmO:(txtN.all fun u=>bif decide (u=wV) then !(memB u ar0)&&(!(memB u ar1)&&(!(memB u ar2)&&(!(memB u ar3)&&memB u ar4))) else bif decide (u=yX) then true else bif decide (u=jk)||(decide (u=yP)||(decide (u=j6)||decide (u=jh))) then !(memB u ar0)&&memB u ar1 else !(memB u ar0)&&(!(memB u ar1)&&memB u ar2))=true:=by decide +kernel
theorem qcN {a:BA} {r:List BA} (hu:upB a∈txtN) (h:jo (a::r)=true) (h1:¬ upB a=wV) (h1':¬ upB a=yX):∃ k vals,r=k::vals/\(¬ upB a=jk->¬ upB a=yP->¬ upB a=j6->¬ upB a=jh->1<=vals.length):=by
 have q:=List.all_eq_true.1 qmO _ hu
 unfold jo at h
 simp only [Bool.and_eq_true] at h
 have h:=h.2
 unfold arB at h
 have key:∀ n:Nat,r.length=n+1->∃ k vals,r=k::vals/\vals.length=n:=fun n hn=>by
  match r,hn with
  | k::vals,hn=>exact ⟨k,vals,rfl,by simpa using hn⟩
 rw [dYF h1,dYF h1'] at q
 simp only [cF] at q
 by_cases e1:upB a=jk\/upB a=yP\/upB a=j6\/upB a=jh
 ·have e1':(decide (upB a=jk)||(decide (upB a=yP)||(decide (upB a=j6)||decide (upB a=jh))))=true:=by simpa using e1
  rw [e1'] at q
  simp only [cT,Bool.and_eq_true,Bool.not_eq_true'] at q
  simp only [q.1,q.2,cT,cF,beq_iff_eq] at h
  obtain ⟨k,vals,e,hl⟩:=key 0 (by omega)
  refine ⟨k,vals,e,fun n1 n2 n3 n4=>?_⟩
  rcases e1 with e1 | e1 | e1 | e1
  ·exact absurd e1 n1
  ·exact absurd e1 n2
  ·exact absurd e1 n3
  ·exact absurd e1 n4
 ·have e1':(decide (upB a=jk)||(decide (upB a=yP)||(decide (upB a=j6)||decide (upB a=jh))))=false:=by simpa using e1
  rw [e1'] at q
  simp only [cF,Bool.and_eq_true,Bool.not_eq_true'] at q
  obtain ⟨q0,q1,q2⟩:=q
  simp only [q0,q1,q2,cT,cF,beq_iff_eq] at h
  obtain ⟨k,vals,e,hl⟩:=key 1 (by omega)
  exact ⟨k,vals,e,fun _ _ _ _=>by omega⟩
theorem qjR (t:List DE) (args:List BA) (h:Bd t) (ha:wB args<=1048576):∃ r:RS,Back t r/\q4M t args=some (r,())/\q6b t args=some (r,()):=by
 have hl:args.length<=1048576:=q0q ha
 have hs:∀ s∈args,s.size<=1048576:=fun s hs=>q2p ha hs
 have hi:=q4g t args q2y txtN h (by omega) (fun s h=>by have:=hs s h; omega) qnp (by decide)
 have hsp:=zh t args txtN h (by omega) (fun s h=>by have:=hs s h; omega) (by decide)
 rw [qdW,hi]
 cases hp:isB t args txtN with
 | false=>
  rw [hp] at hsp
  refine ⟨([],(eB,false)),.inr q56,?_,rfl⟩
  rw [q0S,show yS t args [jk,q0s,zV,zl,zi,yP,j6,jh,q0y,zT,wV,yX]=some (false,()) from hsp]
  rfl
 | true=>
  have hp':=hp
  unfold isB at hp'
  simp only [Bool.and_eq_true] at hp'
  obtain ⟨ht,hm,har⟩:=hp'
  have hbn:BdN 20 t:=⟨q0j ht,h.its,h.szs⟩
  have has:=q1x ht
  rw [hp] at hsp
  match args,hl,hs,hp,hm,har,hsp with
  | a::r,hl,hs,hp,hm,har,hsp=>
   simp only [List.length_cons] at hl
   have hrs:∀ s∈r,s.size<=4194304:=fun s hs'=>by have:=hs s (List.mem_cons_of_mem _ hs'); omega
   have k0:(decide ((0:Int)<=0)&&decide ((0:Int) < ((a::r).length:Int)))=true:=by rw [dYT (show (0:Int) < ((a::r).length:Int) by simp only [List.length_cons]; omega)]; rfl
   have k2:(decide ((0:Int)<=1)&&(decide ((1:Int)<=((a::r).length:Int))&&decide (((a::r).length:Int)<=((a::r).length:Int))))=true:=by rw [dYT (show (1:Int)<=((a::r).length:Int) by simp only [List.length_cons]; omega),dYT (Int.le_refl _)]; rfl
   have g0:zA (List.getD (a::r) (Int.toNat 0) eB)=some (upB a,()):=q2I a (by have:=hs a (List.mem_cons_self ..); omega)
   have g0':yC (List.getD (a::r) (Int.toNat 0) eB)=some (upB a,()):=zx a (by have:=hs a (List.mem_cons_self ..); omega)
   have g2:List.take ((Int.toNat ((a::r).length:Int)) - (Int.toNat 1)) (List.drop (Int.toNat 1) (a::r))=r:=by
    rw [Int.toNat_natCast]
    exact List.take_of_length_le (by show r.length<=(a::r).length - 1; simp)
   by_cases m1:upB a=wV
   ·have hne:¬ wV=yX:=by decide +kernel
    have hti:wM (t,(eB,false)) (upB a) r=some ((),((t,(arrB (q2C t r),false)),())):=by
     rw [q0N]
     simp only [qN,m1,dYF hne,cF]
     exact qkt t ht _ r (by omega)
    obtain ⟨d',ho⟩:=q4n (t,(arrB (q2C t r),false)) t h h
    refine ⟨zJ (t,(arrB (q2C t r),false)) t,q3B _ _,?_,?_⟩
    ·rw [q0S,show yS t (a::r) [jk,q0s,zV,zl,zi,yP,j6,jh,q0y,zT,wV,yX]=some (true,()) from hsp]
     simp only [oB,Bool.not_true,cF,k0,cT,g0',qN,dYT m1]
     rw [qfI t ht a r (by omega),yR t ht [] (by simp)]
    ·simp only [oB,cT,Bool.not_true,cF,k0,k2,g0,g2,qN,dYT m1,hti,ho]
   ·by_cases m2:upB a=yX
    ·have hmb:=qeE r t 20 hbn has hrs
     have hmB:Bd (q7f r t):=hmb.bd (by omega)
     have hti:wM (t,(eB,false)) (upB a) r=some ((),((q7f r t,(jV c_OK,false)),())):=by
      rw [q0N]
      simp only [qN,m2,decide_true,cT]
      exact qlh _ r.length r [] t 20 (Nat.le_refl _) hbn has (by omega) (by simp; omega) hrs
     obtain ⟨d',ho⟩:=q4n (q7f r t,(jV c_OK,false)) t h hmB
     refine ⟨zJ (q7f r t,(jV c_OK,false)) t,q3B _ _,?_,?_⟩
     ·rw [q0S,show yS t (a::r) [jk,q0s,zV,zl,zi,yP,j6,jh,q0y,zT,wV,yX]=some (true,()) from hsp]
      simp only [oB,Bool.not_true,cF,k0,cT,g0',qN,dYF m1,dYT m2]
      have:=qfK t r.length r [a] t 20 (Nat.le_refl _) hbn has (by omega) (by simp; omega) hrs
      rw [show ([a]++r)=a::r from rfl] at this
      refine (show q10 t (a::r) t 1=_ from this).trans ?_
      rw [q5I t _ _ h hmB]; rfl
     ·simp only [oB,cT,Bool.not_true,cF,k0,k2,g0,g2,qN,dYF m1,dYT m2,hti,ho]
    ·obtain ⟨k,vals,rfl,h2⟩:=qcN (wO.1 hm) har m1 m2
     simp only [List.length_cons] at hl
     have hks:k.size<=4194304:=hrs k (List.mem_cons_self ..)
     have hvs:∀ s∈vals,s.size<=2097152:=fun s hs'=>by have:=hs s (List.mem_cons_of_mem _ (List.mem_cons_of_mem _ hs')); omega
     obtain ⟨d',ho⟩:=q4n (txtD t (upB a) k vals) t h (qiD t ht k vals (by omega) (upB a) hks h2 hvs)
     refine ⟨zJ (txtD t (upB a) k vals) t,q3B _ _,qbh t ht k vals (by omega) a hp m1 m2 hks (fun s h=>by have:=hs s h; omega) h2 (by simp only [List.length_cons]; omega),?_⟩
     simp only [oB,cT,Bool.not_true,cF,k0,k2,g0,g2,qN,dYF m1,dYF m2,qgH t ht k vals (by omega) (upB a) (wO.1 hm) m1 m2 h2 (fun s h=>by have:=hvs s h; omega),ho]
end Go.Den.S
