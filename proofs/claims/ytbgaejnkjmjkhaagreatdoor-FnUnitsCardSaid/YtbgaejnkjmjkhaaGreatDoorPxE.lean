/- PxE: equations of the functions of this seat as the executor tells them, or plain facts about them. Conditions: none here. -/
import Derived.Test.YtbgaejnkjmjkhaaGreatDoorPxD
set_option linter.all false
namespace Go.Den.S
open Go Go.Den
theorem qhP {α:Type} (P:α->Bool):∀ (l:List α) (i:Nat),(idxI P l i=-1/\l.find? P=none)\/∃ k x,k < l.length/\idxI P l i=((i+k:Nat):Int)/\l[k]?=some x/\l.find? P=some x
 | [],i=>.inl ⟨rfl,rfl⟩
 | x::r,i=>by
  unfold idxI
  rw [List.find?_cons]
  cases h:P x with
  | true=>exact .inr ⟨0,x,by simp,by simp,rfl,rfl⟩
  | false=>
   simp only [cF]
   rcases qhP P r (i+1) with ⟨h1,h2⟩ | ⟨k,y,h1,h2,h3,h4⟩
   ·exact .inl ⟨h1,h2⟩
   ·exact .inr ⟨k+1,y,by simp; omega,by rw [h2]; congr 1; omega,by simpa using h3,h4⟩
def fndB (t:List DE) (k:BA):DV×Bool:=match t.find? fun e=>decide (e.1=k) with
 | some e=>(e.2,true)
 | none=>((0,(0,(eB,[]))),false)
theorem q5N {t:List DE} {k:BA} (h:tabB t=true) (hf:(fndB t k).2=true):valB (fndB t k).1=true/\(k,(fndB t k).1)∈t:=by
 unfold fndB at hf ⊢
 cases hx:t.find? fun e=>decide (e.1=k) with
 | none=>rw [hx] at hf; cases hf
 | some e=>
  have hm:=List.mem_of_find?_eq_some hx
  have hk:=List.find?_some hx
  simp only [decide_eq_true_eq] at hk
  refine ⟨(q8c h hm).1,?_⟩
  rw [<- hk]
  exact hm
theorem q2A (t:List DE) (k:BA) (h:Bd t):q2Z t k=some (fndB t k,()):=by
 have hl:=h.len
 rw [qhc,q63]
 have:=qak (fun i=>zL t (t.length:Int) i k) (fun e:DE=>decide (e.1=k)) dflt t (fun n=>some (n,((),())))
  (fun i hi=>by
   conv=>lhs; rw [q1U]
   have e1:decide ((i:Int) < (t.length:Int))=true:=dYT (by omega)
   have e2:decide (0<=(i:Int))=true:=dYT (by omega)
   have e3:w64 ((i:Int)+1)=((i+1:Nat):Int):=qz (by omega)
   simp only [e1,e2,e3,Bool.and_self,cT,Int.toNat_natCast,qeX,oB,qN])
  (by
   show zL t (t.length:Int) (t.length:Int) k=_
   rw [q1U]
   simp only [Int.lt_irrefl,decide_false,cF])
 rw [this]
 unfold fndB
 rcases qhP (fun e:DE=>decide (e.1=k)) t 0 with ⟨h1,h2⟩ | ⟨j,x,hj,h1,h2,h3⟩
 ·rw [h1,h2]; rfl
 ·rw [h1,h3]
  have hg:t.getD j dflt=x:=by rw [List.getD_eq_getElem?_getD,h2]; rfl
  have hm:=h.its x (List.mem_of_getElem? h2)
  simp only [oB,Nat.zero_add,dYF (show ¬ ((j:Int) < 0) by omega),cF,dYT (show (0:Int)<=(j:Int) by omega),dYT (show (j:Int) < (t.length:Int) by omega),Bool.and_self,cT,Int.toNat_natCast,hg,q8X x.2 (by omega)]
theorem q2e (t:List DE) (k:BA) (h:Bd t):q2M t k=some (fndB t k,()):=by
 have hl:=h.len
 rw [qgC]
 have key:=q6V t dflt (fun i r=>q6i t k (i:Int) 0 0 eB []=some ((match r.find? fun e=>decide (e.1=k) with | some e=>(e.2,true) | none=>((0,(0,(eB,[]))),false)),()))
  (by
   rw [q9a]
   simp only [Int.lt_irrefl,decide_false,cF]
   rfl)
  (fun i x r hi hx hm ih=>by
   rw [q9a]
   have e1:decide ((i:Int) < (t.length:Int))=true:=dYT (by omega)
   have e2:decide (0<=(i:Int))=true:=dYT (by omega)
   have e3:w64 ((i:Int)+1)=((i+1:Nat):Int):=qz (by omega)
   have hs:=h.its x hm
   have hx':t.getD i (eB,0,0,eB,[])=x:=hx
   simp only [e1,e2,e3,Bool.and_self,cT,Int.toNat_natCast,qN,hx',q6o x.2 (by omega),oB,ih,List.find?_cons]
   cases decide (x.1=k)<;>rfl)
 exact key
theorem q7x {α:Type} (key:α->BA) (k:BA):∀ (l:List α),l.Pairwise (fun a b=>blt (key a) (key b)=true)->
  ∃ A B,l=A++B/\A=l.filter (fun e=>blt (key e) k)/\(∀ a∈A,blt (key a) k=true)/\(∀ b∈B,blt (key b) k=false) /\
   ((B=l.filter (fun e=>blt k (key e))/\∀ b∈B,key b≠k)\/∃ e C,B=e::C/\key e=k/\C=l.filter (fun e=>blt k (key e))/\∀ c∈C,key c≠k)
 | [],_=>⟨[],[],rfl,rfl,(fun _ h=>by cases h),(fun _ h=>by cases h),.inl ⟨rfl,fun _ h=>by cases h⟩⟩
 | x::r,h=>by
  rw [List.pairwise_cons] at h
  cases hx:blt (key x) k with
  | true=>
   obtain ⟨A,B,h1,h2,h3,h4,h5⟩:=q7x key k r h.2
   have hgt:blt k (key x)=false:=q9i hx
   refine ⟨x::A,B,by rw [h1]; rfl,by rw [List.filter_cons_of_pos (by exact hx),<- h2],fun a ha=>?_,h4,?_⟩
   ·rcases List.mem_cons.1 ha with rfl | ha
    ·exact hx
    ·exact h3 a ha
   ·rw [List.filter_cons_of_neg (by rw [hgt]; simp)]
    exact h5
  | false=>
   have hr:∀ b∈r,blt k (key b)=true:=fun b hb=>by
    by_cases e:k=key x
    ·rw [e]; exact h.1 b hb
    ·exact q4C (q92 (fun e'=>e e'.symm) hx) (h.1 b hb)
   have hr2:∀ b∈r,blt (key b) k=false:=fun b hb=>q9i (hr b hb)
   have f1:(x::r).filter (fun e=>blt (key e) k)=[]:=by
    rw [List.filter_eq_nil_iff]
    intro b hb
    rcases List.mem_cons.1 hb with rfl | hb
    ·rw [hx]; simp
    ·rw [hr2 b hb]; simp
   have f2:r.filter (fun e=>blt k (key e))=r:=List.filter_eq_self.2 hr
   refine ⟨[],x::r,rfl,f1.symm,(fun _ h=>by cases h),fun b hb=>?_,?_⟩
   ·rcases List.mem_cons.1 hb with rfl | hb
    ·exact hx
    ·exact hr2 b hb
   ·by_cases e:key x=k
    ·right
     refine ⟨x,r,rfl,e,?_,fun c hc=>(q8x (hr c hc)).symm⟩
     rw [List.filter_cons_of_neg (by rw [e,q88]; simp),f2]
    ·left
     have hkx:blt k (key x)=true:=q92 e hx
     refine ⟨by rw [List.filter_cons_of_pos (p:=fun e=>blt k (key e)) hkx,f2],fun b hb=>?_⟩
     rcases List.mem_cons.1 hb with rfl | hb
     ·exact e
     ·exact (q8x (hr b hb)).symm
def lowB (t:List DE) (k:BA):List DE:=t.filter fun e=>blt e.1 k
def q4T (t:List DE) (k:BA):List DE:=t.filter fun e=>blt k e.1
def putB (t:List DE) (k:BA) (v:DV):List DE:=lowB t k++(k,v)::q4T t k
def q1T (t:List DE) (k:BA):List DE:=lowB t k++q4T t k
theorem qj6 (e:DE) (k:BA):zD e k=some ((if blt e.1 k then -1 else if e.1=k then 0 else 1),()):=by
 rw [q3v,qbn]
 unfold q43
 rw [qig]; rfl
theorem eta5 (x:DE):(x.1,(x.2.1,(x.2.2.1,(x.2.2.2.1,x.2.2.2.2))))=x:=rfl
def hdB (k:BA):List DE->Bool
 | []=>false
 | e::_=>decide (e.1=k)
theorem qmj (b:Bool) (p:Prop) [Decidable p]:decide ((if b=true then (-1:Int) else if p then 0 else 1) < 0)=b:=by
 cases b with
 | true=>rfl
 | false=>
  simp only [Bool.false_eq_true,if_false]
  split<;>rfl
theorem qni (t:List DE) (k:BA) (h:Bd t) {A B:List DE} (hAB:t=A++B) (hA:∀ a∈A,blt a.1 k=true) (hB:∀ b∈B,blt b.1 k=false) :
  qV t k ()=some (((A.length:Int),hdB k B),((),())):=by
 have hl:=h.len
 have hlen:t.length=A.length+B.length:=by rw [hAB,List.length_append]
 rw [zu]
 have hget:∀ i,i < t.length->blt (t.getD i dflt).1 k=decide (i < A.length):=fun i hi=>by
  rw [wS hi]
  by_cases hlt:i < A.length
  ·rw [dYT hlt]
   have:t[i]=A[i]:=by simp only [hAB]; rw [List.getElem_append_left hlt]
   rw [this]
   exact hA _ (List.getElem_mem _)
  ·rw [dYF hlt]
   have:t[i]=B[i - A.length]'(by omega):=by simp only [hAB]; rw [List.getElem_append_right (by omega)]
   rw [this]
   exact hB _ (List.getElem_mem _)
 have:=qiP (fun lo hi=>qB t k (t.length:Int) lo hi) (fun i=>blt (t.getD i dflt).1 k) t.length A.length (by omega) hget
  (fun lo hi hlt hhi=>by
   conv=>lhs; rw [yB]
   have hm:w64 (shrI Go.IntKind.u64 (Go.IntKind.u64.wrap (w64 ((lo:Int)+(hi:Int)))) 1)=(((lo+hi) / 2:Nat):Int):=qlf (by omega)
   have e3:w64 ((((lo+hi) / 2:Nat):Int)+1)=(((lo+hi) / 2+1:Nat):Int):=qz (by omega)
   simp only [dYT (show (lo:Int) < (hi:Int) by omega),hm,e3,dYT (show (0:Int)<=(((lo+hi) / 2:Nat):Int) by omega),dYT (show (((lo+hi) / 2:Nat):Int) < (t.length:Int) by omega),Bool.and_self,cT,Int.toNat_natCast,qj6,oB,qmj])
 rw [this,yB]
 simp only [Int.lt_irrefl,decide_false,cF]
 match B,hlen,hAB,hB with
 | [],hlen,_,_=>
  simp only [List.length_nil,Nat.add_zero] at hlen
  rw [dYF (show ¬ ((A.length:Int) < (t.length:Int)) by omega)]
  rfl
 | e::C,hlen,hAB,hB=>
  simp only [List.length_cons] at hlen
  have hg:t.getD A.length dflt=e:=by rw [List.getD_eq_getElem?_getD,hAB]; simp
  have hb:=hB e (List.mem_cons_self ..)
  simp only [dYT (show ((A.length:Int) < (t.length:Int)) by omega),dYT (show (0:Int)<=(A.length:Int) by omega),Bool.and_self,cT,Int.toNat_natCast,hg,qj6,hb,oB,Bool.false_eq_true,if_false]
  by_cases he:e.1=k
  ·rw [if_pos he,show hdB k (e::C)=true from dYT he]; rfl
  ·rw [if_neg he,show hdB k (e::C)=false from dYF he]; rfl
abbrev DD:Type:=List DE×BA×Bool
theorem yZ (d:DD) (k:BA) (v:DV) (h:Bd d.1) (ha:Asc d.1):qg d k v=some ((),((bif d.2.2 then d else (putB d.1 k v,d.2)),())):=by
 obtain ⟨t,r,b⟩:=d
 rw [q46]
 cases b with
 | true=>rfl
 | false=>
  have hl:=h.len
  obtain ⟨A,B,h1,h2,h3,h4,h5⟩:=q7x (fun e:DE=>e.1) k t ha
  simp only [cF,qni t k h h1 h3 h4,oB]
  have hlen:t.length=A.length+B.length:=by rw [h1,List.length_append]
  have hlow:lowB t k=A:=h2.symm
  rcases h5 with ⟨h5,h6⟩ | ⟨e,C,rfl,he,h5,h6⟩
  ·have hhigh:q4T t k=B:=h5.symm
   have hf:hdB k B=false:=by
    cases B with
    | nil=>rfl
    | cons e C=>exact dYF (h6 e (List.mem_cons_self ..))
   rw [hf]
   simp only [cF,je]
   unfold insF
   simp only [dYT (show (0:Int)<=(A.length:Int) by omega),dYT (show (A.length:Int)<=(t.length:Int) by omega),List.length_singleton,dYT (show 0 < 1 by omega),qI (show (t.length+1) * 72<=140737488355328 by have:t.length<=4194304:=hl; omega),Bool.and_self,cT,oB,Int.toNat_natCast]
   have e1:t.take A.length=A:=by rw [h1]; simp
   have e2:t.drop A.length=B:=by rw [h1]; simp
   unfold putB
   rw [hlow,hhigh,e1,e2,List.append_assoc]
   rfl
  ·have hhigh:q4T t k=C:=h5.symm
   simp only [List.length_cons] at hlen
   have hg:t.getD A.length dflt=e:=by rw [List.getD_eq_getElem?_getD,h1]; simp
   have hset:t.set A.length (e.1,v)=A++(k,v)::C:=by rw [h1,he]; simp
   have hhd:hdB k (e::C)=true:=dYT he
   simp only [hhd,cT,dYT (show (0:Int)<=(A.length:Int) by omega),dYT (show (A.length:Int) < (t.length:Int) by omega),Bool.and_self,Int.toNat_natCast,hg]
   unfold putB
   rw [hlow,hhigh]
   show some ((),((t.set A.length (e.1,v),(r,false)),()))=_
   rw [hset]
theorem q79 {α β:Type} (P:α->Bool) (f:α->β):∀ (l:List α) (acc:List β),l.foldl (fun a x=>bif P x then a++[f x] else a) acc=acc++(l.filter P).map f
 | [],acc=>by simp
 | x::r,acc=>by
  rw [List.foldl_cons,q79 P f r]
  cases h:P x with
  | true=>rw [List.filter_cons_of_pos h]; simp
  | false=>rw [List.filter_cons_of_neg (by rw [h]; simp)]; simp
theorem q0Q (t:List DE) (k:BA) (v:DV) (h:Bd t):jd t k v=some ((bif decide (v.1=0) then q1T t k else putB t k v),()):=by
 have hl:=h.len
 rw [qeL]
 have two:∀ acc:List DE,acc.length<=t.length+1->q0J t k acc 0=some (acc++q4T t k,()):=fun acc hacc=>by
  have:=wX (fun acc i=>q0J t k acc i) t dflt (fun a x=>bif blt k x.1 then a++[x] else a) (fun acc=>some (acc,())) (fun acc i=>acc.length<=t.length+1+i)
   (fun acc i hi hI=>by
    have e1:decide ((i:Int) < (t.length:Int))=true:=dYT (by omega)
    have e2:decide (0<=(i:Int))=true:=dYT (by omega)
    have e3:w64 ((i:Int)+1)=((i+1:Nat):Int):=qz (by omega)
    have hb:(!(blt (t.getD i dflt).1 k||decide ((t.getD i dflt).1=k)))=blt k (t.getD i dflt).1:=by
     by_cases e:(t.getD i dflt).1=k
     ·rw [e,dYT rfl,q88]; rfl
     ·rw [dYF e,Bool.or_false]
      cases hx:blt (t.getD i dflt).1 k with
      | true=>rw [q9i hx]; rfl
      | false=>rw [q92 e hx]; rfl
    constructor
    ·conv=>lhs; rw [q7S]
     simp only [e1,e2,e3,Bool.and_self,cT,Int.toNat_natCast,blt_eq,qN,hb,qI (show (acc.length+1) * 72<=140737488355328 by omega),eta5]
     cases blt k (t.getD i dflt).1<;>simp only [cT,cF]
    ·cases blt k (t.getD i dflt).1
     ·exact Nat.le_succ_of_le hI
     ·simp only [cT,List.length_append,List.length_singleton]; omega)
   (fun acc hI=>by
    show q0J t k acc (t.length:Int)=_
    rw [q7S]
    simp only [Int.lt_irrefl,decide_false,cF]) acc (by omega)
  rw [this,q79 (fun e:DE=>blt k e.1) (fun e=>e)]
  simp [q4T]
 have:=wX (fun acc i=>q28 t k acc i v.1 v.2.1 v.2.2.1 v.2.2.2) t dflt (fun a x=>bif blt x.1 k then a++[x] else a) (fun acc=>some ((acc++bif decide (v.1=0) then [] else [(k,v)])++q4T t k,())) (fun acc i=>acc.length<=i)
  (fun acc i hi hI=>by
   have e1:decide ((i:Int) < (t.length:Int))=true:=dYT (by omega)
   have e2:decide (0<=(i:Int))=true:=dYT (by omega)
   have e3:w64 ((i:Int)+1)=((i+1:Nat):Int):=qz (by omega)
   constructor
   ·conv=>lhs; rw [q7R]
    simp only [e1,e2,e3,Bool.and_self,cT,Int.toNat_natCast,blt_eq,qI (show (acc.length+1) * 72<=140737488355328 by omega),eta5]
    cases blt (t.getD i dflt).1 k<;>simp only [cT,cF]
   ·cases blt (t.getD i dflt).1 k
    ·exact Nat.le_succ_of_le hI
    ·simp only [cT,List.length_append,List.length_singleton]; omega)
  (fun acc hI=>by
   show q28 t k acc (t.length:Int) v.1 v.2.1 v.2.2.1 v.2.2.2=_
   rw [q7R]
   have hne:(v.1 != 0)=!decide (v.1=0):=by
    by_cases e:v.1=0
    ·simp [e]
    ·simp [e]
   simp only [Int.lt_irrefl,decide_false,cF,hne,qI (show (acc.length+1) * 72<=140737488355328 by omega),cT]
   cases decide (v.1=0) with
   | true=>
    simp only [Bool.not_true,cF,cT,List.append_nil]
    exact two acc (by omega)
   | false=>
    simp only [Bool.not_false,cT,cF]
    exact two _ (by rw [List.length_append]; simp; omega)) [] (Nat.le_refl _)
 refine this.trans ?_
 rw [q79 (fun e:DE=>blt e.1 k) (fun e=>e)]
 unfold q1T putB lowB
 cases decide (v.1=0)<;>simp
theorem q7d (t:List DE) (k:BA) (ha:Asc t):(t.filter fun e=>!(decide (e.1=k)))=q1T t k:=by
 obtain ⟨A,B,h1,h2,h3,h4,h5⟩:=q7x (fun e:DE=>e.1) k t ha
 have hlow:lowB t k=A:=h2.symm
 unfold q1T
 have hAf:(A.filter fun e=>!(decide (e.1=k)))=A:=List.filter_eq_self.2 fun a ha=>by rw [dYF (q8x (h3 a ha))]; rfl
 rcases h5 with ⟨h5,h6⟩ | ⟨e,C,rfl,he,h5,h6⟩
 ·have hhigh:q4T t k=B:=h5.symm
  have hBf:(B.filter fun e=>!(decide (e.1=k)))=B:=List.filter_eq_self.2 fun a ha=>by rw [dYF (h6 a ha)]; rfl
  rw [hlow,hhigh]
  conv=>lhs; rw [h1,List.filter_append,hAf,hBf]
 ·have hhigh:q4T t k=C:=h5.symm
  have hCf:(C.filter fun e=>!(decide (e.1=k)))=C:=List.filter_eq_self.2 fun a ha=>by rw [dYF (h6 a ha)]; rfl
  rw [hlow,hhigh]
  conv=>lhs; rw [h1,List.filter_append,hAf,List.filter_cons_of_neg (by rw [dYT he]; simp),hCf]
theorem q8z (d:DD) (k:BA) (h:Bd d.1) (ha:Asc d.1):yV d k=some (decide ((q1T d.1 k).length < d.1.length),((q1T d.1 k,d.2),())):=by
 obtain ⟨t,r⟩:=d
 have hl:t.length<=4194304:=h.len
 rw [q3X,q5R,q65]
 have hi:=qak (fun i=>zN t (t.length:Int) i k) (fun e:DE=>decide (e.1=k)) dflt t (fun n=>some (n,((),())))
  (fun i hi=>by
   conv=>lhs; rw [q1Z]
   have e1:decide ((i:Int) < (t.length:Int))=true:=dYT (by omega)
   have e2:decide (0<=(i:Int))=true:=dYT (by omega)
   have e3:w64 ((i:Int)+1)=((i+1:Nat):Int):=qz (by omega)
   simp only [e1,e2,e3,Bool.and_self,cT,Int.toNat_natCast,q0C,oB,qN])
  (by
   show zN t (t.length:Int) (t.length:Int) k=_
   rw [q1Z]
   simp only [Int.lt_irrefl,decide_false,cF])
 have hd:(bif idxI (fun e:DE=>decide (e.1=k)) t 0==-1 then some (t,((),())) else w9 t (idxI (fun e:DE=>decide (e.1=k)) t 0) (w64 (idxI (fun e:DE=>decide (e.1=k)) t 0+1)) k)=some (q1T t k,((),())):=by
  rw [<- q7d t k ha]
  rcases q95 (fun e:DE=>decide (e.1=k)) t 0 with ⟨h1,h2⟩ | ⟨j,h1,h2,h3,h4⟩
  ·rw [h1,filter_none h2]; rfl
  ·rw [h2]
   have hne:((((0+j:Nat):Int))==-1)=false:=by rw [wL]; exact dYF (by omega)
   rw [hne,cF,Nat.zero_add,show w64 ((j:Int)+1)=((j+1:Nat):Int) from qz (by omega)]
   exact qfd (fun xs i j=>w9 xs i j k) (fun e:DE=>decide (e.1=k)) dflt t (fun l=>some (l,((),())))
    (fun xs i j hj hij hxs _=>by
     conv=>lhs; rw [q1L]
     have e1:decide ((j:Int) < (xs.length:Int))=true:=dYT (by omega)
     have e2:decide (0<=(j:Int))=true:=dYT (by omega)
     have e3:w64 ((j:Int)+1)=((j+1:Nat):Int):=qz (by omega)
     have e4:w64 ((i:Int)+1)=((i+1:Nat):Int):=qz (by omega)
     have e5:decide ((i:Int) < (xs.length:Int))=true:=dYT (by omega)
     have e6:decide (0<=(i:Int))=true:=dYT (by omega)
     simp only [e1,e2,e3,e4,e5,e6,Bool.and_self,cT,Int.toNat_natCast,q0C,oB,qN])
    (fun xs i hi hxs=>by
     show w9 xs (i:Int) (t.length:Int) k=_
     rw [q1L,<- hxs]
     have hz:(((List.take i xs)++(List.replicate (xs.length - i) dflt))++(List.drop xs.length xs)).length=xs.length:=by
      simp only [List.length_append,List.length_take,List.length_replicate,List.length_drop]; omega
     have hz':(((List.take i xs)++(List.replicate (xs.length - i) (eB,((0:Int),((0:Int),(eB,([]:List BA)))))))++(List.drop xs.length xs)).length=xs.length:=hz
     simp only [Int.lt_irrefl,decide_false,cF,dYT (show (0:Int)<=(i:Int) by omega),dYT (show (i:Int)<=(xs.length:Int) by omega),Int.le_refl,decide_true,Bool.and_self,cT,Int.toNat_natCast,hz',show Int.toNat 0=0 from rfl,Nat.sub_zero,List.drop_zero]
     rw [List.append_assoc,List.take_append_of_le_length (by rw [List.length_take]; omega),List.take_take,Nat.min_self])
    j h1 h3 h4
 rw [hi]
 simp only [oB]
 rw [hd]
 simp only [oB]
 rw [show decide (((q1T t k).length:Int) < (t.length:Int))=decide ((q1T t k).length < t.length) from decide_eq_decide.2 (by omega)]
end Go.Den.S
