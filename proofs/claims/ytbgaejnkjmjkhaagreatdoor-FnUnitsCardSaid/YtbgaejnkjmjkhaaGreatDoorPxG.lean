/- PxG: equations of the functions of this seat as the executor tells them, or plain facts about them. Conditions: none here. -/
import Derived.Test.YtbgaejnkjmjkhaaGreatDoorPxF
set_option linter.all false
namespace Go.Den.S
open Go Go.Den
def AscS (l:List BA):Prop:=l.Pairwise fun a b=>blt a b=true
def hdS (x:BA):List BA->Bool
 | []=>false
 | y::_=>decide (y=x)
theorem qje (x:BA) {l:List BA} (h:AscS l):∃ A B,l=A++B/\(∀ a∈A,blt a x=true)/\(∀ b∈B,blt b x=false) /\
  ((hdS x B=false/\x∉l/\∀ b∈B,blt x b=true)\/∃ C,B=x::C/\(∀ a∈A,a≠x)/\∀ c∈C,c≠x):=by
 obtain ⟨A,B,h1,h2,h3,h4,h5⟩:=q7x (fun s:BA=>s) x l h
 refine ⟨A,B,h1,h3,h4,?_⟩
 rcases h5 with ⟨h5,h6⟩ | ⟨e,C,h5,he,h6,h7⟩
 ·left
  refine ⟨?_,fun hx=>?_,fun b hb=>q92 (h6 b hb) (h4 b hb)⟩
  ·cases B with
   | nil=>rfl
   | cons y C=>exact dYF (h6 y (List.mem_cons_self ..))
  ·rw [h1] at hx
   rcases List.mem_append.1 hx with hx | hx
   ·exact q8x (h3 x hx) rfl
   ·exact h6 x hx rfl
 ·right
  have he:e=x:=he
  subst he
  exact ⟨C,h5,fun a ha=>q8x (h3 a ha),h7⟩
theorem qmP (a:BA):(!(a.toList==a.toList))=false:=by simp
theorem qnu (l:List BA) (x:BA) (hl:l.length<=100000000) {A B:List BA} (hAB:l=A++B) (hA:∀ a∈A,blt a x=true) (hB:∀ b∈B,blt b x=false) :
  zR l x=some (((A.length:Int),hdS x B),()):=by
 have hlen:l.length=A.length+B.length:=by rw [hAB,List.length_append]
 rw [q4c]
 have hget:∀ i,i < l.length->blt (l.getD i eB) x=decide (i < A.length):=fun i hi=>by
  rw [wS hi]
  by_cases hlt:i < A.length
  ·rw [dYT hlt]
   have:l[i]=A[i]:=by simp only [hAB]; rw [List.getElem_append_left hlt]
   rw [this]
   exact hA _ (List.getElem_mem _)
  ·rw [dYF hlt]
   have:l[i]=B[i - A.length]'(by omega):=by simp only [hAB]; rw [List.getElem_append_right (by omega)]
   rw [this]
   exact hB _ (List.getElem_mem _)
 have:=qiP (fun lo hi=>wK l x (l.length:Int) lo hi) (fun i=>blt (l.getD i eB) x) l.length A.length (by omega) hget
  (fun lo hi hlt hhi=>by
   conv=>lhs; rw [q0K]
   have hm:w64 (shrI Go.IntKind.u64 (Go.IntKind.u64.wrap (w64 ((lo:Int)+(hi:Int)))) 1)=(((lo+hi) / 2:Nat):Int):=qlf (by omega)
   have e3:w64 ((((lo+hi) / 2:Nat):Int)+1)=(((lo+hi) / 2+1:Nat):Int):=qz (by omega)
   simp only [dYT (show (lo:Int) < (hi:Int) by omega),hm,e3,dYT (show (0:Int)<=(((lo+hi) / 2:Nat):Int) by omega),dYT (show (((lo+hi) / 2:Nat):Int) < (l.length:Int) by omega),Bool.and_self,cT,Int.toNat_natCast,qaJ,qas,qmP,oB,cF,blt_eq])
 rw [this,q0K]
 simp only [Int.lt_irrefl,decide_false,cF]
 match B,hlen,hAB,hB with
 | [],hlen,_,_=>
  simp only [List.length_nil,Nat.add_zero] at hlen
  rw [dYF (show ¬ ((A.length:Int) < (l.length:Int)) by omega)]
  rfl
 | e::C,hlen,hAB,hB=>
  simp only [List.length_cons] at hlen
  have hg:l.getD A.length eB=e:=by rw [List.getD_eq_getElem?_getD,hAB]; simp
  simp only [dYT (show ((A.length:Int) < (l.length:Int)) by omega),dYT (show (0:Int)<=(A.length:Int) by omega),Bool.and_self,cT,Int.toNat_natCast,hg,qN,q8S,oB]
  by_cases he:e=x
  ·rw [show hdS x (e::C)=true from dYT he,dYT he]; rfl
  ·rw [show hdS x (e::C)=false from dYF he,dYF he]
   simp
theorem qax {R:Type} (F:Int->Option R) (p:Nat->Bool) (G:Nat->Option R) (s n:Nat) (hF:∀ i,i < n->F (i:Int)=bif p i then F ((i+s:Nat):Int) else G i) (hE:∀ i,n<=i->i<=n+s->F (i:Int)=G i) :
  ∀ (m i:Nat),(∀ j,j < m->i+j * s < n/\p (i+j * s)=true)->(i+m * s < n->p (i+m * s)=false)->i<=n+s->F (i:Int)=G (i+m * s)
 | 0,i,h,k,hi=>by
  by_cases hlt:i < n
  ·have:=k (by omega)
   rw [hF i hlt]
   simp only [Nat.zero_mul,Nat.add_zero] at this ⊢
   rw [this]; rfl
  ·rw [hE i (by omega) hi]; simp
 | m+1,i,h,k,hi=>by
  obtain ⟨h1,h2⟩:=h 0 (by omega)
  simp only [Nat.zero_mul,Nat.add_zero] at h1 h2
  rw [hF i h1,h2,cT]
  have:=qax F p G s n hF hE m (i+s) (fun j hj=>by
   have:=h (j+1) (by omega)
   rw [Nat.add_mul,Nat.one_mul] at this
   rw [show i+s+j * s=i+(j * s+s) by omega]
   exact this) (fun hlt=>by
   rw [Nat.add_mul,Nat.one_mul] at k
   rw [show i+s+m * s=i+(m * s+s) by omega] at hlt ⊢
   exact k hlt) (by omega)
  rw [this]
  congr 1
  rw [Nat.add_mul,Nat.one_mul]; omega
def atB (l:List BA) (i:Nat) (x:BA):Int×Bool:=((i:Int),bif decide (i < l.length) then decide (l.getD i eB=x) else false)
theorem qfO (l:List BA) (s:Nat) (hs:s<=2) (hs0:1<=s) (x:BA) (hl:l.length<=100000000) (m:Nat) (h:∀ j,j < m->0+j * s < l.length/\blt (l.getD (0+j * s) eB) x=true) (k:0+m * s < l.length->blt (l.getD (0+m * s) eB) x=false) :
  q0u l (s:Int) x=some (atB l (m * s) x,()):=by
 rw [qgr]
 have:=qax (fun i=>q4m l (s:Int) x i) (fun i=>blt (l.getD i eB) x) (fun i=>some (atB l i x,())) s l.length
  (fun i hi=>by
   conv=>lhs; rw [q8v]
   have e3:w64 ((i:Int)+(s:Int))=((i+s:Nat):Int):=by show IntKind.i64.wrap _=_; rw [ql (by omega) (by omega)]; omega
   have e1:decide ((i:Int) < (l.length:Int))=true:=dYT (by omega)
   have e2:decide (0<=(i:Int))=true:=dYT (by omega)
   simp only [e1,e2,e3,Bool.and_self,cT,Int.toNat_natCast,blt_eq,qN]
   unfold atB
   rw [dYT hi,cT])
  (fun i hi hi2=>by
   show q4m l (s:Int) x (i:Int)=_
   rw [q8v]
   have e1:decide ((i:Int) < (l.length:Int))=false:=dYF (by omega)
   simp only [e1,cF]
   unfold atB
   rw [dYF (show ¬ i < l.length by omega),cF]) m 0 h k (by omega)
 refine this.trans ?_
 rw [Nat.zero_add]
theorem qkd (l:List BA) (x:BA) (hl:l.length<=100000000) {A B:List BA} (hAB:l=A++B) (hA:∀ a∈A,blt a x=true) (hB:∀ b∈B,blt b x=false) :
  q0u l 1 x=some (((A.length:Int),hdS x B),()):=by
 have hlen:l.length=A.length+B.length:=by rw [hAB,List.length_append]
 have:=qfO l 1 (by omega) (by omega) x hl A.length (fun j hj=>by
  simp only [Nat.zero_add,Nat.mul_one]
  refine ⟨by omega,?_⟩
  rw [wS (by omega)]
  have:l[j]'(by omega)=A[j]:=by simp only [hAB]; rw [List.getElem_append_left hj]
  rw [this]
  exact hA _ (List.getElem_mem _)) (fun hlt=>by
  simp only [Nat.zero_add,Nat.mul_one] at hlt ⊢
  rw [wS hlt]
  have:l[A.length]=B[A.length - A.length]'(by omega):=by simp only [hAB]; rw [List.getElem_append_right (by omega)]
  rw [this]
  exact hB _ (List.getElem_mem _))
 refine this.trans ?_
 unfold atB
 simp only [Nat.mul_one]
 match B,hlen,hAB with
 | [],hlen,_=>
  simp only [List.length_nil,Nat.add_zero] at hlen
  rw [dYF (by omega)]; rfl
 | e::C,hlen,hAB=>
  simp only [List.length_cons] at hlen
  have hg:l.getD A.length eB=e:=by rw [List.getD_eq_getElem?_getD,hAB]; simp
  rw [dYT (by omega),hg]; rfl
theorem qd3 (l xs:List BA) (a:Nat) (ha:a<=l.length) (hl:l.length+xs.length<=100000000):q2Q l (a:Int) xs=some (l.take a++xs++l.drop a,()):=by
 rw [qg2]
 have e1:decide ((a:Int)<=(l.length:Int))=true:=dYT (by omega)
 have e2:decide (0<=(a:Int))=true:=dYT (by omega)
 have e3:l.take (a - 0)=l.take a:=rfl
 have e5:(l.drop a).take (l.length - a)=l.drop a:=List.take_of_length_le (by rw [List.length_drop]; omega)
 have l1:(l.take a).length=a:=by rw [List.length_take]; omega
 have l2:(l.drop a).length=l.length - a:=List.length_drop
 simp only [Int.le_refl,decide_true,e1,e2,Bool.and_self,cT,Int.toNat_natCast,show Int.toNat 0=0 from rfl,List.drop_zero,Nat.sub_zero,List.nil_append,e5,List.length_append,l1,l2,qI (show (0+a) * 16<=140737488355328 by omega),qI (show (a+xs.length) * 16<=140737488355328 by omega),qI (show (a+xs.length+(l.length - a)) * 16<=140737488355328 by omega)]
theorem qfX (l:List BA) (a n:Nat) (ha:a+n<=l.length) (hl:l.length<=100000000):q3a l (a:Int) (n:Int)=some (l.take a++l.drop (a+n),()):=by
 rw [qff]
 have e1:decide ((a:Int)<=(l.length:Int))=true:=dYT (by omega)
 have e2:decide (0<=(a:Int))=true:=dYT (by omega)
 have e4:w64 ((a:Int)+(n:Int))=((a+n:Nat):Int):=by show IntKind.i64.wrap _=_; rw [ql (by omega) (by omega)]; omega
 have e5:(l.drop (a+n)).take (l.length - (a+n))=l.drop (a+n):=List.take_of_length_le (by rw [List.length_drop]; omega)
 have e6:decide (((a+n:Nat):Int)<=(l.length:Int))=true:=dYT (by omega)
 have e7:decide (0<=((a+n:Nat):Int))=true:=dYT (by omega)
 have l1:(l.take a).length=a:=by rw [List.length_take]; omega
 have l2:(l.drop (a+n)).length=l.length - (a+n):=List.length_drop
 simp only [Int.le_refl,decide_true,e1,e2,e4,e6,e7,Bool.and_self,cT,Int.toNat_natCast,show Int.toNat 0=0 from rfl,List.drop_zero,Nat.sub_zero,List.nil_append,e5,l1,l2,qI (show (0+a) * 16<=140737488355328 by omega),qI (show (a+(l.length - (a+n))) * 16<=140737488355328 by omega)]
theorem qfB (l xs:List BA) (a:Nat) (ha:a<=l.length) (hx:0 < xs.length) (hl:l.length+xs.length<=100000000):wF l (a:Int) xs=some (l.take a++xs++l.drop a,()):=by
 rw [q5n]
 unfold insF
 simp only [dYT (show (0:Int)<=(a:Int) by omega),dYT (show (a:Int)<=(l.length:Int) by omega),dYT hx,qI (show (l.length+xs.length) * 16<=140737488355328 by omega),Bool.and_self,cT,Int.toNat_natCast]
theorem qla (l:List BA) (a b:Nat) (hab:a<=b) (hb:b<=l.length) (hl:l.length<=100000000):jM l (a:Int) (b:Int)=some (l.take a++l.drop b,()):=by
 rw [q5i]
 unfold delF
 simp only [dYT (show (0:Int)<=(a:Int) by omega),dYT (show (a:Int)<=(b:Int) by omega),dYT (show (b:Int)<=(l.length:Int) by omega),qI (show l.length * 16<=140737488355328 by omega),Bool.and_self,cT,Int.toNat_natCast]
def addS (l:List BA) (x:BA):List BA:=bif memB x l then l else (l.filter fun a=>blt a x)++x::l.filter fun a=>blt x a
theorem qjk {A B:List BA} {x:BA} (hA:∀ a∈A,blt a x=true) (hB:∀ b∈B,blt b x=false):(A++B).filter (fun a=>blt a x)=A:=by
 rw [List.filter_append,List.filter_eq_self.2 hA,List.filter_eq_nil_iff.2 fun b hb=>by rw [hB b hb]; simp,List.append_nil]
theorem qi9 {A B:List BA} {x:BA} (hA:∀ a∈A,blt a x=true) (hB:∀ b∈B,blt x b=true):(A++B).filter (fun a=>blt x a)=B:=by
 rw [List.filter_append,List.filter_eq_self.2 hB,List.filter_eq_nil_iff.2 fun a ha=>by rw [q9i (hA a ha)]; simp,List.nil_append]
theorem q7r {l:List BA} (h:AscS l) (x:BA):∃ A B,l=A++B/\(∀ a∈A,blt a x=true)/\(∀ b∈B,blt b x=false)/\hdS x B=memB x l/\(hdS x B=false->addS l x=A++[x]++B)/\(hdS x B=true->∃ C,B=x::C/\addS l x=l/\(l.filter fun s=>!(decide (s=x)))=A++C)/\AscS (addS l x):=by
 obtain ⟨A,B,h1,h2,h3,h4⟩:=qje x h
 refine ⟨A,B,h1,h2,h3,?_⟩
 rcases h4 with ⟨h4,h5,h6⟩ | ⟨C,rfl,h5,h6⟩
 ·have hm:memB x l=false:=q5Z.2 h5
  have ha:addS l x=A++[x]++B:=by
   unfold addS
   rw [hm,cF,h1,qjk h2 h3,qi9 h2 h6,List.append_assoc]; rfl
  refine ⟨by rw [h4,hm],fun _=>ha,(fun h=>by rw [h4] at h; cases h),?_⟩
  unfold AscS at h ⊢
  rw [ha,List.append_assoc,List.pairwise_append]
  rw [h1,List.pairwise_append] at h
  refine ⟨h.1,?_,fun a ha' b hb=>?_⟩
  ·rw [List.singleton_append,List.pairwise_cons]
   exact ⟨h6,h.2.1⟩
  ·rw [List.singleton_append] at hb
   rcases List.mem_cons.1 hb with hb | hb
   ·rw [hb]; exact h2 a ha'
   ·exact h.2.2 a ha' b hb
 ·have hm:memB x l=true:=wO.2 (by rw [h1]; simp)
  have ha:addS l x=l:=by unfold addS; rw [hm,cT]
  have hh:hdS x (x::C)=true:=dYT rfl
  refine ⟨by rw [hh,hm],(fun h=>by rw [hh] at h; cases h),fun _=>⟨C,rfl,ha,?_⟩,by rw [ha]; exact h⟩
  rw [h1,List.filter_append,List.filter_eq_self.2 fun a ha=>by rw [dYF (h5 a ha)]; rfl,List.filter_cons_of_neg (by simp),List.filter_eq_self.2 fun c hc=>by rw [dYF (h6 c hc)]; rfl]
def jf (l xs:List BA):List BA:=xs.foldl addS l
theorem q8P (l:List BA) (x:BA) (h:AscS l):(addS l x).length=l.length+(bif memB x l then 0 else 1):=by
 obtain ⟨A,B,h1,_,_,h4,h5,h6,_⟩:=q7r h x
 cases hm:memB x l with
 | true=>
  obtain ⟨C,_,h7,_⟩:=h6 (h4.trans hm)
  rw [h7]; rfl
 | false=>
  rw [h5 (h4.trans hm)]
  conv=>rhs; rw [h1]
  simp only [List.length_append,List.length_singleton,cF]; omega
theorem q55 {l:List BA}:∀ (xs:List BA) {l:List BA},AscS l->AscS (jf l xs)/\l.length<=(jf l xs).length/\(jf l xs).length<=l.length+xs.length
 | [],l,h=>⟨h,Nat.le_refl _,by simp [jf]⟩
 | x::r,l,h=>by
  obtain ⟨_,_,_,_,_,_,_,_,h7⟩:=q7r h x
  obtain ⟨k1,k2,k3⟩:=q55 (l:=l) r h7
  have hl:=q8P l x h
  refine ⟨k1,?_,?_⟩
  ·show _<=(jf (addS l x) r).length
   omega
  ·show (jf (addS l x) r).length<=_
   simp only [List.length_cons]
   have:(bif memB x l then 0 else 1)<=1:=by cases memB x l<;>decide
   omega
theorem qlv {l:List BA} {x s:BA} (h:s∈addS l x):s∈l\/s=x:=by
 unfold addS at h
 cases hm:memB x l with
 | true=>rw [hm] at h; exact .inl h
 | false=>
  rw [hm,cF] at h
  rcases List.mem_append.1 h with h | h
  ·exact .inl (List.mem_filter.1 h).1
  ·rcases List.mem_cons.1 h with h | h
   ·exact .inr h
   ·exact .inl (List.mem_filter.1 h).1
theorem qaC:∀ (xs l:List BA) (s:BA),s∈jf l xs->s∈l\/s∈xs
 | [],l,s,h=>.inl h
 | x::r,l,s,h=>by
  rcases qaC r (addS l x) s h with h | h
  ·rcases qlv h with h | h
   ·exact .inl h
   ·exact .inr (by rw [h]; exact List.mem_cons_self ..)
  ·exact .inr (List.mem_cons_of_mem _ h)
def q12 (l xs:List BA):List BA:=l.filter fun s=>!(memB s xs)
def delS (l:List BA) (x:BA):List BA:=l.filter fun s=>!(decide (s=x))
theorem qi0 (l:List BA) (x:BA) (r:List BA):q12 (delS l x) r=q12 l (x::r):=by
 unfold q12 delS
 rw [List.filter_filter]
 congr 1
 funext s
 have:memB s (x::r)=(decide (s=x)||memB s r):=by
  by_cases e:s=x
  ·rw [dYT e,e]; simp [memB]
  ·rw [dYF e]
   cases h:memB s r with
   | true=>exact wO.2 (List.mem_cons_of_mem _ (wO.1 h))
   | false=>exact q5Z.2 fun hm=>(List.mem_cons.1 hm).elim e (q5Z.1 h)
 rw [this]
 cases memB s r<;>cases decide (s=x)<;>rfl
end Go.Den.S
