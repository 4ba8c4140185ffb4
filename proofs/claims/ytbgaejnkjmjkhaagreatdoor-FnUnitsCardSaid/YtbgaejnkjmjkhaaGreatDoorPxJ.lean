/- PxJ: equations of the functions of this seat as the executor tells them, or plain facts about them. Conditions: none here. -/
import Derived.Test.YtbgaejnkjmjkhaaGreatDoorPxI
set_option linter.all false
namespace Go.Den.S
open Go Go.Den
abbrev PF:Type:=BA×BA
def qx (P:List PF):List BA:=P.flatMap fun p=>[p.1,p.2]
theorem q1P (p:PF) (P:List PF):qx (p::P)=p.1::p.2::qx P:=rfl
theorem q33 (P Q:List PF):qx (P++Q)=qx P++qx Q:=by simp [qx]
theorem wI:∀ P:List PF,(qx P).length=P.length * 2
 | []=>rfl
 | p::P=>by rw [q1P,List.length_cons,List.length_cons,wI P,List.length_cons]; omega
theorem q8Y {P:List PF} {s:BA} (h:s∈qx P):∃ p∈P,s=p.1\/s=p.2:=by
 unfold qx at h
 obtain ⟨p,hp,hs⟩:=List.mem_flatMap.1 h
 simp only [List.mem_cons,List.not_mem_nil,or_false] at hs
 exact ⟨p,hp,hs⟩
def q44:List BA->List PF
 | a::b::r=>(a,b)::q44 r
 | _=>[]
theorem qdQ:∀ (n:Nat) (l:List BA),l.length=n * 2->qx (q44 l)=l
 | 0,l,h=>by
  have:l=[]:=List.length_eq_zero_iff.1 (by omega)
  rw [this]; rfl
 | n+1,[],h=>by simp at h
 | n+1,[a],h=>by simp at h; omega
 | n+1,a::b::r,h=>by
  simp only [List.length_cons] at h
  show a::b::qx (q44 r)=_
  rw [qdQ n r (by omega)]
theorem q20:∀ (P:List PF) (j:Nat) (h:j < P.length),(qx P).getD (j * 2) eB=P[j].1/\(qx P).getD (j * 2+1) eB=P[j].2
 | p::P,0,_=>⟨rfl,rfl⟩
 | p::P,j+1,h=>by
  have:=q20 P j (by simpa using h)
  rw [q1P,show (j+1) * 2=j * 2+1+1 by omega]
  exact this
def AscF (P:List PF):Prop:=P.Pairwise fun a b=>blt a.1 b.1=true
def hdF (x:BA):List PF->Bool
 | []=>false
 | p::_=>decide (p.1=x)
def lowF (P:List PF) (x:BA):List PF:=P.filter fun e=>blt e.1 x
def qec (P:List PF) (x:BA):List PF:=P.filter fun e=>blt x e.1
def setF (P:List PF) (x v:BA):List PF:=lowF P x++(x,v)::qec P x
def delP (P:List PF) (x:BA):List PF:=lowF P x++qec P x
theorem qcB {P:List PF} (h:AscF P) (x:BA):∃ A B,P=A++B/\(∀ a∈A,blt a.1 x=true)/\(∀ b∈B,blt b.1 x=false)/\lowF P x=A/\((hdF x B=false/\qec P x=B)\/∃ v C,B=(x,v)::C/\hdF x B=true/\qec P x=C):=by
 obtain ⟨A,B,h1,h2,h3,h4,h5⟩:=q7x (fun p:PF=>p.1) x P h
 refine ⟨A,B,h1,h3,h4,h2.symm,?_⟩
 rcases h5 with ⟨h5,h6⟩ | ⟨e,C,rfl,he,h6,h7⟩
 ·left
  refine ⟨?_,h5.symm⟩
  cases B with
  | nil=>rfl
  | cons p C=>exact dYF (h6 p (List.mem_cons_self ..))
 ·right
  obtain ⟨e1,e2⟩:=e
  have he:e1=x:=he
  subst he
  exact ⟨e2,C,rfl,dYT rfl,h6.symm⟩
theorem qgZ {P A B:List PF} {x:BA} (h1:P=A++B) (h2:∀ a∈A,blt a.1 x=true) (h3:∀ b∈B,blt b.1 x=false) :
  (∀ j,j < A.length->0+j * 2 < (qx P).length/\blt ((qx P).getD (0+j * 2) eB) x=true)/\(0+A.length * 2 < (qx P).length->blt ((qx P).getD (0+A.length * 2) eB) x=false) /\
   (atB (qx P) (A.length * 2) x).2=hdF x B:=by
 have hlen:P.length=A.length+B.length:=by rw [h1,List.length_append]
 refine ⟨fun j hj=>?_,fun hlt=>?_,?_⟩
 ·rw [wI,Nat.zero_add]
  refine ⟨by omega,?_⟩
  rw [(q20 P j (by omega)).1]
  have:P[j]'(by omega)=A[j]:=by simp only [h1]; rw [List.getElem_append_left hj]
  rw [this]
  exact h2 _ (List.getElem_mem _)
 ·rw [wI,Nat.zero_add] at hlt
  rw [Nat.zero_add,(q20 P A.length (by omega)).1]
  have:P[A.length]'(by omega)=B[A.length - A.length]'(by omega):=by simp only [h1]; rw [List.getElem_append_right (by omega)]
  rw [this]
  exact h3 _ (List.getElem_mem _)
 ·unfold atB
  rw [wI]
  match B,hlen,h1 with
  | [],hlen,_=>
   simp only [List.length_nil,Nat.add_zero] at hlen
   rw [dYF (show ¬ A.length * 2 < P.length * 2 by omega)]; rfl
  | p::C,hlen,h1=>
   simp only [List.length_cons] at hlen
   rw [dYT (show A.length * 2 < P.length * 2 by omega),(q20 P A.length (by omega)).1]
   have:P[A.length]'(by omega)=p:=by simp only [h1]; simp
   rw [this]; rfl
theorem qlS {P A B:List PF} {x:BA} (hl:P.length<=1000000) (h1:P=A++B) (h2:∀ a∈A,blt a.1 x=true) (h3:∀ b∈B,blt b.1 x=false):q0u (qx P) 2 x=some ((((A.length * 2:Nat):Int),hdF x B),()):=by
 obtain ⟨c1,c2,c3⟩:=qgZ h1 h2 h3
 have:=qfO (qx P) 2 (by omega) (by omega) x (by rw [wI]; omega) A.length c1 c2
 rw [show ((2:Nat):Int)=2 from rfl] at this
 rw [this,<- c3]; rfl
theorem qlT {P A B:List PF} {x:BA} (hl:P.length<=1000000) (h1:P=A++B) (h2:∀ a∈A,blt a.1 x=true) (h3:∀ b∈B,blt b.1 x=false):q1q (qx P) x=some ((((A.length * 2:Nat):Int),hdF x B),()):=by
 obtain ⟨c1,c2,c3⟩:=qgZ h1 h2 h3
 have hfl:(qx P).length<=2000000:=by rw [wI]; omega
 rw [qdy]
 have:=qax (fun i=>q2U (qx P) x i) (fun i=>blt ((qx P).getD i eB) x) (fun i=>some (atB (qx P) i x,())) 2 (qx P).length
  (fun i hi=>by
   conv=>lhs; rw [q7J]
   have e3:w64 ((i:Int)+2)=((i+2:Nat):Int):=by show IntKind.i64.wrap _=_; rw [ql (by omega) (by omega)]; omega
   have e1:decide ((i:Int) < ((qx P).length:Int))=true:=dYT (by omega)
   have e2:decide (0<=(i:Int))=true:=dYT (by omega)
   simp only [e1,e2,e3,Bool.and_self,cT,Int.toNat_natCast,blt_eq,qN]
   unfold atB
   rw [dYT hi,cT])
  (fun i hi hi2=>by
   show q2U (qx P) x (i:Int)=_
   rw [q7J]
   have e1:decide ((i:Int) < ((qx P).length:Int))=false:=dYF (by omega)
   simp only [e1,cF]
   unfold atB
   rw [dYF (show ¬ i < (qx P).length by omega),cF]) A.length 0 c1 c2 (by omega)
 refine this.trans ?_
 rw [Nat.zero_add,<- c3]; rfl
theorem take2 (A B:List PF):(qx (A++B)).take (A.length * 2)=qx A/\(qx (A++B)).drop (A.length * 2)=qx B:=by
 rw [q33,<- wI A]
 exact ⟨by simp,by simp⟩
theorem qao {P:List PF} (h:AscF P) (x:BA):AscF (delP P x):=by
 unfold AscF delP at *
 have hl:(lowF P x).Pairwise fun a b=>blt a.1 b.1=true:=List.Pairwise.filter _ h
 have hh:(qec P x).Pairwise fun a b=>blt a.1 b.1=true:=List.Pairwise.filter _ h
 rw [List.pairwise_append]
 exact ⟨hl,hh,fun a ha b hb=>q4C (List.mem_filter.1 ha).2 (List.mem_filter.1 hb).2⟩
def hasF (P:List PF) (x:BA):Bool:=P.any fun p=>decide (p.1=x)
theorem q4P (P:List PF) (h:AscF P) (hl:P.length<=100000) (x:BA):∃ n:Nat,n=(lowF P x).length/\q0u (qx P) 2 x=some ((((n * 2:Nat):Int),hasF P x),())/\q1q (qx P) x=some ((((n * 2:Nat):Int),hasF P x),()) /\
  (hasF P x=false->delP P x=P/\∀ v,q2Q (qx P) ((n * 2:Nat):Int) [x,v]=some (qx (setF P x v),())/\wF (qx P) ((n * 2:Nat):Int) [x,v]=some (qx (setF P x v),())) /\
  (hasF P x=true->n < P.length/\(delP P x).length+1=P.length/\∃ w,(qx P).getD (n * 2+1) eB=w/\q3a (qx P) ((n * 2:Nat):Int) 2=some (qx (delP P x),())/\jM (qx P) ((n * 2:Nat):Int) ((n * 2+2:Nat):Int)=some (qx (delP P x),()) /\
   ∀ v,q2Q (qx (delP P x)) ((n * 2:Nat):Int) [x,v]=some (qx (setF P x v),())/\(qx P).set (n * 2+1) v=qx (setF P x v)):=by
 obtain ⟨A,B,h1,h2,h3,h4,h5⟩:=qcB h x
 have hlen:P.length=A.length+B.length:=by rw [h1,List.length_append]
 have hfl:=wI P
 have hA:=wI A
 have hno:∀ a∈A,decide (a.1=x)=false:=fun a ha=>dYF (q8x (h2 a ha))
 have hhas:hasF P x=hdF x B:=by
  unfold hasF
  rw [h1,List.any_append]
  have e1:(A.any fun p=>decide (p.1=x))=false:=by
   rw [List.any_eq_false]
   intro a ha
   rw [hno a ha]; simp
  rw [e1,Bool.false_or]
  rcases h5 with ⟨h5,h6⟩ | ⟨v,C,rfl,h5,h6⟩
  ·rw [h5,List.any_eq_false]
   intro b hb
   rw [<- h6] at hb
   have:=(List.mem_filter.1 hb).2
   rw [dYF (q8x this).symm]; simp
  ·rw [h5]
   simp
 have t1:=(take2 A B).1
 have t2:=(take2 A B).2
 rw [<- h1] at t1 t2
 refine ⟨A.length,by rw [h4],by rw [qlS (by omega) h1 h2 h3,hhas],by rw [qlT (by omega) h1 h2 h3,hhas],fun hf=>?_,fun hf=>?_⟩
 ·rw [hhas] at hf
  rcases h5 with ⟨h5,h6⟩ | ⟨v,C,_,h5,_⟩
  ·refine ⟨by unfold delP; rw [h4,h6]; exact h1.symm,fun v=>?_⟩
   have e:qx (setF P x v)=qx A++[x,v]++qx B:=by
    unfold setF
    rw [h4,h6,q33,q1P,List.append_assoc]; rfl
   exact ⟨by rw [qd3 _ _ _ (by omega) (by simp; omega),t1,t2,e],by rw [qfB _ _ _ (by omega) (by simp) (by simp; omega),t1,t2,e]⟩
  ·rw [hf] at h5; cases h5
 ·rw [hhas] at hf
  rcases h5 with ⟨h5,_⟩ | ⟨w,C,rfl,h5,h6⟩
  ·rw [hf] at h5; cases h5
  ·simp only [List.length_cons] at hlen
   have e1:delP P x=A++C:=by unfold delP; rw [h4,h6]
   have hd:(qx P).drop (A.length * 2+2)=qx C:=by rw [<- List.drop_drop,t2,q1P]; rfl
   have hd2:qx P=qx A++x::w::qx C:=by rw [h1,q33,q1P]
   refine ⟨by omega,by rw [e1,List.length_append]; omega,w,?_,?_,?_,fun v=>⟨?_,?_⟩⟩
   ·rw [(q20 P A.length (by omega)).2]
    have:P[A.length]'(by omega)=(x,w):=by simp only [h1]; simp
    rw [this]
   ·have:=qfX (qx P) (A.length * 2) 2 (by omega) (by omega)
    rw [show ((2:Nat):Int)=2 from rfl] at this
    rw [this,t1,hd,e1,q33]
   ·rw [qla _ _ _ (by omega) (by omega) (by omega),t1,hd,e1,q33]
   ·have q1:=(take2 A C).1
    have q2:=(take2 A C).2
    rw [e1,qd3 _ _ _ (by rw [wI,List.length_append]; omega) (by rw [wI,List.length_append]; simp; omega),q1,q2]
    unfold setF
    rw [h4,h6,q33,q1P,List.append_assoc]; rfl
   ·unfold setF
    rw [h4,h6,hd2,q33,q1P,<- hA,List.set_append_right _ _ (by omega),show (qx A).length+1 - (qx A).length=1 by omega]
    rfl
theorem qjO {v:DV} (h:valB v=true) (h3:v.1=3):∃ P,v.2.2.2=qx P/\AscF P/\P.length<=12:=by
 have h24:=(q8l h).1
 unfold valB at h
 have h1:¬ v.1=1:=by omega
 simp only [dYF h1,cF,Bool.and_eq_true,dYT h3,Bool.not_true,Bool.false_or,decide_eq_true_eq] at h
 have hi:=h.2.2
 have he:=h.2.1.2
 have hs:stB v.1=2:=by unfold stB; rw [if_neg (by omega),if_pos h3]
 rw [hs] at hi
 have hf:=qdQ (v.2.2.2.length / 2) v.2.2.2 (by omega)
 have hpl:=wI (q44 v.2.2.2)
 rw [hf] at hpl
 refine ⟨q44 v.2.2.2,hf.symm,?_,by omega⟩
 unfold itsB at hi
 rw [List.all_eq_true] at hi
 generalize q44 v.2.2.2=P at hf hpl
 have:=qah (fun a b:PF=>blt a.1 b.1=true) (fun _ _ _ h k=>q4C h k) (fun i=>P.getD i (eB,eB)) P.length fun i hlt=>by
  have:=hi ((i+1) * 2) (List.mem_range.2 (by omega))
  unfold itB at this
  have m2:(i+1) * 2 % 2=0:=by omega
  simp only [Bool.and_eq_true,Bool.or_eq_true,Bool.not_eq_true',Bool.and_eq_false_iff,decide_eq_false_iff_not,m2] at this
  rcases this.2 with h | h
  ·rcases h with h | h
   ·rcases h with h | h
    ·exact absurd (by omega) h
    ·exact absurd trivial h
   ·omega
  ·rw [show (i+1) * 2 - 2=i * 2 by omega] at h
   rw [<- hf] at h
   have q1:=(q20 P i (by omega)).1
   have q2:=(q20 P (i+1) hlt).1
   show blt (P.getD i _).1 (P.getD (i+1) _).1=true
   rw [wS (by omega),wS hlt,<- q1,<- q2]
   exact h
 unfold AscF
 rw [List.pairwise_iff_getElem]
 intro i j hi hj hij
 have:=this i j hij hj
 rwa [wS hi,wS hj] at this
end Go.Den.S
