/- EkA: equations of the functions of this seat as the executor tells them, or plain facts about them. Conditions: none here. -/
import Derived.Test.YthejgmhimclmdaaGreatDoorEgA
import Derived.Test.YthejgmhimclmdaaGreatDoorEhQ
set_option linter.all false
open Bool (and_eq_true false_eq_true)
open Int (tmod)
open List (append_nil range)
open Nat (le_refl zero_le)
namespace Go.Den.S
open Go Go.Den
theorem qj6 {st:RS} (h:(numR st).2.2=false):st.2=false/\st.1=vL (numR st).1++(numR st).2.1:=by
 unfold numR at h ⊢;cases hv:rvar st.1 with
 | none=>rw [hv] at h; cases h
 | some p=>
  obtain ⟨n,k⟩:=p;rw [hv] at h;simp only at h ⊢;cases hb:st.2 with
  | true=>rw [hb] at h; simp at h
  | false=>
   obtain ⟨_,hk,r,hr⟩:=q92.1 hv;refine ⟨rfl,?_⟩;simp only [false_eq_true,if_false];rw [hr,hk,jF]
theorem qc9 {st:RS} (h:(qP st).2.2=false):st.2=false/\st.1=shL (qP st).1++(qP st).2.1:=by
 unfold qP at h ⊢;cases hv:rvar st.1 with
 | none=>rw [hv] at h; cases h
 | some p=>
  obtain ⟨n,k⟩:=p;rw [hv] at h;simp only at h ⊢;by_cases hc:st.2=true\/20000 < n\/st.1.length < n+k
  ·rw [if_pos hc] at h; cases h
  ·rw [if_neg hc];have hb:st.2=false:=by
    cases hx:st.2 with
    | false=>rfl
    | true=>exact absurd (.inl hx) hc
   obtain ⟨_,hk,r,hr⟩:=q92.1 hv;refine ⟨hb,?_⟩;simp only;have hlen:n+k<=st.1.length:=by
    rcases Nat.lt_or_ge st.1.length (n+k) with h | h
    ·exact absurd (.inr (.inr h)) hc
    ·exact h
   rw [hr] at hlen ⊢;rw [lA,<- hk] at hlen;have e1:(vL n++r).drop k=r:=by rw [hk]; exact jF _ _
   have e2:(vL n++r).drop (k+n)=r.drop n:=by rw [<- List.drop_drop,e1]
   rw [e1,e2];have e3:(bOf (r.take n)).size=n:=by rw [qz,List.length_take]; omega
   show _=(vL (bOf (r.take n)).size++bl (bOf (r.take n)))++r.drop n;rw [e3,wh,pA,List.take_append_drop]
theorem qna {st:RS} (h:(qB st).2.2=false):st.2=false/\st.1=UInt8.ofNat (qB st).1::(qB st).2.1:=by
 unfold qB at h ⊢;cases hl:st.1 with
 | nil=>rw [hl] at h; cases h
 | cons c r=>
  rw [hl] at h;simp only at h ⊢;cases hb:st.2 with
  | true=>rw [hb] at h; simp at h
  | false=>
   refine ⟨rfl,?_⟩;simp only [false_eq_true,if_false,q6O]
theorem qg8 {α:Type} {one:RS->α×RS} {enc:α->List UInt8} (hone:∀ st,(one st).2.2=false->st.2=false/\st.1=enc (one st).1++(one st).2.1):∀ (n:Nat) (st:RS),(yP one n st).2.2=false->st.2=false/\(yP one n st).1.length=n/\st.1=(yP one n st).1.flatMap enc++(yP one n st).2.1
 | 0,st,h=>⟨h,rfl,rfl⟩
 | n+1,st,h=>by
  simp only [yP] at h ⊢;cases hb:st.2 with
  | true=>rw [hb] at h; simp [hb] at h
  | false=>
   rw [hb] at h;simp only [false_eq_true,if_false] at h ⊢;obtain ⟨h1,h2,h3⟩:=qg8 hone n _ h;obtain ⟨h4,h5⟩:=hone st h1;refine ⟨trivial,by rw [List.length_cons,h2],?_⟩
   rw [List.flatMap_cons,pA,<- h3,<- h5]
abbrev DVal:=Int×(Int×(BA×List BA))
def vTL (v:DVal):List UInt8:=UInt8.ofNat v.1.toNat::(vL v.2.1.toNat++(shL v.2.2.1++(vL v.2.2.2.length++v.2.2.2.flatMap shL)))
def q9V (m:Nat) (l:List UInt8):DVal×RS:=
 let a:=qB (l,false); let b:=numR a.2; let c:=qP b.2; let d:=numR c.2; let e:=yP qP (min d.1 m) d.2
 (((a.1:Int),((b.1:Int),(c.1,e.1))),e.2)
structure VB (v:DVal):Prop where
 k0:0<=v.1
 k1:v.1 < 256
 u0:0<=v.2.1
 u1:v.2.1<=1000000000
 t:v.2.2.1.size<=20000
 n:v.2.2.2.length<=24
 i:∀ s∈v.2.2.2,s.size<=20000
theorem qdq {v:DVal} (h:VB v) {m:Nat} (hm:24<=m):q9V m (vTL v)=(v,[],false):=by
 have hn:=h.n;have he:=qcX (one:=qP) (enc:=shL) (asq:=v.2.2.2) (fun s hs r=>qa3 (h.i s hs) r) []
 rw [append_nil] at he;have hu:v.2.1.toNat<=1000000000:=by have:=h.u1; omega
 unfold q9V vTL;simp only [qbl,q8z hu,qa3 h.t,q8z (show v.2.2.2.length<=1000000000 by omega),Nat.min_eq_left (show v.2.2.2.length<=m by omega),he]
 have e1:((UInt8.ofNat v.1.toNat).toNat:Int)=v.1:=by
  have:=h.k0; have:=h.k1;rw [q5Q (by omega)]; omega
 have e2:((v.2.1.toNat:Nat):Int)=v.2.1:=by have:=h.u0; omega
 rw [e1,e2]
theorem qnX {m:Nat} {l:List UInt8} {v:DVal} (h:q9V m l=(v,[],false)) (hn:v.2.2.2.length < m):vTL v=l:=by
 unfold q9V at h;simp only [Prod.mk.injEq] at h;obtain ⟨hv,h0⟩:=h;have h1:=congrArg Prod.fst h0;have h2:=congrArg Prod.snd h0;simp only at h1 h2;obtain ⟨e1,e2,e3⟩:=qg8 (enc:=shL) (fun st h=>qc9 h) _ _ h2
 obtain ⟨d1,d2⟩:=qj6 e1;obtain ⟨c1,c2⟩:=qc9 d1;obtain ⟨b1,b2⟩:=qj6 c1;obtain ⟨a1,a2⟩:=qna b1;rw [h1,append_nil] at e3;rw [<- hv] at hn ⊢;unfold vTL;simp only at hn ⊢;rw [e2] at hn;have hmin:min (numR (qP (numR (qB (l,false)).2).2).2).1 m=(numR (qP (numR (qB (l,false)).2).2).2).1:=by omega
 rw [hmin] at e2 e3 ⊢;rw [e2,tN,tN,<- e3,<- d2,<- c2,<- b2];exact a2.symm
abbrev DE:Type:=BA×Int×Int×BA×List BA
abbrev DV:Type:=Int×Int×BA×List BA
abbrev dflt:DE:=(eB,(0,(0,(eB,[]))))
structure Bd (t:List DE):Prop where
 len:t.length<=4194304
 its:∀ e∈t,e.2.2.2.2.length<=4194304
theorem qlF (a b c:Int):yY a b c=some (decide (b<=a)&&decide (a<=c),()):=jB a b c
theorem qmy (a b c:Int):yX a b c=some (decide (b<=a)&&decide (a<=c),()):=jg a b c
theorem qri (k:BA):q5i k=some (decide (1<=k.size)&&decide (k.size<=20),()):=qkD k
abbrev gi (l:List BA) (i:Nat):BA:=l.getD i eB
def itB (st:Nat) (l:List BA) (i:Nat):Bool:=
 decide ((gi l i).size<=60)&&(!(decide (0 < st)&&decide (i % st=0)&&decide (st<=i))||blt (gi l (i - st)) (gi l i))
def itsB (st:Nat) (l:List BA):Bool:=(range l.length).all (itB st l)
def stB (k:Int):Nat:=if k=2 then 0 else if k=3 then 2 else 1
def valB (v:DV):Bool:=
 decide (0<=v.2.1)&&decide (v.2.1<=100000) &&
  bif decide (v.1=1) then decide (v.2.2.1.size<=60)&&decide (v.2.2.2=[])
  else decide (v.1=2\/v.1=3\/v.1=4)&&decide (v.2.2.1=eB)&&decide (1<=v.2.2.2.length)&&decide (v.2.2.2.length<=24)&&(!decide (v.1=3)||decide (v.2.2.2.length % 2=0))&&itsB (stB v.1) v.2.2.2
theorem qfp (st:Nat) (hst:st<=2) (l:List BA) (hl:l.length<=100000000):wM l (st:Int) l (l.length:Int) 0=some (itsB st l&&(decide (1<=l.length)&&decide (l.length<=24)),()):=by
 have:=qbi (fun i=>wM l (st:Int) l (l.length:Int) i) l.length (itB st l) (some (false,())) (some ((decide (1<=l.length)&&decide (l.length<=24)),()))
  (fun i hi=>by
   conv=>lhs; rw [q7p]
   have e1:decide ((i:Int) < (l.length:Int))=true:=dYT (by omega)
   have e2:decide (0<=(i:Int))=true:=dYT (by omega)
   have e3:w64 ((i:Int)+1)=((i+1:Nat):Int):=ql (by omega)
   simp only [e1,e2,e3,aS,cT,tN];unfold itB;by_cases hs:(gi l i).size<=60
   ·rw [dYF (show ¬ (((gi l i).size:Int) > 60) by omega),dYT hs]
    simp only [cF,Bool.true_and];by_cases h0:0 < st
    ·rw [dYT (show (st:Int) > 0 by omega),dYT h0]
     have hne:((st:Int) != 0)=true:=by simp; omega
     have hmod:(tmod (i:Int) (st:Int)==0)=decide (i % st=0):=by
      rw [Int.tmod_eq_emod_of_nonneg (by omega)]
      by_cases h:i % st=0
      ·rw [dYT h]; simp only [beq_iff_eq]; omega
      ·rw [dYF h]; simp only [beq_eq_false_iff_ne,ne_eq]; omega
     simp only [hne,hmod,cT,Bool.true_and];by_cases hm:i % st=0
     ·rw [dYT hm];by_cases hge:st<=i
      ·have e4:w64 ((i:Int) - (st:Int))=((i - st:Nat):Int):=by show IntKind.i64.wrap _=_; rw [qo (by omega) (by omega)]; omega
       simp only [dYT (show (i:Int)>=(st:Int) by omega),dYT hge,e4,dYT (show (0:Int)<=((i - st:Nat):Int) by omega),dYT (show ((i - st:Nat):Int) < (l.length:Int) by omega),aS,cT,tN,blt_eq,nT,Bool.false_or]
       cases blt (l.getD (i - st) eB) (l.getD i eB)<;>rfl
      ·simp only [dYF (show ¬ ((i:Int)>=(st:Int)) by omega),dYF hge,cT,cF,Bool.and_false,nF,Bool.true_or]
     ·rw [dYF hm];simp only [cF,cT,Bool.false_and,nF,Bool.true_or]
    ·rw [dYF (show ¬ ((st:Int) > 0) by omega),dYF h0]
     simp only [cF,cT,Bool.false_and,nF,Bool.true_or]
   ·rw [dYT (show (((gi l i).size:Int) > 60) by omega),dYF hs]
    rfl)
  (by
   show wM l (st:Int) l (l.length:Int) (l.length:Int)=_;rw [q7p];simp only [Int.lt_irrefl,decide_false,cF,qlF,oB];have e1:decide ((1:Int)<=(l.length:Int))=decide (1<=l.length):=decide_eq_decide.2 (by omega)
   have e2:decide ((l.length:Int)<=24)=decide (l.length<=24):=decide_eq_decide.2 (by omega)
   rw [e1,e2])
 rw [this];unfold itsB;cases (range l.length).all (itB st l)<;>rfl
theorem qsv (n:Nat):(tmod (n:Int) 2 != 0)=!decide (n % 2=0):=by
 rw [Int.tmod_eq_emod_of_nonneg (by omega)]
 by_cases h:n % 2=0
 ·rw [dYT h]; simp only [nT,bne_eq_false_iff_eq]; omega
 ·rw [dYF h]; simp only [nF,bne_iff_ne,ne_eq]; omega
theorem q2Q (a b:Int):(a==b)=decide (a=b):=by
 by_cases h:a=b
 ·simp [h]
 ·simp [h]
theorem q7T (v:DV) (hl:v.2.2.2.length<=100000000):q5f v=some (valB v,()):=by
 rw [qjx];unfold valB;simp only [qlF,oB,qgE,y5,q2Q,qsv];cases hu:(decide (0<=v.2.1)&&decide (v.2.1<=100000)) with
 | false=>rfl
 | true=>
  simp only [nT,cF,Bool.true_and];by_cases h1:v.1=1
  ·rw [dYT h1];have e1:decide ((v.2.2.1.size:Int)<=60)=decide (v.2.2.1.size<=60):=decide_eq_decide.2 (by omega)
   have e2:decide ((v.2.2.2.length:Int)=0)=decide (v.2.2.2=[]):=decide_eq_decide.2 (by rw [<- List.length_eq_zero_iff]; omega)
   simp only [cT,e1,e2];cases decide (v.2.2.1.size<=60)<;>rfl
  ·rw [dYF h1];simp only [cF];by_cases h2:v.1=2
   ·have n3:¬ v.1=3:=by omega
    simp only [dYT h2,dYF n3,cT,show stB v.1=0 by unfold stB; rw [if_pos h2],
     dYT (show v.1=2\/v.1=3\/v.1=4 from .inl h2)]
    have:=qfp 0 (by omega) v.2.2.2 hl
    rw [show ((0:Nat):Int)=0 from rfl] at this
    rw [this];cases decide (v.2.2.1=eB)<;>cases itsB 0 v.2.2.2<;>cases decide (1<=v.2.2.2.length)<;>cases decide (v.2.2.2.length<=24)<;>rfl
   ·by_cases h3:v.1=3
    ·have:=qfp 2 (by omega) v.2.2.2 hl
     rw [show ((2:Nat):Int)=2 from rfl] at this
     simp only [dYF h2,dYT h3,cT,cF,show stB v.1=2 by unfold stB; rw [if_neg h2,if_pos h3],dYT (show v.1=2\/v.1=3\/v.1=4 from .inr (.inl h3)),this]
     cases decide (v.2.2.1=eB)<;>cases decide (v.2.2.2.length % 2=0)<;>cases itsB 2 v.2.2.2<;>cases decide (1<=v.2.2.2.length)<;>cases decide (v.2.2.2.length<=24)<;>rfl
    ·by_cases h4:v.1=4
     ·have:=qfp 1 (by omega) v.2.2.2 hl
      rw [show ((1:Nat):Int)=1 from rfl] at this
      simp only [dYF h2,dYF h3,dYT h4,cT,cF,show stB v.1=1 by unfold stB; rw [if_neg h2,if_neg h3],dYT (show v.1=2\/v.1=3\/v.1=4 from .inr (.inr h4)),this]
      cases decide (v.2.2.1=eB)<;>cases itsB 1 v.2.2.2<;>cases decide (1<=v.2.2.2.length)<;>cases decide (v.2.2.2.length<=24)<;>rfl
     ·simp only [dYF h2,dYF h3,dYF h4,cF,dYF (show ¬ (v.1=2\/v.1=3\/v.1=4) from fun h=>h.elim h2 fun h=>h.elim h3 h4),Bool.false_and]
theorem qpr (k u:Int) (x:BA) (l:List BA) (hk:k=2\/k=3\/k=4) (hl:l.length<=100000000):q0q 0 k u x l=some (itsB (stB k) l,()):=by
 have:=qbi (fun i=>q0q i k u x l) l.length (itB (stB k) l) (some (false,())) (some (true,()))
  (fun i hi=>by
   have e1:decide ((i:Int) < (l.length:Int))=true:=dYT (by omega)
   have e2:decide (0<=(i:Int))=true:=dYT (by omega)
   have e3:w64 ((i:Int)+1)=((i+1:Nat):Int):=ql (by omega)
   conv=>lhs; rw [q9c,q4g,e1,e2]
   simp only [aS,cT,tN];rw [qap];simp only [qaq,qar,qas,e1,e2,e3,aS,q2Q,blt_eq,tN,cT,cF];unfold itB;by_cases hs:(gi l i).size<=60
   ·rw [dYF (show ¬ (((gi l i).size:Int) > 60) by omega),dYT hs]
    simp only [cF,Bool.true_and];rcases hk with rfl | rfl | rfl
    ·have f1:decide ((2:Int)=4)=false:=rfl;have f2:decide ((2:Int)=3)=false:=rfl;have f3:decide (0 < stB 2)=false:=rfl;rw [f1,f2,f3];simp only [cF,Bool.false_and,nF,Bool.true_or,cT]
    ·have f1:decide ((3:Int)=4)=false:=rfl;have f2:decide ((3:Int)=3)=true:=rfl;have f3:decide (0 < stB 3)=true:=rfl;have f4:stB 3=2:=rfl;rw [f1,f2,f3,f4];simp only [cF,cT,Bool.true_and];have hmod:decide (tmod (i:Int) 2=0)=decide (i % 2=0):=decide_eq_decide.2 (by rw [Int.tmod_eq_emod_of_nonneg (by omega)]; omega)
     rw [hmod];by_cases hge:2<=i
     ·have e4:w64 ((i:Int) - 2)=((i - 2:Nat):Int):=by show IntKind.i64.wrap _=_; rw [qo (by omega) (by omega)]; omega
      simp only [dYT (show (i:Int) > 1 by omega),dYT hge,e4,dYT (show (0:Int)<=((i - 2:Nat):Int) by omega),dYT (show ((i - 2:Nat):Int) < (l.length:Int) by omega),aS,cT,tN,Bool.and_true]
      generalize q0q ((i+1:Nat):Int) 3 u x l=Z;cases decide (i % 2=0)<;>cases blt (l.getD (i - 2) eB) (l.getD i eB)<;>rfl
     ·simp only [dYF (show ¬ ((i:Int) > 1) by omega),dYF hge,cF,Bool.and_false,nF,Bool.true_or,cT]
    ·have f1:decide ((4:Int)=4)=true:=rfl;have f2:decide ((4:Int)=3)=false:=rfl;have f3:decide (0 < stB 4)=true:=rfl;have f4:stB 4=1:=rfl;rw [f1,f2,f3,f4];simp only [cF,cT,Bool.true_and,Nat.mod_one,decide_true];by_cases hge:1<=i
     ·have e4:w64 ((i:Int) - 1)=((i - 1:Nat):Int):=by show IntKind.i64.wrap _=_; rw [qo (by omega) (by omega)]; omega
      simp only [dYT (show (i:Int) > 0 by omega),dYT hge,e4,dYT (show (0:Int)<=((i - 1:Nat):Int) by omega),dYT (show ((i - 1:Nat):Int) < (l.length:Int) by omega),aS,cT,tN,nT,Bool.false_or]
      cases blt (l.getD (i - 1) eB) (l.getD i eB)<;>rfl
     ·simp only [dYF (show ¬ ((i:Int) > 0) by omega),dYF hge,cF,nF,Bool.true_or,cT]
   ·rw [dYT (show (((gi l i).size:Int) > 60) by omega),dYF hs]
    rfl)
  (by
   show q0q (l.length:Int) k u x l=_;rw [q9c,q4g];simp only [Int.lt_irrefl,decide_false,cF];rw [qat])
 rw [this];unfold itsB;cases (range l.length).all (itB (stB k) l)<;>rfl
theorem qct (v:DV) (hl:v.2.2.2.length<=100000000):q5N v=some (valB v,()):=by
 rw [qjM,qah];simp only [qmy,oB,qai,qaj,qak,qal,qam,qan,qao,y5,q2Q];unfold valB;by_cases h1:v.1=1
 ·have a1:decide ((1:Int)<=v.1)=true:=dYT (by omega)
  have a2:decide (v.1<=4)=true:=dYT (by omega)
  have e1:decide ((v.2.2.1.size:Int)<=60)=decide (v.2.2.1.size<=60):=decide_eq_decide.2 (by omega)
  have e2:decide ((v.2.2.2.length:Int)=0)=decide (v.2.2.2=[]):=decide_eq_decide.2 (by rw [<- List.length_eq_zero_iff]; omega)
  simp only [a1,a2,aS,nT,cF,cT,dYT h1,e1,e2];cases (decide (0<=v.2.1)&&decide (v.2.1<=100000))<;>cases decide (v.2.2.1.size<=60)<;>rfl
 ·by_cases hk:v.1=2\/v.1=3\/v.1=4
  ·have a1:decide ((1:Int)<=v.1)=true:=dYT (by omega)
   have a2:decide (v.1<=4)=true:=dYT (by omega)
   have e3:decide ((1:Int)<=(v.2.2.2.length:Int))=decide (1<=v.2.2.2.length):=decide_eq_decide.2 (by omega)
   have e4:decide ((v.2.2.2.length:Int)<=24)=decide (v.2.2.2.length<=24):=decide_eq_decide.2 (by omega)
   have e5:decide (tmod (v.2.2.2.length:Int) 2=1)=!decide (v.2.2.2.length % 2=0):=by
    rw [Int.tmod_eq_emod_of_nonneg (by omega)]
    by_cases h:v.2.2.2.length % 2=0
    ·rw [dYT h,dYF (by omega)]; rfl
    ·rw [dYF h,dYT (by omega)]; rfl
   simp only [a1,a2,aS,nT,cF,cT,dYF h1,dYT hk,e3,e4,e5,qpr v.1 v.2.1 v.2.2.1 v.2.2.2 hk hl];cases (decide (0<=v.2.1)&&decide (v.2.1<=100000))<;>cases decide (v.2.2.1=eB)<;>cases decide (1<=v.2.2.2.length)<;>cases decide (v.2.2.2.length<=24)<;>cases decide (v.1=3)<;>cases decide (v.2.2.2.length % 2=0)<;>cases itsB (stB v.1) v.2.2.2<;>rfl
  ·have a0:(decide ((1:Int)<=v.1)&&decide (v.1<=4))=false:=by
    by_cases h:(1:Int)<=v.1
    ·rw [dYF (show ¬ v.1<=4 by omega),Bool.and_false]
    ·rw [dYF h,Bool.false_and]
   simp only [a0,nF,cT,dYF h1,dYF hk,cF,Bool.false_and,Bool.and_false]
abbrev ge (t:List DE) (i:Nat):DE:=t.getD i dflt
def enB (t:List DE) (i:Nat):Bool:=decide (1<=(ge t i).1.size)&&decide ((ge t i).1.size<=20)&&valB (ge t i).2&&(!decide (0 < i)||blt (ge t (i - 1)).1 (ge t i).1)
def tabB (t:List DE):Bool:=decide (t.length<=20)&&(range t.length).all (enB t)
theorem q31 (t:List DE) (h:Bd t):q28 t=some (tabB t,()):=by
 have hl:=h.len;rw [qgw];have:=qbi (fun i=>jH t t (t.length:Int) i) t.length (enB t) (some (false,())) (some (decide (t.length<=20),()))
  (fun i hi=>by
   conv=>lhs; rw [q7l]
   have e1:decide ((i:Int) < (t.length:Int))=true:=dYT (by omega)
   have e2:decide (0<=(i:Int))=true:=dYT (by omega)
   have e3:w64 ((i:Int)+1)=((i+1:Nat):Int):=ql (by omega)
   have hm:=h.its _ (q1K (d:=dflt) hi);simp only [e1,e2,e3,aS,cT,tN,qri,oB,q7T (t.getD i dflt).2 (by omega),blt_eq]
   unfold enB;generalize jH t t (t.length:Int) ((i+1:Nat):Int)=Z;by_cases h0:0 < i
   ·have e4:w64 ((i:Int) - 1)=((i - 1:Nat):Int):=by show IntKind.i64.wrap _=_; rw [qo (by omega) (by omega)]; omega
    simp only [dYT (show (i:Int) > 0 by omega),dYT h0,e4,dYT (show (0:Int)<=((i - 1:Nat):Int) by omega),dYT (show ((i - 1:Nat):Int) < (t.length:Int) by omega),aS,cT,tN]
    cases (decide (1<=(t.getD i dflt).1.size)&&decide ((t.getD i dflt).1.size<=20))<;>cases valB (t.getD i dflt).2<;>cases blt (t.getD (i - 1) dflt).1 (t.getD i dflt).1<;>rfl
   ·simp only [dYF (show ¬ ((i:Int) > 0) by omega),dYF h0,cF]
    cases (decide (1<=(t.getD i dflt).1.size)&&decide ((t.getD i dflt).1.size<=20))<;>cases valB (t.getD i dflt).2<;>rfl)
  (by
   show jH t t (t.length:Int) (t.length:Int)=_;rw [q7l];simp only [Int.lt_irrefl,decide_false,cF];rw [show decide ((t.length:Int)<=20)=decide (t.length<=20) from decide_eq_decide.2 (by omega)])
 rw [this];unfold tabB;cases (range t.length).all (enB t)<;>cases decide (t.length<=20)<;>rfl
theorem q9Z (t:List DE) (h:Bd t):q5L t=some (tabB t,()):=by
 have hl:=h.len;rw [qh6];have:=qbi (fun i=>jK t i) t.length (enB t) (some (false,())) (some (true,()))
  (fun i hi=>by
   conv=>lhs; rw [q7G]
   have e1:decide ((i:Int) < (t.length:Int))=true:=dYT (by omega)
   have e2:decide (0<=(i:Int))=true:=dYT (by omega)
   have e3:w64 ((i:Int)+1)=((i+1:Nat):Int):=ql (by omega)
   have hm:=h.its _ (q1K (d:=dflt) hi);have k1:decide ((1:Int)<=((t.getD i dflt).1.size:Int))=decide (1<=(t.getD i dflt).1.size):=decide_eq_decide.2 (by omega)
   have k2:decide (((t.getD i dflt).1.size:Int)<=20)=decide ((t.getD i dflt).1.size<=20):=decide_eq_decide.2 (by omega)
   simp only [e1,e2,e3,aS,cT,tN,qmy,oB,qct (t.getD i dflt).2 (by omega),blt_eq]
   unfold enB;generalize jK t ((i+1:Nat):Int)=Z;by_cases h0:0 < i
   ·have e4:w64 ((i:Int) - 1)=((i - 1:Nat):Int):=by show IntKind.i64.wrap _=_; rw [qo (by omega) (by omega)]; omega
    simp only [dYT (show (i:Int) > 0 by omega),dYT h0,e4,dYT (show (0:Int)<=((i - 1:Nat):Int) by omega),dYT (show ((i - 1:Nat):Int) < (t.length:Int) by omega),aS,cT,tN,k1,k2]
    cases (decide (1<=(t.getD i dflt).1.size)&&decide ((t.getD i dflt).1.size<=20))<;>cases valB (t.getD i dflt).2<;>cases blt (t.getD (i - 1) dflt).1 (t.getD i dflt).1<;>rfl
   ·simp only [dYF (show ¬ ((i:Int) > 0) by omega),dYF h0,cF,k1,k2]
    cases (decide (1<=(t.getD i dflt).1.size)&&decide ((t.getD i dflt).1.size<=20))<;>cases valB (t.getD i dflt).2<;>rfl)
  (by
   show jK t (t.length:Int)=_;rw [q7G];simp only [Int.lt_irrefl,decide_false,cF])
 rw [this];unfold tabB;by_cases h20:t.length<=20
 ·rw [dYF (show ¬ ((t.length:Int) > 20) by omega),dYT h20]
  cases (range t.length).all (enB t)<;>rfl
 ·rw [dYT (show ((t.length:Int) > 20) by omega),dYF h20]; rfl
end Go.Den.S
namespace Go.Den.S
open Go Go.Den
set_option maxRecDepth 4000
theorem qsa {st:Nat} {l:List BA} (h:itsB st l=true):∀ s∈l,s.size<=60:=by
 intro s hs;obtain ⟨i,hi,e⟩:=List.mem_iff_getElem.1 hs;have:=List.all_eq_true.1 h i (List.mem_range.2 hi);unfold itB at this;simp only [and_eq_true,decide_eq_true_eq] at this;have e':gi l i=s:=by rw [<- e]; show l.getD i _=_; rw [List.getD_eq_getElem?_getD,List.getElem?_eq_getElem hi]; rfl
 rw [<- e']; exact this.1
theorem q3T {v:DV} (h:valB v=true):VB v:=by
 unfold valB at h;rw [and_eq_true,and_eq_true,decide_eq_true_eq,decide_eq_true_eq] at h;obtain ⟨⟨h1,h2⟩,h3⟩:=h;by_cases hk:v.1=1
 ·rw [dYT hk,cT,and_eq_true,decide_eq_true_eq,decide_eq_true_eq] at h3;exact ⟨by omega,by omega,h1,by omega,by omega,by rw [h3.2]; exact zero_le _,by rw [h3.2]; intro s hs; cases hs⟩
 ·rw [dYF hk,cF] at h3;simp only [and_eq_true,decide_eq_true_eq] at h3;obtain ⟨⟨⟨⟨⟨a1,a2⟩,a3⟩,a4⟩,a5⟩,a6⟩:=h3;exact ⟨by omega,by omega,h1,by omega,by rw [a2]; exact zero_le _,a4,fun s hs=>by have:=qsa a6 s hs; omega⟩
theorem qrM {a b:DV} (ha:valB a=true) (hb:valB b=true) (h:vTL a=vTL b):a=b:=by
 have h1:=qdq (q3T ha) (le_refl 24);rw [h,qdq (q3T hb) (le_refl 24)] at h1;exact (congrArg Prod.fst h1).symm
open Classical in
noncomputable def q5q (s:BA):Option DV:=if h:∃ v,valB v=true/\vTL v=bl s then some h.choose else none
theorem q9U {s:BA} {v:DV}:q5q s=some v↔valB v=true/\vTL v=bl s:=by
 unfold q5q;constructor
 ·intro h;split at h
  ·rename_i hx;simp only [Option.some.injEq] at h;rw [<- h];exact hx.choose_spec
  ·cases h
 ·rintro ⟨h1,h2⟩
  have hx:∃ v,valB v=true/\vTL v=bl s:=⟨v,h1,h2⟩
  rw [dif_pos hx];congr 1
  have h3:=hx.choose_spec;exact qrM h3.1 h1 (h3.2.trans h2.symm)
abbrev dV0:DV:=(0,(0,(eB,[])))
noncomputable def qjU (s:BA):DV×Bool:=match q5q s with
 | some v=>(v,true)
 | none=>(dV0,false)
theorem qqh {s:BA} {v:DV} {m:Nat} (hm:24<=m) (h:q5q s=some v):valB v=true/\vTL v=bl s/\q9V m (bl s)=(v,[],false):=by
 obtain ⟨h1,h2⟩:=q9U.1 h;exact ⟨h1,h2,by rw [<- h2]; exact qdq (q3T h1) hm⟩
theorem qph (s:BA) {v:DV} {st:RS} (hr:q9V 1000000001 (bl s)=(v,st)):(bif !st.2&&decide (st.1=[]) then bif valB v then (v,true) else (dV0,false) else (dV0,false))=qjU s:=by
 unfold qjU;cases hx:q5q s with
 | some w=>
  obtain ⟨k1,k2,k3⟩:=qqh (m:=1000000001) (by omega) hx
  rw [k3] at hr;obtain ⟨rfl,rfl⟩:=Prod.mk.inj hr;simp [k1]
 | none=>
  obtain ⟨rest,bad⟩:=st;cases hb:bad with
  | true=>rfl
  | false=>
   by_cases hl:rest=[]
   ·cases hv:valB v with
    | false=>cases decide (rest=[])<;>rfl
    | true=>
     rw [hb,hl] at hr;have:=qnX hr (by have:=(q3T hv).n; omega)
     rw [q9U.2 ⟨hv,this⟩] at hx; cases hx
   ·simp [hl]
theorem qiM:∀ (n:Nat) (st:RS),(yP qP n st).1.length<=st.1.length+1
 | 0,st=>zero_le _
 | n+1,st=>by
  simp only [yP];split
  ·exact zero_le _
  ·rw [List.length_cons];cases hb:(qP st).2.2 with
   | true=>
    have:(yP qP n (qP st).2).1=[]:=by cases n with
     | zero=>rfl
     | succ n=>simp only [yP,hb,if_true]
    rw [this,List.length_nil]; omega
   | false=>
    obtain ⟨_,h⟩:=qc9 hb;have h1:=congrArg List.length h;have h2:=qlD (qP st).1.size;simp only [shL,lA] at h1;have:=qiM n (qP st).2;omega
theorem qeq {s:BA} (hs:s.size<=20000) {c:qA} {st:RS} (h:RD s c st) (v:DV) (hl:v.2.2.2.length<=2000000000):∃ c',q6A v c=some ((),((v.1,(v.2.1,(v.2.2.1,v.2.2.2++[(qP st).1]))),(c',())))/\RD s c' (qP st).2:=by
 rw [qep];obtain ⟨c1,e1,h1⟩:=qeg hs h;rw [e1];have k:lim (v.2.2.2.length+1) 16=true:=qW (by omega)
 simp only [oB,k,cT];exact ⟨c1,rfl,h1⟩
theorem q76 {s:BA} (hs:s.size<=20000) (a b:Int) (t:BA) (n:Nat) (hn:n<=1000000000):∀ (k i:Nat) (st:RS) (c:qA) (acc:List BA),i+k=n->acc.length<=i->RD s c st->
  ∃ c',q1o (n:Int) (i:Int) c.1 c.2.1 c.2.2 a b t acc=some ((),(c',(((a,(b,(t,acc++(yP qP k st).1))),()),())))/\RD s c' (yP qP k st).2
 | 0,i,st,c,acc,hi,ha,h=>by
  rw [q75];have k1:decide ((i:Int) < (n:Int))=false:=dYF (by omega)
  simp only [k1,cF,yP,append_nil];exact ⟨_,rfl,h⟩
 | k+1,i,st,c,acc,hi,ha,h=>by
  rw [q75];have k1:decide ((i:Int) < (n:Int))=true:=dYT (by omega)
  have k4:w64 ((i:Int)+1)=((i+1:Nat):Int):=ql (by omega)
  simp only [k1,cT,k4];cases hb:st.2 with
  | true=>
   have:c.2.2=true:=by rw [h.bad]; exact hb
   simp only [this,nT,cF,yP,hb,if_true,append_nil];refine ⟨_,rfl,?_⟩;exact ⟨h.txt,h.lo,h.hi,hb.symm,fun x=>by rw [hb] at x; cases x⟩
  | false=>
   have hc:c.2.2=false:=by rw [h.bad]; exact hb
   have hcc:(c.1,(c.2.1,false))=c:=by rw [<- hc]
   obtain ⟨c1,e1,h1⟩:=qeq hs h (a,(b,(t,acc))) (by show acc.length<=_; omega)
   simp only [hc,nF,cT,hcc,e1,oB];obtain ⟨c2,e2,h2⟩:=q76 hs a b t n hn k (i+1) (qP st).2 c1 (acc++[(qP st).1]) (by omega) (by rw [lA,lS]; omega) h1
   refine ⟨c2,?_,?_⟩
   ·rw [e2];simp only [yP,hb,false_eq_true,if_false,pA,List.singleton_append]
   ·simp only [yP,hb,false_eq_true,if_false];exact h2
theorem qgo (s:BA) (hs:s.size<=20000):q8R s=some (qjU s,()):=by
 rw [qgn];obtain ⟨c1,e1,h1⟩:=qdR hs (qb6 s);rw [e1]; simp only [oB];obtain ⟨c2,e2,h2⟩:=qb0 hs h1;rw [e2]; simp only [oB];obtain ⟨c3,e3,h3⟩:=qeg hs h2;rw [e3]; simp only [oB];rw [qg9];obtain ⟨c4,e4,h4⟩:=qb0 hs h3;rw [e4]; simp only [oB];have l1:=qpC (bl s,false);have l2:=qmF (qB (bl s,false)).2;have l3:=qqs (numR (qB (bl s,false)).2).2;have l4:=qmF (qP (numR (qB (bl s,false)).2).2).2;have hsz:=yj s;have hr:q9V 1000000001 (bl s)=((((qB (bl s,false)).1:Int),(((numR (qB (bl s,false)).2).1:Int),((qP (numR (qB (bl s,false)).2).2).1,(yP qP (numR (qP (numR (qB (bl s,false)).2).2).2).1 (numR (qP (numR (qB (bl s,false)).2).2).2).2).1))),(yP qP (numR (qP (numR (qB (bl s,false)).2).2).2).1 (numR (qP (numR (qB (bl s,false)).2).2).2).2).2):=by
  have hN:=qaZ (qP (numR (qB (bl s,false)).2).2).2;unfold q9V;simp only [Nat.min_eq_left (show (numR (qP (numR (qB (bl s,false)).2).2).2).1<=1000000001 by omega)]
 have hN:=qaZ (qP (numR (qB (bl s,false)).2).2).2;have hlen:=qiM (numR (qP (numR (qB (bl s,false)).2).2).2).1 (numR (qP (numR (qB (bl s,false)).2).2).2).2;obtain ⟨c5,e5,h5⟩:=q76 hs ((qB (bl s,false)).1:Int) ((numR (qB (bl s,false)).2).1:Int) (qP (numR (qB (bl s,false)).2).2).1 (numR (qP (numR (qB (bl s,false)).2).2).2).1 hN (numR (qP (numR (qB (bl s,false)).2).2).2).1 0 _ c4 [] (by omega) (le_refl _) h4
 simp only [List.nil_append] at e5;have e5':q1o ((numR (qP (numR (qB (bl s,false)).2).2).2).1:Int) 0 c4.1 c4.2.1 c4.2.2 ((qB (bl s,false)).1:Int) ((numR (qB (bl s,false)).2).1:Int) (qP (numR (qB (bl s,false)).2).2).1 []=_:=e5;rw [e5'];obtain ⟨c6,e6⟩:=qmi h5;simp only [oB,e6];have hv:=q7T (((qB (bl s,false)).1:Int),(((numR (qB (bl s,false)).2).1:Int),((qP (numR (qB (bl s,false)).2).2).1,(yP qP (numR (qP (numR (qB (bl s,false)).2).2).2).1 (numR (qP (numR (qB (bl s,false)).2).2).2).2).1))) (by show (yP qP _ _).1.length<=_; simp only at l1; omega)
 rw [hv];have key:=qph s hr;rw [<- key];generalize (((qB (bl s,false)).1:Int),(((numR (qB (bl s,false)).2).1:Int),((qP (numR (qB (bl s,false)).2).2).1,(yP qP (numR (qP (numR (qB (bl s,false)).2).2).2).1 (numR (qP (numR (qB (bl s,false)).2).2).2).2).1)))=v;generalize (yP qP (numR (qP (numR (qB (bl s,false)).2).2).2).1 (numR (qP (numR (qB (bl s,false)).2).2).2).2).2=st;simp only [oB];cases (!st.2&&decide (st.1=[]))<;>cases valB v<;>rfl
end Go.Den.S
namespace Go.Den.S
open Go Go.Den
set_option maxRecDepth 4000
theorem q7I (a b:Int) (t:BA) (l:List BA) (hn:l.length<=24) (hs:∀ x∈l,x.size<=20000):∀ (r:List BA) (i:Nat) (acc:List UInt8),l.drop i=r->acc.length<=30000+i * 20005->q3b (bOf acc) (i:Int) a b t l=some ((bOf (acc++r.flatMap shL),true),())
 | [],i,acc,hd,ha=>by
  have:=List.drop_eq_nil_iff.1 hd;rw [q7H];have k1:decide ((i:Int) < (l.length:Int))=false:=dYF (by omega)
  simp only [k1,cF,List.flatMap_nil,append_nil]
 | c::r,i,acc,hd,ha=>by
  obtain ⟨e1,hlt,e2⟩:=qV eB hd;have z1:=hs c (yM hd);rw [q7H];have k1:decide ((i:Int) < (l.length:Int))=true:=dYT (by omega)
  have k2:decide (0<=(i:Int))=true:=dYT (by omega)
  have k4:w64 ((i:Int)+1)=((i+1:Nat):Int):=ql (by omega)
  have hl1:=q0f c z1;have q1:limS ((bOf acc).size+(bOf (shL c)).size)=true:=qX (by rw [qz acc,qz (shL c)]; omega)
  simp only [k1,k2,k4,aS,cT,tN,e1,q6U c z1,oB,q1];rw [<- qaA];rw [q7I a b t l hn hs r (i+1) _ e2 (by rw [lA,Nat.succ_mul]; omega)]
  simp only [List.flatMap_cons,pA]
theorem q3c (v:DV) (hl:v.2.2.2.length<=100000000):q3u v=some (bif valB v then (bOf (vTL v),true) else (eB,false),()):=by
 rw [qh9,qct v hl];simp only [oB];cases hv:valB v with
 | false=>rfl
 | true=>
  have V:=q3T hv;obtain ⟨v1,v2,v3,v4⟩:=v;have k0:=V.k0; have k1:=V.k1; have u0:=V.u0; have u1:=V.u1; have ht:=V.t; have hn:=V.n; have hi:=V.i;simp only at k0 k1 u0 u1 ht hn hi;obtain ⟨n,rfl⟩:∃ n:Nat,v2=(n:Int):=⟨v2.toNat,by omega⟩
  have hw:IntKind.u8.wrap v1=v1:=q3v k0 (by omega)
  have hlt:=q0f v3 ht;have ln:=wB (n:=n) (by omega)
  have lm:=wB (n:=v4.length) (by omega)
  have hb:(⟨List.toArray (List.map (fun n=>UInt8.ofNat (Int.toNat n)) [v1])⟩:BA)=bOf [UInt8.ofNat v1.toNat]:=rfl
  simp only [nT,cF,cT,hw,hb,wV (n:=n) (by omega),wV (n:=v4.length) (by omega),q6U v3 ht,oB]
  have q1:limS ((bOf [UInt8.ofNat v1.toNat]).size+(bOf (vL n)).size)=true:=qX (by rw [qz,qz]; simp only [lS]; omega)
  have q2:limS ((bOf ([UInt8.ofNat v1.toNat]++vL n)).size+(bOf (shL v3)).size)=true:=qX (by rw [qz,qz,lA,lS]; omega)
  have q3:limS ((bOf (([UInt8.ofNat v1.toNat]++vL n)++shL v3)).size+(bOf (vL v4.length)).size)=true:=qX (by rw [qz,qz,lA,lA,lS]; omega)
  simp only [q1,cT,<- qaA,q2,q3];have hL:=q7I v1 (n:Int) v3 v4 hn hi v4 0 ((([UInt8.ofNat v1.toNat]++vL n)++shL v3)++vL v4.length) rfl (by simp only [lA,lS]; omega)
  refine Eq.trans hL ?_;have e:((([UInt8.ofNat v1.toNat]++vL n)++shL v3)++vL v4.length)++v4.flatMap shL=vTL (v1,((n:Int),(v3,v4))):=by
   unfold vTL;simp only [tN,pA,List.singleton_append,List.cons_append,List.nil_append]
  rw [e]
noncomputable def finV (s:BA) (bad:Bool) (v:DV):DV×Bool:=bif !bad then bif valB v then bif decide (vTL v=bl s) then (v,true) else (dV0,false) else (dV0,false) else (dV0,false)
theorem qoy (s:BA) (bad:Bool) (v:DV) (hl:v.2.2.2.length<=100000000):((q3u v).bind fun r16=>bif bad then some ((dV0,false),()) else bif !r16.1.2 then some ((dV0,false),()) else bif !(r16.1.1.toList==s.toList) then some ((dV0,false),()) else some ((v,true),()))=some (finV s bad v,()):=by
 rw [q3c v hl];unfold finV;simp only [oB,y5];cases bad with
 | true=>rfl
 | false=>
  cases hv:valB v with
  | false=>rfl
  | true=>
   simp only [cT,cF,nT,nF];have:decide (bOf (vTL v)=s)=decide (vTL v=bl s):=by
    rw [Bool.eq_iff_iff,decide_eq_true_eq,decide_eq_true_eq];constructor
    ·intro e; rw [<- e]
    ·intro e; exact zx (by rw [wh,e])
   rw [this];cases decide (vTL v=bl s)<;>rfl
end Go.Den.S
namespace Go.Den.S
open Go Go.Den
open Classical
set_option maxRecDepth 4000
theorem qsl (d:List Fil) (s:Spt):(voO d s).1.size<=2000:=by
 unfold voO;cases hv:valD d s with
 | none=>exact zero_le _
 | some v=>
  show v.size<=2000;unfold valD at hv;split at hv
  ·cases hv
  ·obtain ⟨x,_,hx⟩:=Option.bind_eq_some_iff.1 hv;split at hx
   ·cases hx
   ·split at hx
    ·cases hx
    ·obtain ⟨b,hb,hx⟩:=Option.bind_eq_some_iff.1 hx;split at hx
     ·obtain ⟨c,hc,e⟩:=Option.map_eq_some_iff.1 hx;have hm:=List.mem_of_find?_eq_some hc;have h1:=(q0F.1 hb).1;simp only [batT,and_eq_true] at h1;rw [<- e];exact (q72.1 ((q00.1 h1.1).2.2.2.2.1 c hm)).2.2.1
     ·cases hx
theorem qs1 (e:Eng):∀ c∈(coO e).1,c.2.1.size<=20000:=by
 unfold coO;split
 ·intro c hc;unfold conS at hc;obtain ⟨s,_,rfl⟩:=List.mem_map.1 hc;have:=qsl e.1 s;show (voO e.1 s).1.size<=20000;omega
 ·intro c hc; cases hc
theorem qpF (e:Eng) (h:e.2.2.2.2.length<=2000000):(coO e).1.length<=2000000:=by
 unfold coO;split
 ·rw [qke]; exact h
 ·exact zero_le _
noncomputable def goT:List Chg->Option (List DE)
 | []=>some []
 | c::r=>(q5q c.2.1).bind fun v=>(goT r).map ((c.1,v)::·)
noncomputable def finT (acc:List DE):Option (List DE)->List DE×Bool
 | none=>([],false)
 | some t=>bif tabB (acc++t) then (acc++t,true) else ([],false)
theorem qrW:Bd []:=⟨zero_le _,fun e h=>by cases h⟩
theorem qqQ {acc:List DE} (h:Bd acc) (hl:acc.length < 4194304) {k s:BA} {v:DV} (hv:q5q s=some v):Bd (acc++[(k,v)]):=by
 have V:=(q3T (q9U.1 hv).1).n;refine ⟨by rw [lA,lS]; omega,fun e he=>?_⟩
 rcases List.mem_append.1 he with he | he
 ·exact h.its e he
 ·rw [List.mem_singleton.1 he]; show v.2.2.2.length<=_; omega
theorem qox (acc:List DE) (c:Chg) (r:List Chg) {v:DV} (hv:q5q c.2.1=some v):finT (acc++[(c.1,v)]) (goT r)=finT acc (goT (c::r)):=by
 simp only [goT,hv,oB];cases goT r with
 | none=>rfl
 | some t=>simp only [Option.map_some,finT,pA,List.singleton_append]
theorem qgt (l:List Chg) (hl:l.length<=2000000) (hv:∀ c∈l,c.2.1.size<=20000):∀ (r:List Chg) (i:Nat) (acc:List DE),l.drop i=r->acc.length<=i->i<=l.length->Bd acc->q30 acc l (l.length:Int) (i:Int)=some (finT acc (goT r),())
 | [],i,acc,hd,ha,hi,hb=>by
  have:=List.drop_eq_nil_iff.1 hd;rw [q7k];have k1:decide ((i:Int) < (l.length:Int))=false:=dYF (by omega)
  simp only [k1,cF,q31 acc hb,oB,goT,finT,append_nil];cases tabB acc<;>rfl
 | c::r,i,acc,hd,ha,hi,hb=>by
  obtain ⟨e1,hlt,e2⟩:=qV dC hd;rw [q7k];have k1:decide ((i:Int) < (l.length:Int))=true:=dYT (by omega)
  have k2:decide (0<=(i:Int))=true:=dYT (by omega)
  have k4:w64 ((i:Int)+1)=((i+1:Nat):Int):=ql (by omega)
  have kl:lim (acc.length+1) 72=true:=qW (by omega)
  simp only [k1,k2,k4,kl,aS,cT,tN,e1,qgo _ (hv c (yM hd)),oB];unfold qjU;cases hx:q5q c.2.1 with
  | none=>simp only [goT,hx,Option.bind_none]; rfl
  | some v=>
   have ih:=qgt l hl hv r (i+1) (acc++[(c.1,v)]) e2 (by rw [lA,lS]; omega) (by omega) (qqQ hb (by omega) hx)
   rw [qox acc c r hx] at ih;exact ih
noncomputable def toO (e:Eng):List DE×Bool:=bif (coO e).2 then finT [] (goT (coO e).1) else ([],false)
theorem qgv (e:Eng) (hd:e.1.length<=2000000) (h2:e.2.2.2.2.length<=2000000):j6 e=some (toO e,()):=by
 rw [qgu,qfd e hd];simp only [oB];unfold toO;cases hc:(coO e).2 with
 | false=>rfl
 | true=>exact qgt (coO e).1 (qpF e h2) (qs1 e) (coO e).1 0 [] rfl (le_refl _) (zero_le _) qrW
theorem jA {t:List DE} (h:tabB t=true):t.length<=20/\∀ e∈t,e.2.2.2.2.length<=24:=by
 unfold tabB at h;rw [and_eq_true,decide_eq_true_eq] at h;refine ⟨h.1,fun e he=>?_⟩
 obtain ⟨i,hi,q⟩:=List.mem_iff_getElem.1 he;have:=List.all_eq_true.1 h.2 i (List.mem_range.2 hi);unfold enB at this;have e':ge t i=e:=by rw [<- q]; show t.getD i _=_; rw [List.getD_eq_getElem?_getD,List.getElem?_eq_getElem hi]; rfl
 rw [e',and_eq_true,and_eq_true] at this;exact (q3T this.1.2).n
end Go.Den.S
