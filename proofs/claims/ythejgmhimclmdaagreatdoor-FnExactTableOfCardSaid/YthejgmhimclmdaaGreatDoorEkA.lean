/- EkA: equations of the functions of this seat as the executor tells them, or plain facts about them. Conditions: none here. -/
import Derived.Test.YthejgmhimclmdaaGreatDoorEgA
import Derived.Test.YthejgmhimclmdaaGreatDoorEhQ
set_option linter.all false
open Bool (and_eq_true false_eq_true)
open Int (tmod toNat_natCast)
open List (append_assoc append_nil drop_eq_nil_iff getD_eq_getElem?_getD length length_append length_cons length_singleton range singleton_append)
open Nat (le_refl zero_le)
namespace Go.Den.S
open Go Go.Den
theorem qie {st:RS} (h:(numR st).2.2=false):st.2=false/\st.1=vL (numR st).1++(numR st).2.1:=by
 unfold numR at h ⊢;cases hv:rvar st.1 with
 | none=>rw [hv] at h; cases h
 | some p=>
  obtain ⟨n,k⟩:=p;rw [hv] at h;simp only at h ⊢;cases hb:st.2 with
  | true=>rw [hb] at h; simp at h
  | false=>
   obtain ⟨_,hk,r,hr⟩:=q8D.1 hv;refine ⟨rfl,?_⟩;simp only [false_eq_true,if_false];rw [hr,hk,jL]
theorem qb4 {st:RS} (h:(qE st).2.2=false):st.2=false/\st.1=shL (qE st).1++(qE st).2.1:=by
 unfold qE at h ⊢;cases hv:rvar st.1 with
 | none=>rw [hv] at h; cases h
 | some p=>
  obtain ⟨n,k⟩:=p;rw [hv] at h;simp only at h ⊢;by_cases hc:st.2=true\/20000 < n\/st.1.length < n+k
  ·rw [if_pos hc] at h; cases h
  ·rw [if_neg hc];have hb:st.2=false:=by
    cases hx:st.2 with
    | false=>rfl
    | true=>exact absurd (.inl hx) hc
   obtain ⟨_,hk,r,hr⟩:=q8D.1 hv;refine ⟨hb,?_⟩;simp only;have hlen:n+k<=st.1.length:=by
    rcases Nat.lt_or_ge st.1.length (n+k) with h | h
    ·exact absurd (.inr (.inr h)) hc
    ·exact h
   rw [hr] at hlen ⊢;rw [length_append,<- hk] at hlen;have e1:(vL n++r).drop k=r:=by rw [hk]; exact jL _ _
   have e2:(vL n++r).drop (k+n)=r.drop n:=by rw [<- List.drop_drop,e1]
   rw [e1,e2];have e3:(bOf (r.take n)).size=n:=by rw [qF,List.length_take]; omega
   show _=(vL (bOf (r.take n)).size++bl (bOf (r.take n)))++r.drop n;rw [e3,yT,append_assoc,List.take_append_drop]
theorem qm4 {st:RS} (h:(qy st).2.2=false):st.2=false/\st.1=UInt8.ofNat (qy st).1::(qy st).2.1:=by
 unfold qy at h ⊢;cases hl:st.1 with
 | nil=>rw [hl] at h; cases h
 | cons c r=>
  rw [hl] at h;simp only at h ⊢;cases hb:st.2 with
  | true=>rw [hb] at h; simp at h
  | false=>
   refine ⟨rfl,?_⟩;simp only [false_eq_true,if_false,q3u]
theorem qfb {α:Type} {one:RS->α×RS} {enc:α->List UInt8} (hone:∀ st,(one st).2.2=false->st.2=false/\st.1=enc (one st).1++(one st).2.1):∀ (n:Nat) (st:RS),(yx one n st).2.2=false->st.2=false/\(yx one n st).1.length=n/\st.1=(yx one n st).1.flatMap enc++(yx one n st).2.1
 | 0,st,h=>⟨h,rfl,rfl⟩
 | n+1,st,h=>by
  simp only [yx] at h ⊢;cases hb:st.2 with
  | true=>rw [hb] at h; simp [hb] at h
  | false=>
   rw [hb] at h;simp only [false_eq_true,if_false] at h ⊢;obtain ⟨h1,h2,h3⟩:=qfb hone n _ h;obtain ⟨h4,h5⟩:=hone st h1;refine ⟨trivial,by rw [length_cons,h2],?_⟩
   rw [List.flatMap_cons,append_assoc,<- h3,<- h5]
abbrev DVal:=Int×(Int×(BA×List BA))
def vTL (v:DVal):List UInt8:=UInt8.ofNat v.1.toNat::(vL v.2.1.toNat++(shL v.2.2.1++(vL v.2.2.2.length++v.2.2.2.flatMap shL)))
def q4Q (m:Nat) (l:List UInt8):DVal×RS:=
 let a:=qy (l,false); let b:=numR a.2; let c:=qE b.2; let d:=numR c.2; let e:=yx qE (min d.1 m) d.2
 (((a.1:Int),((b.1:Int),(c.1,e.1))),e.2)
structure VB (v:DVal):Prop where
 k0:0<=v.1
 k1:v.1 < 256
 u0:0<=v.2.1
 u1:v.2.1<=1000000000
 t:v.2.2.1.size<=20000
 n:v.2.2.2.length<=24
 i:∀ s∈v.2.2.2,s.size<=20000
theorem qcz {v:DVal} (h:VB v) {m:Nat} (hm:24<=m):q4Q m (vTL v)=(v,[],false):=by
 have hn:=h.n;have he:=qc0 (one:=qE) (enc:=shL) (asq:=v.2.2.2) (fun s hs r=>q9l (h.i s hs) r) []
 rw [append_nil] at he;have hu:v.2.1.toNat<=1000000000:=by have:=h.u1; omega
 unfold q4Q vTL;simp only [qau,q82 hu,q9l h.t,q82 (show v.2.2.2.length<=1000000000 by omega),Nat.min_eq_left (show v.2.2.2.length<=m by omega),he]
 have e1:((UInt8.ofNat v.1.toNat).toNat:Int)=v.1:=by
  have:=h.k0; have:=h.k1;rw [q3K (by omega)]; omega
 have e2:((v.2.1.toNat:Nat):Int)=v.2.1:=by have:=h.u0; omega
 rw [e1,e2]
theorem qmJ {m:Nat} {l:List UInt8} {v:DVal} (h:q4Q m l=(v,[],false)) (hn:v.2.2.2.length < m):vTL v=l:=by
 unfold q4Q at h;simp only [Prod.mk.injEq] at h;obtain ⟨hv,h0⟩:=h;have h1:=congrArg Prod.fst h0;have h2:=congrArg Prod.snd h0;simp only at h1 h2;obtain ⟨e1,e2,e3⟩:=qfb (enc:=shL) (fun st h=>qb4 h) _ _ h2
 obtain ⟨d1,d2⟩:=qie e1;obtain ⟨c1,c2⟩:=qb4 d1;obtain ⟨b1,b2⟩:=qie c1;obtain ⟨a1,a2⟩:=qm4 b1;rw [h1,append_nil] at e3;rw [<- hv] at hn ⊢;unfold vTL;simp only at hn ⊢;rw [e2] at hn;have hmin:min (numR (qE (numR (qy (l,false)).2).2).2).1 m=(numR (qE (numR (qy (l,false)).2).2).2).1:=by omega
 rw [hmin] at e2 e3 ⊢;rw [e2,toNat_natCast,toNat_natCast,<- e3,<- d2,<- c2,<- b2];exact a2.symm
abbrev DE:Type:=BA×Int×Int×BA×List BA
abbrev DV:Type:=Int×Int×BA×List BA
abbrev dflt:DE:=(eB,(0,(0,(eB,[]))))
structure Bd (t:List DE):Prop where
 len:t.length<=4194304
 its:∀ e∈t,e.2.2.2.2.length<=4194304
theorem qkB (a b c:Int):yQ a b c=some (decide (b<=a)&&decide (a<=c),()):=zW a b c
theorem qls (a b c:Int):yO a b c=some (decide (b<=a)&&decide (a<=c),()):=zO a b c
theorem qpA (k:BA):q4G k=some (decide (1<=k.size)&&decide (k.size<=20),()):=qjK k
abbrev gi (l:List BA) (i:Nat):BA:=l.getD i eB
def itB (st:Nat) (l:List BA) (i:Nat):Bool:=
 decide ((gi l i).size<=60)&&(!(decide (0 < st)&&decide (i % st=0)&&decide (st<=i))||blt (gi l (i - st)) (gi l i))
def itsB (st:Nat) (l:List BA):Bool:=(range l.length).all (itB st l)
def stB (k:Int):Nat:=if k=2 then 0 else if k=3 then 2 else 1
def valB (v:DV):Bool:=
 decide (0<=v.2.1)&&decide (v.2.1<=100000) &&
  bif decide (v.1=1) then decide (v.2.2.1.size<=60)&&decide (v.2.2.2=[])
  else decide (v.1=2\/v.1=3\/v.1=4)&&decide (v.2.2.1=eB)&&decide (1<=v.2.2.2.length)&&decide (v.2.2.2.length<=24)&&(!decide (v.1=3)||decide (v.2.2.2.length % 2=0))&&itsB (stB v.1) v.2.2.2
theorem qet (st:Nat) (hst:st<=2) (l:List BA) (hl:l.length<=100000000):wG l (st:Int) l (l.length:Int) 0=some (itsB st l&&(decide (1<=l.length)&&decide (l.length<=24)),()):=by
 have:=qar (fun i=>wG l (st:Int) l (l.length:Int) i) l.length (itB st l) (some (false,())) (some ((decide (1<=l.length)&&decide (l.length<=24)),()))
  (fun i hi=>by
   conv=>lhs; rw [q6v]
   have e1:decide ((i:Int) < (l.length:Int))=true:=dYT (by omega)
   have e2:decide (0<=(i:Int))=true:=dYT (by omega)
   have e3:w64 ((i:Int)+1)=((i+1:Nat):Int):=qo (by omega)
   simp only [e1,e2,e3,Bool.and_self,cT,toNat_natCast];unfold itB;by_cases hs:(gi l i).size<=60
   ·rw [dYF (show ¬ (((gi l i).size:Int) > 60) by omega),dYT hs]
    simp only [cF,Bool.true_and];by_cases h0:0 < st
    ·rw [dYT (show (st:Int) > 0 by omega),dYT h0]
     have hne:((st:Int) != 0)=true:=by simp; omega
     have hmod:(tmod (i:Int) (st:Int)==0)=decide (i % st=0):=by
      rw [Int.tmod_eq_emod_of_nonneg (by omega)]
      by_cases h:i % st=0
      ·rw [dYT h]; simp only [beq_iff_eq]; omega
      ·rw [dYF h]; simp only [beq_eq_false_iff_ne,ne_eq]; omega
     simp only [hne,hmod,cT,Bool.true_and];by_cases hm:i % st=0
     ·rw [dYT hm];by_cases hge:st<=i
      ·have e4:w64 ((i:Int) - (st:Int))=((i - st:Nat):Int):=by show IntKind.i64.wrap _=_; rw [qh (by omega) (by omega)]; omega
       simp only [dYT (show (i:Int)>=(st:Int) by omega),dYT hge,e4,dYT (show (0:Int)<=((i - st:Nat):Int) by omega),dYT (show ((i - st:Nat):Int) < (l.length:Int) by omega),Bool.and_self,cT,toNat_natCast,blt_eq,Bool.not_true,Bool.false_or]
       cases blt (l.getD (i - st) eB) (l.getD i eB)<;>rfl
      ·simp only [dYF (show ¬ ((i:Int)>=(st:Int)) by omega),dYF hge,cT,cF,Bool.and_false,Bool.not_false,Bool.true_or]
     ·rw [dYF hm];simp only [cF,cT,Bool.false_and,Bool.not_false,Bool.true_or]
    ·rw [dYF (show ¬ ((st:Int) > 0) by omega),dYF h0]
     simp only [cF,cT,Bool.false_and,Bool.not_false,Bool.true_or]
   ·rw [dYT (show (((gi l i).size:Int) > 60) by omega),dYF hs]
    rfl)
  (by
   show wG l (st:Int) l (l.length:Int) (l.length:Int)=_;rw [q6v];simp only [Int.lt_irrefl,decide_false,cF,qkB,oB];have e1:decide ((1:Int)<=(l.length:Int))=decide (1<=l.length):=decide_eq_decide.2 (by omega)
   have e2:decide ((l.length:Int)<=24)=decide (l.length<=24):=decide_eq_decide.2 (by omega)
   rw [e1,e2])
 rw [this];unfold itsB;cases (range l.length).all (itB st l)<;>rfl
theorem qqu (n:Nat):(tmod (n:Int) 2 != 0)=!decide (n % 2=0):=by
 rw [Int.tmod_eq_emod_of_nonneg (by omega)]
 by_cases h:n % 2=0
 ·rw [dYT h]; simp only [Bool.not_true,bne_eq_false_iff_eq]; omega
 ·rw [dYF h]; simp only [Bool.not_false,bne_iff_ne,ne_eq]; omega
theorem qgE (a b:Int):(a==b)=decide (a=b):=by
 by_cases h:a=b
 ·simp [h]
 ·simp [h]
theorem qbh (v:DV) (hl:v.2.2.2.length<=100000000):q7M v=some (valB v,()):=by
 rw [qiF];unfold valB;simp only [qkB,oB,qfF,qV,qgE,qqu];cases hu:(decide (0<=v.2.1)&&decide (v.2.1<=100000)) with
 | false=>rfl
 | true=>
  simp only [Bool.not_true,cF,Bool.true_and];by_cases h1:v.1=1
  ·rw [dYT h1];have e1:decide ((v.2.2.1.size:Int)<=60)=decide (v.2.2.1.size<=60):=decide_eq_decide.2 (by omega)
   have e2:decide ((v.2.2.2.length:Int)=0)=decide (v.2.2.2=[]):=decide_eq_decide.2 (by rw [<- List.length_eq_zero_iff]; omega)
   simp only [cT,e1,e2];cases decide (v.2.2.1.size<=60)<;>rfl
  ·rw [dYF h1];simp only [cF];by_cases h2:v.1=2
   ·have n3:¬ v.1=3:=by omega
    simp only [dYT h2,dYF n3,cT,show stB v.1=0 by unfold stB; rw [if_pos h2],
     dYT (show v.1=2\/v.1=3\/v.1=4 from .inl h2)]
    have:=qet 0 (by omega) v.2.2.2 hl
    rw [show ((0:Nat):Int)=0 from rfl] at this
    rw [this];cases decide (v.2.2.1=eB)<;>cases itsB 0 v.2.2.2<;>cases decide (1<=v.2.2.2.length)<;>cases decide (v.2.2.2.length<=24)<;>rfl
   ·by_cases h3:v.1=3
    ·have:=qet 2 (by omega) v.2.2.2 hl
     rw [show ((2:Nat):Int)=2 from rfl] at this
     simp only [dYF h2,dYT h3,cT,cF,show stB v.1=2 by unfold stB; rw [if_neg h2,if_pos h3],dYT (show v.1=2\/v.1=3\/v.1=4 from .inr (.inl h3)),this]
     cases decide (v.2.2.1=eB)<;>cases decide (v.2.2.2.length % 2=0)<;>cases itsB 2 v.2.2.2<;>cases decide (1<=v.2.2.2.length)<;>cases decide (v.2.2.2.length<=24)<;>rfl
    ·by_cases h4:v.1=4
     ·have:=qet 1 (by omega) v.2.2.2 hl
      rw [show ((1:Nat):Int)=1 from rfl] at this
      simp only [dYF h2,dYF h3,dYT h4,cT,cF,show stB v.1=1 by unfold stB; rw [if_neg h2,if_neg h3],dYT (show v.1=2\/v.1=3\/v.1=4 from .inr (.inr h4)),this]
      cases decide (v.2.2.1=eB)<;>cases itsB 1 v.2.2.2<;>cases decide (1<=v.2.2.2.length)<;>cases decide (v.2.2.2.length<=24)<;>rfl
     ·simp only [dYF h2,dYF h3,dYF h4,cF,dYF (show ¬ (v.1=2\/v.1=3\/v.1=4) from fun h=>h.elim h2 fun h=>h.elim h3 h4),Bool.false_and]
theorem qo1 (k u:Int) (x:BA) (l:List BA) (hk:k=2\/k=3\/k=4) (hl:l.length<=100000000):q00 0 k u x l=some (itsB (stB k) l,()):=by
 have:=qar (fun i=>q00 i k u x l) l.length (itB (stB k) l) (some (false,())) (some (true,()))
  (fun i hi=>by
   have e1:decide ((i:Int) < (l.length:Int))=true:=dYT (by omega)
   have e2:decide (0<=(i:Int))=true:=dYT (by omega)
   have e3:w64 ((i:Int)+1)=((i+1:Nat):Int):=qo (by omega)
   conv=>lhs; rw [q8O,q3H,e1,e2]
   simp only [Bool.and_self,cT,toNat_natCast];rw [q9J];simp only [q9K,q9L,q9M,e1,e2,e3,Bool.and_self,qgE,blt_eq,toNat_natCast,cT,cF];unfold itB;by_cases hs:(gi l i).size<=60
   ·rw [dYF (show ¬ (((gi l i).size:Int) > 60) by omega),dYT hs]
    simp only [cF,Bool.true_and];rcases hk with rfl | rfl | rfl
    ·have f1:decide ((2:Int)=4)=false:=rfl;have f2:decide ((2:Int)=3)=false:=rfl;have f3:decide (0 < stB 2)=false:=rfl;rw [f1,f2,f3];simp only [cF,Bool.false_and,Bool.not_false,Bool.true_or,cT]
    ·have f1:decide ((3:Int)=4)=false:=rfl;have f2:decide ((3:Int)=3)=true:=rfl;have f3:decide (0 < stB 3)=true:=rfl;have f4:stB 3=2:=rfl;rw [f1,f2,f3,f4];simp only [cF,cT,Bool.true_and];have hmod:decide (tmod (i:Int) 2=0)=decide (i % 2=0):=decide_eq_decide.2 (by rw [Int.tmod_eq_emod_of_nonneg (by omega)]; omega)
     rw [hmod];by_cases hge:2<=i
     ·have e4:w64 ((i:Int) - 2)=((i - 2:Nat):Int):=by show IntKind.i64.wrap _=_; rw [qh (by omega) (by omega)]; omega
      simp only [dYT (show (i:Int) > 1 by omega),dYT hge,e4,dYT (show (0:Int)<=((i - 2:Nat):Int) by omega),dYT (show ((i - 2:Nat):Int) < (l.length:Int) by omega),Bool.and_self,cT,toNat_natCast,Bool.and_true]
      generalize q00 ((i+1:Nat):Int) 3 u x l=Z;cases decide (i % 2=0)<;>cases blt (l.getD (i - 2) eB) (l.getD i eB)<;>rfl
     ·simp only [dYF (show ¬ ((i:Int) > 1) by omega),dYF hge,cF,Bool.and_false,Bool.not_false,Bool.true_or,cT]
    ·have f1:decide ((4:Int)=4)=true:=rfl;have f2:decide ((4:Int)=3)=false:=rfl;have f3:decide (0 < stB 4)=true:=rfl;have f4:stB 4=1:=rfl;rw [f1,f2,f3,f4];simp only [cF,cT,Bool.true_and,Nat.mod_one,decide_true];by_cases hge:1<=i
     ·have e4:w64 ((i:Int) - 1)=((i - 1:Nat):Int):=by show IntKind.i64.wrap _=_; rw [qh (by omega) (by omega)]; omega
      simp only [dYT (show (i:Int) > 0 by omega),dYT hge,e4,dYT (show (0:Int)<=((i - 1:Nat):Int) by omega),dYT (show ((i - 1:Nat):Int) < (l.length:Int) by omega),Bool.and_self,cT,toNat_natCast,Bool.not_true,Bool.false_or]
      cases blt (l.getD (i - 1) eB) (l.getD i eB)<;>rfl
     ·simp only [dYF (show ¬ ((i:Int) > 0) by omega),dYF hge,cF,Bool.not_false,Bool.true_or,cT]
   ·rw [dYT (show (((gi l i).size:Int) > 60) by omega),dYF hs]
    rfl)
  (by
   show q00 (l.length:Int) k u x l=_;rw [q8O,q3H];simp only [Int.lt_irrefl,decide_false,cF];rw [q9N])
 rw [this];unfold itsB;cases (range l.length).all (itB (stB k) l)<;>rfl
theorem qbu (v:DV) (hl:v.2.2.2.length<=100000000):q51 v=some (valB v,()):=by
 rw [qiX,q9B];simp only [qls,oB,q9C,q9D,q9E,q9F,q9G,q9H,q9I,qV,qgE];unfold valB;by_cases h1:v.1=1
 ·have a1:decide ((1:Int)<=v.1)=true:=dYT (by omega)
  have a2:decide (v.1<=4)=true:=dYT (by omega)
  have e1:decide ((v.2.2.1.size:Int)<=60)=decide (v.2.2.1.size<=60):=decide_eq_decide.2 (by omega)
  have e2:decide ((v.2.2.2.length:Int)=0)=decide (v.2.2.2=[]):=decide_eq_decide.2 (by rw [<- List.length_eq_zero_iff]; omega)
  simp only [a1,a2,Bool.and_self,Bool.not_true,cF,cT,dYT h1,e1,e2];cases (decide (0<=v.2.1)&&decide (v.2.1<=100000))<;>cases decide (v.2.2.1.size<=60)<;>rfl
 ·by_cases hk:v.1=2\/v.1=3\/v.1=4
  ·have a1:decide ((1:Int)<=v.1)=true:=dYT (by omega)
   have a2:decide (v.1<=4)=true:=dYT (by omega)
   have e3:decide ((1:Int)<=(v.2.2.2.length:Int))=decide (1<=v.2.2.2.length):=decide_eq_decide.2 (by omega)
   have e4:decide ((v.2.2.2.length:Int)<=24)=decide (v.2.2.2.length<=24):=decide_eq_decide.2 (by omega)
   have e5:decide (tmod (v.2.2.2.length:Int) 2=1)=!decide (v.2.2.2.length % 2=0):=by
    rw [Int.tmod_eq_emod_of_nonneg (by omega)]
    by_cases h:v.2.2.2.length % 2=0
    ·rw [dYT h,dYF (by omega)]; rfl
    ·rw [dYF h,dYT (by omega)]; rfl
   simp only [a1,a2,Bool.and_self,Bool.not_true,cF,cT,dYF h1,dYT hk,e3,e4,e5,qo1 v.1 v.2.1 v.2.2.1 v.2.2.2 hk hl];cases (decide (0<=v.2.1)&&decide (v.2.1<=100000))<;>cases decide (v.2.2.1=eB)<;>cases decide (1<=v.2.2.2.length)<;>cases decide (v.2.2.2.length<=24)<;>cases decide (v.1=3)<;>cases decide (v.2.2.2.length % 2=0)<;>cases itsB (stB v.1) v.2.2.2<;>rfl
  ·have a0:(decide ((1:Int)<=v.1)&&decide (v.1<=4))=false:=by
    by_cases h:(1:Int)<=v.1
    ·rw [dYF (show ¬ v.1<=4 by omega),Bool.and_false]
    ·rw [dYF h,Bool.false_and]
   simp only [a0,Bool.not_false,cT,dYF h1,dYF hk,cF,Bool.false_and,Bool.and_false]
abbrev ge (t:List DE) (i:Nat):DE:=t.getD i dflt
def enB (t:List DE) (i:Nat):Bool:=decide (1<=(ge t i).1.size)&&decide ((ge t i).1.size<=20)&&valB (ge t i).2&&(!decide (0 < i)||blt (ge t (i - 1)).1 (ge t i).1)
def tabB (t:List DE):Bool:=decide (t.length<=20)&&(range t.length).all (enB t)
theorem qfA (t:List DE) (h:Bd t):q8l t=some (tabB t,()):=by
 have hl:=h.len;rw [qfz];have:=qar (fun i=>j6 t t (t.length:Int) i) t.length (enB t) (some (false,())) (some (decide (t.length<=20),()))
  (fun i hi=>by
   conv=>lhs; rw [q6t]
   have e1:decide ((i:Int) < (t.length:Int))=true:=dYT (by omega)
   have e2:decide (0<=(i:Int))=true:=dYT (by omega)
   have e3:w64 ((i:Int)+1)=((i+1:Nat):Int):=qo (by omega)
   have hm:=h.its _ (q3W (d:=dflt) hi);simp only [e1,e2,e3,Bool.and_self,cT,toNat_natCast,qpA,oB,qbh (t.getD i dflt).2 (by omega),blt_eq]
   unfold enB;generalize j6 t t (t.length:Int) ((i+1:Nat):Int)=Z;by_cases h0:0 < i
   ·have e4:w64 ((i:Int) - 1)=((i - 1:Nat):Int):=by show IntKind.i64.wrap _=_; rw [qh (by omega) (by omega)]; omega
    simp only [dYT (show (i:Int) > 0 by omega),dYT h0,e4,dYT (show (0:Int)<=((i - 1:Nat):Int) by omega),dYT (show ((i - 1:Nat):Int) < (t.length:Int) by omega),Bool.and_self,cT,toNat_natCast]
    cases (decide (1<=(t.getD i dflt).1.size)&&decide ((t.getD i dflt).1.size<=20))<;>cases valB (t.getD i dflt).2<;>cases blt (t.getD (i - 1) dflt).1 (t.getD i dflt).1<;>rfl
   ·simp only [dYF (show ¬ ((i:Int) > 0) by omega),dYF h0,cF]
    cases (decide (1<=(t.getD i dflt).1.size)&&decide ((t.getD i dflt).1.size<=20))<;>cases valB (t.getD i dflt).2<;>rfl)
  (by
   show j6 t t (t.length:Int) (t.length:Int)=_;rw [q6t];simp only [Int.lt_irrefl,decide_false,cF];rw [show decide ((t.length:Int)<=20)=decide (t.length<=20) from decide_eq_decide.2 (by omega)])
 rw [this];unfold tabB;cases (range t.length).all (enB t)<;>cases decide (t.length<=20)<;>rfl
theorem qgd (t:List DE) (h:Bd t):q50 t=some (tabB t,()):=by
 have hl:=h.len;rw [qgc];have:=qar (fun i=>jh t i) t.length (enB t) (some (false,())) (some (true,()))
  (fun i hi=>by
   conv=>lhs; rw [q74]
   have e1:decide ((i:Int) < (t.length:Int))=true:=dYT (by omega)
   have e2:decide (0<=(i:Int))=true:=dYT (by omega)
   have e3:w64 ((i:Int)+1)=((i+1:Nat):Int):=qo (by omega)
   have hm:=h.its _ (q3W (d:=dflt) hi);have k1:decide ((1:Int)<=((t.getD i dflt).1.size:Int))=decide (1<=(t.getD i dflt).1.size):=decide_eq_decide.2 (by omega)
   have k2:decide (((t.getD i dflt).1.size:Int)<=20)=decide ((t.getD i dflt).1.size<=20):=decide_eq_decide.2 (by omega)
   simp only [e1,e2,e3,Bool.and_self,cT,toNat_natCast,qls,oB,qbu (t.getD i dflt).2 (by omega),blt_eq]
   unfold enB;generalize jh t ((i+1:Nat):Int)=Z;by_cases h0:0 < i
   ·have e4:w64 ((i:Int) - 1)=((i - 1:Nat):Int):=by show IntKind.i64.wrap _=_; rw [qh (by omega) (by omega)]; omega
    simp only [dYT (show (i:Int) > 0 by omega),dYT h0,e4,dYT (show (0:Int)<=((i - 1:Nat):Int) by omega),dYT (show ((i - 1:Nat):Int) < (t.length:Int) by omega),Bool.and_self,cT,toNat_natCast,k1,k2]
    cases (decide (1<=(t.getD i dflt).1.size)&&decide ((t.getD i dflt).1.size<=20))<;>cases valB (t.getD i dflt).2<;>cases blt (t.getD (i - 1) dflt).1 (t.getD i dflt).1<;>rfl
   ·simp only [dYF (show ¬ ((i:Int) > 0) by omega),dYF h0,cF,k1,k2]
    cases (decide (1<=(t.getD i dflt).1.size)&&decide ((t.getD i dflt).1.size<=20))<;>cases valB (t.getD i dflt).2<;>rfl)
  (by
   show jh t (t.length:Int)=_;rw [q74];simp only [Int.lt_irrefl,decide_false,cF])
 rw [this];unfold tabB;by_cases h20:t.length<=20
 ·rw [dYF (show ¬ ((t.length:Int) > 20) by omega),dYT h20]
  cases (range t.length).all (enB t)<;>rfl
 ·rw [dYT (show ((t.length:Int) > 20) by omega),dYF h20]; rfl
end Go.Den.S
namespace Go.Den.S
open Go Go.Den
set_option maxRecDepth 4000
theorem qjs (a b:List BA) (ha:a.length<=2097152):q5N a b=some (decide (a=b),()):=by
 rw [qdA];by_cases hl:a.length=b.length
 ·have e:((a.length:Int) != (b.length:Int))=false:=by simp [hl]
  simp only [e,cF];refine qd4 (fun i=>q1g a b i) a b eB hl (fun i hi=>?_) ?_
  ·rw [q4J];have e:w64 ((i:Int)+1)=(i:Int)+1:=qh (by omega) (by omega)
   have h1:decide ((i:Int) < (a.length:Int))=true:=dYT (by omega)
   have h2:decide ((i:Int) < (b.length:Int))=true:=dYT (by omega)
   have h3:decide (0<=(i:Int))=true:=dYT (by omega)
   simp only [h1,h2,h3,e,Bool.and_self,cT,toNat_natCast,qV];by_cases h:a.getD i eB=b.getD i eB<;>simp only [h,decide_true,decide_false,Bool.not_true,Bool.not_false,cT,cF,if_true,if_false]
  ·rw [q4J];simp
 ·have e:((a.length:Int) != (b.length:Int))=true:=by simp; omega
  simp only [e,cT];have:a≠b:=fun h=>hl (by rw [h])
  simp [this]
noncomputable def mkL (k:Int):Nat->List BA
 | 0=>[]
 | n+1=>mkT k::mkL (k+1) n
theorem q3i:∀ (n:Nat) (k:Int),(mkL k n).length=n
 | 0,_=>rfl
 | n+1,k=>by simp [mkL,q3i n]
theorem qhc:∀ (n:Nat) (k:Int) (i:Nat),i < n->(mkL k n)[i]?=some (mkT (k+i))
 | n+1,k,0,_=>by simp [mkL]
 | n+1,k,i+1,h=>by
  simp only [mkL,List.getElem?_cons_succ];rw [qhc n (k+1) i (by omega)]
  congr 2; omega
theorem qha (a:List BA) (k:Int) (h0:0<=k) (hk:k+a.length<=1000000000):q42 a k=some (k+(a.length:Int),mkL k a.length,()):=by
 rw [qbC];have hF:=qcb (fun out i=>zH (k+i) i out) (mkL k a.length) eB a (by rw [q3i]) fun out i hi hl=>by
  rw [q3i] at hi hl;show zH (k+(i:Int)) (i:Int) out=zH (k+((i:Int)+1)) ((i:Int)+1) _;rw [q3E];have k1:decide ((i:Int) < (out.length:Int))=true:=dYT (by omega)
  have k2:decide (0<=(i:Int))=true:=dYT (by omega)
  have k3:w64 ((i:Int)+1)=(i:Int)+1:=qh (by omega) (by omega)
  have k4:w64 (k+(i:Int)+1)=k+((i:Int)+1):=by show IntKind.i64.wrap _=_; rw [qh (by omega) (by omega)]; omega
  simp only [k1,k2,k3,k4,Bool.and_self,cT,toNat_natCast,jF (k+(i:Int)) (by omega),oB]
  congr 2
  rw [getD_eq_getElem?_getD,qhc _ _ _ hi]; rfl
 simp only [q3i,Int.add_zero] at hF;rw [hF,q3E];have k1:decide ((a.length:Int) < ((mkL k a.length).length:Int))=false:=dYF (by rw [q3i]; omega)
 simp only [k1,cF]
theorem qgP (n:Nat) (k:Int) (h0:0<=k) (hk:k+n<=1000000000):q41 (mkL k n) k=some (k+(n:Int),()):=by
 rw [qbB];have key:=q8w (mkL k n) eB (fun i r=>q0w (mkL k n) (k+(i:Int)) (i:Int)=some (k+(n:Int),())) (by
  rw [q3i,q3D];have k1:decide ((n:Int) < ((mkL k n).length:Int))=false:=dYF (by rw [q3i]; omega)
  simp only [k1,cF]) (fun i x r hi hx hm ih=>by
  rw [q3D];have hi':i < n:=by rwa [q3i] at hi
  have k1:decide ((i:Int) < ((mkL k n).length:Int))=true:=dYT (by rw [q3i]; omega)
  have k2:decide (0<=(i:Int))=true:=dYT (by omega)
  have k3:w64 ((i:Int)+1)=((i+1:Nat):Int):=qo (by omega)
  have k4:w64 (k+(i:Int)+1)=k+((i+1:Nat):Int):=by show IntKind.i64.wrap _=_; rw [qh (by omega) (by omega)]; omega
  have hx':x=mkT (k+(i:Int)):=by
   rw [<- hx,getD_eq_getElem?_getD,qhc _ _ _ hi']; rfl
  simp only [k1,k2,k3,k4,Bool.and_self,cT,toNat_natCast,jF (k+(i:Int)) (by omega),oB,hx,qV,dYT hx',Bool.not_true,cF]
  exact ih)
 simpa using key
theorem qou (a b:DV) (h:a.2.2.2.length<=2097152):qaH a b=some (decide (a=b),()):=by
 rw [qiK,qjs _ _ h];obtain ⟨a1,a2,a3,a4⟩:=a;obtain ⟨b1,b2,b3,b4⟩:=b;simp only [oB,qV,Prod.mk.injEq,qcY];by_cases h1:a1=b1<;>by_cases h2:a2=b2<;>by_cases h3:a3=b3<;>by_cases h4:a4=b4<;>simp [h1,h2,h3,h4]
theorem qmb (a b:DE) (h:a.2.2.2.2.length<=2097152):q8p a b=some (decide (a=b),()):=by
 rw [qfK,qou _ _ h];obtain ⟨a1,a2⟩:=a;obtain ⟨b1,b2⟩:=b;simp only [oB,qV,Prod.mk.injEq];by_cases h1:a1=b1<;>by_cases h2:a2=b2<;>simp [h1,h2]
theorem qkG (a b:List DE) (ha:a.length<=4194304) (hi:∀ e∈a,e.2.2.2.2.length<=2097152):q23 a b=some (decide (a=b),()):=by
 rw [qev];by_cases hl:a.length=b.length
 ·have e:((a.length:Int) != (b.length:Int))=false:=by simp [hl]
  simp only [e,cF];refine qd4 (fun i=>q1L a b i) a b dflt hl (fun i hi'=>?_) ?_
  ·rw [q5g];have e:w64 ((i:Int)+1)=(i:Int)+1:=qh (by omega) (by omega)
   have h1:decide ((i:Int) < (a.length:Int))=true:=dYT (by omega)
   have h2:decide ((i:Int) < (b.length:Int))=true:=dYT (by omega)
   have h3:decide (0<=(i:Int))=true:=dYT (by omega)
   have hm:=hi _ (q3W (d:=dflt) hi');simp only [h1,h2,h3,e,Bool.and_self,cT,toNat_natCast,qmb (a.getD i dflt) (b.getD i dflt) hm,oB];by_cases h:a.getD i dflt=b.getD i dflt
   ·rw [dYT h,if_pos h,Bool.not_true,cF]
   ·rw [dYF h,if_neg h,Bool.not_false,cT]
  ·rw [q5g];simp
 ·have e:((a.length:Int) != (b.length:Int))=true:=by simp; omega
  simp only [e,cT];rw [dYF fun h=>hl (by rw [h])]
def zM (t:List DE):Nat:=(t.map fun e=>4+e.2.2.2.2.length).sum
noncomputable def mkEn (k:Int):List DE->List DE
 | []=>[]
 | e::r=>(mkT k,(k+1,(k+2,(mkT (k+3),mkL (k+4) e.2.2.2.2.length))))::mkEn (k+((4+e.2.2.2.2.length:Nat):Int)) r
theorem qiM (a:List DE) (k:Int) (h0:0<=k) (hl:a.length<=500000000) (hk:k+zM a<=1000000000):q4L a k=some (k+(zM a:Int),mkEn k a,()):=by
 rw [qcp,q6y,q6A];have key:∀ (r pre:List DE) (k:Int),0<=k->k+zM r<=1000000000->pre.length+r.length<=500000000->q0U k (pre.length:Int) (pre++r)=some (k+(zM r:Int),pre++mkEn k r,()):=by
  intro r;induction r with
  | nil=>
   intro pre k h0 hk hp;rw [q4e,q1y];have k1:decide ((pre.length:Int) < ((pre++([]:List DE)).length:Int))=false:=dYF (by simp)
   simp only [k1,cF,q6J];simp [zM,mkEn]
  | cons e r ih=>
   intro pre k h0 hk hp;have hc:zM (e::r)=4+e.2.2.2.2.length+zM r:=by simp [zM]
   rw [hc] at hk ⊢;simp only [length_cons] at hp;have hset:∀ x y:DE,(pre++x::r).set pre.length y=pre++y::r:=fun x y=>by simp
   have hget:∀ x:DE,(pre++x::r).getD pre.length (eB,0,0,eB,[])=x:=fun x=>by simp [getD_eq_getElem?_getD]
   have hlt:∀ x:DE,decide ((pre.length:Int) < ((pre++x::r).length:Int))=true:=fun x=>dYT (by simp; omega)
   have k2:decide (0<=(pre.length:Int))=true:=dYT (by omega)
   have k3:w64 ((pre.length:Int)+1)=((pre.length+1:Nat):Int):=qo (by omega)
   have w1:w64 (k+1)=k+1:=qh (by omega) (by omega)
   have w2:w64 (k+1+1)=k+2:=by show IntKind.i64.wrap _=_; rw [qh (by omega) (by omega)]; omega
   have w3:w64 (k+2+1)=k+3:=by show IntKind.i64.wrap _=_; rw [qh (by omega) (by omega)]; omega
   have w4:w64 (k+3+1)=k+4:=by show IntKind.i64.wrap _=_; rw [qh (by omega) (by omega)]; omega
   conv=>lhs; rw [q4e,q1y,hlt,cT,jF k (by omega)]
   simp only [oB,k2,hlt,Bool.and_self,cT,toNat_natCast,hset,hget];rw [q6B,w1,q6C];simp only [k2,hlt,Bool.and_self,cT,toNat_natCast,hset,hget];rw [q6D,w2,q6E];simp only [k2,hlt,Bool.and_self,cT,toNat_natCast,hset,hget];rw [q6F,w3,q6G,jF (k+3) (by omega)]
   simp only [oB,k2,hlt,Bool.and_self,cT,toNat_natCast,hset,hget];rw [q6H,w4,q6I];simp only [k2,hlt,Bool.and_self,cT,toNat_natCast,hset,hget];rw [qha e.2.2.2.2 (k+4) (by omega) (by omega)]
   simp only [oB,k3];have:=ih (pre++[(mkT k,(k+1,(k+2,(mkT (k+3),mkL (k+4) e.2.2.2.2.length))))]) (k+4+(e.2.2.2.2.length:Int)) (by omega) (by omega) (by simp only [length_append,length_singleton]; omega)
   rw [show (pre++[(mkT k,(k+1,(k+2,(mkT (k+3),mkL (k+4) e.2.2.2.2.length))))]).length=pre.length+1 by simp,append_assoc,singleton_append] at this
   rw [this,mkEn,append_assoc,singleton_append];rw [show k+4+(e.2.2.2.2.length:Int)=k+((4+e.2.2.2.2.length:Nat):Int) by omega]
   rw [show k+((4+e.2.2.2.2.length:Nat):Int)+(zM r:Int)=k+((4+e.2.2.2.2.length+zM r:Nat):Int) by omega]
 have:=key a [] k h0 hk (by simpa using hl)
 simpa using this
theorem qix (a:List DE) (k:Int) (h0:0<=k) (hl:a.length<=500000000) (hk:k+zM a<=1000000000):q2s (mkEn k a) k=some (k+(zM a:Int),()):=by
 rw [qcn];have key:∀ (r pre:List DE) (k:Int),0<=k->k+zM r<=1000000000->pre.length+r.length<=500000000->q0T (pre++mkEn k r) k (pre.length:Int)=some (k+(zM r:Int),()):=by
  intro r;induction r with
  | nil=>
   intro pre k h0 hk hp;rw [q4d];have k1:decide ((pre.length:Int) < ((pre++mkEn k []).length:Int))=false:=dYF (by simp [mkEn])
   simp only [k1,cF];simp [zM]
  | cons e r ih=>
   intro pre k h0 hk hp;have hc:zM (e::r)=4+e.2.2.2.2.length+zM r:=by simp [zM]
   rw [hc] at hk ⊢;simp only [length_cons] at hp;rw [q4d];have k1:decide ((pre.length:Int) < ((pre++mkEn k (e::r)).length:Int))=true:=dYT (by simp [mkEn]; omega)
   have k2:decide (0<=(pre.length:Int))=true:=dYT (by omega)
   have k3:w64 ((pre.length:Int)+1)=((pre.length+1:Nat):Int):=qo (by omega)
   have hg:(pre++mkEn k (e::r)).getD pre.length (eB,0,0,eB,[])=(mkT k,(k+1,(k+2,(mkT (k+3),mkL (k+4) e.2.2.2.2.length)))):=by simp [getD_eq_getElem?_getD,mkEn]
   have w1:w64 (k+1)=k+1:=qh (by omega) (by omega)
   have w2:w64 (k+1+1)=k+2:=by show IntKind.i64.wrap _=_; rw [qh (by omega) (by omega)]; omega
   have w3:w64 (k+2+1)=k+3:=by show IntKind.i64.wrap _=_; rw [qh (by omega) (by omega)]; omega
   have w4:w64 (k+3+1)=k+4:=by show IntKind.i64.wrap _=_; rw [qh (by omega) (by omega)]; omega
   have hn:¬ (k+4+(e.2.2.2.2.length:Int) < 0):=by omega
   simp only [k1,k2,k3,Bool.and_self,cT,toNat_natCast,hg,jF k (by omega),oB,qV,decide_true,Bool.not_true,cF,w1,bne_self_eq_false,w2,w3,jF (k+3) (by omega),w4,qgP e.2.2.2.2.length (k+4) (by omega) (by omega),dYF hn]
   have e':pre++mkEn k (e::r)=(pre++[(mkT k,(k+1,(k+2,(mkT (k+3),mkL (k+4) e.2.2.2.2.length))))])++mkEn (k+((4+e.2.2.2.2.length:Nat):Int)) r:=by simp [mkEn]
   rw [e'];have:=ih (pre++[(mkT k,(k+1,(k+2,(mkT (k+3),mkL (k+4) e.2.2.2.2.length))))]) (k+((4+e.2.2.2.2.length:Nat):Int)) (by omega) (by omega) (by simp only [length_append,length_singleton]; omega)
   rw [show (pre++[(mkT k,(k+1,(k+2,(mkT (k+3),mkL (k+4) e.2.2.2.2.length))))]).length=pre.length+1 by simp] at this
   rw [show k+4+(e.2.2.2.2.length:Int)=k+((4+e.2.2.2.2.length:Nat):Int) by omega]
   rw [this];rw [show k+((4+e.2.2.2.2.length:Nat):Int)+(zM r:Int)=k+((4+e.2.2.2.2.length+zM r:Nat):Int) by omega]
 have:=key a [] k h0 hk (by simpa using hl)
 simpa using this
theorem qqc {st:Nat} {l:List BA} (h:itsB st l=true):∀ s∈l,s.size<=60:=by
 intro s hs;obtain ⟨i,hi,e⟩:=List.mem_iff_getElem.1 hs;have:=List.all_eq_true.1 h i (List.mem_range.2 hi);unfold itB at this;simp only [and_eq_true,decide_eq_true_eq] at this;have e':gi l i=s:=by rw [<- e]; show l.getD i _=_; rw [getD_eq_getElem?_getD,List.getElem?_eq_getElem hi]; rfl
 rw [<- e']; exact this.1
theorem qbc {v:DV} (h:valB v=true):VB v:=by
 unfold valB at h;rw [and_eq_true,and_eq_true,decide_eq_true_eq,decide_eq_true_eq] at h;obtain ⟨⟨h1,h2⟩,h3⟩:=h;by_cases hk:v.1=1
 ·rw [dYT hk,cT,and_eq_true,decide_eq_true_eq,decide_eq_true_eq] at h3;exact ⟨by omega,by omega,h1,by omega,by omega,by rw [h3.2]; exact zero_le _,by rw [h3.2]; intro s hs; cases hs⟩
 ·rw [dYF hk,cF] at h3;simp only [and_eq_true,decide_eq_true_eq] at h3;obtain ⟨⟨⟨⟨⟨a1,a2⟩,a3⟩,a4⟩,a5⟩,a6⟩:=h3;exact ⟨by omega,by omega,h1,by omega,by rw [a2]; exact zero_le _,a4,fun s hs=>by have:=qqc a6 s hs; omega⟩
theorem qpW {a b:DV} (ha:valB a=true) (hb:valB b=true) (h:vTL a=vTL b):a=b:=by
 have h1:=qcz (qbc ha) (le_refl 24);rw [h,qcz (qbc hb) (le_refl 24)] at h1;exact (congrArg Prod.fst h1).symm
open Classical in
noncomputable def q3n (s:BA):Option DV:=if h:∃ v,valB v=true/\vTL v=bl s then some h.choose else none
theorem q6Q {s:BA} {v:DV}:q3n s=some v↔valB v=true/\vTL v=bl s:=by
 unfold q3n;constructor
 ·intro h;split at h
  ·rename_i hx;simp only [Option.some.injEq] at h;rw [<- h];exact hx.choose_spec
  ·cases h
 ·rintro ⟨h1,h2⟩
  have hx:∃ v,valB v=true/\vTL v=bl s:=⟨v,h1,h2⟩
  rw [dif_pos hx];congr 1
  have h3:=hx.choose_spec;exact qpW h3.1 h1 (h3.2.trans h2.symm)
abbrev dV0:DV:=(0,(0,(eB,[])))
noncomputable def q7R (s:BA):DV×Bool:=match q3n s with
 | some v=>(v,true)
 | none=>(dV0,false)
theorem qkj {s:BA} {v:DV} {m:Nat} (hm:24<=m) (h:q3n s=some v):valB v=true/\vTL v=bl s/\q4Q m (bl s)=(v,[],false):=by
 obtain ⟨h1,h2⟩:=q6Q.1 h;exact ⟨h1,h2,by rw [<- h2]; exact qcz (qbc h1) hm⟩
theorem qnS (s:BA) {v:DV} {st:RS} (hr:q4Q 1000000001 (bl s)=(v,st)):(bif !st.2&&decide (st.1=[]) then bif valB v then (v,true) else (dV0,false) else (dV0,false))=q7R s:=by
 unfold q7R;cases hx:q3n s with
 | some w=>
  obtain ⟨k1,k2,k3⟩:=qkj (m:=1000000001) (by omega) hx
  rw [k3] at hr;obtain ⟨rfl,rfl⟩:=Prod.mk.inj hr;simp [k1]
 | none=>
  obtain ⟨rest,bad⟩:=st;cases hb:bad with
  | true=>rfl
  | false=>
   by_cases hl:rest=[]
   ·cases hv:valB v with
    | false=>cases decide (rest=[])<;>rfl
    | true=>
     rw [hb,hl] at hr;have:=qmJ hr (by have:=(qbc hv).n; omega)
     rw [q6Q.2 ⟨hv,this⟩] at hx; cases hx
   ·simp [hl]
theorem qnT (s:BA) {v:DV} {st:RS} (hr:q4Q 100 (bl s)=(v,st)):(bif !st.2 then bif valB v then bif decide (vTL v=bl s) then (v,true) else (dV0,false) else (dV0,false) else (dV0,false))=q7R s:=by
 unfold q7R;cases hx:q3n s with
 | some w=>
  obtain ⟨k1,k2,k3⟩:=qkj (m:=100) (by omega) hx
  rw [k3] at hr;obtain ⟨rfl,rfl⟩:=Prod.mk.inj hr;simp [k1,k2]
 | none=>
  cases hv:valB v with
  | false=>cases !st.2<;>rfl
  | true=>
   have:¬ vTL v=bl s:=fun h=>by rw [q6Q.2 ⟨hv,h⟩] at hx; cases hx
   rw [dYF this];cases !st.2<;>rfl
theorem qhT:∀ (n:Nat) (st:RS),(yx qE n st).1.length<=st.1.length+1
 | 0,st=>zero_le _
 | n+1,st=>by
  simp only [yx];split
  ·exact zero_le _
  ·rw [length_cons];cases hb:(qE st).2.2 with
   | true=>
    have:(yx qE n (qE st).2).1=[]:=by cases n with
     | zero=>rfl
     | succ n=>simp only [yx,hb,if_true]
    rw [this,List.length_nil]; omega
   | false=>
    obtain ⟨_,h⟩:=qb4 hb;have h1:=congrArg length h;have h2:=qkz (qE st).1.size;simp only [shL,length_append] at h1;have:=qhT n (qE st).2;omega
theorem qdv {s:BA} (hs:s.size<=20000) {c:qz} {st:RS} (h:RD s c st) (v:DV) (hl:v.2.2.2.length<=2000000000):∃ c',q5K v c=some ((),((v.1,(v.2.1,(v.2.2.1,v.2.2.2++[(qE st).1]))),(c',())))/\RD s c' (qE st).2:=by
 rw [qdu];obtain ⟨c1,e1,h1⟩:=qdm hs h;rw [e1];have k:lim (v.2.2.2.length+1) 16=true:=qZ (by omega)
 simp only [oB,k,cT];exact ⟨c1,rfl,h1⟩
theorem q6e {s:BA} (hs:s.size<=20000) (a b:Int) (t:BA) (n:Nat) (hn:n<=1000000000):∀ (k i:Nat) (st:RS) (c:qz) (acc:List BA),i+k=n->acc.length<=i->RD s c st->
  ∃ c',q0I (n:Int) (i:Int) c.1 c.2.1 c.2.2 a b t acc=some ((),(c',(((a,(b,(t,acc++(yx qE k st).1))),()),())))/\RD s c' (yx qE k st).2
 | 0,i,st,c,acc,hi,ha,h=>by
  rw [q6d];have k1:decide ((i:Int) < (n:Int))=false:=dYF (by omega)
  simp only [k1,cF,yx,append_nil];exact ⟨_,rfl,h⟩
 | k+1,i,st,c,acc,hi,ha,h=>by
  rw [q6d];have k1:decide ((i:Int) < (n:Int))=true:=dYT (by omega)
  have k4:w64 ((i:Int)+1)=((i+1:Nat):Int):=qo (by omega)
  simp only [k1,cT,k4];cases hb:st.2 with
  | true=>
   have:c.2.2=true:=by rw [h.bad]; exact hb
   simp only [this,Bool.not_true,cF,yx,hb,if_true,append_nil];refine ⟨_,rfl,?_⟩;exact ⟨h.txt,h.lo,h.hi,hb.symm,fun x=>by rw [hb] at x; cases x⟩
  | false=>
   have hc:c.2.2=false:=by rw [h.bad]; exact hb
   have hcc:(c.1,(c.2.1,false))=c:=by rw [<- hc]
   obtain ⟨c1,e1,h1⟩:=qdv hs h (a,(b,(t,acc))) (by show acc.length<=_; omega)
   simp only [hc,Bool.not_false,cT,hcc,e1,oB];obtain ⟨c2,e2,h2⟩:=q6e hs a b t n hn k (i+1) (qE st).2 c1 (acc++[(qE st).1]) (by omega) (by rw [length_append,length_singleton]; omega) h1
   refine ⟨c2,?_,?_⟩
   ·rw [e2];simp only [yx,hb,false_eq_true,if_false,append_assoc,singleton_append]
   ·simp only [yx,hb,false_eq_true,if_false];exact h2
theorem qfr (s:BA) (hs:s.size<=20000):q8j s=some (q7R s,()):=by
 rw [qfq];obtain ⟨c1,e1,h1⟩:=qcZ hs (q84 s);rw [e1]; simp only [oB];obtain ⟨c2,e2,h2⟩:=qae hs h1;rw [e2]; simp only [oB];obtain ⟨c3,e3,h3⟩:=qdm hs h2;rw [e3]; simp only [oB];rw [qfc];obtain ⟨c4,e4,h4⟩:=qae hs h3;rw [e4]; simp only [oB];have l1:=qoi (bl s,false);have l2:=qlA (qy (bl s,false)).2;have l3:=qoW (numR (qy (bl s,false)).2).2;have l4:=qlA (qE (numR (qy (bl s,false)).2).2).2;have hsz:=yg s;have hr:q4Q 1000000001 (bl s)=((((qy (bl s,false)).1:Int),(((numR (qy (bl s,false)).2).1:Int),((qE (numR (qy (bl s,false)).2).2).1,(yx qE (numR (qE (numR (qy (bl s,false)).2).2).2).1 (numR (qE (numR (qy (bl s,false)).2).2).2).2).1))),(yx qE (numR (qE (numR (qy (bl s,false)).2).2).2).1 (numR (qE (numR (qy (bl s,false)).2).2).2).2).2):=by
  have hN:=q8z (qE (numR (qy (bl s,false)).2).2).2;unfold q4Q;simp only [Nat.min_eq_left (show (numR (qE (numR (qy (bl s,false)).2).2).2).1<=1000000001 by omega)]
 have hN:=q8z (qE (numR (qy (bl s,false)).2).2).2;have hlen:=qhT (numR (qE (numR (qy (bl s,false)).2).2).2).1 (numR (qE (numR (qy (bl s,false)).2).2).2).2;obtain ⟨c5,e5,h5⟩:=q6e hs ((qy (bl s,false)).1:Int) ((numR (qy (bl s,false)).2).1:Int) (qE (numR (qy (bl s,false)).2).2).1 (numR (qE (numR (qy (bl s,false)).2).2).2).1 hN (numR (qE (numR (qy (bl s,false)).2).2).2).1 0 _ c4 [] (by omega) (le_refl _) h4
 simp only [List.nil_append] at e5;have e5':q0I ((numR (qE (numR (qy (bl s,false)).2).2).2).1:Int) 0 c4.1 c4.2.1 c4.2.2 ((qy (bl s,false)).1:Int) ((numR (qy (bl s,false)).2).1:Int) (qE (numR (qy (bl s,false)).2).2).1 []=_:=e5;rw [e5'];obtain ⟨c6,e6⟩:=qle h5;simp only [oB,e6];have hv:=qbh (((qy (bl s,false)).1:Int),(((numR (qy (bl s,false)).2).1:Int),((qE (numR (qy (bl s,false)).2).2).1,(yx qE (numR (qE (numR (qy (bl s,false)).2).2).2).1 (numR (qE (numR (qy (bl s,false)).2).2).2).2).1))) (by show (yx qE _ _).1.length<=_; simp only at l1; omega)
 rw [hv];have key:=qnS s hr;rw [<- key];generalize (((qy (bl s,false)).1:Int),(((numR (qy (bl s,false)).2).1:Int),((qE (numR (qy (bl s,false)).2).2).1,(yx qE (numR (qE (numR (qy (bl s,false)).2).2).2).1 (numR (qE (numR (qy (bl s,false)).2).2).2).2).1)))=v;generalize (yx qE (numR (qE (numR (qy (bl s,false)).2).2).2).1 (numR (qE (numR (qy (bl s,false)).2).2).2).2).2=st;simp only [oB];cases (!st.2&&decide (st.1=[]))<;>cases valB v<;>rfl
end Go.Den.S
namespace Go.Den.S
open Go Go.Den
set_option maxRecDepth 4000
theorem qoV {s:BA} (hs:s.size<=20000) {c:qz} {st:RS} (h:RD s c st):∃ t c',jN c 1=some (t,(c',()))/\RD s c' (qy st).2/\((qy st).2.2=false->t=bOf [UInt8.ofNat (qy st).1]):=by
 rw [q52,h.txt];cases hb:c.2.2 with
 | true=>
  have hb':st.2=true:=by rw [<- h.bad]; exact hb
  obtain ⟨q1,q2⟩:=qbQ hb';exact ⟨_,_,rfl,q1t h q2,fun e=>by rw [q2] at e; cases e⟩
 | false=>
  have hb':st.2=false:=by rw [<- h.bad]; exact hb
  have hr:=h.rest hb';obtain ⟨m,hm⟩:∃ m:Nat,c.2.1=(m:Int):=⟨c.2.1.toNat,by have:=h.lo; omega⟩
  have hms:m<=s.size:=by have:=h.hi; omega
  rw [hm,toNat_natCast] at hr;have hsz:=yg s;have w0:w64 ((s.size:Int) - (m:Int))=(s.size:Int) - (m:Int):=qh (by omega) (by omega)
  simp only [hm,cF,w0];cases hl:st.1 with
  | nil=>
   rw [hl] at hr;have:=drop_eq_nil_iff.1 hr;have k1:decide ((1:Int) > (s.size:Int) - (m:Int))=true:=dYT (by omega)
   simp only [k1,cT];have e:qy st=(0,[],true):=by unfold qy; rw [hl]
   rw [e];exact ⟨_,_,rfl,by rw [<- hm]; exact q1t h rfl,fun e=>by cases e⟩
  | cons x r=>
   rw [hl] at hr;have hlt:=q9W hr;have k1:decide ((1:Int) > (s.size:Int) - (m:Int))=false:=dYF (by omega)
   have w1:w64 ((m:Int)+1)=((m+1:Nat):Int):=qo (by omega)
   have w2:w64 (((m+1:Nat):Int) - 1)=(m:Int):=(qh (by omega) (by omega)).trans (by omega)
   have k2:decide (0<=(m:Int))=true:=dYT (by omega)
   have k3:decide ((m:Int)<=((m+1:Nat):Int))=true:=dYT (by omega)
   have k4:decide (((m+1:Nat):Int)<=(s.size:Int))=true:=dYT (by omega)
   simp only [k1,cF,w1,w2,k2,k3,k4,Bool.and_self,cT,toNat_natCast];have e:qy st=(x.toNat,r,false):=by unfold qy; simp only [hl,hb']; rfl
   rw [e];refine ⟨_,_,rfl,qfW (by omega) (q48 hr),fun _=>?_⟩
   have:s.extract m (m+1)=bOf [x]:=zh (by rw [q1V,hr,show m+1 - m=1 by omega]; rfl)
   rw [this];show bOf [x]=bOf [UInt8.ofNat x.toNat];rw [q3u]
theorem q76 (a b:Int) (t:BA) (l:List BA) (hn:l.length<=24) (hs:∀ x∈l,x.size<=20000):∀ (r:List BA) (i:Nat) (acc:List UInt8),l.drop i=r->acc.length<=30000+i * 20005->q2C (bOf acc) (i:Int) a b t l=some ((bOf (acc++r.flatMap shL),true),())
 | [],i,acc,hd,ha=>by
  have:=drop_eq_nil_iff.1 hd;rw [q75];have k1:decide ((i:Int) < (l.length:Int))=false:=dYF (by omega)
  simp only [k1,cF,List.flatMap_nil,append_nil]
 | c::r,i,acc,hd,ha=>by
  obtain ⟨e1,hlt,e2⟩:=qX eB hd;have z1:=hs c (yN hd);rw [q75];have k1:decide ((i:Int) < (l.length:Int))=true:=dYT (by omega)
  have k2:decide (0<=(i:Int))=true:=dYT (by omega)
  have k4:w64 ((i:Int)+1)=((i+1:Nat):Int):=qo (by omega)
  have hl1:=q4i c z1;have q1:limS ((bOf acc).size+(bOf (shL c)).size)=true:=qY (by rw [qF acc,qF (shL c)]; omega)
  simp only [k1,k2,k4,Bool.and_self,cT,toNat_natCast,e1,q63 c z1,oB,q1];rw [<- ql2];rw [q76 a b t l hn hs r (i+1) _ e2 (by rw [length_append,Nat.succ_mul]; omega)]
  simp only [List.flatMap_cons,append_assoc]
theorem qgg (v:DV) (hl:v.2.2.2.length<=100000000):q1u v=some (bif valB v then (bOf (vTL v),true) else (eB,false),()):=by
 rw [qgf,qbu v hl];simp only [oB];cases hv:valB v with
 | false=>rfl
 | true=>
  have V:=qbc hv;obtain ⟨v1,v2,v3,v4⟩:=v;have k0:=V.k0; have k1:=V.k1; have u0:=V.u0; have u1:=V.u1; have ht:=V.t; have hn:=V.n; have hi:=V.i;simp only at k0 k1 u0 u1 ht hn hi;obtain ⟨n,rfl⟩:∃ n:Nat,v2=(n:Int):=⟨v2.toNat,by omega⟩
  have hw:IntKind.u8.wrap v1=v1:=q4k k0 (by omega)
  have hlt:=q4i v3 ht;have ln:=wQ (n:=n) (by omega)
  have lm:=wQ (n:=v4.length) (by omega)
  have hb:(⟨List.toArray (List.map (fun n=>UInt8.ofNat (Int.toNat n)) [v1])⟩:BA)=bOf [UInt8.ofNat v1.toNat]:=rfl
  simp only [Bool.not_true,cF,cT,hw,hb,wP (n:=n) (by omega),wP (n:=v4.length) (by omega),q63 v3 ht,oB]
  have q1:limS ((bOf [UInt8.ofNat v1.toNat]).size+(bOf (vL n)).size)=true:=qY (by rw [qF,qF]; simp only [length_singleton]; omega)
  have q2:limS ((bOf ([UInt8.ofNat v1.toNat]++vL n)).size+(bOf (shL v3)).size)=true:=qY (by rw [qF,qF,length_append,length_singleton]; omega)
  have q3:limS ((bOf (([UInt8.ofNat v1.toNat]++vL n)++shL v3)).size+(bOf (vL v4.length)).size)=true:=qY (by rw [qF,qF,length_append,length_append,length_singleton]; omega)
  simp only [q1,cT,<- ql2,q2,q3];have hL:=q76 v1 (n:Int) v3 v4 hn hi v4 0 ((([UInt8.ofNat v1.toNat]++vL n)++shL v3)++vL v4.length) rfl (by simp only [length_append,length_singleton]; omega)
  refine Eq.trans hL ?_;have e:((([UInt8.ofNat v1.toNat]++vL n)++shL v3)++vL v4.length)++v4.flatMap shL=vTL (v1,((n:Int),(v3,v4))):=by
   unfold vTL;simp only [toNat_natCast,append_assoc,singleton_append,List.cons_append,List.nil_append]
  rw [e]
noncomputable def finV (s:BA) (bad:Bool) (v:DV):DV×Bool:=bif !bad then bif valB v then bif decide (vTL v=bl s) then (v,true) else (dV0,false) else (dV0,false) else (dV0,false)
theorem qff (s:BA) (bad:Bool) (v:DV) (hl:v.2.2.2.length<=100000000):((q1u v).bind fun r16=>bif bad then some ((dV0,false),()) else bif !r16.1.2 then some ((dV0,false),()) else bif !(r16.1.1.toList==s.toList) then some ((dV0,false),()) else some ((v,true),()))=some (finV s bad v,()):=by
 rw [qgg v hl];unfold finV;simp only [oB,qV];cases bad with
 | true=>rfl
 | false=>
  cases hv:valB v with
  | false=>rfl
  | true=>
   simp only [cT,cF,Bool.not_true,Bool.not_false];have:decide (bOf (vTL v)=s)=decide (vTL v=bl s):=by
    rw [Bool.eq_iff_iff,decide_eq_true_eq,decide_eq_true_eq];constructor
    ·intro e; rw [<- e]
    ·intro e; exact zh (by rw [yT,e])
   rw [this];cases decide (vTL v=bl s)<;>rfl
theorem qcI {s:BA} (hs:s.size<=20000) (z1 z2:Int) (z3:BA) (z4:List BA) (a b:Int) (t:BA) (n:Nat) (hn:n<=1000000000):∀ (k i:Nat) (st:RS) (c:qz) (acc:List BA),i+k=min n 100->acc.length<=i->RD s c st->
  q2y s (n:Int) (i:Int) z1 z2 z3 z4 c.1 c.2.1 c.2.2 a b t acc=some (finV s (yx qE k st).2.2 (a,(b,(t,acc++(yx qE k st).1))),()):=by
 intro k;induction k with
 | zero=>
  intro i st c acc hi ha h;rw [q6Y];have hf:=qff s c.2.2 (a,(b,(t,acc))) (by show acc.length<=_; omega)
  simp only [yx,append_nil];rw [<- h.bad];by_cases h1:i < n
  ·have k1:decide ((i:Int) < (n:Int))=true:=dYT (by omega)
   have k2:decide ((i:Int) < 100)=false:=dYF (by omega)
   simp only [k1,k2,cT,cF];exact hf
  ·have k1:decide ((i:Int) < (n:Int))=false:=dYF (by omega)
   simp only [k1,cF];exact hf
 | succ k ih=>
  intro i st c acc hi ha h;rw [q6Y];have k1:decide ((i:Int) < (n:Int))=true:=dYT (by omega)
  have k2:decide ((i:Int) < 100)=true:=dYT (by omega)
  have k4:w64 ((i:Int)+1)=((i+1:Nat):Int):=qo (by omega)
  simp only [k1,k2,cT,k4];cases hb:st.2 with
  | true=>
   have hc:c.2.2=true:=by rw [h.bad]; exact hb
   have hf:=qff s true (a,(b,(t,acc))) (by show acc.length<=_; omega)
   simp only [hc,Bool.not_true,cF,yx,hb,if_true,append_nil];exact hf
  | false=>
   have hc:c.2.2=false:=by rw [h.bad]; exact hb
   have hcc:(c.1,(c.2.1,false))=c:=by rw [<- hc]
   simp only [hc,Bool.not_false,cT,hcc];obtain ⟨c1,e1,h1⟩:=q2p hs h;rw [e1];have kl:lim (acc.length+1) 16=true:=qZ (by omega)
   simp only [oB,kl,cT];have hr:=ih (i+1) (qE st).2 c1 (acc++[(qE st).1]) (by omega) (by rw [length_append,length_singleton]; omega) h1
   simp only [yx,hb,false_eq_true,if_false];rw [show acc++(qE st).1::(yx qE k (qE st).2).1=(acc++[(qE st).1])++(yx qE k (qE st).2).1 by simp]
   exact hr
theorem qg4 (s:BA) (hs:s.size<=20000):q8L s=some (q7R s,()):=by
 rw [qg3];obtain ⟨t,c1,e1,h1,ht⟩:=qoV hs (q84 s);rw [e1]; simp only [oB,h1.bad];cases hb:(qy (bl s,false)).2.2 with
 | true=>
  have:q3n s=none:=by
   cases hx:q3n s with
   | none=>rfl
   | some v=>
    have h2:=(q6Q.1 hx).2;rw [<- h2] at hb;cases hb
  unfold q7R;rw [this]; rfl
 | false=>
  have ht:=ht hb;have hx:=qpg (bl s,false);have hsz:t.size=1:=by rw [ht,qF]; rfl
  have hbt:bt t 0=((qy (bl s,false)).1:Int):=by
   rw [ht,q9T (i:=0) (c:=UInt8.ofNat (qy (bl s,false)).1) (r:=[]) _ rfl,q3K hx]
  have hw:w64 ((qy (bl s,false)).1:Int)=((qy (bl s,false)).1:Int):=qh (by omega) (by omega)
  have g1:(decide ((0:Int)<=0)&&decide ((0:Int) < (t.size:Int)))=true:=by rw [hsz]; rfl
  have z0:Int.toNat 0=0:=rfl;simp only [cF,g1,cT,z0,hbt,hw];obtain ⟨c2,e2,h2⟩:=q2O hs h1;rw [e2]; simp only [oB];obtain ⟨c3,e3,h3⟩:=q2p hs h2;rw [e3]; simp only [oB];obtain ⟨c4,e4,h4⟩:=q2O hs h3;rw [e4]; simp only [oB];have hN:=q8z (qE (numR (qy (bl s,false)).2).2).2;have hL:=qcI hs 0 0 eB [] ((qy (bl s,false)).1:Int) ((numR (qy (bl s,false)).2).1:Int) (qE (numR (qy (bl s,false)).2).2).1 (numR (qE (numR (qy (bl s,false)).2).2).2).1 hN (min (numR (qE (numR (qy (bl s,false)).2).2).2).1 100) 0 _ c4 [] (by omega) (le_refl _) h4
  refine Eq.trans hL ?_;have key:=qnT s (v:=(q4Q 100 (bl s)).1) (st:=(q4Q 100 (bl s)).2) rfl;rw [<- key];rfl
end Go.Den.S
namespace Go.Den.S
open Go Go.Den
open Classical
set_option maxRecDepth 4000
theorem qqj (d:List Fil) (s:Spt):(voO d s).1.size<=2000:=by
 unfold voO;cases hv:valD d s with
 | none=>exact zero_le _
 | some v=>
  show v.size<=2000;unfold valD at hv;split at hv
  ·cases hv
  ·obtain ⟨x,_,hx⟩:=Option.bind_eq_some_iff.1 hv;split at hx
   ·cases hx
   ·split at hx
    ·cases hx
    ·obtain ⟨b,hb,hx⟩:=Option.bind_eq_some_iff.1 hx;split at hx
     ·obtain ⟨c,hc,e⟩:=Option.map_eq_some_iff.1 hx;have hm:=List.mem_of_find?_eq_some hc;have h1:=(q0a.1 hb).1;simp only [batT,and_eq_true] at h1;rw [<- e];exact (qbS.1 ((q0H.1 h1.1).2.2.2.2.1 c hm)).2.2.1
     ·cases hx
theorem qn6 (e:Eng):∀ c∈(coO e).1,c.2.1.size<=20000:=by
 unfold coO;split
 ·intro c hc;unfold conS at hc;obtain ⟨s,_,rfl⟩:=List.mem_map.1 hc;have:=qqj e.1 s;show (voO e.1 s).1.size<=20000;omega
 ·intro c hc; cases hc
theorem qjm (e:Eng) (h:e.2.2.2.2.length<=2000000):(coO e).1.length<=2000000:=by
 unfold coO;split
 ·rw [qok]; exact h
 ·exact zero_le _
noncomputable def goT:List Chg->Option (List DE)
 | []=>some []
 | c::r=>(q3n c.2.1).bind fun v=>(goT r).map ((c.1,v)::·)
noncomputable def finT (acc:List DE):Option (List DE)->List DE×Bool
 | none=>([],false)
 | some t=>bif tabB (acc++t) then (acc++t,true) else ([],false)
theorem qn3:Bd []:=⟨zero_le _,fun e h=>by cases h⟩
theorem ql5 {acc:List DE} (h:Bd acc) (hl:acc.length < 4194304) {k s:BA} {v:DV} (hv:q3n s=some v):Bd (acc++[(k,v)]):=by
 have V:=(qbc (q6Q.1 hv).1).n;refine ⟨by rw [length_append,length_singleton]; omega,fun e he=>?_⟩
 rcases List.mem_append.1 he with he | he
 ·exact h.its e he
 ·rw [List.mem_singleton.1 he]; show v.2.2.2.length<=_; omega
theorem qhZ (acc:List DE) (c:Chg) (r:List Chg) {v:DV} (hv:q3n c.2.1=some v):finT (acc++[(c.1,v)]) (goT r)=finT acc (goT (c::r)):=by
 simp only [goT,hv,oB];cases goT r with
 | none=>rfl
 | some t=>simp only [Option.map_some,finT,append_assoc,singleton_append]
theorem qfw (l:List Chg) (hl:l.length<=2000000) (hv:∀ c∈l,c.2.1.size<=20000):∀ (r:List Chg) (i:Nat) (acc:List DE),l.drop i=r->acc.length<=i->i<=l.length->Bd acc->q2m acc l (l.length:Int) (i:Int)=some (finT acc (goT r),())
 | [],i,acc,hd,ha,hi,hb=>by
  have:=drop_eq_nil_iff.1 hd;rw [q6s];have k1:decide ((i:Int) < (l.length:Int))=false:=dYF (by omega)
  simp only [k1,cF,qfA acc hb,oB,goT,finT,append_nil];cases tabB acc<;>rfl
 | c::r,i,acc,hd,ha,hi,hb=>by
  obtain ⟨e1,hlt,e2⟩:=qX dC hd;rw [q6s];have k1:decide ((i:Int) < (l.length:Int))=true:=dYT (by omega)
  have k2:decide (0<=(i:Int))=true:=dYT (by omega)
  have k4:w64 ((i:Int)+1)=((i+1:Nat):Int):=qo (by omega)
  have kl:lim (acc.length+1) 72=true:=qZ (by omega)
  simp only [k1,k2,k4,kl,Bool.and_self,cT,toNat_natCast,e1,qfr _ (hv c (yN hd)),oB];unfold q7R;cases hx:q3n c.2.1 with
  | none=>simp only [goT,hx,Option.bind_none]; rfl
  | some v=>
   have ih:=qfw l hl hv r (i+1) (acc++[(c.1,v)]) e2 (by rw [length_append,length_singleton]; omega) (by omega) (ql5 hb (by omega) hx)
   rw [qhZ acc c r hx] at ih;exact ih
theorem qe3 (l:List Chg) (acc:List DE) (i:Int):q13 l false acc i=some (([],false),()):=by
 rw [q36];cases decide (i < (length l:Int))<;>rfl
theorem qg9 (l:List Chg) (hl:l.length<=2000000) (hv:∀ c∈l,c.2.1.size<=20000):∀ (r:List Chg) (i:Nat) (acc:List DE),l.drop i=r->acc.length<=i->i<=l.length->Bd acc->q13 l true acc (i:Int)=some (finT acc (goT r),())
 | [],i,acc,hd,ha,hi,hb=>by
  have:=drop_eq_nil_iff.1 hd;rw [q36];have k1:decide ((i:Int) < (l.length:Int))=false:=dYF (by omega)
  simp only [k1,cF,Bool.not_true,qgd acc hb,oB,goT,finT,append_nil];cases tabB acc<;>rfl
 | c::r,i,acc,hd,ha,hi,hb=>by
  obtain ⟨e1,hlt,e2⟩:=qX dC hd;rw [q36];have k1:decide ((i:Int) < (l.length:Int))=true:=dYT (by omega)
  have k2:decide (0<=(i:Int))=true:=dYT (by omega)
  have k4:w64 ((i:Int)+1)=((i+1:Nat):Int):=qo (by omega)
  have kl:lim (acc.length+1) 72=true:=qZ (by omega)
  simp only [k1,k2,k4,kl,Bool.and_self,cT,toNat_natCast,e1,qg4 _ (hv c (yN hd)),oB];unfold q7R;cases hx:q3n c.2.1 with
  | none=>simp only [goT,hx,Option.bind_none]; exact qe3 _ _ _
  | some v=>
   have ih:=qg9 l hl hv r (i+1) (acc++[(c.1,v)]) e2 (by rw [length_append,length_singleton]; omega) (by omega) (ql5 hb (by omega) hx)
   rw [qhZ acc c r hx] at ih;exact ih
noncomputable def toO (e:Eng):List DE×Bool:=bif (coO e).2 then finT [] (goT (coO e).1) else ([],false)
theorem qfy (e:Eng) (hd:e.1.length<=2000000) (h2:e.2.2.2.2.length<=2000000):q4D e=some (toO e,()):=by
 rw [qfx,qeh e hd];simp only [oB];unfold toO;cases hc:(coO e).2 with
 | false=>rfl
 | true=>exact qfw (coO e).1 (qjm e h2) (qn6 e) (coO e).1 0 [] rfl (le_refl _) (zero_le _) qn3
theorem qgb (e:Eng) (hd:e.1.length<=2000000) (h2:e.2.2.2.2.length<=2000000):q8N e=some (toO e,()):=by
 rw [qga,qeJ e hd];simp only [oB];unfold toO;cases hc:(coO e).2 with
 | false=>exact qe3 _ _ _
 | true=>exact qg9 (coO e).1 (qjm e h2) (qn6 e) (coO e).1 0 [] rfl (le_refl _) (zero_le _) qn3
theorem qo8 {t:List DE} (h:tabB t=true):t.length<=20/\∀ e∈t,e.2.2.2.2.length<=24:=by
 unfold tabB at h;rw [and_eq_true,decide_eq_true_eq] at h;refine ⟨h.1,fun e he=>?_⟩
 obtain ⟨i,hi,q⟩:=List.mem_iff_getElem.1 he;have:=List.all_eq_true.1 h.2 i (List.mem_range.2 hi);unfold enB at this;have e':ge t i=e:=by rw [<- q]; show t.getD i _=_; rw [getD_eq_getElem?_getD,List.getElem?_eq_getElem hi]; rfl
 rw [e',and_eq_true,and_eq_true] at this;exact (qbc this.1.2).n
theorem qo9 (e:Eng):(toO e).1.length<=20/\∀ x∈(toO e).1,x.2.2.2.2.length<=24:=by
 have z:([]:List DE).length<=20/\∀ x∈([]:List DE),x.2.2.2.2.length<=24:=⟨zero_le _,fun x h=>by cases h⟩
 unfold toO;cases (coO e).2 with
 | false=>exact z
 | true=>
  cases goT (coO e).1 with
  | none=>exact z
  | some t=>
   show (bif tabB ([]++t) then ([]++t,true) else ([],false):List DE×Bool).1.length<=20/\∀ x∈(bif tabB ([]++t) then ([]++t,true) else ([],false):List DE×Bool).1,x.2.2.2.2.length<=24
   cases ht:tabB ([]++t) with
   | false=>exact z
   | true=>exact qo8 ht
theorem qq3 {t:List DE} (h:∀ x∈t,x.2.2.2.2.length<=24):zM t<=28 * t.length:=by
 induction t with
 | nil=>exact le_refl _
 | cons a r ih=>
  have h1:=h a (List.mem_cons_self ..);have h2:=ih fun x hx=>h x (List.mem_cons_of_mem _ hx)
  have:zM (a::r)=4+a.2.2.2.2.length+zM r:=by simp [zM]
  rw [this,length_cons]; omega
theorem qkN (e:Eng) (hw:Wf qJ e):q5f e=some (true,()):=by
 rw [q9q,qkU e 1048576 (by omega) (by omega) (qqk hw),oB]
 by_cases hn:szv (wEng e) 1048576 < 0
 ·simp only [dYT hn,cT]
 ·obtain ⟨k5,k6⟩:=qhz hn;obtain ⟨l1,l2⟩:=qqn (e:=e) (n:=1048576) (by omega)
  obtain ⟨f1,f2⟩:=qo9 e;have f3:=qq3 f2;have f4:∀ x∈(toO e).1,x.2.2.2.2.length<=2097152:=fun x hx=>by have:=f2 x hx; omega
  simp only [dYF hn,cF];simp only [qkV e (by omega) (by omega),qgb e (by omega) (by omega),qfy e (by omega) (by omega),oB,qkG (toO e).1 (toO e).1 (by omega) f4,decide_true,Bool.not_true,Bool.not_false,beq_self_eq_true,bne_self_eq_false,cT,cF,qkF e e (by omega) (by omega),
   qiL e 1 (by omega) (by omega) (by omega) (by omega),dYF (show ¬ (1:Int)+3 * (e.1.length:Int)+4 * (e.2.2.2.2.length:Int) < 0 by omega),
   qiM (toO e).1 1 (by omega) (by omega) (by omega),qix (toO e).1 1 (by omega) (by omega) (by omega),dYF (show ¬ (1:Int)+(zM (toO e).1:Int) < 0 by omega)]
end Go.Den.S
