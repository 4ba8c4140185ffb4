/- EgA: equations of the functions of this seat as the executor tells them, or plain facts about them. Conditions: none here. -/
import Derived.Test.YthejgmhimclmdaaGreatDoorDenFour
set_option linter.all false
open Bool (and_eq_true false_eq_true)
open Int (tdiv)
open List (all_eq_true append_nil cons_append filter_cons flatMap_cons foldl_cons length_cons map_cons mem_append mem_cons mem_cons_of_mem mem_cons_self mem_filter mem_flatMap mem_singleton nil_append pairwise_cons range sum_cons)
open Nat (add_zero le_refl)
open Option (isSome_iff_exists map_eq_some_iff map_some)
namespace Go.Den.S
open Go Go.Den
def vL (n:Nat):List UInt8:=if h:n < 128 then [UInt8.ofNat n] else UInt8.ofNat (n % 128+128)::vL (n / 128)
termination_by n
theorem qa4 {n:Nat} (h:n < 128):vL n=[UInt8.ofNat n]:=by rw [vL,dif_pos h]
theorem qhu {n:Nat} (h:¬ n < 128):vL n=UInt8.ofNat (n % 128+128)::vL (n / 128):=by rw [vL,dif_neg h]
theorem q5Q {n:Nat} (h:n < 256):(UInt8.ofNat n).toNat=n:=by
 rw [UInt8.toNat_ofNat'];omega
theorem q6O (c:UInt8):UInt8.ofNat c.toNat=c:=by simp
def vV:List UInt8->Nat
 | []=>0
 | c::r=>c.toNat % 128+128 * vV r
theorem qqJ (n:Nat):vL n≠[]:=by
 rw [vL];split<;>simp
theorem qlD (n:Nat):0 < (vL n).length:=List.length_pos_iff.2 (qqJ n)
theorem qhv (n:Nat):vV (vL n)=n:=by
 induction n using Nat.strongRecOn with
 | ind n ih=>
  by_cases h:n < 128
  ·rw [qa4 h];simp only [vV,q5Q (show n < 256 by omega)]
   omega
  ·rw [qhu h];simp only [vV,q5Q (show n % 128+128 < 256 by omega),ih (n / 128) (by omega)]
   omega
def q6Y:List UInt8->Prop
 | []=>False
 | [c]=>c.toNat < 128
 | c::r=>128<=c.toNat/\q6Y r
theorem qiw (n:Nat):q6Y (vL n):=by
 induction n using Nat.strongRecOn with
 | ind n ih=>
  by_cases h:n < 128
  ·rw [qa4 h];simp only [q6Y,q5Q (show n < 256 by omega)]
   exact h
  ·rw [qhu h];have:=ih (n / 128) (by omega)
   have hne:=qqJ (n / 128)
   match hv:vL (n / 128),hne with
   | c::r,_=>
    rw [hv] at this;exact ⟨by rw [q5Q (by omega)]; omega,this⟩
theorem qax:∀ {l:List UInt8},q6Y l->(vL (vV l)).length<=l.length/\((vL (vV l)).length=l.length->vL (vV l)=l)
 | [c],h=>by
  have h:c.toNat < 128:=h;have e:vV [c]=c.toNat:=by simp only [vV]; omega
  rw [e,qa4 h];exact ⟨le_refl _,fun _=>by rw [q6O]⟩
 | c::d::r,h=>by
  obtain ⟨h1,h2⟩:128<=c.toNat/\q6Y (d::r):=h;obtain ⟨h3,h4⟩:=qax h2;have hc:=c.toNat_lt;have e:vV (c::d::r)=c.toNat % 128+128 * vV (d::r):=rfl;by_cases h0:vV (d::r)=0
  ·rw [e,h0];have hlt:c.toNat % 128+128 * 0 < 128:=by omega
   rw [qa4 hlt];exact ⟨by simp,fun h=>by simp at h⟩
  ·have hge:¬ c.toNat % 128+128 * vV (d::r) < 128:=by omega
   rw [e,qhu hge];have e1:(c.toNat % 128+128 * vV (d::r)) % 128+128=c.toNat:=by omega
   have e2:(c.toNat % 128+128 * vV (d::r)) / 128=vV (d::r):=by omega
   rw [e1,e2,q6O];exact ⟨by simp only [length_cons] at h3 ⊢; omega,fun h=>by
    rw [h4 (by simpa using h)]⟩
theorem qdM:∀ {a b r s:List UInt8},q6Y a->q6Y b->a++r=b++s->a=b/\r=s
 | [c],[d],r,s,_,_,h=>by simpa using h
 | [c],d::e::b,r,s,ha,hb,h=>by
  have ha:c.toNat < 128:=ha;have hb:128<=d.toNat:=hb.1;simp only [cons_append,nil_append,List.cons.injEq] at h;rw [h.1] at ha; omega
 | c::e::a,[d],r,s,ha,hb,h=>by
  have hb:d.toNat < 128:=hb;have ha:128<=c.toNat:=ha.1;simp only [cons_append,nil_append,List.cons.injEq] at h;rw [h.1] at ha; omega
 | c::e::a,d::f::b,r,s,ha,hb,h=>by
  simp only [cons_append,List.cons.injEq] at h;obtain ⟨h1,h2⟩:=qdM (a:=e::a) (b:=f::b) ha.2 hb.2 (by simp only [cons_append,List.cons.injEq]; exact h.2)
  exact ⟨by rw [h.1,h1],h2⟩
theorem qsk {m n:Nat} {r s:List UInt8} (h:vL m++r=vL n++s):m=n/\r=s:=by
 obtain ⟨h1,h2⟩:=qdM (qiw m) (qiw n) h;exact ⟨by rw [<- qhv m,h1,qhv],h2⟩
theorem qlB (k:Nat):∀ n,n < 128 ^ (k+1)->(vL n).length<=k+1:=by
 induction k with
 | zero=>intro n h; rw [qa4 (by simpa using h)]; simp
 | succ k ih=>
  intro n h;by_cases hn:n < 128
  ·rw [qa4 hn]; simp
  ·rw [qhu hn,length_cons];have:=ih (n / 128) (by rw [Nat.pow_succ] at h; omega)
   omega
theorem wB {n:Nat} (h:n<=1000000000):(vL n).length<=5:=qlB 4 n (Nat.lt_of_le_of_lt h (by decide))
def rvG:(i acc:Nat)->List UInt8->Option (Nat×Nat)
 | _,_,[]=>none
 | i,acc,c::r=>if 5<=i then none else
  if c.toNat < 128 then (if acc+c.toNat % 128 * 128 ^ i<=1000000000/\(vL (acc+c.toNat % 128 * 128 ^ i)).length=i+1 then some (acc+c.toNat % 128 * 128 ^ i,i+1) else none)
  else rvG (i+1) (acc+c.toNat % 128 * 128 ^ i) r
def rvar (l:List UInt8):Option (Nat×Nat):=rvG 0 0 l
theorem q9m:∀ (a b:List UInt8),vV (a++b)=vV a+128 ^ a.length * vV b
 | [],b=>by simp [vV]
 | c::a,b=>by
  simp only [cons_append,vV,q9m a b,length_cons,Nat.pow_succ];rw [Nat.mul_add,<- Nat.mul_assoc,Nat.mul_comm 128 (128 ^ a.length)]; omega
theorem qcf:∀ {p:List UInt8} {c:UInt8},(∀ x∈p,128<=x.toNat)->c.toNat < 128->q6Y (p++[c])
 | [],_,_,h=>h
 | [x],c,hp,h=>⟨hp x (by simp),h⟩
 | x::y::p,c,hp,h=>⟨hp x (by simp),qcf (p:=y::p) (fun z hz=>hp z (mem_cons_of_mem _ hz)) h⟩
theorem qlh {n k:Nat}:∀ {l p:List UInt8} {i acc:Nat},(∀ x∈p,128<=x.toNat)->i=p.length->acc=vV p->rvG i acc l=some (n,k)->n<=1000000000/\k=(vL n).length/\∃ r,p++l=vL n++r
 | [],_,_,_,_,_,_,h=>by simp [rvG] at h
 | c::r,p,i,acc,hp,hi,ha,h=>by
  simp only [rvG] at h;split at h
  ·cases h
  ·split at h
   ·rename_i hc;split at h
    ·rename_i hcond;simp only [Option.some.injEq,Prod.mk.injEq] at h;obtain ⟨rfl,rfl⟩:=h;have hf:=qcf hp hc;have hv:vV (p++[c])=acc+c.toNat % 128 * 128 ^ i:=by
      rw [q9m,<- ha,<- hi];simp only [vV];rw [Nat.mul_zero,add_zero,Nat.mul_comm]
     have hk:=(qax hf).2;rw [hv] at hk;refine ⟨hcond.1,hcond.2.symm,r,?_⟩;rw [hk (by rw [hcond.2,lA,hi]; rfl)]
     simp
    ·cases h
   ·rename_i hc;have:=qlh (l:=r) (p:=p++[c]) (by
     intro x hx;rcases mem_append.1 hx with hx | hx
     ·exact hp x hx
     ·rw [mem_singleton.1 hx]; omega) (by simp [hi]) (by
      rw [q9m,<- ha,<- hi];simp only [vV];rw [Nat.mul_zero,add_zero,Nat.mul_comm]) h
    simpa using this
theorem qpg {n:Nat} (hn:n<=1000000000) (r:List UInt8):∀ {l p:List UInt8} {i acc:Nat},q6Y l->p++l=vL n->i=p.length->acc=vV p->rvG i acc (l++r)=some (n,(vL n).length)
 | [c],p,i,acc,hl,he,hi,ha=>by
  have hl:c.toNat < 128:=hl;have h5:=wB hn;have hlen:(vL n).length=i+1:=by rw [<- he,lA,hi]; rfl
  have hv:acc+c.toNat % 128 * 128 ^ i=n:=by
   rw [<- qhv n,<- he,q9m,<- ha,<- hi];simp only [vV];rw [Nat.mul_zero,add_zero,Nat.mul_comm]
  show rvG i acc (c::r)=_;simp only [rvG];rw [if_neg (by omega),if_pos hl,hv,if_pos ⟨hn,hlen⟩,hlen]
 | c::d::l,p,i,acc,hl,he,hi,ha=>by
  obtain ⟨hc,hl⟩:128<=c.toNat/\q6Y (d::l):=hl;have h5:=wB hn;have hlen:(vL n).length=i+(l.length+2):=by rw [<- he,lA,hi]; rfl
  show rvG i acc (c::(d::l++r))=_;rw [rvG,if_neg (by omega),if_neg (by omega)]
  exact qpg hn r (l:=d::l) (p:=p++[c]) hl (by rw [<- he]; simp) (by simp [hi]) (by
   rw [q9m,<- ha,<- hi];simp only [vV];rw [Nat.mul_zero,add_zero,Nat.mul_comm])
theorem q92 {l:List UInt8} {n k:Nat}:rvar l=some (n,k)↔n<=1000000000/\k=(vL n).length/\∃ r,l=vL n++r:=by
 constructor
 ·intro h;exact qlh (p:=[]) (fun x hx=>by cases hx) rfl rfl h
 ·rintro ⟨hn,rfl,r,rfl⟩
  exact qpg hn r (p:=[]) (qiw n) rfl rfl rfl
theorem qib {n:Nat} (h:n<=1000000000) (r:List UInt8):rvar (vL n++r)=some (n,(vL n).length):=q92.2 ⟨h,rfl,r,rfl⟩
theorem q93 {l:List UInt8} {n k:Nat} (h:rvar l=some (n,k)):n<=1000000000/\0 < k/\k<=5/\k<=l.length:=by
 obtain ⟨h1,h2,r,h3⟩:=q92.1 h;refine ⟨h1,by rw [h2]; exact qlD n,by rw [h2]; exact wB h1,by rw [h2,h3]; simp⟩
abbrev bl (s:BA):List UInt8:=s.data.toList
abbrev bOf (l:List UInt8):BA:=⟨l.toArray⟩
theorem wh (l:List UInt8):bl (bOf l)=l:=rfl
theorem qcI (s:BA):bOf (bl s)=s:=q2c rfl
theorem yj (s:BA):s.size=(bl s).length:=Array.length_toList.symm
theorem qz (l:List UInt8):(bOf l).size=l.length:=by rw [yj]
theorem jP (a b:BA):bl (a++b)=bl a++bl b:=by simp [bl]
theorem qaA (a b:List UInt8):bOf (a++b)=bOf a++bOf b:=q2c (jP (bOf a) (bOf b)).symm
theorem q3f (s:BA) (i j:Nat):bl (s.extract i j)=((bl s).drop i).take (j - i):=by simp [bl,List.drop_take]
theorem zx {s t:BA} (h:bl s=bl t):s=t:=q2c h
theorem q5P {α:Type} (a b:List α):(a++b).take a.length=a:=by simp
theorem jF {α:Type} (a b:List α):(a++b).drop a.length=b:=by simp
noncomputable def rnd1 (x:Int):Int:=bif (Int.tmod x 2==1) then IntKind.u32.wrap (xorI .u32 (IntKind.u32.wrap (tdiv x 2)) 3558460437) else IntKind.u32.wrap (tdiv x 2)
noncomputable def rndN:Nat->Int->Int
 | 0,x=>x
 | k+1,x=>rndN k (rnd1 x)
noncomputable def sumL (x:Int) (l:List UInt8):Int:=l.foldl (fun x c=>rndN 8 (IntKind.u32.wrap (xorI .u32 x (c.toNat:Int)))) x
noncomputable def q1p (x:Int):List UInt8:=[24,16,8,0].map fun k=>UInt8.ofNat (IntKind.u8.wrap (shrI .u32 x k)).toNat
theorem q4P (x:Int):(q1p x).length=4:=rfl
noncomputable def frL (s:BA):List UInt8:=vL s.size++(q1p (sumL 4294967295 (bl s))++bl s)
def frOk (s:BA):Prop:=1<=s.size/\s.size<=9000
theorem qe0 (s:BA):(frL s).length=(vL s.size).length+4+s.size:=by
 unfold frL;rw [lA,lA,q4P,yj]; omega
theorem qaM (s:BA):0 < (frL s).length:=by rw [qe0]; omega
noncomputable def fr1 (l:List UInt8):Option (BA×Nat):=match rvar l with
 | none=>none
 | some (n,k)=>open Classical in if n+k+4<=l.length/\1<=n/\n<=9000/\frL (bOf ((l.drop (k+4)).take n))=l.take (k+4+n) then some (bOf ((l.drop (k+4)).take n),k+4+n) else none
theorem qs5 {t:BA} (h:frOk t) (r:List UInt8):fr1 (frL t++r)=some (t,(frL t).length):=by
 have e:frL t++r=vL t.size++(q1p (sumL 4294967295 (bl t))++(bl t++r)):=by unfold frL; simp only [pA]
 have hl:=qe0 t;have hb:=yj t;have hd:((frL t++r).drop ((vL t.size).length+4)).take t.size=bl t:=by
  rw [e,<- pA];have:(vL t.size).length+4=(vL t.size++q1p (sumL 4294967295 (bl t))).length:=by rw [lA,q4P]
  rw [this,jF,hb,q5P]
 have hv:rvar (frL t++r)=some (t.size,(vL t.size).length):=by rw [e]; exact qib (by have:=h.2; omega) _
 unfold fr1;rw [hv];simp only [hd,qcI];have hsum:(vL t.size).length+4+t.size=(frL t).length:=hl.symm;rw [hsum,q5P,if_pos ⟨by rw [lA]; omega,h.1,h.2,rfl⟩]
theorem qfa {l:List UInt8} {t:BA} {m:Nat} (h:fr1 l=some (t,m)):frOk t/\m=(frL t).length/\∃ r,l=frL t++r:=by
 unfold fr1 at h;split at h
 ·cases h
 ·rename_i n k hv;split at h
  ·rename_i hc;obtain ⟨h1,h2,h3,h4⟩:=hc;simp only [Option.some.injEq,Prod.mk.injEq] at h;obtain ⟨rfl,rfl⟩:=h;have hs:(bOf ((l.drop (k+4)).take n)).size=n:=by rw [qz,List.length_take,List.length_drop]; omega
   refine ⟨⟨by omega,by omega⟩,?_,l.drop (k+4+n),?_⟩
   ·rw [h4,List.length_take]; omega
   ·rw [h4,List.take_append_drop]
  ·cases h
theorem qaJ:fr1 []=none:=by
 cases h:fr1 [] with
 | none=>rfl
 | some p=>
  obtain ⟨_,_,r,h⟩:=qfa (t:=p.1) (m:=p.2) h;have:=congrArg List.length h;rw [lA] at this;have:=qaM p.1;simp at *; omega
noncomputable def unf:Nat->List UInt8->List BA×Nat
 | 0,_=>([],0)
 | f+1,l=>match fr1 l with
  | none=>([],0)
  | some (t,m)=>(t::(unf f (l.drop m)).1,m+(unf f (l.drop m)).2)
theorem q6P:∀ (f g:Nat) (l:List UInt8),l.length<=f->l.length<=g->unf f l=unf g l
 | 0,0,_,_,_=>rfl
 | 0,g+1,l,h,_=>by
  have:l=[]:=List.eq_nil_of_length_eq_zero (by omega)
  subst this;simp only [unf,qaJ]
 | f+1,0,l,_,h=>by
  have:l=[]:=List.eq_nil_of_length_eq_zero (by omega)
  subst this;simp only [unf,qaJ]
 | f+1,g+1,l,h,h'=>by
  simp only [unf];cases hx:fr1 l with
  | none=>rfl
  | some p=>
   obtain ⟨t,m⟩:=p;obtain ⟨_,hm,r,e⟩:=qfa hx;have:=qaM t;have hl:(l.drop m).length+1<=l.length:=by
    rw [List.length_drop,e,lA]; omega
   simp only [q6P f g (l.drop m) (by omega) (by omega)]
noncomputable def unfr (l:List UInt8):List BA×Nat:=unf l.length l
theorem qjn {l:List UInt8} (h:fr1 l=none):unfr l=([],0):=by
 unfold unfr;cases l with
 | nil=>rfl
 | cons c r=>simp only [length_cons,unf,h]
theorem qdJ {t:BA} (h:frOk t) (r:List UInt8):unfr (frL t++r)=(t::(unfr r).1,(frL t).length+(unfr r).2):=by
 unfold unfr;have hp:=qaM t;obtain ⟨n,hn⟩:∃ n,(frL t++r).length=n+1:=⟨(frL t++r).length - 1,by rw [lA]; omega⟩
 have hn':r.length<=n:=by rw [lA] at hn; omega
 rw [hn];simp only [unf,qs5 h,jF,q6P n r.length r hn' (le_refl _)]
noncomputable def frs (ts:List BA):List UInt8:=ts.flatMap frL
theorem q8J (t:BA) (ts:List BA):frs (t::ts)=frL t++frs ts:=rfl
theorem qr9 (a b:List BA):frs (a++b)=frs a++frs b:=by simp [frs]
theorem qlz:∀ {ts:List BA},(∀ t∈ts,frOk t)->∀ r,unfr (frs ts++r)=(ts++(unfr r).1,(frs ts).length+(unfr r).2)
 | [],_,r=>by simp [frs]
 | t::ts,h,r=>by
  rw [q8J,pA,qdJ (h t (mem_cons_self ..)),qlz fun x hx=>h x (mem_cons_of_mem _ hx)]
  simp only [cons_append,lA,Nat.add_assoc]
theorem qdK (l:List UInt8):∃ r,(∀ t∈(unfr l).1,frOk t)/\(unfr l).2=(frs (unfr l).1).length/\l=frs (unfr l).1++r/\fr1 r=none:=by
 generalize hn:l.length=n;induction n using Nat.strongRecOn generalizing l with
 | ind n ih=>
  cases hx:fr1 l with
  | none=>
   rw [qjn hx];exact ⟨l,(fun _ h=>absurd h List.not_mem_nil),rfl,rfl,hx⟩
  | some p=>
   obtain ⟨t,m⟩:=p;obtain ⟨h1,_,r,rfl⟩:=qfa hx;have:=qaM t;obtain ⟨r',k1,k2,k3,k4⟩:=ih r.length (by rw [<- hn,lA]; omega) r rfl
   rw [qdJ h1];refine ⟨r',fun x hx=>?_,?_,?_,k4⟩
   ·rcases mem_cons.1 hx with rfl | hx
    ·exact h1
    ·exact k1 x hx
   ·rw [q8J,lA,k2]
   ·rw [q8J,pA,<- k3]
theorem qrK {ts:List BA} (h:∀ t∈ts,frOk t) {r:List UInt8} (hr:fr1 r=none):unfr (frs ts++r)=(ts,(frs ts).length):=by
 rw [qlz h,qjn hr]; simp
theorem qnq {ts:List BA}:ts.length<=(frs ts).length:=by
 induction ts with
 | nil=>simp
 | cons t ts ih=>rw [q8J,lA,length_cons]; have:=qaM t; omega
abbrev RS:=List UInt8×Bool
def numR (st:RS):Nat×RS:=match rvar st.1 with
 | some (n,k)=>if st.2 then (0,st.1,true) else (n,st.1.drop k,false)
 | none=>(0,st.1,true)
def qP (st:RS):BA×RS:=match rvar st.1 with
 | some (n,k)=>if st.2\/20000 < n\/st.1.length < n+k then (bOf [],st.1,true) else (bOf ((st.1.drop k).take n),st.1.drop (k+n),false)
 | none=>(bOf [],st.1,true)
def qB (st:RS):Nat×RS:=match st.1 with
 | c::r=>if st.2 then (0,st.1,true) else (c.toNat,r,false)
 | []=>(0,[],true)
def yP {α:Type} (one:RS->α×RS):Nat->RS->List α×RS
 | 0,st=>([],st)
 | n+1,st=>if st.2 then ([],st) else ((one st).1::(yP one n (one st).2).1,(yP one n (one st).2).2)
def shL (s:BA):List UInt8:=vL s.size++bl s
theorem q8z {n:Nat} (h:n<=1000000000) (r:List UInt8):numR (vL n++r,false)=(n,r,false):=by
 unfold numR;rw [qib h];simp
theorem qa3 {s:BA} (h:s.size<=20000) (r:List UInt8):qP (shL s++r,false)=(s,r,false):=by
 have e:shL s++r=vL s.size++(bl s++r):=by unfold shL; rw [pA]
 unfold qP;simp only [e,qib (show s.size<=1000000000 by omega)]
 have hl:(vL s.size++(bl s++r)).length=s.size+(vL s.size).length+r.length:=by
  rw [lA,lA,<- yj]; omega
 rw [if_neg (by rw [hl]; simp; omega),jF]
 have h2:(bl s++r).take s.size=bl s:=by rw [yj]; exact q5P _ _
 have h3:(vL s.size++(bl s++r)).drop ((vL s.size).length+s.size)=r:=by
  rw [<- List.drop_drop,jF,yj,jF]
 rw [h2,h3,qcI]
theorem qbl (c:UInt8) (r:List UInt8):qB (c::r,false)=(c.toNat,r,false):=rfl
theorem qcX {α:Type} {one:RS->α×RS} {enc:α->List UInt8}:∀ {asq:List α},(∀ a∈asq,∀ r,one (enc a++r,false)=(a,r,false))->∀ r,yP one asq.length (asq.flatMap enc++r,false)=(asq,r,false)
 | [],_,r=>rfl
 | a::asq,h,r=>by
  simp only [length_cons,flatMap_cons,pA,yP,h a (mem_cons_self ..),qcX fun x hx=>h x (mem_cons_of_mem _ hx)]
  rfl
theorem qmF (st:RS):(numR st).2.1.length<=st.1.length:=by
 unfold numR;split
 ·split
  ·exact le_refl _
  ·simp
 ·exact le_refl _
theorem qaZ (st:RS):(numR st).1<=1000000000:=by
 unfold numR;split
 ·rename_i h;split
  ·simp
  ·exact (q93 h).1
 ·simp
theorem qqs (st:RS):(qP st).2.1.length<=st.1.length:=by
 unfold qP;split
 ·split
  ·exact le_refl _
  ·simp
 ·exact le_refl _
theorem qpC (st:RS):(qB st).2.1.length<=st.1.length:=by
 unfold qB;split
 ·rename_i h; rw [h];split<;>simp
 ·rename_i h; rw [h]; simp
abbrev Chg:=BA×(BA×Bool)
abbrev Bat:=Int×List Chg
def chL (c:Chg):List UInt8:=shL c.1++((bif c.2.2 then 1 else 0)::shL c.2.1)
def chR (st:RS):Chg×RS:=
 let a:=qP st; let b:=qB a.2; let c:=qP b.2
 ((a.1,c.1,b.1==1),c.2)
theorem qqR {c:Chg} (h1:c.1.size<=20000) (h2:c.2.1.size<=20000) (r:List UInt8):chR (chL c++r,false)=(c,r,false):=by
 obtain ⟨k,v,g⟩:=c;simp only [chR,chL,pA,cons_append,qa3 h1,qbl,qa3 h2];cases g<;>rfl
def q4c (k:BA):Bool:=decide (1<=k.size)&&decide (k.size<=20)
def q3w (c:Chg):Bool:=q4c c.1&&(decide (c.2.1.size<=2000)&&(!c.2.2||decide (c.2.1.size=0)))
def ascB {α:Type} (lt:α->α->Bool):List α->Bool
 | []=>true
 | [_]=>true
 | a::b::r=>lt a b&&ascB lt (b::r)
def q06 (b:Bat):Bool:=decide (0<=b.1)&&(decide (b.1<=1000000000)&&(decide (1<=b.2.length)&&(decide (b.2.length<=40)&&(b.2.all q3w&&ascB (fun x y=>blt x.1 y.1) b.2))))
def bTL (b:Bat):List UInt8:=66::(vL b.1.toNat++(vL b.2.length++b.2.flatMap chL))
def batT (b:Bat):Bool:=q06 b&&decide ((bTL b).length<=9000)
theorem q00 {b:Bat}:q06 b=true↔0<=b.1/\b.1<=1000000000/\1<=b.2.length/\b.2.length<=40/\(∀ c∈b.2,q3w c=true)/\ascB (fun x y=>blt x.1 y.1) b.2=true:=by
 unfold q06;simp only [and_eq_true,decide_eq_true_eq,all_eq_true]
theorem q72 {c:Chg}:q3w c=true↔1<=c.1.size/\c.1.size<=20/\c.2.1.size<=2000/\(c.2.2=true->c.2.1.size=0):=by
 unfold q3w q4c;simp only [and_eq_true,decide_eq_true_eq,Bool.or_eq_true,Bool.not_eq_true'];constructor
 ·rintro ⟨⟨h1,h2⟩,h3,h4⟩
  exact ⟨h1,h2,h3,fun h=>h4.elim (fun h4=>by rw [h] at h4; cases h4) id⟩
 ·rintro ⟨h1,h2,h3,h4⟩
  refine ⟨⟨h1,h2⟩,h3,?_⟩;cases h:c.2.2
  ·exact .inl rfl
  ·exact .inr (h4 h)
def q0e (m:Nat) (l:List UInt8):Nat×Bat×RS:=
 let a:=qB (l,false); let b:=numR a.2; let c:=numR b.2; let d:=yP chR (min c.1 m) c.2
 (a.1,((b.1:Int),d.1),d.2)
theorem qdo {b:Bat} (h:q06 b=true) {m:Nat} (hm:40<=m):q0e m (bTL b)=(66,b,[],false):=by
 obtain ⟨h1,h2,h3,h4,h5,_⟩:=q00.1 h;have hq:b.1.toNat<=1000000000:=by omega
 have hone:∀ c∈b.2,∀ r,chR (chL c++r,false)=(c,r,false):=fun c hc r=>by
  obtain ⟨k1,k2,k3,k4⟩:=q72.1 (h5 c hc);exact qqR (by omega) (by omega) r
 have he:=qcX hone [];rw [append_nil] at he;unfold q0e bTL;simp only [qbl,q8z hq,q8z (show b.2.length<=1000000000 by omega),Nat.min_eq_left (show b.2.length<=m by omega),he]
 rw [Int.toNat_of_nonneg h1];rfl
theorem qqO {a b:Bat} (ha:q06 a=true) (hb:q06 b=true) (h:bTL a=bTL b):a=b:=by
 have h1:=qdo ha (le_refl 40);rw [h,qdo hb (le_refl 40)] at h1;simp only [Prod.mk.injEq] at h1;exact h1.2.1.symm
open Classical in
noncomputable def jC (s:BA):Option Bat:=if h:∃ b,batT b=true/\bTL b=bl s then some h.choose else none
theorem q0F {s:BA} {b:Bat}:jC s=some b↔batT b=true/\bTL b=bl s:=by
 unfold jC;constructor
 ·intro h;split at h
  ·rename_i hx;simp only [Option.some.injEq] at h;rw [<- h];exact hx.choose_spec
  ·cases h
 ·rintro ⟨h1,h2⟩
  have hx:∃ b,batT b=true/\bTL b=bl s:=⟨b,h1,h2⟩
  rw [dif_pos hx];congr 1
  have h3:=hx.choose_spec;have k1:∀ {x:Bat},batT x=true->q06 x=true:=fun h=>by
   simp only [batT,and_eq_true] at h; exact h.1
  exact qqO (k1 h3.1) (k1 h1) (h3.2.trans h2.symm)
theorem qpb {b:Bat} (h:batT b=true):jC (bOf (bTL b))=some b:=q0F.2 ⟨h,rfl⟩
theorem qlV {s:BA} {m:Nat} (hm:40<=m) (u:Bool) (hu:(q0e m (bl s)).1=66->u=true):(u&&(!(q0e m (bl s)).2.2.2&&(batT (q0e m (bl s)).2.1&&decide (bTL (q0e m (bl s)).2.1=bl s))))=(jC s).isSome/\∀ b,jC s=some b->(q0e m (bl s)).2.1=b:=by
 have key:∀ b,jC s=some b->q0e m (bl s)=(66,b,[],false):=fun b hb=>by
  obtain ⟨h1,h2⟩:=q0F.1 hb;simp only [batT,and_eq_true] at h1;rw [<- h2]; exact qdo h1.1 hm
 refine ⟨?_,fun b hb=>by rw [key b hb]⟩
 cases hx:jC s with
 | some b=>
  have h:=key b hx;obtain ⟨h1,h2⟩:=q0F.1 hx;rw [hu (by rw [h]),h]
  simp [h1,h2]
 | none=>
  have hn:¬ (batT (q0e m (bl s)).2.1=true/\bTL (q0e m (bl s)).2.1=bl s):=fun h=>by
   rw [q0F.2 h] at hx; cases hx
  cases h1:batT (q0e m (bl s)).2.1
  ·simp
  ·have:¬ bTL (q0e m (bl s)).2.1=bl s:=fun h=>hn ⟨h1,h⟩
   simp [this]
end Go.Den.S
namespace Go.Den.S
open Go Go.Den
section
variable {α:Type} {lt:α->α->Bool}
theorem qoc {a:α} {l:List α} (ht:∀ a b c,lt a b=true->lt b c=true->lt a c=true):ascB lt (a::l)=true↔(∀ x∈l,lt a x=true)/\ascB lt l=true:=by
 induction l generalizing a with
 | nil=>exact ⟨fun _=>⟨(fun _ h=>absurd h List.not_mem_nil),rfl⟩,fun _=>rfl⟩
 | cons b l ih=>
  constructor
  ·intro h;simp only [ascB,and_eq_true] at h;refine ⟨fun x hx=>?_,h.2⟩
   rcases mem_cons.1 hx with rfl | hx
   ·exact h.1
   ·exact ht _ _ _ h.1 ((ih.1 h.2).1 x hx)
  ·rintro ⟨h1,h2⟩
   simp only [ascB,and_eq_true];exact ⟨h1 b (mem_cons_self ..),h2⟩
theorem qk1 (ht:∀ a b c,lt a b=true->lt b c=true->lt a c=true):∀ {l:List α},ascB lt l=true↔l.Pairwise fun a b=>lt a b=true
 | []=>by simp [ascB]
 | a::l=>by rw [qoc ht,pairwise_cons,qk1 ht]
theorem qdQ (hi:∀ a,lt a a=false) (hs:∀ a b,lt a b=true->lt b a=false):∀ {l m:List α},l.Pairwise (fun a b=>lt a b=true)->m.Pairwise (fun a b=>lt a b=true)->(∀ x,x∈l↔x∈m)->l=m
 | [],[],_,_,_=>rfl
 | [],b::m,_,_,h=>by have:=(h b).2 (mem_cons_self ..); cases this
 | a::l,[],_,_,h=>by have:=(h a).1 (mem_cons_self ..); cases this
 | a::l,b::m,hl,hm,h=>by
  obtain ⟨hl1,hl2⟩:=pairwise_cons.1 hl;obtain ⟨hm1,hm2⟩:=pairwise_cons.1 hm;have hab:a=b:=by
   rcases mem_cons.1 ((h a).1 (mem_cons_self ..)) with e | h1
   ·exact e
   ·rcases mem_cons.1 ((h b).2 (mem_cons_self ..)) with e | h2
    ·exact e.symm
    ·have:=hs _ _ (hm1 a h1); rw [hl1 b h2] at this; cases this
  subst hab;congr 1
  refine qdQ hi hs hl2 hm2 fun x=>⟨fun hx=>?_,fun hx=>?_⟩
  ·rcases mem_cons.1 ((h x).1 (mem_cons_of_mem _ hx)) with e | h1
   ·have:=hl1 x hx; rw [e,hi] at this; cases this
   ·exact h1
  ·rcases mem_cons.1 ((h x).2 (mem_cons_of_mem _ hx)) with e | h1
   ·have:=hm1 x hx; rw [e,hi] at this; cases this
   ·exact h1
end
section
variable {β:Type}
abbrev ltK (x y:BA×β):Bool:=blt x.1 y.1
def AscK (l:List (BA×β)):Prop:=l.Pairwise fun a b=>ltK a b=true
theorem qbj {l:List (BA×β)}:ascB (fun x y:BA×β=>blt x.1 y.1) l=true↔AscK l:=qk1 (lt:=ltK) fun _ _ _ h k=>q1n h k
theorem q2k {l m:List (BA×β)} (hl:AscK l) (hm:AscK m) (h:∀ x,x∈l↔x∈m):l=m:=qdQ (lt:=ltK) (fun a=>q0v _) (fun _ _ h=>q4J h) hl hm h
theorem q70 {l:List (BA×β)} (h:AscK l) {a b:BA×β} (ha:a∈l) (hb:b∈l) (e:a.1=b.1):a=b:=by
 induction l with
 | nil=>cases ha
 | cons c l ih=>
  obtain ⟨h1,h2⟩:=pairwise_cons.1 h;rcases mem_cons.1 ha with e1 | ha<;>rcases mem_cons.1 hb with e2 | hb
  ·rw [e1,e2]
  ·have:=zI (h1 b hb); rw [<- e1] at this; exact absurd e this
  ·have:=zI (h1 a ha); rw [<- e2] at this; exact absurd e.symm this
  ·exact ih h2 ha hb
def getK (k:BA) (l:List (BA×β)):Option β:=(l.find? fun x=>decide (x.1=k)).map (·.2)
def putK (k:BA) (v:β) (l:List (BA×β)):List (BA×β):=(l.filter fun x=>blt x.1 k)++(k,v)::(l.filter fun x=>blt k x.1)
def delK (k:BA) (l:List (BA×β)):List (BA×β):=l.filter fun x=>decide (x.1≠k)
theorem yO {l:List (BA×β)} (h:AscK l) {k:BA} {v:β}:getK k l=some v↔(k,v)∈l:=by
 unfold getK;constructor
 ·intro hg;obtain ⟨x,hx,rfl⟩:=map_eq_some_iff.1 hg;have h1:=List.find?_some hx;have h2:=List.mem_of_find?_eq_some hx;have:x.1=k:=of_decide_eq_true h1;rw [<- this]; exact h2
 ·intro hm;cases hx:l.find? fun x=>decide (x.1=k) with
  | none=>
   have:=List.find?_eq_none.1 hx (k,v) hm;simp at this
  | some y=>
   have h1:y.1=k:=by simpa using List.find?_some hx
   have h2:=List.mem_of_find?_eq_some hx;rw [q70 h h2 hm h1]; rfl
theorem zq {l:List (BA×β)} {k:BA}:getK k l=none↔∀ x∈l,x.1≠k:=by
 unfold getK;rw [Option.map_eq_none_iff,List.find?_eq_none];simp
theorem jX {l:List (BA×β)} {k:BA} {v:β} {x:BA×β}:x∈putK k v l↔x=(k,v)\/(x∈l/\x.1≠k):=by
 unfold putK;rw [mem_append,mem_cons,mem_filter,mem_filter];constructor
 ·rintro (⟨h1,h2⟩ | h | ⟨h1,h2⟩)
  ·exact .inr ⟨h1,zI h2⟩
  ·exact .inl h
  ·exact .inr ⟨h1,(zI h2).symm⟩
 ·rintro (h | ⟨h1,h2⟩)
  ·exact .inr (.inl h)
  ·by_cases h3:blt x.1 k=true
   ·exact .inl ⟨h1,h3⟩
   ·exact .inr (.inr ⟨h1,q0D h2 (by simpa using h3)⟩)
theorem q2r {l:List (BA×β)} {k:BA} {x:BA×β}:x∈delK k l↔x∈l/\x.1≠k:=by
 unfold delK;rw [mem_filter]; simp
theorem q1H {l:List (BA×β)} (h:AscK l) (k:BA) (v:β):AscK (putK k v l):=by
 unfold putK AscK;rw [List.pairwise_append];refine ⟨h.filter _,pairwise_cons.2 ⟨fun x hx=>(mem_filter.1 hx).2,h.filter _⟩,fun a ha b hb=>?_⟩
 have h1:blt a.1 k=true:=(mem_filter.1 ha).2;rcases mem_cons.1 hb with rfl | hb
 ·exact h1
 ·exact q1n h1 (mem_filter.1 hb).2
theorem q4t {l:List (BA×β)} (h:AscK l) (k:BA):AscK (delK k l):=h.filter _
theorem q0U {l:List (BA×β)} (h:AscK l) (k:BA) (v:β) (j:BA):getK j (putK k v l)=if j=k then some v else getK j l:=by
 split
 ·rename_i e;subst e;exact (yO (q1H h j v)).2 (jX.2 (.inl rfl))
 ·rename_i hne;cases hg:getK j l with
  | some u=>
   exact (yO (q1H h k v)).2 (jX.2 (.inr ⟨(yO h).1 hg,hne⟩))
  | none=>
   refine zq.2 fun x hx=>?_
   rcases jX.1 hx with rfl | ⟨hx,_⟩
   ·exact fun e=>hne e.symm
   ·exact zq.1 hg x hx
theorem qpV {l:List (BA×β)} (h:AscK l) (k j:BA):getK j (delK k l)=if j=k then none else getK j l:=by
 split
 ·rename_i e;subst e;exact zq.2 fun x hx=>(q2r.1 hx).2
 ·rename_i hne;cases hg:getK j l with
  | some u=>exact (yO (q4t h k)).2 (q2r.2 ⟨(yO h).1 hg,hne⟩)
  | none=>exact zq.2 fun x hx=>zq.1 hg x (q2r.1 hx).1
end
abbrev Fil:=BA×(BA×Int)
abbrev Act:=Int×(BA×(BA×BA))
def qi1 (k:BA):Bool:=decide (1<=k.size)&&decide (k.size<=8)
def q0s (f:Fil):Bool:=qi1 f.1&&(decide (f.2.1.size<=20000)&&(decide (0<=f.2.2)&&decide (f.2.2<=(f.2.1.size:Int))))
def dOkB (d:List Fil):Bool:=decide (d.length<=30)&&(d.all q0s&&ascB (fun x y=>blt x.1 y.1) d)
theorem q03 {f:Fil}:q0s f=true↔1<=f.1.size/\f.1.size<=8/\f.2.1.size<=20000/\0<=f.2.2/\f.2.2<=(f.2.1.size:Int):=by
 unfold q0s qi1;simp only [and_eq_true,decide_eq_true_eq,and_assoc]
theorem qK {d:List Fil}:dOkB d=true↔d.length<=30/\(∀ f∈d,q0s f=true)/\AscK d:=by
 unfold dOkB;rw [and_eq_true,and_eq_true,decide_eq_true_eq,all_eq_true,qbj]
def doA (d:List Fil) (a:Act):Option (List Fil):=
 if a.1=1 then some (putK a.2.1 (((getK a.2.1 d).getD (bOf [],0)).1++a.2.2.1,((getK a.2.1 d).getD (bOf [],0)).2) d)
 else match getK a.2.1 d with
  | none=>none
  | some f=>if a.1=2 then some (putK a.2.1 (f.1,(f.1.size:Int)) d)
   else if a.1=3 then (if f.2=(f.1.size:Int)/\a.2.2.2≠a.2.1 then some (putK a.2.2.2 f (delK a.2.1 d)) else none)
   else if a.1=4 then some (delK a.2.1 d) else none
def okD (d:List Fil):Option (List Fil):=if dOkB d then some d else none
def actB (d:List Fil) (a:Act):Option (List Fil):=
 if dOkB d&&(decide (a.1=3)||decide (a.2.2.2.size=0))&&(decide (a.1=1)||decide (a.2.2.1.size=0)) then (doA d a).bind okD else none
def y9:List Fil->List Act->List Fil×Nat
 | d,[]=>(d,0)
 | d,a::r=>match actB d a with
  | none=>(d,0)
  | some d'=>((y9 d' r).1,(y9 d' r).2+1)
def q2o (d:List Fil):Bool:=dOkB d&&d.all fun f=>decide (f.2.2=(f.2.1.size:Int))
def zO (d:List Fil):Nat:=(d.map fun f=>f.2.1.size).sum
theorem qm0 {d d':List Fil} {a:Act} (h:actB d a=some d'):dOkB d=true/\dOkB d'=true/\doA d a=some d':=by
 unfold actB at h;split at h
 ·rename_i hc;simp only [and_eq_true] at hc;obtain ⟨x,h1,h2⟩:=Option.bind_eq_some_iff.1 h;unfold okD at h2;split at h2
  ·rename_i hx;have:=Option.some.inj h2;subst this;exact ⟨hc.1.1,hx,h1⟩
  ·cases h2
 ·cases h
def nmL (n:Nat):BA:=bOf (98::(if n < 10 then [UInt8.ofNat (48+n)] else [UInt8.ofNat (48+n / 10),UInt8.ofNat (48+n % 10)]))
def yu:BA:=bOf [109,43]
theorem ofNat_inj {a b:Nat} (ha:a < 256) (hb:b < 256) (h:UInt8.ofNat a=UInt8.ofNat b):a=b:=by
 have:=congrArg UInt8.toNat h
 rwa [q5Q ha,q5Q hb] at this
theorem q4S {m n:Nat} (hm:m < 100) (hn:n < 100) (h:nmL m=nmL n):m=n:=by
 have h:=congrArg bl h;simp only [nmL,wh,List.cons.injEq,true_and] at h;split at h<;>split at h
 ·simp only [List.cons.injEq,and_true] at h;have:=ofNat_inj (by omega) (by omega) h; omega
 ·simp at h
 ·simp at h
 ·simp only [List.cons.injEq,and_true] at h;have h1:=ofNat_inj (by omega) (by omega) h.1
  have h2:=ofNat_inj (by omega) (by omega) h.2
  omega
theorem qe9 (n:Nat):nmL n≠yu:=fun h=>by
 have h:=congrArg bl h;simp [nmL,yu,wh] at h
theorem qft (n:Nat):1<=(nmL n).size/\(nmL n).size<=3:=by
 unfold nmL;rw [qz];split<;>simp
def numOf (s:BA):Option Nat:=(range 100).find? fun n=>decide (nmL n=s)
theorem q2g {s:BA} {n:Nat}:numOf s=some n↔n < 100/\nmL n=s:=by
 unfold numOf;constructor
 ·intro h;have h1:=List.find?_some h;have h2:=List.mem_of_find?_eq_some h;exact ⟨List.mem_range.1 h2,of_decide_eq_true h1⟩
 ·rintro ⟨h1,h2⟩
  cases hx:(range 100).find? fun n=>decide (nmL n=s) with
  | none=>
   have:=List.find?_eq_none.1 hx n (List.mem_range.2 h1);rw [h2] at this; simp at this
  | some m=>
   have k1:nmL m=s:=by simpa using List.find?_some hx
   have k2:=List.mem_range.1 (List.mem_of_find?_eq_some hx);rw [q4S k2 h1 (k1.trans h2.symm)]
theorem qdj {n:Nat} (h:n < 100):numOf (nmL n)=some n:=q2g.2 ⟨h,rfl⟩
def hdT (n f:Nat):BA:=bOf (72::(vL n++vL f))
noncomputable def qL (n f:Nat):List UInt8:=frL (hdT n f)
theorem qkt {n f:Nat} (hn:n<=99) (hf:f<=n):frOk (hdT n f):=by
 have h1:=qlD n;have h2:=qlB 0 n (by omega)
 have h3:=qlB 0 f (by omega)
 unfold hdT frOk;rw [qz];simp only [length_cons,lA];omega
theorem qre {m f n g:Nat} (h:hdT m f=hdT n g):m=n/\f=g:=by
 have h:=congrArg bl h;simp only [hdT,wh,List.cons.injEq,true_and] at h;obtain ⟨h1,h2⟩:=qsk h;refine ⟨h1,?_⟩;rw [<- qhv f,h2,qhv]
def hdOf (n:Nat) (s:BA):Option Nat:=(range (n+1)).find? fun f=>decide (hdT n f=s)
theorem q3l {n f:Nat} {s:BA}:hdOf n s=some f↔f<=n/\hdT n f=s:=by
 unfold hdOf;constructor
 ·intro h;have h1:=List.find?_some h;have h2:=List.mem_of_find?_eq_some h;exact ⟨by have:=List.mem_range.1 h2; omega,of_decide_eq_true h1⟩
 ·rintro ⟨h1,h2⟩
  cases hx:(range (n+1)).find? fun f=>decide (hdT n f=s) with
  | none=>
   have:=List.find?_eq_none.1 hx f (List.mem_range.2 (by omega))
   rw [h2] at this; simp at this
  | some m=>
   have k1:hdT n m=s:=by simpa using List.find?_some hx
   rw [(qre (k1.trans h2.symm)).2]
noncomputable def bTx (b:Bat):BA:=bOf (bTL b)
noncomputable def batL (b:Bat):List UInt8:=frL (bTx b)
theorem qaC {b:Bat} (h:batT b=true):frOk (bTx b):=by
 simp only [batT,and_eq_true,decide_eq_true_eq] at h;unfold bTx frOk;rw [qz];exact ⟨by unfold bTL; simp,h.2⟩
theorem qja {b:Bat} (h:batT b=true):jC (bTx b)=some b:=qpb h
theorem qfy {s:BA} {b:Bat} (h:jC s=some b):s=bTx b:=by
 obtain ⟨_,h2⟩:=q0F.1 h;unfold bTx;rw [h2,qcI]
noncomputable def takeB:Int->List BA->List Bat
 | _,[]=>[]
 | q,s::r=>match jC s with
  | none=>[]
  | some b=>if q < b.1 then b::takeB b.1 r else []
def upQ:Int->List Bat->Bool
 | _,[]=>true
 | q,b::r=>decide (q < b.1)&&upQ b.1 r
theorem qhp:∀ (ts:List BA) (q:Int),(∀ b∈takeB q ts,batT b=true)/\upQ q (takeB q ts)=true/\∃ r,ts=(takeB q ts).map bTx++r
 | [],q=>⟨(fun _ h=>absurd h List.not_mem_nil),rfl,[],rfl⟩
 | s::ts,q=>by
  unfold takeB;cases hb:jC s with
  | none=>exact ⟨(fun _ h=>absurd h List.not_mem_nil),rfl,s::ts,rfl⟩
  | some b=>
   simp only;split
   ·rename_i hq;obtain ⟨h1,h2,r,h3⟩:=qhp ts b.1;refine ⟨fun x hx=>?_,?_,r,?_⟩
    ·rcases mem_cons.1 hx with rfl | hx
     ·exact (q0F.1 hb).1
     ·exact h1 x hx
    ·simp only [upQ,dYT hq,Bool.true_and,h2]
    ·rw [map_cons,cons_append,<- h3,<- qfy hb]
   ·exact ⟨(fun _ h=>absurd h List.not_mem_nil),rfl,s::ts,rfl⟩
theorem qjj:∀ {bs:List Bat} {q:Int},(∀ b∈bs,batT b=true)->upQ q bs=true->takeB q (bs.map bTx)=bs
 | [],_,_,_=>rfl
 | b::bs,q,h,hq=>by
  simp only [upQ,and_eq_true,decide_eq_true_eq] at hq;simp only [map_cons,takeB,qja (h b (mem_cons_self ..)),if_pos hq.1,qjj (fun x hx=>h x (mem_cons_of_mem _ hx)) hq.2]
noncomputable def bats (bs:List Bat):List UInt8:=bs.flatMap batL
theorem qk4 (bs:List Bat):bats bs=frs (bs.map bTx):=by
 unfold bats frs;rw [List.flatMap_map]; rfl
theorem qk3 (a b:List Bat):bats (a++b)=bats a++bats b:=by simp [bats]
theorem q71 (b:Bat) (bs:List Bat):bats (b::bs)=batL b++bats bs:=rfl
noncomputable def segR (n:Nat) (t:BA):Option (Nat×List Bat):=
 if t.size<=20000/\n<=99 then match (unfr (bl t)).1 with
  | []=>none
  | h::ts=>(hdOf n h).map fun f=>(f,takeB (-1) ts)
 else none
noncomputable def qdw (n:Nat) (x:Nat×List Bat):Nat:=(qL n x.1).length+(bats x.2).length
theorem q4U {n:Nat} {t:BA} {f:Nat} {bs:List Bat} (h:segR n t=some (f,bs)) :
  t.size<=20000/\n<=99/\f<=n/\(∀ b∈bs,batT b=true)/\upQ (-1) bs=true/\∃ r,bl t=qL n f++(bats bs++r):=by
 unfold segR at h;split at h
 ·rename_i hc;split at h
  ·cases h
  ·rename_i s ts hu;obtain ⟨g,h1,h2⟩:=map_eq_some_iff.1 h;simp only [Prod.mk.injEq] at h2;obtain ⟨rfl,rfl⟩:=h2;obtain ⟨k1,k2⟩:=q3l.1 h1;obtain ⟨m1,m2,r,m3⟩:=qhp ts (-1);obtain ⟨r',_,_,e,_⟩:=qdK (bl t);rw [hu] at e;refine ⟨hc.1,hc.2,k1,m1,m2,frs r++r',?_⟩;rw [e,q8J,<- k2,qk4]
   conv=>lhs; rw [m3,qr9]
   simp only [qL,pA]
 ·cases h
theorem qrC {n f:Nat} {t:BA} {bs:List Bat} (ht:t.size<=20000) (hn:n<=99) (hf:f<=n) (hb:∀ b∈bs,batT b=true) (hq:upQ (-1) bs=true) {r:List UInt8} (e:bl t=qL n f++(bats bs++r)) (hr:fr1 r=none):segR n t=some (f,bs):=by
 have hu:unfr (bl t)=(hdT n f::bs.map bTx,(frs (hdT n f::bs.map bTx)).length):=by
  rw [e,qk4,<- pA,show qL n f++frs (bs.map bTx)=frs (hdT n f::bs.map bTx) from rfl]
  refine qrK (fun x hx=>?_) hr
  rcases mem_cons.1 hx with rfl | hx
  ·exact qkt hn hf
  ·obtain ⟨b,h1,rfl⟩:=List.mem_map.1 hx;exact qaC (hb b h1)
 unfold segR;rw [if_pos ⟨ht,hn⟩,hu];simp only [q3l.2 ⟨hf,rfl⟩,map_some,qjj hb hq]
section
variable {β γ:Type}
def zl (m:List (BA×β)) (x:BA×Option β):List (BA×β):=match x.2 with
 | none=>delK x.1 m
 | some v=>putK x.1 v m
def runK (ops:List (BA×Option β)):List (BA×β):=ops.foldl zl []
theorem q9x {m:List (BA×β)} (h:AscK m) (x:BA×Option β):AscK (zl m x):=by
 unfold zl;split
 ·exact q4t h _
 ·exact q1H h _ _
theorem q9v:∀ (ops:List (BA×Option β)) {m:List (BA×β)},AscK m->AscK (ops.foldl zl m)
 | [],_,h=>h
 | x::ops,m,h=>q9v ops (q9x h x)
theorem qhA:AscK ([]:List (BA×β)):=List.Pairwise.nil
theorem qqg (a b:List (BA×Option β)):runK (a++b)=b.foldl zl (runK a):=by simp [runK,List.foldl_append]
theorem qj4:∀ (ops:List (BA×Option β)) (m:List (BA×β)) {x:BA×β},x∈ops.foldl zl m->x∈m\/(x.1,some x.2)∈ops
 | [],_,_,h=>.inl h
 | (k,o)::ops,m,x,h=>by
  rcases qj4 ops _ h with h | h
  ·cases o with
   | none=>exact .inl (q2r.1 h).1
   | some v=>
    rcases jX.1 h with rfl | h
    ·exact .inr (mem_cons_self ..)
    ·exact .inl h.1
  ·exact .inr (mem_cons_of_mem _ h)
theorem qkU {ops:List (BA×Option β)} {x:BA×β} (h:x∈runK ops):(x.1,some x.2)∈ops:=(qj4 ops [] h).resolve_left (by simp)
theorem qoU (g:β->γ) (m:List (BA×β)) (x:BA×Option β):(zl m x).map (fun y=>(y.1,g y.2))=zl (m.map fun y=>(y.1,g y.2)) (x.1,x.2.map g):=by
 obtain ⟨k,o⟩:=x;cases o with
 | none=>simp only [zl,Option.map_none,delK,List.filter_map]; rfl
 | some v=>simp only [zl,map_some,putK,List.map_append,map_cons,List.filter_map]; rfl
theorem qkO (g:β->γ) (ops:List (BA×Option β)):(runK ops).map (fun y=>(y.1,g y.2))=runK (ops.map fun x=>(x.1,x.2.map g)):=by
 unfold runK;generalize hm:([]:List (BA×β))=m;have:([]:List (BA×γ))=m.map fun y=>(y.1,g y.2):=by rw [<- hm]; rfl
 rw [this];clear hm this;induction ops generalizing m with
 | nil=>rfl
 | cons x ops ih=>rw [foldl_cons,ih,qoU]; rfl
theorem qiV {m:List (BA×β)} (h:AscK m) (x:BA×Option β) (k:BA):getK k (zl m x)=if k=x.1 then x.2 else getK k m:=by
 obtain ⟨j,o⟩:=x;cases o with
 | none=>exact qpV h j k
 | some v=>exact q0U h j v k
end
noncomputable def segD (d:List Fil) (n:Nat):Option (Nat×List Bat):=(getK (nmL n) d).bind fun x=>segR n x.1
noncomputable def hdD (d:List Fil) (n:Nat):Nat:=((segD d n).map (·.1)).getD 0
noncomputable def batD (d:List Fil) (n:Nat):List Bat:=((segD d n).map (·.2)).getD []
def hasN (d:List Fil) (n:Nat):Bool:=(getK (nmL n) d).isSome
noncomputable def least (d:List Fil):Nat:=(range 100).foldl (fun m n=>max m (hdD d n)) 0
noncomputable def segN (d:List Fil):List Nat:=(range 100).filter fun n=>hasN d n&&decide (least d<=n)
noncomputable def segs (d:List Fil):Option (List Nat):=if dOkB d&&(!(segN d).isEmpty&&(segN d).all fun n=>(segD d n).isSome) then some (segN d) else none
noncomputable def allB (d:List Fil) (l:List Nat):List Bat:=l.flatMap (batD d)
noncomputable def rise (d:List Fil):Bool:=match segs d with
 | none=>false
 | some l=>upQ (-1) (allB d l)
theorem qbu {α:Type} (f:α->Nat):∀ (l:List α) (a:Nat),a<=l.foldl (fun m n=>max m (f n)) a/\∀ x∈l,f x<=l.foldl (fun m n=>max m (f n)) a
 | [],a=>⟨le_refl _,fun _ h=>absurd h List.not_mem_nil⟩
 | y::l,a=>by
  obtain ⟨h1,h2⟩:=qbu f l (max a (f y));refine ⟨by simp only [foldl_cons]; omega,fun x hx=>?_⟩
  simp only [foldl_cons];rcases mem_cons.1 hx with rfl | hx
  ·omega
  ·exact h2 x hx
theorem qbt {α:Type} (f:α->Nat):∀ (l:List α) (a:Nat),l.foldl (fun m n=>max m (f n)) a=a\/∃ x∈l,l.foldl (fun m n=>max m (f n)) a=f x
 | [],a=>.inl rfl
 | y::l,a=>by
  simp only [foldl_cons];rcases qbt f l (max a (f y)) with h | ⟨x,h1,h2⟩
  ·rw [h];by_cases h0:f y<=a
   ·exact .inl (by omega)
   ·exact .inr ⟨y,mem_cons_self ..,by omega⟩
  ·exact .inr ⟨x,mem_cons_of_mem _ h1,h2⟩
theorem jm {d:List Fil} {l:List Nat}:segs d=some l↔dOkB d=true/\l=segN d/\l≠[]/\∀ n∈l,(segD d n).isSome=true:=by
 unfold segs;constructor
 ·intro h;split at h
  ·rename_i hc;simp only [and_eq_true,Bool.not_eq_true',List.isEmpty_eq_false_iff,all_eq_true] at hc;have:=Option.some.inj h;subst this;exact ⟨hc.1,rfl,hc.2.1,hc.2.2⟩
  ·cases h
 ·rintro ⟨h1,rfl,h3,h4⟩
  rw [if_pos];simp only [and_eq_true,Bool.not_eq_true',List.isEmpty_eq_false_iff,all_eq_true];exact ⟨h1,h3,h4⟩
theorem q0l {d:List Fil} {n:Nat}:n∈segN d↔n < 100/\hasN d n=true/\least d<=n:=by
 unfold segN;rw [mem_filter,List.mem_range,and_eq_true,decide_eq_true_eq]
def AscN (l:List Nat):Prop:=l.Pairwise (· < ·)
theorem q4u (d:List Fil):AscN (segN d):=List.pairwise_lt_range.filter _
theorem qk2 {l m:List Nat} (hl:AscN l) (hm:AscN m) (h:∀ x,x∈l↔x∈m):l=m:=
 qdQ (lt:=fun a b=>decide (a < b)) (fun a=>by simp) (fun a b h=>by simp at h ⊢; omega) (hl.imp fun h=>by simpa using h) (hm.imp fun h=>by simpa using h) h
theorem qq7 {d:List Fil} {m:Nat} (h1:∀ n,n < 100->hdD d n<=m) (h2:m=0\/∃ n,n < 100/\hdD d n=m):least d=m:=by
 obtain ⟨k1,k2⟩:=qbu (hdD d) (range 100) 0;have k3:=qbt (hdD d) (range 100) 0;unfold least;apply Nat.le_antisymm
 ·rcases k3 with h | ⟨x,hx,h⟩
  ·omega
  ·rw [h]; exact h1 x (List.mem_range.1 hx)
 ·rcases h2 with h | ⟨n,hn,h⟩
  ·omega
  ·rw [<- h]; exact k2 n (List.mem_range.2 hn)
theorem least_le (d:List Fil) {n:Nat} (h:n < 100):hdD d n<=least d:=(qbu (hdD d) (range 100) 0).2 n (List.mem_range.2 h)
theorem qkF (d:List Fil):least d=0\/∃ n,n < 100/\hdD d n=least d:=by
 rcases qbt (hdD d) (range 100) 0 with h | ⟨x,hx,h⟩
 ·exact .inl h
 ·exact .inr ⟨x,List.mem_range.1 hx,h.symm⟩
noncomputable def posB:Nat->List Bat->List (Bat×Nat)
 | _,[]=>[]
 | a,b::r=>(b,a)::posB (a+(batL b).length) r
theorem ql6:∀ (bs:List Bat) (a:Nat),(posB a bs).map (·.1)=bs
 | [],_=>rfl
 | b::bs,a=>by simp only [posB,map_cons,ql6 bs]
theorem qkS:∀ {bs:List Bat} {a:Nat} {p:Bat×Nat},p∈posB a bs->∃ pre post,bs=pre++p.1::post/\p.2=a+(bats pre).length
 | b::bs,a,p,h=>by
  rcases mem_cons.1 h with rfl | h
  ·exact ⟨[],bs,rfl,by simp [bats]⟩
  ·obtain ⟨pre,post,h1,h2⟩:=qkS h;refine ⟨b::pre,post,by rw [h1]; rfl,?_⟩
   rw [h2,q71,lA]; omega
abbrev Spt:=BA×(Int×(Int×Int))
noncomputable def q09 (d:List Fil) (n:Nat):Nat:=(qL n (hdD d n)).length
noncomputable def qb3 (d:List Fil) (n:Nat):List (Bat×Nat):=posB (q09 d n) (batD d n)
noncomputable def qc8 (n:Nat) (p:Bat×Nat):List (BA×Option ((Int×(Int×Int))×BA)):=
 p.1.2.map fun c=>(c.1,bif c.2.2 then none else some (((n:Int),((p.2:Int),p.1.1)),c.2.1))
noncomputable def qhr (d:List Fil) (l:List Nat):List (BA×Option ((Int×(Int×Int))×BA)):=l.flatMap fun n=>(qb3 d n).flatMap (qc8 n)
noncomputable def rowD (d:List Fil) (l:List Nat):List (BA×((Int×(Int×Int))×BA)):=runK (qhr d l)
noncomputable def dirD (d:List Fil) (l:List Nat):List Spt:=(rowD d l).map fun x=>(x.1,x.2.1)
noncomputable def conD (d:List Fil) (l:List Nat):List (BA×BA):=(rowD d l).map fun x=>(x.1,x.2.2)
def opsC (c:Chg):BA×Option BA:=(c.1,bif c.2.2 then none else some c.2.1)
def opsB (bs:List Bat):List (BA×Option BA):=bs.flatMap fun b=>b.2.map opsC
theorem qf6 (d:List Fil) (l:List Nat):conD d l=runK (opsB (allB d l)):=by
 unfold conD rowD;rw [qkO];congr 1
 unfold qhr opsB allB;rw [List.map_flatMap,List.flatMap_assoc];congr 1
 funext n
 rw [List.map_flatMap]
 conv=>rhs; rw [<- ql6 (batD d n) (q09 d n),List.flatMap_map]
 unfold qb3;congr 1
 funext p
 unfold qc8;rw [List.map_map];congr 1
 funext c
 cases h:c.2.2<;>simp [opsC,h]
noncomputable def valD (d:List Fil) (s:Spt):Option BA:=if s.2.1 < 0 then none else (getK (nmL s.2.1.toNat) d).bind fun x=>
 if s.2.2.1 < 0\/(x.1.size:Int) < s.2.2.1 then none else match (unfr ((bl x.1).drop s.2.2.1.toNat)).1 with
  | []=>none
  | h::_=>(jC h).bind fun b=>if b.1=s.2.2.2 then (b.2.find? fun c=>decide (c.1=s.1)&&!c.2.2).map (·.2.1) else none
theorem qdv {d:List Fil} {n:Nat} {x:Nat×List Bat} (h:segD d n=some x):hdD d n=x.1/\batD d n=x.2/\∃ t kp,getK (nmL n) d=some (t,kp)/\segR n t=some x:=by
 refine ⟨by unfold hdD; rw [h]; rfl,by unfold batD; rw [h]; rfl,?_⟩
 obtain ⟨y,h1,h2⟩:=Option.bind_eq_some_iff.1 h;exact ⟨y.1,y.2,h1,h2⟩
theorem qpw {d:List Fil} {n:Nat} (hs:(segD d n).isSome=true) {p:Bat×Nat} (hp:p∈qb3 d n) {c:Chg} (hc:c∈p.1.2) (hg:c.2.2=false):valD d (c.1,((n:Int),((p.2:Int),p.1.1)))=some c.2.1:=by
 obtain ⟨x,hx⟩:=isSome_iff_exists.1 hs;obtain ⟨h1,h2,t,kp,h3,h4⟩:=qdv hx;obtain ⟨f,bs⟩:=x;obtain ⟨k1,k2,k3,k4,k5,r,k6⟩:=q4U h4;unfold qb3 q09 at hp;rw [h1,h2] at hp;obtain ⟨pre,post,e1,e2⟩:=qkS hp;have e1:bs=pre++p.1::post:=e1;have hb:batT p.1=true:=k4 _ (by rw [e1]; simp)
 have ht:bl t=(qL n f++bats pre)++(batL p.1++(bats post++r)):=by
  rw [k6,e1,qk3,q71]; simp only [pA]
 have hlen:p.2=(qL n f++bats pre).length:=by rw [lA]; exact e2
 unfold valD;simp only [tN];rw [if_neg (by omega),h3]
 have hsz:p.2<=t.size:=by rw [yj,ht,hlen,List.length_append (bs:=batL p.1++_)]; omega
 simp only [oB];rw [if_neg (by omega),ht,hlen,jF]
 have hu:(unfr (batL p.1++(bats post++r))).1=bTx p.1::(unfr (bats post++r)).1:=by
  unfold batL;rw [qdJ (qaC hb)]
 rw [hu];simp only [qja hb,oB,if_true];simp only [batT,and_eq_true] at hb;obtain ⟨_,_,_,_,_,q1⟩:=q00.1 hb.1;have q1:=qbj.1 q1;cases hf:p.1.2.find? fun y=>decide (y.1=c.1)&&!y.2.2 with
 | none=>
  have:=List.find?_eq_none.1 hf c hc;simp [hg] at this
 | some y=>
  have m1:=List.find?_some hf;have m2:=List.mem_of_find?_eq_some hf;simp only [and_eq_true,decide_eq_true_eq] at m1;rw [q70 q1 m2 hc m1.1]; rfl
theorem qrO {d:List Fil} {l:List Nat} (hs:∀ n∈l,(segD d n).isSome=true) {x:BA×((Int×(Int×Int))×BA)} (hx:x∈rowD d l):valD d (x.1,x.2.1)=some x.2.2:=by
 have h:=qkU hx;unfold qhr at h;obtain ⟨n,hn,h⟩:=mem_flatMap.1 h;obtain ⟨p,hp,h⟩:=mem_flatMap.1 h;unfold qc8 at h;obtain ⟨c,hc,h⟩:=List.mem_map.1 h;simp only [Prod.mk.injEq] at h;obtain ⟨e1,e2⟩:=h;cases hg:c.2.2 with
 | true=>rw [hg] at e2; cases e2
 | false=>
  rw [hg] at e2;simp only [cF,Option.some.injEq] at e2;rw [<- e1,<- e2];exact qpw (hs n hn) hp hc hg
theorem qqU {d:List Fil} {l:List Nat} (hs:∀ n∈l,(segD d n).isSome=true):(dirD d l).map (fun s=>(s.1,(valD d s).getD (bOf [])))=conD d l:=by
 unfold dirD conD;rw [List.map_map];refine List.map_congr_left fun x hx=>?_
 show (x.1,(valD d (x.1,x.2.1)).getD (bOf []))=_;rw [qrO hs hx]; rfl
abbrev Eng:=List Fil×(Int×(Int×(Int×List Spt)))
def q1w (bs:List Bat):Int:=(bs.getLast?.map (·.1)).getD 0
def drA (k:BA):Act:=(4,(k,(bOf [],bOf [])))
def adA (k t:BA):Act:=(1,(k,(t,bOf [])))
def kpA (k:BA):Act:=(2,(k,(bOf [],bOf [])))
def mvA (k j:BA):Act:=(3,(k,(bOf [],j)))
def q0u (l:List Nat) (f:Fil):Bool:=match numOf f.1 with
 | some n=>!l.contains n
 | none=>false
def wP (d:List Fil) (l:List Nat):List Act:=(if (getK yu d).isSome then [drA yu] else [])++(d.filter (q0u l)).map fun f=>drA f.1
def txtD (d:List Fil) (n:Nat):BA:=((getK (nmL n) d).map (·.1)).getD (bOf [])
noncomputable def endD (d:List Fil) (n:Nat):Nat:=qdw n (hdD d n,batD d n)
noncomputable def zD (d:List Fil) (m:Nat):List Nat->Option (List Act)
 | []=>some []
 | n::r=>if endD d n=(txtD d n).size then zD d m r
  else if n=m then (zD d m r).map fun x=>adA yu (bOf ((bl (txtD d n)).take (endD d n)))::kpA yu::mvA yu (nmL n)::x
  else none
noncomputable def mkE (d d':List Fil) (room:Int) (l:List Nat):Eng:=(d',(room,((l.getLastD 0:Nat),(q1w (allB d l),dirD d l))))
noncomputable def q5p (d:List Fil) (room:Int):Option (Eng×List Act):=
 if 100<=room/\room<=20000/\q2o d=true/\rise d=true then match segs d with
  | none=>none
  | some l=>match zD d (l.getLastD 0) l with
   | none=>none
   | some t=>if (y9 d (wP d l++t)).2=(wP d l++t).length then some (mkE d (y9 d (wP d l++t)).1 room l,wP d l++t) else none
 else none
structure Clean (d:List Fil) (l:List Nat):Prop where
 kept:q2o d=true
 segs:segs d=some l
 up:upQ (-1) (allB d l)=true
 new:getK yu d=none
 stale:∀ f∈d,∀ n,numOf f.1=some n->n∈l
 full:∀ n∈l,endD d n=(txtD d n).size
theorem Clean.ok {d:List Fil} {l:List Nat} (h:Clean d l):dOkB d=true:=(jm.1 h.segs).1
theorem Clean.asc {d:List Fil} {l:List Nat} (h:Clean d l):AscK d:=(qK.1 h.ok).2.2
theorem Clean.ne {d:List Fil} {l:List Nat} (h:Clean d l):l≠[]:=(jm.1 h.segs).2.2.1
theorem Clean.ascN {d:List Fil} {l:List Nat} (h:Clean d l):AscN l:=by rw [(jm.1 h.segs).2.1]; exact q4u d
theorem Clean.mem {d:List Fil} {l:List Nat} (h:Clean d l) {n:Nat}:n∈l↔n < 100/\hasN d n=true/\least d<=n:=by rw [(jm.1 h.segs).2.1]; exact q0l
theorem Clean.seg {d:List Fil} {l:List Nat} (h:Clean d l) {n:Nat} (hn:n∈l):(segD d n).isSome=true:=(jm.1 h.segs).2.2.2 n hn
theorem Clean.has {d:List Fil} {l:List Nat} (h:Clean d l) {n:Nat} (hn:n < 100):hasN d n=true↔n∈l:=by
 constructor
 ·intro hh;obtain ⟨v,hv⟩:=isSome_iff_exists.1 hh;exact h.stale _ ((yO h.asc).1 hv) n (qdj hn)
 ·exact fun hh=>(h.mem.1 hh).2.1
theorem qcc {d:List Fil} {m:Nat}:∀ {l:List Nat},zD d m l=some []↔∀ n∈l,endD d n=(txtD d n).size
 | []=>by simp [zD]
 | n::l=>by
  unfold zD;split
  ·rename_i h;rw [qcc];constructor
   ·intro k x hx;rcases mem_cons.1 hx with rfl | hx
    ·exact h
    ·exact k x hx
   ·exact fun k x hx=>k x (mem_cons_of_mem _ hx)
  ·rename_i h;constructor
   ·intro k;split at k
    ·obtain ⟨x,_,e⟩:=map_eq_some_iff.1 k;cases e
    ·cases k
   ·exact fun k=>absurd (k n (mem_cons_self ..)) h
theorem qeY {d:List Fil} {l:List Nat}:wP d l=[]↔getK yu d=none/\∀ f∈d,∀ n,numOf f.1=some n->n∈l:=by
 unfold wP;rw [List.append_eq_nil_iff,List.map_eq_nil_iff,List.filter_eq_nil_iff];refine and_congr ?_ ?_
 ·cases getK yu d<;>simp
 ·refine forall_congr' fun f=>forall_congr' fun _=>?_
  unfold q0u;cases numOf f.1 with
  | none=>simp
  | some n=>simp
theorem qad {d:List Fil} {room:Int} {e:Eng}:q5p d room=some (e,[])↔100<=room/\room<=20000/\∃ l,Clean d l/\e=mkE d d room l:=by
 unfold q5p;constructor
 ·intro h;split at h
  ·rename_i hc;split at h
   ·cases h
   ·rename_i l hl;split at h
    ·cases h
    ·rename_i t ht;split at h
     ·simp only [Option.some.injEq,Prod.mk.injEq] at h;obtain ⟨rfl,h2⟩:=h;rw [List.append_eq_nil_iff] at h2;obtain ⟨h2,rfl⟩:=h2;obtain ⟨h3,h4⟩:=qeY.1 h2;have hr:=hc.2.2.2;unfold rise at hr;rw [hl] at hr;refine ⟨hc.1,hc.2.1,l,⟨hc.2.2.1,hl,hr,h3,h4,qcc.1 ht⟩,?_⟩;rw [h2]; rfl
     ·cases h
  ·cases h
 ·rintro ⟨h1,h2,l,C,rfl⟩
  have hr:rise d=true:=by unfold rise; rw [C.segs]; exact C.up
  rw [if_pos ⟨h1,h2,C.kept,hr⟩,C.segs];simp only [qcc.2 C.full,qeY.2 ⟨C.new,C.stale⟩,nil_append];rfl
def eOkP (e:Eng):Prop:=q5p e.1 e.2.1=some (e,[])
theorem q6q {e:Eng}:eOkP e↔100<=e.2.1/\e.2.1<=20000/\∃ l,Clean e.1 l/\e=mkE e.1 e.1 e.2.1 l:=qad
theorem qmv {d:List Fil} (h:AscK d) (k:BA) (v:BA×Int) (n:Nat):hasN (putK k v d) n=if nmL n=k then true else hasN d n:=by
 unfold hasN;rw [q0U h];split<;>rfl
theorem q7q {d:List Fil}:q2o d=true↔dOkB d=true/\∀ f∈d,f.2.2=(f.2.1.size:Int):=by
 unfold q2o;simp only [and_eq_true,all_eq_true,decide_eq_true_eq]
theorem Clean.file {d:List Fil} {l:List Nat} (C:Clean d l) {n:Nat} (hn:n∈l):∃ t,getK (nmL n) d=some (t,(t.size:Int))/\segR n t=some (hdD d n,batD d n)/\bl t=qL n (hdD d n)++bats (batD d n)/\t.size<=20000/\n<=99/\hdD d n<=n/\(∀ b∈batD d n,batT b=true)/\upQ (-1) (batD d n)=true:=by
 obtain ⟨x,hx⟩:=isSome_iff_exists.1 (C.seg hn);obtain ⟨h1,h2,t,kp,h3,h4⟩:=qdv hx;have hk:=(q7q.1 C.kept).2 _ ((yO C.asc).1 h3);have hk:kp=(t.size:Int):=hk;subst hk;have hx:x=(hdD d n,batD d n):=Prod.ext h1.symm h2.symm;rw [hx] at h4;obtain ⟨k1,k2,k3,k4,k5,r,k6⟩:=q4U h4;have hf:=C.full n hn;have ht:txtD d n=t:=by unfold txtD; rw [h3]; rfl
 rw [ht,yj,k6] at hf;have hr:r=[]:=by
  rw [lA,lA] at hf;have hf:(qL n (hdD d n)).length+(bats (batD d n)).length=_:=hf;exact List.eq_nil_of_length_eq_zero (by omega)
 subst hr;rw [append_nil] at k6;exact ⟨t,h3,h4,k6,k1,k2,k3,k4,k5⟩
theorem qei:∀ {a:List Bat} {q:Int} {b:List Bat},upQ q (a++b)=true↔upQ q a=true/\upQ ((a.getLast?.map (·.1)).getD q) b=true
 | [],q,b=>by simp [upQ]
 | x::a,q,b=>by
  simp only [cons_append,upQ,and_eq_true,decide_eq_true_eq,qei (a:=a),and_assoc];have:((x::a).getLast?.map (·.1)).getD q=(a.getLast?.map (·.1)).getD x.1:=by
   cases a with
   | nil=>rfl
   | cons y a=>rw [List.getLast?_cons_cons]; simp [List.getLast?_cons]
  rw [this]
theorem qaD {b:Bat} (h:batT b=true):0<=b.1/\b.1<=1000000000:=by
 simp only [batT,and_eq_true] at h;obtain ⟨h1,h2,_⟩:=q00.1 h.1;exact ⟨h1,h2⟩
theorem qhB {b:Bat} (h:batT b=true):q06 b=true:=by
 simp only [batT,and_eq_true] at h; exact h.1
theorem Clean.bt {d:List Fil} {l:List Nat} (C:Clean d l):∀ b∈allB d l,batT b=true:=fun b hb=>by
 unfold allB at hb;obtain ⟨n,hn,hb⟩:=mem_flatMap.1 hb;obtain ⟨t,_,_,_,_,_,_,h,_⟩:=C.file hn;exact h b hb
theorem qj9 {d:List Fil} (h:q2o d=true) {k t:BA} (ho:dOkB (putK k (t,(t.size:Int)) d)=true):q2o (putK k (t,(t.size:Int)) d)=true:=by
 refine q7q.2 ⟨ho,fun f hf=>?_⟩
 rcases jX.1 hf with rfl | ⟨hf,_⟩
 ·rfl
 ·exact (q7q.1 h).2 f hf
theorem q9u {l:List Nat} (h:AscN l) (hne:l≠[]):∃ i,l=i++[l.getLastD 0]/\∀ n∈i,n < l.getLastD 0:=by
 have e:l.dropLast++[l.getLast hne]=l:=List.dropLast_concat_getLast hne;have e2:l.getLastD 0=l.getLast hne:=by
  cases l with
  | nil=>exact absurd rfl hne
  | cons a l=>rw [List.getLastD_eq_getLast?,List.getLast?_eq_some_getLast hne]; rfl
 refine ⟨l.dropLast,by rw [e2,e],fun n hn=>?_⟩
 rw [<- e] at h;rw [e2];exact (List.pairwise_append.1 h).2.2 n hn _ (List.mem_singleton_self _)
theorem qj0 {bs:List Bat} (h:∀ b∈bs,0<=b.1) {b:Bat} (hb:batT b=true) (hq:q1w bs < b.1) (hu:upQ (-1) bs=true):upQ (-1) (bs++[b])=true:=by
 refine qei.2 ⟨hu,?_⟩;have:=qaD hb;simp only [upQ,Bool.and_true,decide_eq_true_eq];unfold q1w at hq;cases hl:bs.getLast? with
 | none=>simp; omega
 | some x=>rw [hl] at hq; simpa using hq
theorem qgN (bs:List Bat) (b:Bat):q1w (bs++[b])=b.1:=by simp [q1w]
theorem q8I {l:List Nat} {f g:Nat->List Bat} (h:∀ x∈l,f x=g x):l.flatMap f=l.flatMap g:=by
 induction l with
 | nil=>rfl
 | cons a l ih=>rw [flatMap_cons,flatMap_cons,h a (mem_cons_self ..),ih fun x hx=>h x (mem_cons_of_mem _ hx)]
structure Says (d:List Fil) (l:List Nat) (F:Nat->Nat×List Bat):Prop where
 lt:∀ n∈l,n < 100
 asc:AscN l
 ne:l≠[]
 has:∀ n,n < 100->hasN d n=true->n∈l\/∃ m∈l,n < (F m).1
 file:∀ n∈l,∃ t,getK (nmL n) d=some (t,(t.size:Int))/\bl t=qL n (F n).1++bats (F n).2
 hd:∀ m∈l,∀ n∈l,(F m).1<=n
 bt:∀ n∈l,∀ b∈(F n).2,batT b=true
 up:upQ (-1) (l.flatMap fun n=>(F n).2)=true
theorem qqt {F:Nat->List Bat} {l:List Nat} {n:Nat} (hn:n∈l) (h0:∀ b∈F n,0<=b.1):∀ {q:Int},upQ q (l.flatMap F)=true->upQ (-1) (F n)=true:=by
 induction l with
 | nil=>cases hn
 | cons a l ih=>
  intro q h;rw [flatMap_cons] at h;obtain ⟨h1,h2⟩:=qei.1 h;rcases mem_cons.1 hn with rfl | hn
  ·cases hF:F n with
   | nil=>rfl
   | cons b bs=>
    rw [hF] at h1 h0;have:=h0 b (mem_cons_self ..);simp only [upQ,and_eq_true,decide_eq_true_eq] at h1 ⊢;exact ⟨by omega,h1.2⟩
  ·exact ih hn h2
theorem qd4 (d:List Fil) (n:Nat):hdD d n<=n:=by
 unfold hdD;cases h:segD d n with
 | none=>exact Nat.zero_le _
 | some x=>
  obtain ⟨_,_,t,kp,_,h4⟩:=qdv h;exact (q4U (f:=x.1) (bs:=x.2) h4).2.2.1
structure Based (d:List Fil) (l:List Nat) (F:Nat->Nat×List Bat):Prop where
 segs:segs d=some l
 rise:rise d=true
 hb:∀ n∈l,hdD d n=(F n).1/\batD d n=(F n).2
 all:allB d l=l.flatMap fun n=>(F n).2
 full:∀ n∈l,endD d n=(txtD d n).size
theorem Says.base {d:List Fil} {l:List Nat} {F:Nat->Nat×List Bat} (S:Says d l F) (ho:dOkB d=true):Based d l F:=by
 have hasc:=(qK.1 ho).2.2;have hseg:∀ n∈l,segD d n=some (F n):=fun n hn=>by
  obtain ⟨t,h1,h2⟩:=S.file n hn;have hsz:t.size<=20000:=(q03.1 ((qK.1 ho).2.1 _ ((yO hasc).1 h1))).2.2.1;unfold segD;rw [h1];refine qrC hsz (by have:=S.lt n hn; omega) (S.hd n hn n hn) (S.bt n hn) (qqt hn (fun b hb=>(qaD (S.bt n hn b hb)).1) S.up) (r:=[]) ?_ qaJ
  rw [append_nil]; exact h2
 have hD:∀ n∈l,hdD d n=(F n).1/\batD d n=(F n).2:=fun n hn=>by
  unfold hdD batD;rw [hseg n hn]; exact ⟨rfl,rfl⟩
 have hD0:∀ n,n < 100->n∉l->hdD d n=0\/∃ m∈l,n < (F m).1:=fun n hn hnl=>by
  cases hg:getK (nmL n) d with
  | none=>left; unfold hdD segD; rw [hg]; rfl
  | some v=>exact .inr ((S.has n hn (by unfold hasN; rw [hg]; rfl)).resolve_left hnl)
 have hleast:∀ n∈l,least d<=n:=fun n hn=>by
  rcases qkF d with h | ⟨m,hm,h⟩
  ·omega
  ·rw [<- h];by_cases hml:m∈l
   ·rw [(hD m hml).1]; exact S.hd m hml n hn
   ·rcases hD0 m hm hml with h0 | ⟨k,hk,h0⟩
    ·omega
    ·have:=qd4 d m;have:=S.hd k hk n hn;omega
 have hsN:segN d=l:=qk2 (q4u _) S.asc fun n=>by
  rw [q0l];constructor
  ·rintro ⟨h1,h2,h3⟩
   rcases S.has n h1 h2 with h | ⟨m,hm,h⟩
   ·exact h
   ·have:=least_le d (S.lt m hm);rw [(hD m hm).1] at this;omega
  ·intro h;obtain ⟨t,h1,_⟩:=S.file n h;exact ⟨S.lt n h,by unfold hasN; rw [h1]; rfl,hleast n h⟩
 have hall:allB d l=l.flatMap fun n=>(F n).2:=q8I fun n hn=>(hD n hn).2
 have hsegs:Den.S.segs d=some l:=jm.2 ⟨ho,hsN.symm,S.ne,fun n hn=>by rw [hseg n hn]; rfl⟩
 refine ⟨hsegs,by unfold Den.S.rise; rw [hsegs]; simp only [hall]; exact S.up,hD,hall,fun n hn=>?_⟩
 obtain ⟨t,h1,h2⟩:=S.file n hn;have:txtD d n=t:=by unfold txtD; rw [h1]; rfl
 rw [this,yj,h2];unfold endD qdw;rw [(hD n hn).1,(hD n hn).2,lA]
theorem Says.clean {d:List Fil} {l:List Nat} {F:Nat->Nat×List Bat} (S:Says d l F) (hk:q2o d=true) (hs:∀ n,n < 100->hasN d n=true->n∈l) (hn:getK yu d=none):Clean d l/\(∀ n∈l,hdD d n=(F n).1/\batD d n=(F n).2)/\allB d l=l.flatMap fun n=>(F n).2:=by
 have ho:=(q7q.1 hk).1;have hasc:=(qK.1 ho).2.2;have B:=S.base ho;refine ⟨⟨hk,B.segs,by rw [B.all]; exact S.up,hn,?_,B.full⟩,B.hb,B.all⟩
 intro f hf n hn;obtain ⟨h1,h2⟩:=q2g.1 hn;refine hs n h1 ?_;unfold hasN;rw [h2,(yO hasc).2 (show (f.1,f.2)∈d from hf)]; rfl
theorem Clean.says {d:List Fil} {l:List Nat} (C:Clean d l):Says d l fun n=>(hdD d n,batD d n) where
 lt:=fun n hn=>(C.mem.1 hn).1
 asc:=C.ascN
 ne:=C.ne
 has:=fun n hn h=>.inl ((C.has hn).1 h)
 file:=fun n hn=>by
  obtain ⟨t,h1,_,h3,_⟩:=C.file hn;exact ⟨t,h1,h3⟩
 hd:=fun m hm n hn=>Nat.le_trans (least_le d (C.mem.1 hm).1) (C.mem.1 hn).2.2
 bt:=fun n hn=>by
  obtain ⟨t,_,_,_,_,_,_,h,_⟩:=C.file hn;exact h
 up:=C.up
theorem Clean.nn {d:List Fil} {l:List Nat} (C:Clean d l):∀ x∈allB d l,0<=x.1:=fun x hx=>(qaD (C.bt x hx)).1
theorem Clean.put {d:List Fil} {l:List Nat} (C:Clean d l) {b:Bat} (hb:batT b=true) (hq:q1w (allB d l) < b.1) {t:BA} (ht:getK (nmL (l.getLastD 0)) d=some (t,(t.size:Int)))
  (ho:dOkB (putK (nmL (l.getLastD 0)) (bOf (bl t++batL b),((bOf (bl t++batL b)).size:Int)) d)=true) :
  Clean (putK (nmL (l.getLastD 0)) (bOf (bl t++batL b),((bOf (bl t++batL b)).size:Int)) d) l /\
  allB (putK (nmL (l.getLastD 0)) (bOf (bl t++batL b),((bOf (bl t++batL b)).size:Int)) d) l=allB d l++[b]:=by
 obtain ⟨i,hi,hlt⟩:=q9u C.ascN C.ne;generalize hm:l.getLastD 0=m at *;have hml:m∈l:=by rw [hi]; simp
 have S:=C.says;have hm100:=S.lt m hml;have hall:(l.flatMap fun n=>(if n=m then (hdD d m,batD d m++[b]) else (hdD d n,batD d n)).2)=allB d l++[b]:=by
  unfold allB;rw [hi,List.flatMap_append,List.flatMap_append];simp only [flatMap_cons,List.flatMap_nil,append_nil,if_true,<- pA];congr 2
  exact q8I fun n hn=>by rw [if_neg (by have:=hlt n hn; omega)]
 have hhas:∀ n,n < 100->hasN (putK (nmL m) (bOf (bl t++batL b),((bOf (bl t++batL b)).size:Int)) d) n=true->n∈l:=fun n hn h=>by
  rw [qmv C.asc] at h;split at h
  ·rename_i e;rw [q4S hn hm100 e]; exact hml
  ·exact (C.has hn).1 h
 have S':Says (putK (nmL m) (bOf (bl t++batL b),((bOf (bl t++batL b)).size:Int)) d) l fun n=>if n=m then (hdD d m,batD d m++[b]) else (hdD d n,batD d n):={
  lt:=S.lt,asc:=S.asc,ne:=S.ne
  has:=fun n hn h=>.inl (hhas n hn h)
  file:=fun n hn=>by
   obtain ⟨t',h1,h2⟩:=S.file n hn;by_cases e:n=m
   ·subst e;refine ⟨_,by rw [q0U C.asc,if_pos rfl],?_⟩
    rw [ht] at h1;have:t=t':=(Prod.mk.inj (Option.some.inj h1)).1;rw [wh,this,h2,if_pos rfl,qk3];simp [bats,pA]
   ·exact ⟨t',by rw [q0U C.asc,if_neg fun h=>e (q4S (S.lt n hn) hm100 h)]; exact h1,by rw [if_neg e]; exact h2⟩
  hd:=fun k hk n hn=>by
   have:=S.hd k hk n hn;split
   ·rename_i e; rw [e] at this; exact this
   ·exact this
  bt:=fun n hn x hx=>by
   split at hx
   ·rename_i e;rcases mem_append.1 hx with hx | hx
    ·exact S.bt m hml x hx
    ·rw [mem_singleton.1 hx]; exact hb
   ·exact S.bt n hn x hx
  up:=by rw [hall]; exact qj0 C.nn hb hq C.up }
 obtain ⟨h1,_,h3⟩:=S'.clean (qj9 C.kept ho) hhas (by rw [q0U C.asc,if_neg (fun h=>qe9 m h.symm)]; exact C.new)
 exact ⟨h1,h3.trans hall⟩
theorem Clean.next {d:List Fil} {l:List Nat} (C:Clean d l) {b:Bat} (hb:batT b=true) (hq:q1w (allB d l) < b.1) (hm:l.getLastD 0+1 < 100)
  (ho:dOkB (putK (nmL (l.getLastD 0+1)) (bOf (qL (l.getLastD 0+1) (l.headD 0)++batL b),((bOf (qL (l.getLastD 0+1) (l.headD 0)++batL b)).size:Int)) d)=true) :
  Clean (putK (nmL (l.getLastD 0+1)) (bOf (qL (l.getLastD 0+1) (l.headD 0)++batL b),((bOf (qL (l.getLastD 0+1) (l.headD 0)++batL b)).size:Int)) d) (l++[l.getLastD 0+1]) /\
  allB (putK (nmL (l.getLastD 0+1)) (bOf (qL (l.getLastD 0+1) (l.headD 0)++batL b),((bOf (qL (l.getLastD 0+1) (l.headD 0)++batL b)).size:Int)) d) (l++[l.getLastD 0+1])=allB d l++[b]:=by
 obtain ⟨i,hi,hlt⟩:=q9u C.ascN C.ne;have S:=C.says;have hfirst:∀ n∈l,l.headD 0<=n:=by
  have h:=C.ascN;cases l with
  | nil=>intro n hn; cases hn
  | cons a l=>
   intro n hn;rcases mem_cons.1 hn with rfl | hn
   ·exact le_refl _
   ·exact Nat.le_of_lt ((pairwise_cons.1 h).1 n hn)
 have hhead:l.headD 0∈l:=by
  have:=C.ne;cases l with
  | nil=>exact absurd rfl this
  | cons a l=>exact mem_cons_self ..
 generalize hf:l.headD 0=f at *;generalize hm':l.getLastD 0=m at *;have hle:∀ n∈l,n<=m:=fun n hn=>by
  rw [hi] at hn;rcases mem_append.1 hn with hn | hn
  ·exact Nat.le_of_lt (hlt n hn)
  ·rw [mem_singleton.1 hn]; exact le_refl _
 have hnot:m+1∉l:=fun h=>by have:=hle _ h; omega
 have hall:((l++[m+1]).flatMap fun n=>(if n=m+1 then (f,[b]) else (hdD d n,batD d n)).2)=allB d l++[b]:=by
  unfold allB;rw [List.flatMap_append];simp only [flatMap_cons,List.flatMap_nil,append_nil,if_true];congr 1
  exact q8I fun n hn=>by rw [if_neg (by have:=hle n hn; omega)]
 have hhas:∀ n,n < 100->hasN (putK (nmL (m+1)) (bOf (qL (m+1) f++batL b),((bOf (qL (m+1) f++batL b)).size:Int)) d) n=true->n∈l++[m+1]:=fun n hn h=>by
  rw [qmv C.asc] at h;split at h
  ·rename_i e;rw [q4S hn hm e]; simp
  ·exact List.mem_append_left _ ((C.has hn).1 h)
 have S':Says (putK (nmL (m+1)) (bOf (qL (m+1) f++batL b),((bOf (qL (m+1) f++batL b)).size:Int)) d) (l++[m+1]) fun n=>if n=m+1 then (f,[b]) else (hdD d n,batD d n):={
  lt:=fun n hn=>by
   rcases mem_append.1 hn with hn | hn
   ·exact S.lt n hn
   ·rw [mem_singleton.1 hn]; exact hm
  asc:=List.pairwise_append.2 ⟨S.asc,List.pairwise_singleton ..,fun a ha c hc=>by rw [mem_singleton.1 hc]; have:=hle a ha; omega⟩
  ne:=by simp
  has:=fun n hn h=>.inl (hhas n hn h)
  file:=fun n hn=>by
   by_cases e:n=m+1
   ·subst e;exact ⟨_,by rw [q0U C.asc,if_pos rfl],by rw [wh,if_pos rfl]; simp [bats]⟩
   ·have hn:n∈l:=by
     rcases mem_append.1 hn with hn | hn
     ·exact hn
     ·exact absurd (mem_singleton.1 hn) e
    obtain ⟨t',h1,h2⟩:=S.file n hn;exact ⟨t',by rw [q0U C.asc,if_neg fun h=>e (q4S (S.lt n hn) hm h)]; exact h1,by rw [if_neg e]; exact h2⟩
  hd:=fun k hk n hn=>by
   have hfn:f<=n:=by
    rcases mem_append.1 hn with hn | hn
    ·exact hfirst n hn
    ·rw [mem_singleton.1 hn]; have:=hle f hhead; omega
   split
   ·exact hfn
   ·rename_i e;have hk:k∈l:=by
     rcases mem_append.1 hk with hk | hk
     ·exact hk
     ·exact absurd (mem_singleton.1 hk) e
    exact Nat.le_trans (S.hd k hk f hhead) hfn
  bt:=fun n hn x hx=>by
   split at hx
   ·rw [mem_singleton.1 hx]; exact hb
   ·rename_i e;rcases mem_append.1 hn with hn | hn
    ·exact S.bt n hn x hx
    ·exact absurd (mem_singleton.1 hn) e
  up:=by rw [hall]; exact qj0 C.nn hb hq C.up }
 obtain ⟨h1,_,h3⟩:=S'.clean (qj9 C.kept ho) hhas (by rw [q0U C.asc,if_neg (fun h=>qe9 _ h.symm)]; exact C.new)
 exact ⟨h1,h3.trans hall⟩
end Go.Den.S
namespace Go.Den.S
open Go Go.Den
open Classical
noncomputable section
theorem qqa (a b:List Bat):opsB (a++b)=opsB a++opsB b:=by simp [opsB]
theorem qlC {n:Nat} (h:n < 128):(vL n).length=1:=by rw [qa4 h]; rfl
end
section
variable {β:Type}
theorem qf9 (k:BA):∀ l:List (BA×β),(l.filter fun x=>blt x.1 k).length+(l.filter fun x=>blt k x.1).length=(l.filter fun x=>decide (x.1≠k)).length
 | []=>rfl
 | x::l=>by
  have ih:=qf9 k l;by_cases e:x.1=k
  ·simp only [filter_cons,e,q0v,ne_eq,not_true_eq_false,decide_false,false_eq_true,if_false];exact ih
  ·by_cases h:blt x.1 k=true
   ·simp only [filter_cons,h,q4J h,e,ne_eq,not_false_eq_true,decide_true,if_true,false_eq_true,if_false,length_cons];simp only [ne_eq] at ih; omega
   ·have h':blt x.1 k=false:=by simpa using h
    simp only [filter_cons,h',q0D e h',e,ne_eq,not_false_eq_true,decide_true,if_true,false_eq_true,if_false,length_cons];simp only [ne_eq] at ih; omega
theorem qfv (k:BA) (v:β) (l:List (BA×β)):(putK k v l).length=(delK k l).length+1:=by
 unfold putK delK;have:=qf9 k l;rw [lA,length_cons]; omega
theorem q6o (k:BA) (l:List (BA×β)):(delK k l).length<=l.length:=List.length_filter_le ..
theorem qqY {k:BA} {l:List (BA×β)} {v:β} (h:(k,v)∈l):(delK k l).length+1<=l.length:=by
 unfold delK;have:(l.filter fun x=>decide (x.1≠k)).length < l.length:=List.length_filter_lt_length_iff_exists.2 ⟨(k,v),h,by simp⟩
 omega
theorem ql9 {l:List (BA×β)} (h:AscK l) (k:BA) (u v:β):putK k v (putK k u l)=putK k v l:=
 q2k (q1H (q1H h k u) k v) (q1H h k v) fun x=>by
  simp only [jX];constructor
  ·rintro (h | ⟨h | h,h'⟩)
   ·exact .inl h
   ·exact absurd (by rw [h]) h'
   ·exact .inr h
  ·rintro (h | h)
   ·exact .inl h
   ·exact .inr ⟨.inr h,h.2⟩
theorem qpL {l:List (BA×β)} (h:AscK l) {k:BA} {v:β} (hn:getK k l=none):delK k (putK k v l)=l:=
 q2k (q4t (q1H h k v) k) h fun x=>by
  simp only [q2r,jX];constructor
  ·rintro ⟨h | h,h'⟩
   ·exact absurd (by rw [h]) h'
   ·exact h.1
  ·exact fun hx=>⟨.inr ⟨hx,zq.1 hn x hx⟩,zq.1 hn x hx⟩
end
theorem q6t {k t:BA} {kp:Int} (h1:1<=k.size) (h2:k.size<=8) (h3:t.size<=20000) (h4:0<=kp) (h5:kp<=(t.size:Int)):q0s (k,(t,kp))=true:=q03.2 ⟨h1,h2,h3,h4,h5⟩
theorem qdk {d:List Fil} (h:dOkB d=true) {k:BA} {v:BA×Int} (hl:(delK k d).length+1<=30) (hf:q0s (k,v)=true):dOkB (putK k v d)=true:=by
 obtain ⟨_,h2,h3⟩:=qK.1 h;refine qK.2 ⟨by rw [qfv]; exact hl,fun f hm=>?_,q1H h3 k v⟩
 rcases jX.1 hm with rfl | hm
 ·exact hf
 ·exact h2 f hm.1
theorem qcE {d d':List Fil} {a:Act} (h1:dOkB d=true) (h2:a.1=3\/a.2.2.2.size=0) (h3:a.1=1\/a.2.2.1.size=0) (h4:doA d a=some d') (h5:dOkB d'=true):actB d a=some d':=by
 unfold actB;rw [if_pos,h4]
 ·simp [okD,h5]
 ·simp only [and_eq_true,Bool.or_eq_true,decide_eq_true_eq];exact ⟨⟨h1,h2⟩,h3⟩
def allA (d:List Fil) (asq:List Act) (d':List Fil):Prop:=y9 d asq=(d',asq.length)
theorem q4s (d:List Fil):allA d [] d:=rfl
theorem wK {d d1 d':List Fil} {a:Act} {r:List Act} (h:actB d a=some d1) (k:allA d1 r d'):allA d (a::r) d':=by
 unfold allA at k ⊢;simp only [y9,h,k,length_cons]
theorem qbh {d d':List Fil} {a:Act} {r:List Act} (h:allA d (a::r) d'):∃ d1,actB d a=some d1/\allA d1 r d':=by
 unfold allA at h;simp only [y9] at h;split at h
 ·simp at h
 ·rename_i d1 h1;simp only [length_cons,Prod.mk.injEq] at h;exact ⟨d1,h1,by unfold allA; exact Prod.ext h.1 (by have:=h.2; simp only; omega)⟩
theorem q8E {d d1 d2:List Fil} {a:List Act} (h:allA d a d1) (k:allA d a d2):d1=d2:=by
 unfold allA at h k;rw [h] at k;exact (Prod.mk.inj k).1
theorem qa5 (t:BA):bOf []++t=t:=zx (by rw [jP]; rfl)
theorem qqA (d:List Fil) (k t:BA):doA d (adA k t)=some (putK k (((getK k d).getD (bOf [],0)).1++t,((getK k d).getD (bOf [],0)).2) d):=rfl
theorem qcU {d:List Fil} {k t:BA} (h:getK k d=none):doA d (adA k t)=some (putK k (t,0) d):=by
 rw [qqA,h];show some (putK k (bOf []++t,0) d)=_;rw [qa5]
theorem qcV {d:List Fil} {k t u:BA} {kp:Int} (h:getK k d=some (u,kp)):doA d (adA k t)=some (putK k (u++t,kp) d):=by
 rw [qqA,h]; rfl
theorem qqB {d:List Fil} {k u:BA} {kp:Int} (h:getK k d=some (u,kp)):doA d (kpA k)=some (putK k (u,(u.size:Int)) d):=by
 unfold doA kpA;simp only [h];rfl
theorem qso {d:List Fil} {k j u:BA} (h:getK k d=some (u,(u.size:Int))) (hj:j≠k):doA d (mvA k j)=some (putK j (u,(u.size:Int)) (delK k d)):=by
 unfold doA mvA;simp only [h];rw [if_neg (by decide),if_neg (by decide),if_pos trivial,if_pos ⟨trivial,hj⟩]
theorem q4F:(bOf []).size=0:=rfl
theorem Clean.len {d:List Fil} {l:List Nat} (C:Clean d l):d.length<=30:=(qK.1 C.ok).1
theorem qr6 (t:BA) (n:Nat):t.extract 0 n=bOf ((bl t).take n):=zx (by rw [q3f,List.drop_zero,Nat.sub_zero])
theorem qf1 (t:BA) (l:List UInt8):t++bOf l=bOf (bl t++l):=zx (by rw [jP])
theorem q9T {d:List Fil} {l:List Nat} (C:Clean d l) {b:Bat} {t:BA} (ht:getK (nmL (l.getLastD 0)) d=some (t,(t.size:Int))) (hsz:t.size+(batL b).length<=20000) :
  dOkB (putK (nmL (l.getLastD 0)) (bOf (bl t++batL b),(t.size:Int)) d)=true/\dOkB (putK (nmL (l.getLastD 0)) (bOf (bl t++batL b),((bOf (bl t++batL b)).size:Int)) d)=true /\
  actB d (adA (nmL (l.getLastD 0)) (bOf (batL b)))=some (putK (nmL (l.getLastD 0)) (bOf (bl t++batL b),(t.size:Int)) d) /\
  actB (putK (nmL (l.getLastD 0)) (bOf (bl t++batL b),(t.size:Int)) d) (kpA (nmL (l.getLastD 0)))=some (putK (nmL (l.getLastD 0)) (bOf (bl t++batL b),((bOf (bl t++batL b)).size:Int)) d):=by
 have hnm:=qft (l.getLastD 0);have hdm:(delK (nmL (l.getLastD 0)) d).length+1<=d.length:=qqY ((yO C.asc).1 ht);have hl:=C.len;have hs:(bOf (bl t++batL b)).size=t.size+(batL b).length:=by rw [qz,lA,<- yj]
 have o1:dOkB (putK (nmL (l.getLastD 0)) (bOf (bl t++batL b),(t.size:Int)) d)=true:=qdk C.ok (by omega) (q6t hnm.1 (by omega) (by omega) (by omega) (by omega))
 have o2:dOkB (putK (nmL (l.getLastD 0)) (bOf (bl t++batL b),((bOf (bl t++batL b)).size:Int)) d)=true:=qdk C.ok (by omega) (q6t hnm.1 (by omega) (by omega) (by omega) (Int.le_refl _))
 refine ⟨o1,o2,qcE C.ok (.inr q4F) (.inl rfl) (by rw [qcV ht,qf1]) o1,qcE o1 (.inr q4F) (.inr q4F) ?_ o2⟩
 rw [qqB (u:=bOf (bl t++batL b)) (kp:=(t.size:Int)) (by rw [q0U C.asc,if_pos rfl]),ql9 C.asc]
theorem qdn {d:List Fil} {l:List Nat} (C:Clean d l) (hlen:d.length<=29) {T:List UInt8} (hsz:T.length<=20000) (m:Nat) :
  dOkB (putK yu (bOf T,0) d)=true/\dOkB (putK yu (bOf T,((bOf T).size:Int)) d)=true/\dOkB (putK (nmL m) (bOf T,((bOf T).size:Int)) d)=true /\
  actB d (adA yu (bOf T))=some (putK yu (bOf T,0) d)/\actB (putK yu (bOf T,0) d) (kpA yu)=some (putK yu (bOf T,((bOf T).size:Int)) d) /\
  actB (putK yu (bOf T,((bOf T).size:Int)) d) (mvA yu (nmL m))=some (putK (nmL m) (bOf T,((bOf T).size:Int)) d):=by
 have hnm:=qft m;have hns:yu.size=2:=rfl;have hs:(bOf T).size=T.length:=qz T;have hd1:=q6o yu d;have hd2:=q6o (nmL m) d;have o1:dOkB (putK yu (bOf T,0) d)=true:=qdk C.ok (by omega) (q6t (by omega) (by omega) (by omega) (Int.le_refl _) (by omega))
 have o2:dOkB (putK yu (bOf T,((bOf T).size:Int)) d)=true:=qdk C.ok (by omega) (q6t (by omega) (by omega) (by omega) (by omega) (Int.le_refl _))
 have o3:dOkB (putK (nmL m) (bOf T,((bOf T).size:Int)) d)=true:=qdk C.ok (by omega) (q6t hnm.1 (by omega) (by omega) (by omega) (Int.le_refl _))
 refine ⟨o1,o2,o3,qcE C.ok (.inr q4F) (.inl rfl) (qcU C.new) o1,qcE o1 (.inr q4F) (.inr q4F) ?_ o2,qcE o2 (.inl rfl) (.inr q4F) ?_ o3⟩
 ·rw [qqB (u:=bOf T) (kp:=0) (by rw [q0U C.asc,if_pos rfl]),ql9 C.asc]
 ·rw [qso (u:=bOf T) (by rw [q0U C.asc,if_pos rfl]) (qe9 m),qpL C.asc C.new]
section
variable {d:List Fil} {l i:List Nat} {top act:Nat}
theorem Clean.parts (C:Clean d l) (hl:l=(i++[top])++[act]):top∈l/\act∈l/\top < act/\(∀ n∈i,n∈l/\n < top)/\AscN i:=by
 have h:=C.ascN;rw [hl] at h;obtain ⟨h1,_,h3⟩:=List.pairwise_append.1 h;obtain ⟨h4,_,h6⟩:=List.pairwise_append.1 h1;subst hl;exact ⟨by simp,by simp,h3 top (by simp) act (by simp),fun n hn=>⟨by simp [hn],h6 n hn top (by simp)⟩,h4⟩
theorem qdy:∀ {d:List Fil} {k:BA} {v:BA×Int},AscK d->(k,v)∈d->zO (delK k d)+v.1.size=zO d
 | f::d,k,v,h,hm=>by
  obtain ⟨h1,h2⟩:=pairwise_cons.1 h;rcases mem_cons.1 hm with e | hm
  ·subst e;have:delK k ((k,v)::d)=d:=by
    unfold delK;rw [filter_cons];simp only [ne_eq,not_true_eq_false,decide_false,false_eq_true,if_false];exact List.filter_eq_self.2 fun x hx=>by simpa using (zI (h1 x hx)).symm
   rw [this];simp only [zO,map_cons,sum_cons]; omega
  ·have hne:f.1≠k:=zI (h1 _ hm);have:delK k (f::d)=f::delK k d:=by
    unfold delK;rw [filter_cons];simp [hne]
   rw [this];have:=qdy h2 hm;unfold zO at this ⊢;rw [map_cons,sum_cons,map_cons,sum_cons]; omega
theorem q9H {n f:Nat} (hn:n < 100) (hf:f < 100):(qL n f).length=8:=by
 have hs:(hdT n f).size=3:=by
  unfold hdT;rw [qz,length_cons,lA,qlC (by omega),qlC (by omega)]
 unfold qL;rw [qe0,hs,qlC (by omega)]
end
end Go.Den.S
