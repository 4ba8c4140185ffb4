/- EhA: equations of the functions of this seat as the executor tells them, or plain facts about them. Conditions: none here. -/
import Derived.Test.YthejgmhimclmdaaGreatDoorEqD0
import Derived.Test.YthejgmhimclmdaaGreatDoorEqD1
import Derived.Test.YthejgmhimclmdaaGreatDoorEgA
set_option linter.all false
open Bool (and_eq_true not_eq_true)
open ByteArray (size_append)
open Int (tdiv tmod toNat toNat_natCast)
open List (append_assoc append_nil drop_drop drop_eq_nil_iff drop_zero getD length length_append length_cons length_drop length_map length_singleton map map_cons)
open Nat (le_refl)
namespace Go.Den.S
open Go Go.Den
set_option maxRecDepth 4000
def inB (a b c:Int):Bool:=decide (b<=a)&&decide (a<=c)
theorem zW (a b c:Int):yQ a b c=some (inB a b c,()):=by
 rw [qgW];unfold inB;by_cases h:a>=b
 ·simp only [dYT h,cT,dYT (show b<=a from h),Bool.true_and]
 ·simp only [dYF h,cF,dYF (show ¬ b<=a from h),Bool.false_and]
theorem zO (a b c:Int):yO a b c=some (inB a b c,()):=by
 rw [qiY];unfold inB;by_cases h:a>=b
 ·simp only [dYT h,cT,dYT (show b<=a from h),Bool.true_and]
 ·simp only [dYF h,cF,dYF (show ¬ b<=a from h),Bool.false_and]
def vI (n:Nat):List Int:=(vL n).map fun c=>(c.toNat:Int)
theorem qaP (l:List UInt8):q31 (l.map fun c=>(c.toNat:Int))=bOf l:=by
 unfold q31;rw [List.map_map];congr 2
 refine (List.map_congr_left fun c _=>?_).trans (List.map_id _)
 simp
theorem qp7 {n:Nat} (h:n < 128):vI n=[(n:Int)]:=by
 unfold vI;rw [qbb h,map_cons,q3K (by omega)]; rfl
theorem qp6 {n:Nat} (h:¬ n < 128):vI n=((n % 128+128:Nat):Int)::vI (n / 128):=by
 unfold vI;rw [qgw h,map_cons,q3K (by omega)]
theorem qkr (n m:Nat):tdiv (n:Int) (m:Int)=((n / m:Nat):Int):=by
 rw [Int.tdiv_eq_ediv_of_nonneg (by omega)]; rfl
theorem qb5 (n m:Nat):tmod (n:Int) (m:Int)=((n % m:Nat):Int):=by
 rw [Int.tmod_eq_emod_of_nonneg (by omega)]; rfl
theorem qdH:∀ (n:Nat) (xs:List Int),n<=4611686018427387904->xs.length+n<=4611686018427387904->n<=1000000000000->xs.length+n<=2000000000000->q3t (n:Int) xs=some (q31 (xs++vI n),()):=by
 intro n;induction n using Nat.strongRecOn with
 | ind n ih=>
  intro xs h1 h2 h3 h4;rw [qdG];have kl:lim (xs.length+1) 1=true:=qZ (by omega)
  by_cases h:n < 128
  ·have k1:decide ((n:Int) > 127)=false:=dYF (by omega)
   have k2:IntKind.u8.wrap (n:Int)=(n:Int):=q4k (by omega) (by omega)
   simp only [k1,cF,kl,cT,k2,qp7 h];rfl
  ·have k1:decide ((n:Int) > 127)=true:=dYT (by omega)
   have e1:tdiv (n:Int) 128=((n / 128:Nat):Int):=qkr n 128;have e2:tmod (n:Int) 128=((n % 128:Nat):Int):=qb5 n 128;have k2:w64 (((n / 128:Nat):Int))=((n / 128:Nat):Int):=qh (by omega) (by omega)
   have k3:w64 (((n % 128:Nat):Int)+128)=((n % 128+128:Nat):Int):=qh (by omega) (by omega)
   have k4:IntKind.u8.wrap ((n % 128+128:Nat):Int)=((n % 128+128:Nat):Int):=q4k (by omega) (by omega)
   simp only [k1,cT,kl,e1,e2,k2,k3,k4];rw [ih (n / 128) (by omega) _ (by omega) (by rw [length_append,length_singleton]; omega) (by omega) (by rw [length_append,length_singleton]; omega),qp6 h,append_assoc]
   rfl
theorem wP {n:Nat} (h:n<=1000000000000):za (n:Int)=some (bOf (vL n),()):=by
 rw [qhs,qdH n [] (by omega) (by simp; omega) h (by simp; omega)]
 show some (q31 (vI n),())=_;unfold vI;rw [qaP]
theorem qci:∀ (n:Nat) (xs:List Int),n<=1000000000000->xs.length+n<=2000000000000->q2o (n:Int) xs=some ((q31 (xs++vI n),true),()):=by
 intro n;induction n using Nat.strongRecOn with
 | ind n ih=>
  intro xs h3 h4;rw [qch];have kl:lim (xs.length+1) 1=true:=qZ (by omega)
  by_cases h:n < 128
  ·have k1:decide ((n:Int) > 127)=false:=dYF (by omega)
   have k2:IntKind.u8.wrap (n:Int)=(n:Int):=q4k (by omega) (by omega)
   simp only [k1,cF,kl,cT,k2,qp7 h];rfl
  ·have k1:decide ((n:Int) > 127)=true:=dYT (by omega)
   have e1:tdiv (n:Int) 128=((n / 128:Nat):Int):=qkr n 128;have e2:tmod (n:Int) 128=((n % 128:Nat):Int):=qb5 n 128;have k2:w64 (((n / 128:Nat):Int))=((n / 128:Nat):Int):=qh (by omega) (by omega)
   have k3:w64 (((n % 128:Nat):Int)+128)=((n % 128+128:Nat):Int):=qh (by omega) (by omega)
   have k4:IntKind.u8.wrap ((n % 128+128:Nat):Int)=((n % 128+128:Nat):Int):=q4k (by omega) (by omega)
   simp only [k1,cT,kl,e1,e2,k2,k3,k4];rw [ih (n / 128) (by omega) _ (by omega) (by rw [length_append,length_singleton]; omega),qp6 h,append_assoc]
   rfl
theorem q0Q (n:Int):q1s n=some ((if 0<=n/\n<=1000000000 then (bOf (vL n.toNat),true) else (eB,false)),()):=by
 rw [qfE,zW];simp only [oB];by_cases h:0<=n/\n<=1000000000
 ·have e:inB n 0 1000000000=true:=by unfold inB; simp [h]
  simp only [e,Bool.not_true,cF,if_pos h];obtain ⟨m,rfl⟩:∃ m:Nat,n=(m:Int):=⟨n.toNat,by omega⟩
  rw [qci m [] (by omega) (by simp; omega)]
  show some ((q31 (vI m),true),())=_;unfold vI;rw [qaP]; rfl
 ·have e:inB n 0 1000000000=false:=by
   unfold inB;rw [<- not_eq_true,and_eq_true,decide_eq_true_eq,decide_eq_true_eq]; exact h
  simp only [e,Bool.not_false,cT,if_neg h]
def rvO (s:BA) (at':Int):Int×Int×Bool:=if 0<=at'/\at'<=(s.size:Int) then (match rvar ((bl s).drop at'.toNat) with | some (n,k)=>((n:Int),at'+(k:Int),true) | none=>(0,0,false)) else (0,0,false)
theorem q9T (s:BA) {i:Nat} {c:UInt8} {r:List UInt8} (h:(bl s).drop i=c::r):bt s i=(c.toNat:Int):=by
 unfold bt;have:(bl s)[i]?=some c:=by
  have:=congrArg List.head? h;rw [List.head?_drop] at this;exact this
 show (((bl s).getD i 0).toNat:Int)=_;rw [List.getD_eq_getElem?_getD,this]; rfl
theorem q48 {l:List UInt8} {i:Nat} {c:UInt8} {r:List UInt8} (h:l.drop i=c::r):l.drop (i+1)=r:=by
 rw [<- drop_drop,h]; rfl
theorem q9W {l:List UInt8} {i:Nat} {c:UInt8} {r:List UInt8} (h:l.drop i=c::r):i < l.length:=by
 have:=congrArg length h;rw [length_drop,length_cons] at this; omega
theorem qpQ {i:Nat} (hi:i < 5) (x:Int):shlI .i64 x (7 * (i:Int))=x * 128 ^ i:=by
 rw [qlN]
 match i,hi with
 | 0,_=>rfl
 | 1,_=>rfl
 | 2,_=>rfl
 | 3,_=>rfl
 | 4,_=>rfl
theorem qnH {i:Nat} (hi:i < 5):(128:Nat) ^ i<=268435456/\(128:Nat) ^ (i+1)=128 * 128 ^ i:=by
 match i,hi with
 | 0,_=>decide
 | 1,_=>decide
 | 2,_=>decide
 | 3,_=>decide
 | 4,_=>decide
def rvT (a:Nat):Option (Nat×Nat)->(Int×Int×Bool)×Unit
 | some (n,k)=>(((n:Int),(((a+k:Nat):Int),true)),())
 | none=>((0,(0,false)),())
theorem q6n (s:BA) (hs:s.size<=1000000000) (a:Nat) (ha:a<=s.size):∀ (k i acc:Nat),k+i=5->acc < 128 ^ i->q2l s (a:Int) (acc:Int) (i:Int)=some (rvT a (rvG i acc ((bl s).drop (a+i))))
 | 0,i,acc,hk,_=>by
  rw [q6m];have k1:decide ((i:Int) < 5)=false:=dYF (by omega)
  simp only [k1,cF];have:rvG i acc ((bl s).drop (a+i))=none:=by
   cases (bl s).drop (a+i) with
   | nil=>rfl
   | cons c r=>simp only [rvG]; rw [if_pos (by omega)]
  rw [this]; rfl
 | k+1,i,acc,hk,hacc=>by
  rw [q6m];have hi:i < 5:=by omega
  have k1:decide ((i:Int) < 5)=true:=dYT (by omega)
  have k2:w64 ((a:Int)+(i:Int))=((a+i:Nat):Int):=qh (by omega) (by omega)
  have k3:w64 (7 * (i:Int))=7 * (i:Int):=qh (by omega) (by omega)
  have k4:decide (0<=7 * (i:Int))=true:=dYT (by omega)
  simp only [k1,k2,k3,k4,cT,toNat_natCast];have hsz:=yg s;cases hd:(bl s).drop (a+i) with
  | nil=>
   have:(bl s).length<=a+i:=drop_eq_nil_iff.1 hd;have k5:decide (((a+i:Nat):Int) < (s.size:Int))=false:=dYF (by omega)
   simp only [k5,cF];rfl
  | cons c r=>
   have hlt:=q9W hd;have k5:decide (((a+i:Nat):Int) < (s.size:Int))=true:=dYT (by omega)
   have k6:decide (0<=((a+i:Nat):Int))=true:=dYT (by omega)
   have hc:=c.toNat_lt;obtain ⟨hp1,hp2⟩:=qnH hi;have hpp:0 < 128 ^ i:=Nat.pow_pos (by decide)
   have k7:w64 (bt s (a+i))=(c.toNat:Int):=by rw [q9T s hd]; exact qh (by omega) (by omega)
   have e2:tmod (c.toNat:Int) 128=((c.toNat % 128:Nat):Int):=qb5 _ 128;have hm:c.toNat % 128 * 128 ^ i<=127 * 128 ^ i:=Nat.mul_le_mul_right _ (by omega)
   generalize hq:c.toNat % 128 * 128 ^ i=q at hm;have e3:((c.toNat % 128:Nat):Int) * 128 ^ i=(q:Int):=by rw [<- hq]; simp
   have k8:w64 (q:Int)=(q:Int):=qh (by omega) (by omega)
   have k9:w64 ((acc:Int)+(q:Int))=((acc+q:Nat):Int):=qh (by omega) (by omega)
   have k10:w64 ((i:Int)+1)=((i+1:Nat):Int):=qo (by omega)
   simp only [k5,k6,cT,Bool.and_self,k7,e2,qpQ hi,e3,k8,k9,k10];rw [show rvG i acc (c::r)=if 5<=i then none else if c.toNat < 128 then (if acc+c.toNat % 128 * 128 ^ i<=1000000000/\(vL (acc+c.toNat % 128 * 128 ^ i)).length=i+1 then some (acc+c.toNat % 128 * 128 ^ i,i+1) else none) else rvG (i+1) (acc+c.toNat % 128 * 128 ^ i) r from rfl,if_neg (by omega),hq]
   by_cases hl:c.toNat < 128
   ·have k11:decide ((c.toNat:Int) < 128)=true:=dYT (by omega)
    rw [if_pos hl];simp only [k11,cT,q0Q,oB];by_cases h9:acc+q<=1000000000
    ·rw [if_pos (show (0:Int)<=((acc+q:Nat):Int)/\((acc+q:Nat):Int)<=1000000000 by omega)]
     simp only [Bool.not_true,cF,toNat_natCast,qF];have k12:w64 (((a+i:Nat):Int)+1)=((a+i+1:Nat):Int):=qo (by omega)
     by_cases hL:(vL (acc+q)).length=i+1
     ·have k13:(((vL (acc+q)).length:Int) != ((i+1:Nat):Int))=false:=by rw [hL]; simp
      simp only [k13,cF,k12,if_pos (And.intro h9 hL)];rfl
     ·have k13:(((vL (acc+q)).length:Int) != ((i+1:Nat):Int))=true:=by
       rw [bne_iff_ne]; omega
      simp only [k13,cT,if_neg (fun (h:_/\_)=>hL h.2)]
      rfl
    ·rw [if_neg (show ¬ ((0:Int)<=((acc+q:Nat):Int)/\((acc+q:Nat):Int)<=1000000000) by omega),if_neg (fun (h:_/\_)=>h9 h.1)]
     simp only [Bool.not_false,cT];rfl
   ·have k11:decide ((c.toNat:Int) < 128)=false:=dYF (by omega)
    rw [if_neg hl];simp only [k11,cF];rw [q6n s hs a ha k (i+1) (acc+q) (by omega) (by omega),<- Nat.add_assoc,q48 hd]
theorem qlL (s:BA) (a:Nat) (ha:a<=s.size):rvT a (rvG 0 0 ((bl s).drop a))=(rvO s (a:Int),()):=by
 unfold rvO;rw [if_pos (by omega),toNat_natCast]
 show rvT a (rvar ((bl s).drop a))=_;cases rvar ((bl s).drop a) with
 | none=>rfl
 | some p=>simp only [rvT]; rw [Int.natCast_add]
theorem q4B (s:BA) (hs:s.size<=1000000000) (a:Int):q2M s a=some (rvO s a,()):=by
 rw [qfs,zW];simp only [oB];by_cases h:0<=a/\a<=(s.size:Int)
 ·have e:inB a 0 (s.size:Int)=true:=by unfold inB; simp [h]
  simp only [e,Bool.not_true,cF];obtain ⟨m,rfl⟩:∃ m:Nat,a=(m:Int):=⟨a.toNat,by omega⟩
  rw [show (0:Int)=((0:Nat):Int) from rfl,q6n s hs m (by omega) 5 0 0 rfl (by decide)]
  exact congrArg some (qlL s m (by omega))
 ·have e:inB a 0 (s.size:Int)=false:=by
   unfold inB;rw [<- not_eq_true,and_eq_true,decide_eq_true_eq,decide_eq_true_eq]; exact h
  simp only [e,Bool.not_false,cT];unfold rvO;rw [if_neg h]
theorem qpV {p:List UInt8} {c:UInt8} (hp:∀ x∈p,128<=x.toNat) (hc:c.toNat < 128):(vL (vV p+c.toNat % 128 * 128 ^ p.length)).length=p.length+1↔vL (vV p+c.toNat % 128 * 128 ^ p.length)=p++[c]:=by
 have hf:=qba hp hc;have hv:vV (p++[c])=vV p+c.toNat % 128 * 128 ^ p.length:=by
  rw [q8W];simp only [vV];rw [Nat.mul_zero,Nat.add_zero,Nat.mul_comm]
 have hk:=(q9Q hf).2;rw [hv] at hk;constructor
 ·intro h;exact hk (by rw [h,length_append]; rfl)
 ·intro h;rw [h,length_append]; rfl
theorem qp9:∀ p:List UInt8,vV p < 128 ^ p.length
 | []=>by decide
 | c::p=>by
  have:=qp9 p;simp only [vV,length_cons,Nat.pow_succ];omega
theorem q70 (s:BA) (hs:s.size<=1000000000) (a:Nat) (ha:a<=s.size):∀ (k i acc sc:Nat) (p:List UInt8),k+i=5->p.length=i->(∀ x∈p,128<=x.toNat)->acc=vV p->sc=128 ^ i->(bl s).drop a=p++(bl s).drop (a+i)->q2A s (a:Int) (acc:Int) (sc:Int) ((a+i:Nat):Int)=some (rvT a (rvG i acc ((bl s).drop (a+i))))
 | 0,i,acc,sc,p,hk,hpl,hp,hacc,hsc,hdr=>by
  rw [q6Z];have k3:w64 ((a:Int)+5)=(a:Int)+5:=qh (by omega) (by omega)
  have k1:decide (((a+i:Nat):Int) < (a:Int)+5)=false:=dYF (by omega)
  have:rvG i acc ((bl s).drop (a+i))=none:=by
   cases (bl s).drop (a+i) with
   | nil=>rfl
   | cons c r=>simp only [rvG]; rw [if_pos (by omega)]
  rw [this];simp only [k3,k1,cF];by_cases h:((a+i:Nat):Int) < (s.size:Int)
  ·simp only [dYT h,cT]; rfl
  ·simp only [dYF h,cF]; rfl
 | k+1,i,acc,sc,p,hk,hpl,hp,hacc,hsc,hdr=>by
  rw [q6Z];have hi:i < 5:=by omega
  have hsz:=yg s;have k3:w64 ((a:Int)+5)=(a:Int)+5:=qh (by omega) (by omega)
  have k1:decide (((a+i:Nat):Int) < (a:Int)+5)=true:=dYT (by omega)
  simp only [k3,k1,cT,toNat_natCast];cases hd:(bl s).drop (a+i) with
  | nil=>
   have:(bl s).length<=a+i:=drop_eq_nil_iff.1 hd;have k5:decide (((a+i:Nat):Int) < (s.size:Int))=false:=dYF (by omega)
   simp only [k5,cF];rfl
  | cons c r=>
   have hlt:=q9W hd;have k5:decide (((a+i:Nat):Int) < (s.size:Int))=true:=dYT (by omega)
   have k6:decide (0<=((a+i:Nat):Int))=true:=dYT (by omega)
   have hc:=c.toNat_lt;obtain ⟨hp1,hp2⟩:=qnH hi;have hpp:0 < 128 ^ i:=Nat.pow_pos (by decide)
   have hb:bt s (a+i)=(c.toNat:Int):=q9T s hd;have k7:w64 (c.toNat:Int)=(c.toNat:Int):=qh (by omega) (by omega)
   have e2:tmod (c.toNat:Int) 128=((c.toNat % 128:Nat):Int):=qb5 _ 128;have hm:c.toNat % 128 * 128 ^ i<=127 * 128 ^ i:=Nat.mul_le_mul_right _ (by omega)
   have hacc2:acc < 128 ^ i:=by rw [hacc,<- hpl]; exact qp9 p
   have hL:(vL (acc+c.toNat % 128 * 128 ^ i)).length=i+1↔vL (acc+c.toNat % 128 * 128 ^ i)=p++[c]\/¬ c.toNat < 128/\(vL (acc+c.toNat % 128 * 128 ^ i)).length=i+1:=by
    by_cases hl:c.toNat < 128
    ·have:=qpV hp hl;rw [hpl,<- hacc] at this;simp [this,hl]
    ·simp only [hl,not_false_eq_true,true_and];constructor
     ·exact .inr
     ·rintro (h | h)
      ·rw [h,length_append,hpl]; rfl
      ·exact h
   generalize hq:c.toNat % 128 * 128 ^ i=q at hm hL;have e3:((c.toNat % 128:Nat):Int) * (sc:Int)=(q:Int):=by rw [hsc,<- hq]; simp
   have k8:w64 (q:Int)=(q:Int):=qh (by omega) (by omega)
   have k9:w64 ((acc:Int)+(q:Int))=((acc+q:Nat):Int):=qh (by omega) (by omega)
   have k12:w64 (((a+i:Nat):Int)+1)=((a+i+1:Nat):Int):=qo (by omega)
   have k13:w64 ((sc:Int) * 128)=((128 ^ (i+1):Nat):Int):=by
    rw [hp2,hsc];have:(((128 ^ i:Nat):Int) * 128)=((128 * 128 ^ i:Nat):Int):=by
     rw [Nat.mul_comm]; simp
    rw [this];exact qh (by omega) (by omega)
   simp only [k5,k6,cT,Bool.and_self,hb,k7,e2,e3,k8,k9,k12,k13];rw [show rvG i acc (c::r)=if 5<=i then none else if c.toNat < 128 then (if acc+c.toNat % 128 * 128 ^ i<=1000000000/\(vL (acc+c.toNat % 128 * 128 ^ i)).length=i+1 then some (acc+c.toNat % 128 * 128 ^ i,i+1) else none) else rvG (i+1) (acc+c.toNat % 128 * 128 ^ i) r from rfl,if_neg (by omega),hq]
   by_cases hl:c.toNat < 128
   ·have k11:decide ((c.toNat:Int) < 128)=true:=dYT (by omega)
    rw [if_pos hl];simp only [k11,cT];by_cases h9:acc+q<=1000000000
    ·have k14:decide (((acc+q:Nat):Int) > 1000000000)=false:=dYF (by omega)
     have k15:decide (0<=(a:Int))=true:=dYT (by omega)
     have k16:decide ((a:Int)<=((a+i+1:Nat):Int))=true:=dYT (by omega)
     have k17:decide (((a+i+1:Nat):Int)<=(s.size:Int))=true:=dYT (by omega)
     simp only [k14,cF,wP (show acc+q<=1000000000000 by omega),oB,k15,k16,k17,Bool.and_self,cT,qV,toNat_natCast]
     have hx:bOf (vL (acc+q))=s.extract a (a+i+1)↔(vL (acc+q)).length=i+1:=by
      rw [hL];simp only [hl,not_true_eq_false,false_and,or_false];have:bl (s.extract a (a+i+1))=p++[c]:=by
       rw [q1V,hdr,hd,show a+i+1 - a=(p++[c]).length by rw [length_append,hpl,length_singleton]; omega,show p++c::r=(p++[c])++r by simp]
       exact q53 _ _
      constructor
      ·intro h; rw [<- this,<- h]
      ·intro h; exact zh (by rw [this,yT,h])
     by_cases hL':(vL (acc+q)).length=i+1
     ·simp only [dYT (hx.2 hL'),Bool.not_true,cF,if_pos (And.intro h9 hL')];rfl
     ·simp only [dYF (fun h=>hL' (hx.1 h)),Bool.not_false,cT,if_neg (fun (h:_/\_)=>hL' h.2)]
      rfl
    ·have k14:decide (((acc+q:Nat):Int) > 1000000000)=true:=dYT (by omega)
     rw [if_neg (fun (h:_/\_)=>h9 h.1)]
     simp only [k14,cT];rfl
   ·have k11:decide ((c.toNat:Int) < 128)=false:=dYF (by omega)
    rw [if_neg hl];simp only [k11,cF];have e4:((a+i+1:Nat):Int)=((a+(i+1):Nat):Int):=rfl;rw [e4,q70 s hs a ha k (i+1) (acc+q) (128 ^ (i+1)) (p++[c]) (by omega) (by rw [length_append,hpl]; rfl) (fun x hx=>by
     rcases List.mem_append.1 hx with hx | hx
     ·exact hp x hx
     ·rw [List.mem_singleton.1 hx]; omega) (by
      rw [q8W,<- hacc,hpl,<- hq];simp only [vV];rw [Nat.mul_zero,Nat.add_zero,Nat.mul_comm]) rfl (by
      rw [<- Nat.add_assoc,q48 hd,hdr,hd]; simp),<- Nat.add_assoc,q48 hd]
theorem q9i (s:BA) (hs:s.size<=1000000000) (a:Int):q4Z s a=some (rvO s a,()):=by
 rw [qg5,zO];simp only [oB];by_cases h:0<=a/\a<=(s.size:Int)
 ·have e:inB a 0 (s.size:Int)=true:=by unfold inB; simp [h]
  simp only [e,Bool.not_true,cF];obtain ⟨m,rfl⟩:∃ m:Nat,a=(m:Int):=⟨a.toNat,by omega⟩
  have:=q70 s hs m (by omega) 5 0 0 1 [] rfl rfl (fun x hx=>by cases hx) rfl rfl rfl
  exact this.trans (congrArg some (qlL s m (by omega)))
 ·have e:inB a 0 (s.size:Int)=false:=by
   unfold inB;rw [<- not_eq_true,and_eq_true,decide_eq_true_eq,decide_eq_true_eq]; exact h
  simp only [e,Bool.not_false,cT];unfold rvO;rw [if_neg h]
theorem qcr {α:Type} (l:List α) (d:α) {R:Type} (F:Nat->R) (G:List α->R) (h0:F l.length=G []) (h1:∀ i x r,l.drop i=x::r->i < l.length->l.getD i d=x->F (i+1)=G r->F i=G (x::r)):F 0=G l:=by
 have key:∀ (k i:Nat),k+i=l.length->F i=G (l.drop i):=by
  intro k;induction k with
  | zero=>intro i hi; rw [show i=l.length by omega,List.drop_length]; exact h0
  | succ k ih=>
   intro i hi;have hlt:i < l.length:=by omega
   have hd:l.drop i=l[i]::l.drop (i+1):=List.drop_eq_getElem_cons hlt;rw [hd];exact h1 i l[i] _ hd hlt (zC hlt) (ih (i+1) (by omega))
 have:=key l.length 0 (by omega)
 rwa [drop_zero] at this
theorem q6r (s:BA) (z:Int):∀ (k i:Nat),k+i=8->∀ x:Int,q0O x s z (i:Int)=q0N (rndN k x) s (w64 (z+1))
 | 0,i,hk,x=>by
  rw [q6q];have k1:decide ((i:Int) < 8)=false:=dYF (by omega)
  simp only [k1,cF]; rfl
 | k+1,i,hk,x=>by
  rw [q6q];have k1:decide ((i:Int) < 8)=true:=dYT (by omega)
  have k4:w64 ((i:Int)+1)=((i+1:Nat):Int):=qo (by omega)
  simp only [k1,cT,k4,q6r s z k (i+1) (by omega)]
  have:rndN (k+1) x=rndN k (rnd1 x):=rfl;rw [this];unfold rnd1;cases (tmod x 2==1)<;>rfl
theorem q73 (s:BA) (z:Int):∀ (k i:Nat),k+i=8->∀ x:Int,q12 x s z (i:Int)=q11 (rndN k x) s (w64 (z+1))
 | 0,i,hk,x=>by
  rw [q72];have k1:decide ((i:Int) < 8)=false:=dYF (by omega)
  simp only [k1,cF]; rfl
 | k+1,i,hk,x=>by
  rw [q72];have k1:decide ((i:Int) < 8)=true:=dYT (by omega)
  have k4:w64 ((i:Int)+1)=((i+1:Nat):Int):=qo (by omega)
  simp only [k1,cT,k4,q73 s z k (i+1) (by omega)]
  have:rndN (k+1) x=rndN k (rnd1 x):=rfl;rw [this];unfold rnd1;cases (tmod x 2==1)<;>rfl
theorem qmV {n:Int} (h0:0<=n) (h1:n<=4294967295):IntKind.u32.wrap n=n:=by
 have e:IntKind.u32.wrap n=if IntKind.u32.signed&&decide ((n % 4294967296)>=2147483648) then n % 4294967296 - 4294967296 else n % 4294967296:=rfl
 rw [e,show IntKind.u32.signed=false from rfl,Bool.false_and,if_neg (by decide)]
 omega
theorem qkt (c:UInt8):IntKind.u32.wrap (c.toNat:Int)=(c.toNat:Int):=by
 have:=c.toNat_lt;exact qmV (by omega) (by omega)
theorem qfv (s:BA) (hs:s.size<=1000000000) (x:Int):q8k x s=some (sumL x (bl s),()):=by
 rw [qfu];have hsz:=yg s;have key:=qcr (bl s) 0 (fun i=>fun x=>q0N x s (i:Int)) (fun l=>fun x=>some (sumL x l,())) (by
  funext x
  rw [q6p];have k1:decide (((bl s).length:Int) < (s.size:Int))=false:=dYF (by omega)
  simp only [k1,cF]; rfl) (fun i c r hd hlt _ ih=>by
  funext x
  rw [q6p];have k1:decide ((i:Int) < (s.size:Int))=true:=dYT (by omega)
  have k2:decide (0<=(i:Int))=true:=dYT (by omega)
  have k4:w64 ((i:Int)+1)=((i+1:Nat):Int):=qo (by omega)
  simp only [k1,k2,Bool.and_self,cT,toNat_natCast,q9T s hd,qkt];have h8:=q6r s (i:Int) 8 0 rfl;rw [show (0:Int)=((0:Nat):Int) from rfl,h8,k4]
  exact congrFun ih _)
 exact congrFun key x
theorem qg8 (s:BA) (hs:s.size<=1000000000) (x:Int):q8M x s=some (sumL x (bl s),()):=by
 rw [qg7];have hsz:=yg s;have key:=qcr (bl s) 0 (fun i=>fun x=>q11 x s (i:Int)) (fun l=>fun x=>some (sumL x l,())) (by
  funext x
  rw [q71];have k1:decide (((bl s).length:Int) < (s.size:Int))=false:=dYF (by omega)
  simp only [k1,cF]; rfl) (fun i c r hd hlt _ ih=>by
  funext x
  rw [q71];have k1:decide ((i:Int) < (s.size:Int))=true:=dYT (by omega)
  have k2:decide (0<=(i:Int))=true:=dYT (by omega)
  have k4:w64 ((i:Int)+1)=((i+1:Nat):Int):=qo (by omega)
  simp only [k1,k2,Bool.and_self,cT,toNat_natCast,q9T s hd,qkt];have h8:=q73 s (i:Int) 8 0 rfl;rw [show (0:Int)=((0:Nat):Int) from rfl,h8,k4]
  exact congrFun ih _)
 exact congrFun key x
theorem qiE (s:BA) (hs:s.size<=1000000000):qaF s=some (sumL 4294967295 (bl s),()):=by
 rw [qiD,qfv s hs]; rfl
theorem qiW (s:BA) (hs:s.size<=1000000000):qb1 s=some (sumL 4294967295 (bl s),()):=by
 rw [qiV,qg8 s hs]; rfl
theorem shr0 (x:Int):shrI .u32 x 0=x:=by
 rw [qlP];show x.fdiv (2 ^ (min 0 IntKind.u32.bits))=x;rw [Nat.zero_min,Int.pow_zero,Int.fdiv_one]
theorem qlm (x:Int):q31 [IntKind.u8.wrap (shrI .u32 x 24),IntKind.u8.wrap (shrI .u32 x 16),IntKind.u8.wrap (shrI .u32 x 8),IntKind.u8.wrap x]=bOf (q0K x):=by
 unfold q31 q0K;simp only [map_cons,List.map_nil,shr0]
theorem qgk (x:Int):q8Q x=some (bOf (q0K x),()):=by
 rw [qgj];exact congrArg (fun y=>some (y,())) (qlm x)
noncomputable def frO (s:BA):BA×Bool:=if 1<=s.size/\s.size<=9000 then (bOf (frL s),true) else (eB,false)
theorem qi1 (s:BA):(bOf (vL s.size)++bOf (q0K (sumL 4294967295 (bl s))))++s=bOf (frL s):=zh (by
 rw [jK,jK,yT,yT,yT];unfold frL;rw [append_assoc])
theorem qd7 (n:Nat) {a b:Nat}:inB (n:Int) (a:Int) (b:Int)=decide (a<=n/\n<=b):=by
 unfold inB;rw [Bool.eq_iff_iff];simp only [and_eq_true,decide_eq_true_eq];omega
theorem q28 (s:BA):q10 s=some (frO s,()):=by
 rw [qiU,zO];unfold frO;rw [show inB (s.size:Int) 1 9000=decide (1<=s.size/\s.size<=9000) from qd7 _]
 by_cases h:1<=s.size/\s.size<=9000
 ·have hv:=wQ (show s.size<=1000000000 by omega)
  have k1:limS ((bOf (vL s.size)).size+(bOf (q0K (sumL 4294967295 (bl s)))).size)=true:=qY (by rw [qF (vL s.size),qF (q0K _),q4b]; omega)
  have k2:limS ((bOf (vL s.size)++bOf (q0K (sumL 4294967295 (bl s)))).size+s.size)=true:=qY (by rw [size_append,qF (vL s.size),qF (q0K _),q4b]; omega)
  simp only [dYT h,oB,Bool.not_true,cF,wP (show s.size<=1000000000000 by omega),qiW s (by omega),qgk,k1,k2,cT,qi1,if_pos h]
 ·simp only [dYF h,oB,Bool.not_false,cT,if_neg h]
theorem q7d (s:BA):q3d s=some (frO s,()):=by
 rw [qiC,zW];unfold frO;rw [show inB (s.size:Int) 1 9000=decide (1<=s.size/\s.size<=9000) from qd7 _]
 by_cases h:1<=s.size/\s.size<=9000
 ·have hv:=wQ (show s.size<=1000000000 by omega)
  have k1:limS ((bOf (vL s.size)).size+(bOf (q0K (sumL 4294967295 (bl s)))).size)=true:=qY (by rw [qF (vL s.size),qF (q0K _),q4b]; omega)
  have k2:limS ((bOf (vL s.size)++bOf (q0K (sumL 4294967295 (bl s)))).size+s.size)=true:=qY (by rw [size_append,qF (vL s.size),qF (q0K _),q4b]; omega)
  have hx:(⟨List.toArray (map (fun n=>UInt8.ofNat (toNat n)) [IntKind.u8.wrap (shrI .u32 (sumL 4294967295 (bl s)) 24),IntKind.u8.wrap (shrI .u32 (sumL 4294967295 (bl s)) 16),IntKind.u8.wrap (shrI .u32 (sumL 4294967295 (bl s)) 8),IntKind.u8.wrap (sumL 4294967295 (bl s))])⟩:BA)=bOf (q0K (sumL 4294967295 (bl s))):=qlm _
  simp only [dYT h,oB,Bool.not_true,cF,q0Q,qiE s (show s.size<=1000000000 by omega),if_pos (show (0:Int)<=(s.size:Int)/\(s.size:Int)<=1000000000 by omega),toNat_natCast,hx,k1,k2,cT,qi1,if_pos h]
 ·simp only [dYF h,oB,Bool.not_false,cT,if_neg h]
theorem qku {f:Nat} {l:List UInt8} (h:fr1 l=none):unf f l=([],0):=by
 cases f with
 | zero=>rfl
 | succ f=>simp only [unf,h]
theorem qkv {f:Nat} {l:List UInt8} {t:BA} {m:Nat} (h:fr1 l=some (t,m)):unf (f+1) l=(t::(unf f (l.drop m)).1,m+(unf f (l.drop m)).2):=by
 simp only [unf,h]
theorem qcC (s:BA) (a:Nat) (ha:a<=s.size):rvO s (a:Int)=match rvar ((bl s).drop a) with | some (n,k)=>((n:Int),((a:Int)+(k:Int),true)) | none=>(0,(0,false)):=by
 unfold rvO;rw [if_pos (by omega),toNat_natCast]
 all_goals (cases rvar ((bl s).drop a)<;>rfl)
theorem qhm {l:List UInt8} {a:Nat} {n k:Nat} (h:rvar (l.drop a)=some (n,k)):n<=1000000000/\0 < k/\a+k<=l.length:=by
 obtain ⟨h1,h2,_,h4⟩:=q8E h;rw [length_drop] at h4;exact ⟨h1,h2,by omega⟩
theorem qa0 {l:List UInt8} {n k:Nat} (h:rvar l=some (n,k)) (hc:¬ (n+k+4<=l.length/\1<=n/\n<=9000/\frL (bOf ((l.drop (k+4)).take n))=l.take (k+4+n))):fr1 l=none:=by
 unfold fr1;simp only [h,if_neg hc]
theorem qln {l:List UInt8} {n k:Nat} (h:rvar l=some (n,k)) (hc:n+k+4<=l.length/\1<=n/\n<=9000/\frL (bOf ((l.drop (k+4)).take n))=l.take (k+4+n)):fr1 l=some (bOf ((l.drop (k+4)).take n),k+4+n):=by
 unfold fr1;simp only [h,if_pos hc]
theorem qni {l:List UInt8} (h:rvar l=none):fr1 l=none:=by
 unfold fr1;simp only [h]
theorem qcg (s:BA) (hs:s.size<=20000):∀ (f a:Nat) (acc:List BA),a+f=s.size+1->acc.length<=a->q2n s acc (a:Int)=some ((acc++(unf f ((bl s).drop a)).1,((a+(unf f ((bl s).drop a)).2:Nat):Int)),()):=by
 intro f;induction f using Nat.strongRecOn with
 | ind f ih=>
  intro a acc hf hacc;have hsz:=yg s;have stop:∀ g,fr1 ((bl s).drop a)=none->some ((acc,(a:Int)),())=some ((acc++(unf g ((bl s).drop a)).1,((a+(unf g ((bl s).drop a)).2:Nat):Int)),()):=fun g h=>by
   rw [qku h,append_nil]; rfl
  rw [qcf,q4B s (by omega)]
  simp only [oB];by_cases ha:a<=s.size
  ·rw [qcC s a ha];cases hr:rvar ((bl s).drop a) with
   | none=>
    simp only [Bool.not_false,cT];exact stop f (qni hr)
   | some p=>
    obtain ⟨n,k⟩:=p;obtain ⟨hn,hk,hak⟩:=qhm hr;have hdl:((bl s).drop a).length=s.size - a:=by rw [length_drop,hsz]
    simp only [Bool.not_true,cF];have w1:w64 ((s.size:Int) - ((a:Int)+(k:Int)))=(s.size:Int) - ((a:Int)+(k:Int)):=qh (by omega) (by omega)
    have w2:w64 ((s.size:Int) - ((a:Int)+(k:Int)) - 4)=(s.size:Int) - ((a:Int)+(k:Int)) - 4:=qh (by omega) (by omega)
    have w3:w64 ((a:Int)+(k:Int)+4)=((a+k+4:Nat):Int):=qh (by omega) (by omega)
    have w4:w64 (((a+k+4:Nat):Int)+(n:Int))=((a+k+4+n:Nat):Int):=qh (by omega) (by omega)
    simp only [w1,w2,w3,w4];by_cases hb:(n:Int) > (s.size:Int) - ((a:Int)+(k:Int)) - 4
    ·simp only [dYT hb,cT];exact stop f (qa0 hr fun h=>by rw [hdl] at h; omega)
    ·have q1:decide (0<=((a+k+4:Nat):Int))=true:=dYT (by omega)
     have q2:decide (((a+k+4:Nat):Int)<=((a+k+4+n:Nat):Int))=true:=dYT (by omega)
     have q3:decide (((a+k+4+n:Nat):Int)<=(s.size:Int))=true:=dYT (by omega)
     have q4:decide (0<=(a:Int))=true:=dYT (by omega)
     have q5:decide ((a:Int)<=((a+k+4+n:Nat):Int))=true:=dYT (by omega)
     simp only [dYF hb,cF,q1,q2,q3,q4,q5,Bool.and_self,cT,q7d,oB,toNat_natCast,qV];have hx:s.extract (a+k+4) (a+k+4+n)=bOf ((((bl s).drop a).drop (k+4)).take n):=zh (by
      rw [q1V,yT,drop_drop]; congr 1<;>first | omega | (congr 1; omega))
     have hy:bl (s.extract a (a+k+4+n))=((bl s).drop a).take (k+4+n):=by
      rw [q1V]; congr 1; omega
     have hxs:(bOf ((((bl s).drop a).drop (k+4)).take n)).size=n:=by
      rw [qF,List.length_take,length_drop,hdl]; omega
     rw [hx];unfold frO;rw [hxs];by_cases h9:1<=n/\n<=9000
     ·simp only [if_pos h9,Bool.not_true,cF];by_cases he:frL (bOf ((((bl s).drop a).drop (k+4)).take n))=((bl s).drop a).take (k+4+n)
      ·have q6:bOf (frL (bOf ((((bl s).drop a).drop (k+4)).take n)))=s.extract a (a+k+4+n):=zh (by rw [yT,hy,he])
       have q7:lim (acc.length+1) 16=true:=qZ (by omega)
       have hyes:=qln hr ⟨by rw [hdl]; omega,h9.1,h9.2,he⟩
       simp only [dYT q6,Bool.not_true,cF,q7,cT];obtain ⟨g,rfl⟩:∃ g,f=g+1:=⟨f - 1,by omega⟩
       obtain ⟨d,hd⟩:∃ d,d+(k+4+n)=g+1:=⟨g+1 - (k+4+n),by omega⟩
       rw [ih d (by omega) (a+k+4+n) _ (by omega) (by rw [length_append,length_singleton]; omega),qkv hyes,show ((bl s).drop a).drop (k+4+n)=(bl s).drop (a+k+4+n) by rw [drop_drop]; congr 1; omega,q5Y d g _ (by rw [length_drop]; omega) (by rw [length_drop]; omega)]
       simp only [append_assoc,List.singleton_append];congr 4; omega
      ·have q6:¬ bOf (frL (bOf ((((bl s).drop a).drop (k+4)).take n)))=s.extract a (a+k+4+n):=fun h=>he (by rw [<- hy,<- h])
       simp only [dYF q6,Bool.not_false,cT];exact stop f (qa0 hr fun h=>he h.2.2.2)
     ·simp only [if_neg h9,Bool.not_false,cT];exact stop f (qa0 hr fun h=>h9 ⟨h.2.1,h.2.2.1⟩)
  ·have:rvO s (a:Int)=(0,(0,false)):=by unfold rvO; rw [if_neg (by omega)]
   rw [this];simp only [Bool.not_false,cT];refine stop f ?_;rw [List.drop_eq_nil_of_le (by omega)]; exact q9Z
noncomputable def unO (s:BA):List BA×Int:=if s.size<=20000 then ((unfr (bl s)).1,((unfr (bl s)).2:Int)) else ([],0)
theorem q4E (s:BA):q2N s=some (unO s,()):=by
 rw [qfB];unfold unO;by_cases h:s.size<=20000
 ·have k1:decide ((s.size:Int) > 20000)=false:=dYF (by omega)
  have hk:=qcg s h (s.size+1) 0 [] (by omega) (le_refl _)
  simp only [k1,cF,if_pos h];have e:unf (s.size+1) ((bl s).drop 0)=unfr (bl s):=q5Y _ _ _ (by rw [drop_zero,yg]; omega) (le_refl _)
  rw [e] at hk;simpa using hk
 ·have k1:decide ((s.size:Int) > 20000)=true:=dYT (by omega)
  simp only [k1,cT,if_neg h]
theorem qcK (s:BA) (hs:s.size<=20000):∀ (f a:Nat) (acc:List BA),a+f=s.size+1->acc.length<=a->q2B s acc (a:Int)=some ((acc++(unf f ((bl s).drop a)).1,((a+(unf f ((bl s).drop a)).2:Nat):Int)),()):=by
 intro f;induction f using Nat.strongRecOn with
 | ind f ih=>
  intro a acc hf hacc;have hsz:=yg s;have stop:∀ g,fr1 ((bl s).drop a)=none->some ((acc,(a:Int)),())=some ((acc++(unf g ((bl s).drop a)).1,((a+(unf g ((bl s).drop a)).2:Nat):Int)),()):=fun g h=>by
   rw [qku h,append_nil]; rfl
  rw [qcJ,q9i s (by omega)]
  simp only [oB];by_cases ha:a < s.size
  ·have k0:decide ((a:Int) < (s.size:Int))=true:=dYT (by omega)
   rw [qcC s a (Nat.le_of_lt ha)];simp only [k0,cT];cases hr:rvar ((bl s).drop a) with
   | none=>
    simp only [Bool.not_false,cT];exact stop f (qni hr)
   | some p=>
    obtain ⟨n,k⟩:=p;obtain ⟨hn,hk,hak⟩:=qhm hr;have hdl:((bl s).drop a).length=s.size - a:=by rw [length_drop,hsz]
    simp only [Bool.not_true,cF];have w1:w64 ((s.size:Int) - ((a:Int)+(k:Int)))=(s.size:Int) - ((a:Int)+(k:Int)):=qh (by omega) (by omega)
    have w2:w64 ((s.size:Int) - ((a:Int)+(k:Int)) - 4)=(s.size:Int) - ((a:Int)+(k:Int)) - 4:=qh (by omega) (by omega)
    have w3:w64 ((a:Int)+(k:Int)+4)=((a+k+4:Nat):Int):=qh (by omega) (by omega)
    have w4:w64 (((a+k+4:Nat):Int)+(n:Int))=((a+k+4+n:Nat):Int):=qh (by omega) (by omega)
    simp only [w1,w2,w3,w4];by_cases hb:(n:Int) > (s.size:Int) - ((a:Int)+(k:Int)) - 4
    ·simp only [dYT hb,cT];exact stop f (qa0 hr fun h=>by rw [hdl] at h; omega)
    ·have q1:decide (0<=((a+k+4:Nat):Int))=true:=dYT (by omega)
     have q2:decide (((a+k+4:Nat):Int)<=((a+k+4+n:Nat):Int))=true:=dYT (by omega)
     have q3:decide (((a+k+4+n:Nat):Int)<=(s.size:Int))=true:=dYT (by omega)
     have q4:decide (0<=(a:Int))=true:=dYT (by omega)
     have q5:decide ((a:Int)<=((a+k+4+n:Nat):Int))=true:=dYT (by omega)
     simp only [dYF hb,cF,q1,q2,q3,q4,q5,Bool.and_self,cT,q28,oB,toNat_natCast,qV];have hx:s.extract (a+k+4) (a+k+4+n)=bOf ((((bl s).drop a).drop (k+4)).take n):=zh (by
      rw [q1V,yT,drop_drop]; congr 1<;>first | omega | (congr 1; omega))
     have hy:bl (s.extract a (a+k+4+n))=((bl s).drop a).take (k+4+n):=by
      rw [q1V]; congr 1; omega
     have hxs:(bOf ((((bl s).drop a).drop (k+4)).take n)).size=n:=by
      rw [qF,List.length_take,length_drop,hdl]; omega
     rw [hx];unfold frO;rw [hxs];by_cases h9:1<=n/\n<=9000
     ·simp only [if_pos h9,Bool.not_true,cF];by_cases he:frL (bOf ((((bl s).drop a).drop (k+4)).take n))=((bl s).drop a).take (k+4+n)
      ·have q6:bOf (frL (bOf ((((bl s).drop a).drop (k+4)).take n)))=s.extract a (a+k+4+n):=zh (by rw [yT,hy,he])
       have q7:lim (acc.length+1) 16=true:=qZ (by omega)
       have hyes:=qln hr ⟨by rw [hdl]; omega,h9.1,h9.2,he⟩
       simp only [dYT q6,Bool.not_true,cF,q7,cT];obtain ⟨g,rfl⟩:∃ g,f=g+1:=⟨f - 1,by omega⟩
       obtain ⟨d,hd⟩:∃ d,d+(k+4+n)=g+1:=⟨g+1 - (k+4+n),by omega⟩
       rw [ih d (by omega) (a+k+4+n) _ (by omega) (by rw [length_append,length_singleton]; omega),qkv hyes,show ((bl s).drop a).drop (k+4+n)=(bl s).drop (a+k+4+n) by rw [drop_drop]; congr 1; omega,q5Y d g _ (by rw [length_drop]; omega) (by rw [length_drop]; omega)]
       simp only [append_assoc,List.singleton_append];congr 4; omega
      ·have q6:¬ bOf (frL (bOf ((((bl s).drop a).drop (k+4)).take n)))=s.extract a (a+k+4+n):=fun h=>he (by rw [<- hy,<- h])
       simp only [dYF q6,Bool.not_false,cT];exact stop f (qa0 hr fun h=>he h.2.2.2)
     ·simp only [if_neg h9,Bool.not_false,cT];exact stop f (qa0 hr fun h=>h9 ⟨h.2.1,h.2.2.1⟩)
  ·have k0:decide ((a:Int) < (s.size:Int))=false:=dYF (by omega)
   simp only [k0,cF];refine stop f ?_;rw [List.drop_eq_nil_of_le (by omega)]; exact q9Z
theorem q9j (s:BA):q37 s=some (unO s,()):=by
 rw [qge];unfold unO;by_cases h:s.size<=20000
 ·have k1:decide ((s.size:Int) > 20000)=false:=dYF (by omega)
  have hk:=qcK s h (s.size+1) 0 [] (by omega) (le_refl _)
  simp only [k1,cF,if_pos h];have e:unf (s.size+1) ((bl s).drop 0)=unfr (bl s):=q5Y _ _ _ (by rw [drop_zero,yg]; omega) (le_refl _)
  rw [e] at hk;simpa using hk
 ·have k1:decide ((s.size:Int) > 20000)=true:=dYT (by omega)
  simp only [k1,cT,if_neg h]
structure RD (s:BA) (c:qz) (st:RS):Prop where
 txt:c.1=s
 lo:0<=c.2.1
 hi:c.2.1<=(s.size:Int)
 bad:c.2.2=st.2
 rest:st.2=false->(bl s).drop c.2.1.toNat=st.1
theorem qaO {st:RS} (h:st.2=true):numR st=(0,st.1,true):=by
 unfold numR;split
 ·simp [h]
 ·rfl
theorem qir {st:RS} (h:st.2=true):qE st=(bOf [],st.1,true):=by
 unfold qE;split
 ·rw [if_pos (.inl h)]
 ·rfl
theorem qbQ {st:RS} (h:st.2=true):(qy st).1=0/\(qy st).2.2=true:=by
 unfold qy;split
 ·simp [h]
 ·exact ⟨rfl,rfl⟩
theorem q1t {s:BA} {c:qz} {st:RS} (h:RD s c st) {st':RS} (hb:st'.2=true):RD s (s,(c.2.1,true)) st':=
 ⟨rfl,h.lo,h.hi,hb.symm,fun h=>by rw [hb] at h; cases h⟩
theorem qfW {s:BA} {m:Nat} (hm:m<=s.size) {l:List UInt8} (hl:(bl s).drop m=l):RD s (s,((m:Int),false)) (l,false):=
 ⟨rfl,Int.natCast_nonneg _,by show (m:Int)<=_; omega,rfl,fun _=>by simpa using hl⟩
theorem qlB {s:BA} (F:qz->Option (Int×(qz×Unit))) (hF:∀ c:qz,c.1=s->F c=bif c.2.2 then some (0,((s,(c.2.1,true)),())) else bif !(rvO s c.2.1).2.2 then some (0,((s,(c.2.1,true)),())) else some ((rvO s c.2.1).1,((s,((rvO s c.2.1).2.1,c.2.2)),()))) {c:qz} {st:RS} (h:RD s c st) :
  ∃ c',F c=some (((numR st).1:Int),(c',()))/\RD s c' (numR st).2:=by
 rw [hF c h.txt];cases hb:c.2.2 with
 | true=>
  have hb':st.2=true:=by rw [<- h.bad]; exact hb
  rw [qaO hb'];exact ⟨_,rfl,q1t h rfl⟩
 | false=>
  have hb':st.2=false:=by rw [<- h.bad]; exact hb
  have hr:=h.rest hb';obtain ⟨m,hm⟩:∃ m:Nat,c.2.1=(m:Int):=⟨c.2.1.toNat,by have:=h.lo; omega⟩
  have hms:m<=s.size:=by have:=h.hi; omega
  rw [hm,toNat_natCast] at hr;rw [hm,qcC s m hms,hr];cases hv:rvar st.1 with
  | none=>
   have:numR st=(0,st.1,true):=by unfold numR; rw [hv]
   rw [this];exact ⟨_,rfl,by rw [<- hm]; exact q1t h rfl⟩
  | some p=>
   obtain ⟨n,k⟩:=p;have:numR st=(n,st.1.drop k,false):=by unfold numR; simp only [hv,hb']; rfl
   rw [this];have:=q8E hv;have hl:=congrArg length hr;rw [length_drop,<- yg] at hl;refine ⟨_,rfl,?_⟩;show RD s (s,(((m+k:Nat):Int),false)) (st.1.drop k,false);exact qfW (by omega) (by rw [<- hr,drop_drop])
theorem qae {s:BA} (hs:s.size<=20000) {c:qz} {st:RS} (h:RD s c st):∃ c',qW c=some (((numR st).1:Int),(c',()))/\RD s c' (numR st).2:=
 qlB _ (fun c hc=>by rw [q1w,hc,q4B s (by omega)]; rfl) h
theorem q2O {s:BA} (hs:s.size<=20000) {c:qz} {st:RS} (h:RD s c st):∃ c',jH c=some (((numR st).1:Int),(c',()))/\RD s c' (numR st).2:=
 qlB _ (fun c hc=>by rw [qhu,hc,q9i s (by omega)]; rfl) h
theorem qcZ {s:BA} (hs:s.size<=20000) {c:qz} {st:RS} (h:RD s c st):∃ c',yF c=some (((qy st).1:Int),(c',()))/\RD s c' (qy st).2:=by
 rw [q1m,h.txt];cases hb:c.2.2 with
 | true=>
  have hb':st.2=true:=by rw [<- h.bad]; exact hb
  obtain ⟨q1,q2⟩:=qbQ hb';rw [q1];exact ⟨_,rfl,q1t h q2⟩
 | false=>
  have hb':st.2=false:=by rw [<- h.bad]; exact hb
  have hr:=h.rest hb';obtain ⟨m,hm⟩:∃ m:Nat,c.2.1=(m:Int):=⟨c.2.1.toNat,by have:=h.lo; omega⟩
  have hms:m<=s.size:=by have:=h.hi; omega
  rw [hm,toNat_natCast] at hr;simp only [hm,cF];have hsz:=yg s;cases hl:st.1 with
  | nil=>
   rw [hl] at hr;have:=drop_eq_nil_iff.1 hr;have k1:decide ((m:Int)>=(s.size:Int))=true:=dYT (by omega)
   simp only [k1,cT];have e:qy st=(0,[],true):=by unfold qy; rw [hl]
   rw [e];exact ⟨_,rfl,by rw [<- hm]; exact q1t h rfl⟩
  | cons x r=>
   rw [hl] at hr;have hlt:=q9W hr;have k1:decide ((m:Int)>=(s.size:Int))=false:=dYF (by omega)
   have w1:w64 ((m:Int)+1)=((m+1:Nat):Int):=qo (by omega)
   have w2:w64 (((m+1:Nat):Int) - 1)=(m:Int):=(qh (by omega) (by omega)).trans (by omega)
   have k2:decide (0<=(m:Int))=true:=dYT (by omega)
   have k3:decide ((m:Int) < (s.size:Int))=true:=dYT (by omega)
   have hx:=x.toNat_lt;have w3:w64 (x.toNat:Int)=(x.toNat:Int):=qh (by omega) (by omega)
   simp only [k1,cF,w1,w2,k2,k3,Bool.and_self,cT,toNat_natCast,q9T s hr,w3];have e:qy st=(x.toNat,r,false):=by unfold qy; simp only [hl,hb']; rfl
   rw [e];exact ⟨_,rfl,qfW (by omega) (q48 hr)⟩
theorem qeU {s:BA} (hs:s.size<=20000) {c:qz} {st:RS} (h:RD s c st):∃ t c',jN c 1=some (t,(c',()))/\RD s c' (qy st).2/\(decide (t=q91)=((qy st).1==1)):=by
 rw [q52,h.txt];cases hb:c.2.2 with
 | true=>
  have hb':st.2=true:=by rw [<- h.bad]; exact hb
  obtain ⟨q1,q2⟩:=qbQ hb';rw [q1];exact ⟨_,_,rfl,q1t h q2,by decide⟩
 | false=>
  have hb':st.2=false:=by rw [<- h.bad]; exact hb
  have hr:=h.rest hb';obtain ⟨m,hm⟩:∃ m:Nat,c.2.1=(m:Int):=⟨c.2.1.toNat,by have:=h.lo; omega⟩
  have hms:m<=s.size:=by have:=h.hi; omega
  rw [hm,toNat_natCast] at hr;have hsz:=yg s;have w0:w64 ((s.size:Int) - (m:Int))=(s.size:Int) - (m:Int):=qh (by omega) (by omega)
  simp only [hm,cF,w0];cases hl:st.1 with
  | nil=>
   rw [hl] at hr;have:=drop_eq_nil_iff.1 hr;have k1:decide ((1:Int) > (s.size:Int) - (m:Int))=true:=dYT (by omega)
   simp only [k1,cT];have e:qy st=(0,[],true):=by unfold qy; rw [hl]
   rw [e];exact ⟨_,_,rfl,by rw [<- hm]; exact q1t h rfl,by decide⟩
  | cons x r=>
   rw [hl] at hr;have hlt:=q9W hr;have k1:decide ((1:Int) > (s.size:Int) - (m:Int))=false:=dYF (by omega)
   have w1:w64 ((m:Int)+1)=((m+1:Nat):Int):=qo (by omega)
   have w2:w64 (((m+1:Nat):Int) - 1)=(m:Int):=(qh (by omega) (by omega)).trans (by omega)
   have k2:decide (0<=(m:Int))=true:=dYT (by omega)
   have k3:decide ((m:Int)<=((m+1:Nat):Int))=true:=dYT (by omega)
   have k4:decide (((m+1:Nat):Int)<=(s.size:Int))=true:=dYT (by omega)
   have hx:=x.toNat_lt;simp only [k1,cF,w1,w2,k2,k3,k4,Bool.and_self,cT,toNat_natCast];have e:qy st=(x.toNat,r,false):=by unfold qy; simp only [hl,hb']; rfl
   rw [e];refine ⟨_,_,rfl,qfW (by omega) (q48 hr),?_⟩
   have:s.extract m (m+1)=bOf [x]:=zh (by rw [q1V,hr,show m+1 - m=1 by omega]; rfl)
   rw [this,Bool.eq_iff_iff,decide_eq_true_eq,beq_iff_eq];constructor
   ·intro h;have:=congrArg bl h;have h:[x]=[(1:UInt8)]:=this;rw [List.head_eq_of_cons_eq h]; rfl
   ·intro h;have:x=1:=UInt8.toNat_inj.1 h;rw [this]
theorem qij {s:BA} {m n k:Nat} {st:RS} (hr:(bl s).drop m=st.1) (hb:st.2=false) (hm:m<=s.size) (hv:rvar st.1=some (n,k)) (hn:n<=20000) (hk:m+k+n<=s.size):qE st=(s.extract (m+k) (m+k+n),st.1.drop (k+n),false)/\RD s (s,(((m+k+n:Nat):Int),false)) (qE st).2:=by
 have hl:=congrArg length hr;rw [length_drop,<- yg] at hl;have e:qE st=(s.extract (m+k) (m+k+n),st.1.drop (k+n),false):=by
  unfold qE;simp only [hv];rw [if_neg (by rw [hb]; simp; omega)]
  congr 1
  refine zh ?_;rw [q1V,yT,<- hr,drop_drop];congr 1; omega
 refine ⟨e,?_⟩;rw [e];exact qfW (by omega) (by rw [<- hr,drop_drop]; congr 1; omega)
theorem qeV {st:RS} {n k:Nat} (hv:rvar st.1=some (n,k)) (h:20000 < n\/st.1.length < n+k):qE st=(bOf [],st.1,true):=by
 unfold qE;simp only [hv];rw [if_pos (.inr h)]
theorem qdm {s:BA} (hs:s.size<=20000) {c:qz} {st:RS} (h:RD s c st):∃ c',yG c=some ((qE st).1,(c',()))/\RD s c' (qE st).2:=by
 rw [q1o,qdt,h.txt,q4B s (by omega)]
 simp only [oB];cases hb:c.2.2 with
 | true=>
  have hb':st.2=true:=by rw [<- h.bad]; exact hb
  rw [qir hb'];simp only [cT];have key:∃ x,(bif !(rvO s c.2.1).2.2 then some ((eB,(0,false)),()) else bif decide ((rvO s c.2.1).1 > 20000) then some ((eB,(0,false)),()) else bif decide ((rvO s c.2.1).1 > w64 ((s.size:Int) - (rvO s c.2.1).2.1)) then some ((eB,(0,false)),()) else bif (decide (0<=(rvO s c.2.1).2.1)&&(decide ((rvO s c.2.1).2.1<=w64 ((rvO s c.2.1).2.1+(rvO s c.2.1).1))&&decide (w64 ((rvO s c.2.1).2.1+(rvO s c.2.1).1)<=(s.size:Int)))) then some ((s.extract (rvO s c.2.1).2.1.toNat (w64 ((rvO s c.2.1).2.1+(rvO s c.2.1).1)).toNat,(w64 ((rvO s c.2.1).2.1+(rvO s c.2.1).1),true)),()) else none:Option ((BA×(Int×Bool))×Unit))=some x:=by
   obtain ⟨m,hm⟩:∃ m:Nat,c.2.1=(m:Int):=⟨c.2.1.toNat,by have:=h.lo; omega⟩
   have hms:m<=s.size:=by have:=h.hi; omega
   rw [hm,qcC s m hms];cases hv:rvar ((bl s).drop m) with
   | none=>exact ⟨_,rfl⟩
   | some p=>
    obtain ⟨n,k⟩:=p;have hq:=qhm hv;have hsz:=yg s;simp only [Bool.not_true,cF];by_cases q1:(n:Int) > 20000
    ·simp only [dYT q1,cT]; exact ⟨_,rfl⟩
    ·simp only [dYF q1,cF];have w0:w64 ((s.size:Int) - ((m:Int)+(k:Int)))=(s.size:Int) - ((m:Int)+(k:Int)):=qh (by omega) (by omega)
     rw [w0];by_cases q2:(n:Int) > (s.size:Int) - ((m:Int)+(k:Int))
     ·simp only [dYT q2,cT]; exact ⟨_,rfl⟩
     ·have w1:w64 ((m:Int)+(k:Int)+(n:Int))=(m:Int)+(k:Int)+(n:Int):=qh (by omega) (by omega)
      rw [w1];simp only [dYF q2,cF,dYT (show 0<=(m:Int)+(k:Int) by omega),dYT (show (m:Int)+(k:Int)<=(m:Int)+(k:Int)+(n:Int) by omega),dYT (show (m:Int)+(k:Int)+(n:Int)<=(s.size:Int) by omega),Bool.and_self,cT]
      exact ⟨_,rfl⟩
  obtain ⟨x,hx⟩:=key;rw [hx];exact ⟨_,rfl,q1t h rfl⟩
 | false=>
  have hb':st.2=false:=by rw [<- h.bad]; exact hb
  have hr:=h.rest hb';obtain ⟨m,hm⟩:∃ m:Nat,c.2.1=(m:Int):=⟨c.2.1.toNat,by have:=h.lo; omega⟩
  have hms:m<=s.size:=by have:=h.hi; omega
  rw [hm,toNat_natCast] at hr;rw [hm,qcC s m hms,hr];have hl:=congrArg length hr;rw [length_drop,<- yg] at hl;have no:qE st=(bOf [],st.1,true)->∃ c',some (eB,((s,((m:Int),true)),()))=some ((qE st).1,(c',()))/\RD s c' (qE st).2:=fun e=>by
   rw [e]; exact ⟨_,rfl,by rw [<- hm]; exact q1t h rfl⟩
  cases hv:rvar st.1 with
  | none=>exact no (by unfold qE; rw [hv])
  | some p=>
   obtain ⟨n,k⟩:=p;have hq:=q8E hv;simp only [Bool.not_true,cF];by_cases q1:(n:Int) > 20000
   ·simp only [dYT q1,cT];exact no (qeV hv (.inl (by omega)))
   ·simp only [dYF q1,cF];have w0:w64 ((s.size:Int) - ((m:Int)+(k:Int)))=(s.size:Int) - ((m:Int)+(k:Int)):=qh (by omega) (by omega)
    rw [w0];by_cases q2:(n:Int) > (s.size:Int) - ((m:Int)+(k:Int))
    ·simp only [dYT q2,cT];exact no (qeV hv (.inr (by omega)))
    ·have w1:w64 ((m:Int)+(k:Int)+(n:Int))=((m+k+n:Nat):Int):=qh (by omega) (by omega)
     rw [w1];obtain ⟨e,hR⟩:=qij hr hb' hms hv (by omega) (by omega)
     simp only [dYF q2,cF,dYT (show 0<=(m:Int)+(k:Int) by omega),dYT (show (m:Int)+(k:Int)<=((m+k+n:Nat):Int) by omega),dYT (show ((m+k+n:Nat):Int)<=(s.size:Int) by omega),Bool.and_self,cT,oB,Bool.not_true]
     refine ⟨_,?_,hR⟩;rw [e]; rfl
theorem q2p {s:BA} (hs:s.size<=20000) {c:qz} {st:RS} (h:RD s c st):∃ c',jl c=some ((qE st).1,(c',()))/\RD s c' (qE st).2:=by
 rw [qb2];obtain ⟨c1,e1,h1⟩:=q2O hs h;rw [e1];simp only [oB];rw [q52,h1.txt];cases hb:st.2 with
 | true=>
  have:(numR st).2.2=true:=by rw [qaO hb]
  have hb1:c1.2.2=true:=by rw [h1.bad]; exact this
  rw [qir hb];simp only [hb1,cT,oB];exact ⟨_,rfl,q1t h1 rfl⟩
 | false=>
  have hr:=h.rest hb;cases hv:rvar st.1 with
  | none=>
   have e:numR st=(0,st.1,true):=by unfold numR; rw [hv]
   have hb1:c1.2.2=true:=by rw [h1.bad,e]
   have e2:qE st=(bOf [],st.1,true):=by unfold qE; rw [hv]
   rw [e2];simp only [hb1,cT,oB];exact ⟨_,rfl,q1t h1 rfl⟩
  | some p=>
   obtain ⟨n,k⟩:=p;have e:numR st=(n,st.1.drop k,false):=by unfold numR; simp only [hv,hb]; rfl
   rw [e] at h1 ⊢;have hb1:c1.2.2=false:=h1.bad;have hr1:=h1.rest rfl;obtain ⟨m,hm⟩:∃ m:Nat,c.2.1=(m:Int):=⟨c.2.1.toNat,by have:=h.lo; omega⟩
   have hms:m<=s.size:=by have:=h.hi; omega
   rw [hm,toNat_natCast] at hr;obtain ⟨q,hq⟩:∃ q:Nat,c1.2.1=(q:Int):=⟨c1.2.1.toNat,by have:=h1.lo; omega⟩
   have hqs:q<=s.size:=by have:=h1.hi; omega
   rw [hq,toNat_natCast] at hr1;have hl:=congrArg length hr;rw [length_drop,<- yg] at hl;have hl1:=congrArg length hr1;rw [length_drop,<- yg,length_drop] at hl1;have hv':=q8E hv;have w0:w64 ((s.size:Int) - (q:Int))=(s.size:Int) - (q:Int):=qh (by omega) (by omega)
   simp only [hb1,cF,hq,w0];by_cases q2:(n:Int) > (s.size:Int) - (q:Int)
   ·rw [qeV hv (.inr (by omega))]
    simp only [dYT q2,cT,oB];exact ⟨_,rfl,by rw [<- hq]; exact q1t h1 rfl⟩
   ·have hqm:q=m+k:=by omega
    subst hqm;have w1:w64 (((m+k:Nat):Int)+(n:Int))=((m+k+n:Nat):Int):=qh (by omega) (by omega)
    have w2:w64 (((m+k+n:Nat):Int) - (n:Int))=((m+k:Nat):Int):=(qh (by omega) (by omega)).trans (by omega)
    obtain ⟨e,hR⟩:=qij hr hb hms hv (by omega) (by omega)
    simp only [dYF q2,cF,w1,w2,dYT (show 0<=((m+k:Nat):Int) by omega),dYT (show ((m+k:Nat):Int)<=((m+k+n:Nat):Int) by omega),dYT (show ((m+k+n:Nat):Int)<=(s.size:Int) by omega),Bool.and_self,cT,oB,toNat_natCast]
    refine ⟨_,?_,hR⟩;rw [e]
def q0Y (p:Option BA) (k:BA):Bool:=match p with | none=>true | some j=>blt j k
theorem qea (l:List UInt8):@length Int (wN (bOf l))=l.length:=length_map ..
def chk:Option BA->List Chg->Bool
 | _,[]=>true
 | p,c::r=>q3O c&&(q0Y p c.1&&chk (some c.1) r)
theorem qjj:∀ (l:List Chg) (a:Chg),chk (some a.1) l=(l.all q3O&&ascB (fun x y=>blt x.1 y.1) (a::l))
 | [],a=>rfl
 | c::l,a=>by
  simp only [chk,q0Y,qjj l c,List.all_cons,ascB];cases q3O c<;>cases blt a.1 c.1<;>cases l.all q3O<;>rfl
theorem qoj (l:List Chg):chk none l=(l.all q3O&&ascB (fun x y=>blt x.1 y.1) l):=by
 cases l with
 | nil=>rfl
 | cons c l=>
  simp only [chk,q0Y,qjj l c,List.all_cons];cases q3O c<;>rfl
theorem qjK (k:BA):q4G k=some (q3C k,()):=by
 rw [qiG,zW];simp only [oB];have:inB (k.size:Int) 1 20=q3C k:=by
  rw [show inB (k.size:Int) 1 20=decide (1<=k.size/\k.size<=20) from qd7 _]
  unfold q3C;rw [Bool.eq_iff_iff]; simp
 rw [this]
theorem qnu (k:BA):yO (k.size:Int) 1 20=some (q3C k,()):=by
 rw [zO];have:inB (k.size:Int) 1 20=q3C k:=by
  rw [show inB (k.size:Int) 1 20=decide (1<=k.size/\k.size<=20) from qd7 _]
  unfold q3C;rw [Bool.eq_iff_iff]; simp
 rw [this]
theorem q9g (v:BA):decide (v=eB)=decide (v.size=0):=by
 rw [Bool.eq_iff_iff,decide_eq_true_eq,decide_eq_true_eq];constructor
 ·intro h; rw [h]; rfl
 ·intro h;refine zh ?_;rw [yg] at h;exact List.eq_nil_of_length_eq_zero h
abbrev dC:Chg:=(eB,(eB,false))
theorem qX {α:Type} {l:List α} {i:Nat} {c:α} {r:List α} (d:α) (h:l.drop i=c::r):l.getD i d=c/\i < l.length/\l.drop (i+1)=r:=by
 have hlt:i < l.length:=by
  have:=congrArg length h;rw [length_drop,length_cons] at this; omega
 have hd:=List.drop_eq_getElem_cons hlt;rw [h] at hd;injection hd with h1 h2;exact ⟨by rw [zC hlt,h1],hlt,h2.symm⟩
theorem q6l (q:Int) (cs:List Chg) (hn:cs.length<=1000000000):∀ (r:List Chg) (i:Nat) (p:Option BA),cs.drop i=r->i<=cs.length->(i=0->p=none)->(0 < i->p=some (cs.getD (i - 1) dC).1)->j5 cs (cs.length:Int) (i:Int) q cs=some (chk p r&&(inB q 0 1000000000&&inB (cs.length:Int) 1 40),())
 | [],i,p,hd,hi,_,_=>by
  have:=drop_eq_nil_iff.1 hd;rw [q6k];have k1:decide ((i:Int) < (cs.length:Int))=false:=dYF (by omega)
  simp only [k1,cF,zW,oB,chk,Bool.true_and];cases inB q 0 1000000000<;>rfl
 | c::r,i,p,hd,hi,h0,hp=>by
  obtain ⟨e1,hlt,e2⟩:=qX dC hd;rw [q6k];have k1:decide ((i:Int) < (cs.length:Int))=true:=dYT (by omega)
  have k2:decide (0<=(i:Int))=true:=dYT (by omega)
  have k4:w64 ((i:Int)+1)=((i+1:Nat):Int):=qo (by omega)
  have ih:=q6l q cs hn r (i+1) (some c.1) e2 hlt (fun h=>by omega) (fun _=>by rw [Nat.add_sub_cancel,e1])
  simp only [k1,k2,k4,Bool.and_self,cT,toNat_natCast,e1,qjK,oB,qV,q9g,ih,chk];unfold q3O;cases hk:q3C c.1 with
  | false=>simp only [Bool.not_false,cT,Bool.false_and]
  | true=>
   simp only [Bool.not_true,cF,Bool.true_and];by_cases h2:c.2.1.size<=2000
   ·have k5:decide ((c.2.1.size:Int) > 2000)=false:=dYF (by omega)
    simp only [k5,cF,dYT h2,Bool.true_and];have hord:(bif decide ((i:Int) > 0) then bif (decide (0<=w64 ((i:Int) - 1))&&decide (w64 ((i:Int) - 1) < (cs.length:Int))) then bif !(Op.bytesLess (cs.getD (w64 ((i:Int) - 1)).toNat dC).1.toList c.1.toList) then some (false,()) else some (chk (some c.1) r&&(inB q 0 1000000000&&inB (cs.length:Int) 1 40),()) else none else some (chk (some c.1) r&&(inB q 0 1000000000&&inB (cs.length:Int) 1 40),()):Option (Bool×Unit))=some (q0Y p c.1&&chk (some c.1) r&&(inB q 0 1000000000&&inB (cs.length:Int) 1 40),()):=by
     by_cases hi0:i=0
     ·rw [h0 hi0];have:decide ((i:Int) > 0)=false:=dYF (by omega)
      simp only [this,cF,q0Y,Bool.true_and]
     ·have q1:decide ((i:Int) > 0)=true:=dYT (by omega)
      have q2:w64 ((i:Int) - 1)=((i - 1:Nat):Int):=(qh (by omega) (by omega)).trans (by omega)
      have q3:decide (0<=((i - 1:Nat):Int))=true:=dYT (by omega)
      have q4:decide (((i - 1:Nat):Int) < (cs.length:Int))=true:=dYT (by omega)
      rw [hp (by omega)]
      simp only [q1,q2,q3,q4,Bool.and_self,cT,toNat_natCast,blt_eq,q0Y];cases blt (cs.getD (i - 1) dC).1 c.1<;>rfl
    rw [hord];cases hg:c.2.2 with
    | false=>simp only [cF,Bool.not_false,Bool.true_or,Bool.true_and]
    | true=>
     simp only [cT,Bool.not_true,Bool.false_or];cases decide (c.2.1.size=0)<;>rfl
   ·have k5:decide ((c.2.1.size:Int) > 2000)=true:=dYT (by omega)
    simp only [k5,cT,dYF h2,Bool.false_and]
theorem qhL (b:Bat):q02 b=(inB b.1 0 1000000000&&(inB (b.2.length:Int) 1 40&&chk none b.2)):=by
 rw [qoj];unfold q02 inB;rw [Bool.eq_iff_iff];simp only [and_eq_true,decide_eq_true_eq];constructor
 ·rintro ⟨h1,h2,h3,h4,h5⟩; exact ⟨⟨h1,h2⟩,⟨by omega,by omega⟩,h5⟩
 ·rintro ⟨⟨h1,h2⟩,⟨h3,h4⟩,h5⟩; exact ⟨h1,h2,by omega,by omega,h5⟩
theorem qfo (b:Bat) (hn:b.2.length<=1000000000):q8e b=some (q02 b,()):=by
 rw [qfn];have:=q6l b.1 b.2 hn b.2 0 none rfl (Nat.zero_le _) (fun _=>rfl) (fun h=>by omega)
 refine (Eq.trans ?_ this).trans ?_
 ·rfl
 ·rw [qhL];cases chk none b.2<;>cases inB b.1 0 1000000000<;>cases inB (b.2.length:Int) 1 40<;>rfl
theorem q6W (q:Int) (cs:List Chg) (hn:cs.length<=1000000000):∀ (r:List Chg) (i:Nat) (p:Option BA),cs.drop i=r->i<=cs.length->(i=0->p=none)->(0 < i->p=some (cs.getD (i - 1) dC).1)->zF (i:Int) q cs=some (chk p r,())
 | [],i,p,hd,hi,_,_=>by
  have:=drop_eq_nil_iff.1 hd;rw [q6V];have k1:decide ((i:Int) < (cs.length:Int))=false:=dYF (by omega)
  simp only [k1,cF,chk]
 | c::r,i,p,hd,hi,h0,hp=>by
  obtain ⟨e1,hlt,e2⟩:=qX dC hd;rw [q6V];have k1:decide ((i:Int) < (cs.length:Int))=true:=dYT (by omega)
  have k2:decide (0<=(i:Int))=true:=dYT (by omega)
  have k4:w64 ((i:Int)+1)=((i+1:Nat):Int):=qo (by omega)
  have ih:=q6W q cs hn r (i+1) (some c.1) e2 hlt (fun h=>by omega) (fun _=>by rw [Nat.add_sub_cancel,e1])
  simp only [k1,k2,k4,Bool.and_self,cT,toNat_natCast,e1,qnu,oB,qV,q9g,ih,chk];unfold q3O;have hbody:(bif decide ((c.2.1.size:Int) > 2000) then some (false,()) else bif c.2.2 then bif !decide (c.2.1.size=0) then some (false,()) else some (chk (some c.1) r,()) else some (chk (some c.1) r,()):Option (Bool×Unit))=some ((decide (c.2.1.size<=2000)&&(!c.2.2||decide (c.2.1.size=0)))&&chk (some c.1) r,()):=by
   by_cases h2:c.2.1.size<=2000
   ·have k5:decide ((c.2.1.size:Int) > 2000)=false:=dYF (by omega)
    simp only [k5,cF,dYT h2,Bool.true_and];cases c.2.2<;>cases decide (c.2.1.size=0)<;>rfl
   ·have k5:decide ((c.2.1.size:Int) > 2000)=true:=dYT (by omega)
    simp only [k5,cT,dYF h2,Bool.false_and]
  rw [hbody];cases hk:q3C c.1 with
  | false=>simp only [Bool.not_false,cT,Bool.false_and]
  | true=>
   simp only [Bool.not_true,cF,Bool.true_and];by_cases hi0:i=0
   ·rw [h0 hi0];have:decide ((i:Int) > 0)=false:=dYF (by omega)
    simp only [this,cF,q0Y,Bool.true_and]
   ·have q1:decide ((i:Int) > 0)=true:=dYT (by omega)
    have q2:w64 ((i:Int) - 1)=((i - 1:Nat):Int):=(qh (by omega) (by omega)).trans (by omega)
    have q3:decide (0<=((i - 1:Nat):Int))=true:=dYT (by omega)
    have q4:decide (((i - 1:Nat):Int) < (cs.length:Int))=true:=dYT (by omega)
    rw [hp (by omega)]
    simp only [q1,q2,q3,q4,Bool.and_self,cT,toNat_natCast,blt_eq,q0Y];cases blt (cs.getD (i - 1) dC).1 c.1<;>cases (decide (c.2.1.size<=2000)&&(!c.2.2||decide (c.2.1.size=0)))<;>rfl
theorem qg1 (b:Bat) (hn:b.2.length<=1000000000):q8H b=some (q02 b,()):=by
 rw [qg0,zO,zO,qhL];have:=q6W b.1 b.2 hn b.2 0 none rfl (Nat.zero_le _) (fun _=>rfl) (fun h=>by omega)
 have e:zF 0 b.1 b.2=some (chk none b.2,()):=this;simp only [oB,e];cases inB b.1 0 1000000000<;>cases inB (b.2.length:Int) 1 40<;>rfl
theorem qdx (s:BA) (hs:s.size<=20000):q5L s=some ((bOf (shL s),true),()):=by
 rw [qdw,q0Q,if_pos (by omega)]
 have k1:decide ((s.size:Int) > 20000)=false:=dYF (by omega)
 have hv:=wQ (show s.size<=1000000000 by omega)
 have k2:limS ((bOf (vL s.size)).size+s.size)=true:=qY (by rw [qF (vL s.size)]; omega)
 simp only [k1,cF,oB,toNat_natCast,k2,cT];have:bOf (vL s.size)++s=bOf (shL s):=zh (by rw [jK,yT,yT]; rfl)
 rw [this]
theorem qbj (s:BA) (hs:s.size<=20000):q7N s=some (bOf (shL s),()):=by
 rw [qiH,qdx s hs]; rfl
theorem q63 (s:BA) (hs:s.size<=20000):q0F s=some (bOf (shL s),()):=by
 rw [qeR,wP (by omega)]
 have hv:=wQ (show s.size<=1000000000 by omega)
 have k2:limS ((bOf (vL s.size)).size+s.size)=true:=qY (by rw [qF (vL s.size)]; omega)
 simp only [oB,k2,cT];have:bOf (vL s.size)++s=bOf (shL s):=zh (by rw [jK,yT,yT]; rfl)
 rw [this]
def flL (g:Bool):BA:=bOf [bif g then 1 else 0]
theorem qjG (g:Bool):qcj g=some (flL g,()):=by
 rw [qjF]; cases g<;>rfl
theorem qmx (g:Bool):q8S g=some (flL g,()):=by
 rw [qgm]; cases g<;>rfl
theorem ql9 (c:Chg):(bOf (shL c.1)++flL c.2.2)++bOf (shL c.2.1)=bOf (chL c):=zh (by
 rw [jK,jK,yT,yT,yT];unfold chL flL;rw [yT,append_assoc]; rfl)
theorem q4i (s:BA) (hs:s.size<=20000):(shL s).length<=s.size+5:=by
 unfold shL;have:=wQ (show s.size<=1000000000 by omega)
 rw [length_append,<- yg]; omega
theorem ql8 {c:Chg} (h1:c.1.size<=20000) (h2:c.2.1.size<=20000):(chL c).length<=40011:=by
 unfold chL;have:=q4i c.1 h1;have:=q4i c.2.1 h2;rw [length_append,length_cons]; omega
theorem qaw {b:Bat} (h:q02 b=true) {c:Chg} (hc:c∈b.2):c.1.size<=20000/\c.2.1.size<=20000:=by
 obtain ⟨_,_,_,_,h5,_⟩:=q0H.1 h;have:=qbS.1 (h5 c hc);omega
noncomputable def btO (b:Bat):BA×Bool:=if batT b=true then (bOf (bTL b),true) else (eB,false)
theorem yN {α:Type} {l:List α} {i:Nat} {c:α} {r:List α} (h:l.drop i=c::r):c∈l:=List.mem_of_mem_drop (by rw [h]; exact List.mem_cons_self ..)
theorem q4w (cs:List Chg) (hn:cs.length<=40) (hs:∀ c∈cs,c.1.size<=20000/\c.2.1.size<=20000):∀ (r:List Chg) (i:Nat) (acc:BA),cs.drop i=r->acc.size<=1000+i * 40011->q1f acc cs (cs.length:Int) (i:Int)=some ((if (bl acc++r.flatMap chL).length<=9000 then (bOf (bl acc++r.flatMap chL),true) else (eB,false)),())
 | [],i,acc,hd,ha=>by
  have:=drop_eq_nil_iff.1 hd;rw [q4v];have k1:decide ((i:Int) < (cs.length:Int))=false:=dYF (by omega)
  have hz:=yg acc;simp only [k1,cF,List.flatMap_nil,append_nil,qbL];by_cases h:acc.size<=9000
  ·simp only [dYF (show ¬ (acc.size:Int) > 9000 by omega),cF]
   rw [if_pos (by omega)]
  ·simp only [dYT (show (acc.size:Int) > 9000 by omega),cT]
   rw [if_neg (by omega)]
 | c::r,i,acc,hd,ha=>by
  obtain ⟨e1,hlt,e2⟩:=qX dC hd;obtain ⟨z1,z2⟩:=hs c (yN hd);rw [q4v];have k1:decide ((i:Int) < (cs.length:Int))=true:=dYT (by omega)
  have k2:decide (0<=(i:Int))=true:=dYT (by omega)
  have k4:w64 ((i:Int)+1)=((i+1:Nat):Int):=qo (by omega)
  have hl1:=q4i c.1 z1;have hl2:=q4i c.2.1 z2;have hl3:=ql8 z1 z2;have hf:(flL c.2.2).size=1:=rfl;have q1:limS ((bOf (shL c.1)).size+(flL c.2.2).size)=true:=qY (by rw [qF (shL c.1)]; omega)
  have q2:limS ((bOf (shL c.1)++flL c.2.2).size+(bOf (shL c.2.1)).size)=true:=qY (by rw [size_append,qF (shL c.1),qF (shL c.2.1)]; omega)
  have q3:limS (acc.size+(bOf (chL c)).size)=true:=qY (by rw [qF (chL c)]; omega)
  simp only [k1,k2,k4,Bool.and_self,cT,toNat_natCast,e1,qbj c.1 z1,qbj c.2.1 z2,qjG,oB,q1,q2,ql9,q3];rw [q4w cs hn hs r (i+1) _ e2 (by rw [size_append,qF (chL c),Nat.succ_mul]; omega)]
  simp only [jK,yT,List.flatMap_cons,append_assoc]
theorem ql3 (b:Bat) {n:Nat} (h:b.1=(n:Int)):bl ((c_B++bOf (vL n))++bOf (vL b.2.length))++b.2.flatMap chL=bTL b:=by
 rw [jK,jK,yT,yT];unfold bTL;rw [h,toNat_natCast,append_assoc,append_assoc]; rfl
theorem qfH (m n:Nat) (hm:m<=1000000000) (hn:n<=1000000000):q98 [(m:Int),(n:Int)]=some ((bOf (vL m++vL n),true),()):=by
 rw [qjH];have v1:=wQ hm;have v2:=wQ hn;have hb:∀ l:List UInt8,wN (bOf l)=l.map fun c=>(c.toNat:Int):=fun l=>rfl
 have l1:lim (([]:List Int).length+(wN (bOf (vL m))).length) 1=true:=qZ (by rw [hb,length_map]; simp; omega)
 have l2:lim (([]++wN (bOf (vL m)):List Int).length+(wN (bOf (vL n))).length) 1=true:=qZ (by rw [hb,hb,length_append,length_map,length_map]; simp; omega)
 rw [q4I];simp only [show decide ((0:Int) < (([(m:Int),(n:Int)]:List Int).length:Int))=true from rfl,show decide ((0:Int)<=0)=true from rfl,Bool.and_self,cT,show getD [(m:Int),(n:Int)] (toNat 0) 0=(m:Int) from rfl,q0Q,if_pos (show (0:Int)<=(m:Int)/\(m:Int)<=1000000000 by omega),oB,Bool.not_true,cF,toNat_natCast,l1,show w64 ((0:Int)+1)=1 from rfl]
 rw [q4I];simp only [show decide ((1:Int) < (([(m:Int),(n:Int)]:List Int).length:Int))=true from rfl,show decide ((0:Int)<=1)=true from rfl,Bool.and_self,cT,show getD [(m:Int),(n:Int)] (toNat 1) 0=(n:Int) from rfl,q0Q,if_pos (show (0:Int)<=(n:Int)/\(n:Int)<=1000000000 by omega),oB,Bool.not_true,cF,toNat_natCast,l2,show w64 ((1:Int)+1)=2 from rfl]
 rw [q4I];simp only [show decide ((2:Int) < (([(m:Int),(n:Int)]:List Int).length:Int))=false from rfl,cF]
 have:q31 (([]++wN (bOf (vL m)))++wN (bOf (vL n)))=bOf (vL m++vL n):=by
  rw [hb,hb,List.nil_append,<- List.map_append,qaP]
 exact congrArg (fun x=>some ((x,true),())) this
theorem qjb {b:Bat} (hok:q02 b=true):batT b=decide ((bTL b).length<=9000):=by unfold batT; rw [hok,Bool.true_and]
theorem qdr (b:Bat) (hn:b.2.length<=1000000000):q5I b=some (btO b,()):=by
 rw [qdq,qfo b hn];simp only [oB];cases hok:q02 b with
 | false=>
  have:btO b=(eB,false):=by unfold btO batT; rw [hok]; rfl
  rw [this]; rfl
 | true=>
  obtain ⟨h1,h2,h3,h4,h5,_⟩:=q0H.1 hok;obtain ⟨m,hm⟩:∃ m:Nat,b.1=(m:Int):=⟨b.1.toNat,by omega⟩
  have v1:=wQ (show m<=1000000000 by omega)
  have v2:=wQ (show b.2.length<=1000000000 by omega)
  have l1:limS (c_B.size+(bOf (vL m++vL b.2.length)).size)=true:=qY (by rw [qF (vL m++vL b.2.length),length_append]; show 1+_<=_; omega)
  simp only [Bool.not_true,cF,hm,qfH m b.2.length (by omega) (by omega),oB,l1,cT]
  have hL:=q4w b.2 h4 (fun c hc=>qaw hok hc) b.2 0 (c_B++bOf (vL m++vL b.2.length)) rfl (by rw [size_append,qF (vL m++vL b.2.length),length_append]; show 1+_<=_; omega)
  have e:bl (c_B++bOf (vL m++vL b.2.length))++b.2.flatMap chL=bTL b:=by
   rw [<- ql3 b hm];congr 1
  rw [e] at hL;refine hL.trans ?_;unfold btO;rw [qjb hok];simp only [decide_eq_true_eq]
theorem q4V (q:Int) (cs:List Chg) (hn:cs.length<=40) (hs:∀ c∈cs,c.1.size<=20000/\c.2.1.size<=20000):∀ (r:List Chg) (i:Nat) (acc:List UInt8),cs.drop i=r->acc.length<=1000+i * 40011->q1j (wN (bOf acc)) (i:Int) q cs=some ((if (acc++r.flatMap chL).length<=9000 then (bOf (acc++r.flatMap chL),true) else (eB,false)),())
 | [],i,acc,hd,ha=>by
  have:=drop_eq_nil_iff.1 hd;rw [q4U];have k1:decide ((i:Int) < (cs.length:Int))=false:=dYF (by omega)
  have hz:@length Int (wN (bOf acc))=acc.length:=qea acc;have hz':((@length Int (wN (bOf acc)):Nat):Int)=(acc.length:Int):=congrArg _ hz;simp only [k1,cF,List.flatMap_nil,append_nil,hz'];have hn:(⟨List.toArray (map (fun n=>UInt8.ofNat (toNat n)) (wN (bOf acc)))⟩:BA)=bOf acc:=qiO (bOf acc)
  by_cases h:acc.length<=9000
  ·simp only [dYF (show ¬ (acc.length:Int) > 9000 by omega),cF,hn]
   rw [if_pos h]
  ·simp only [dYT (show (acc.length:Int) > 9000 by omega),cT]
   rw [if_neg h]
 | c::r,i,acc,hd,ha=>by
  obtain ⟨e1,hlt,e2⟩:=qX dC hd;obtain ⟨z1,z2⟩:=hs c (yN hd);rw [q4U];have k1:decide ((i:Int) < (cs.length:Int))=true:=dYT (by omega)
  have k2:decide (0<=(i:Int))=true:=dYT (by omega)
  have k4:w64 ((i:Int)+1)=((i+1:Nat):Int):=qo (by omega)
  have hl1:=q4i c.1 z1;have hl2:=q4i c.2.1 z2;have hl3:=ql8 z1 z2;have hf:(flL c.2.2).size=1:=rfl;have q1:limS ((bOf (shL c.1)).size+(flL c.2.2).size)=true:=qY (by rw [qF (shL c.1)]; omega)
  have q2:limS ((bOf (shL c.1)++flL c.2.2).size+(bOf (shL c.2.1)).size)=true:=qY (by rw [size_append,qF (shL c.1),qF (shL c.2.1)]; omega)
  have q3:lim (@length Int (wN (bOf acc))+@length Int (wN (bOf (chL c)))) 1=true:=qZ (by
   rw [qea,qea]; omega)
  have e5:(wN (bOf acc)++wN (bOf (chL c)):List Int)=wN (bOf (acc++chL c)):=List.map_append.symm;simp only [k1,k2,k4,Bool.and_self,cT,toNat_natCast,e1,q63 c.1 z1,q63 c.2.1 z2,qmx,oB,q1,q2,ql9,q3,e5];rw [q4V q cs hn hs r (i+1) _ e2 (by rw [length_append,Nat.succ_mul]; omega)]
  simp only [List.flatMap_cons,append_assoc]
theorem q7w (b:Bat) (hn:b.2.length<=1000000000):jB b=some (btO b,()):=by
 rw [qdD,qg1 b hn];simp only [oB];cases hok:q02 b with
 | false=>
  have:btO b=(eB,false):=by unfold btO batT; rw [hok]; rfl
  rw [this]; rfl
 | true=>
  obtain ⟨h1,h2,h3,h4,h5,_⟩:=q0H.1 hok;obtain ⟨m,hm⟩:∃ m:Nat,b.1=(m:Int):=⟨b.1.toNat,by omega⟩
  have v1:=wQ (show m<=1000000000 by omega)
  have v2:=wQ (show b.2.length<=1000000000 by omega)
  have l1:limS (c_B.size+(bOf (vL m)).size)=true:=qY (by rw [qF (vL m)]; show 1+_<=_; omega)
  have l2:limS ((c_B++bOf (vL m)).size+(bOf (vL b.2.length)).size)=true:=qY (by rw [size_append,qF (vL m),qF (vL b.2.length)]; show 1+_+_<=_; omega)
  simp only [Bool.not_true,cF,hm,wP (show m<=1000000000000 by omega),wP (show b.2.length<=1000000000000 by omega),oB,l1,l2,cT]
  have hL:=q4V (m:Int) b.2 h4 (fun c hc=>qaw hok hc) b.2 0 (bl ((c_B++bOf (vL m))++bOf (vL b.2.length))) rfl (by
   rw [<- yg,size_append,size_append,qF (vL m),qF (vL b.2.length)]; show 1+_+_<=_; omega)
  rw [ql3 b hm] at hL;rw [qbL] at hL;refine hL.trans ?_;unfold btO;rw [qjb hok];simp only [decide_eq_true_eq]
end Go.Den.S
