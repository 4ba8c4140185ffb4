/- EhA: equations of the functions of this seat as the executor tells them, or plain facts about them. Conditions: none here. -/
import Derived.Test.YthejgmhimclmdaaGreatDoorEqD0
import Derived.Test.YthejgmhimclmdaaGreatDoorEqD1
import Derived.Test.YthejgmhimclmdaaGreatDoorEgA
set_option linter.all false
open Bool (and_eq_true not_eq_true)
open ByteArray (size_append)
open Int (tdiv tmod toNat)
open List (append_nil drop_drop drop_eq_nil_iff drop_zero getD length length_cons length_drop length_map map map_cons)
open Nat (le_refl)
namespace Go.Den.S
open Go Go.Den
set_option maxRecDepth 4000
def inB (a b c:Int):Bool:=decide (b<=a)&&decide (a<=c)
theorem jB (a b c:Int):yY a b c=some (inB a b c,()):=by
 rw [qhU];unfold inB;by_cases h:a>=b
 ·simp only [dYT h,cT,dYT (show b<=a from h),Bool.true_and]
 ·simp only [dYF h,cF,dYF (show ¬ b<=a from h),Bool.false_and]
theorem jg (a b c:Int):yX a b c=some (inB a b c,()):=by
 rw [qjN];unfold inB;by_cases h:a>=b
 ·simp only [dYT h,cT,dYT (show b<=a from h),Bool.true_and]
 ·simp only [dYF h,cF,dYF (show ¬ b<=a from h),Bool.false_and]
def vI (n:Nat):List Int:=(vL n).map fun c=>(c.toNat:Int)
theorem qbH (l:List UInt8):q3o (l.map fun c=>(c.toNat:Int))=bOf l:=by
 unfold q3o;rw [List.map_map];congr 2
 refine (List.map_congr_left fun c _=>?_).trans (List.map_id _)
 simp
theorem qqI {n:Nat} (h:n < 128):vI n=[(n:Int)]:=by
 unfold vI;rw [qa4 h,map_cons,q5Q (by omega)]; rfl
theorem qqH {n:Nat} (h:¬ n < 128):vI n=((n % 128+128:Nat):Int)::vI (n / 128):=by
 unfold vI;rw [qhu h,map_cons,q5Q (by omega)]
theorem qlu (n m:Nat):tdiv (n:Int) (m:Int)=((n / m:Nat):Int):=by
 rw [Int.tdiv_eq_ediv_of_nonneg (by omega)]; rfl
theorem qca (n m:Nat):tmod (n:Int) (m:Int)=((n % m:Nat):Int):=by
 rw [Int.tmod_eq_emod_of_nonneg (by omega)]; rfl
theorem qeE:∀ (n:Nat) (xs:List Int),n<=4611686018427387904->xs.length+n<=4611686018427387904->n<=1000000000000->xs.length+n<=2000000000000->q3S (n:Int) xs=some (q3o (xs++vI n),()):=by
 intro n;induction n using Nat.strongRecOn with
 | ind n ih=>
  intro xs h1 h2 h3 h4;rw [qeD];have kl:lim (xs.length+1) 1=true:=qW (by omega)
  by_cases h:n < 128
  ·have k1:decide ((n:Int) > 127)=false:=dYF (by omega)
   have k2:IntKind.u8.wrap (n:Int)=(n:Int):=q3v (by omega) (by omega)
   simp only [k1,cF,kl,cT,k2,qqI h];rfl
  ·have k1:decide ((n:Int) > 127)=true:=dYT (by omega)
   have e1:tdiv (n:Int) 128=((n / 128:Nat):Int):=qlu n 128;have e2:tmod (n:Int) 128=((n % 128:Nat):Int):=qca n 128;have k2:w64 (((n / 128:Nat):Int))=((n / 128:Nat):Int):=qo (by omega) (by omega)
   have k3:w64 (((n % 128:Nat):Int)+128)=((n % 128+128:Nat):Int):=qo (by omega) (by omega)
   have k4:IntKind.u8.wrap ((n % 128+128:Nat):Int)=((n % 128+128:Nat):Int):=q3v (by omega) (by omega)
   simp only [k1,cT,kl,e1,e2,k2,k3,k4];rw [ih (n / 128) (by omega) _ (by omega) (by rw [lA,lS]; omega) (by omega) (by rw [lA,lS]; omega),qqH h,pA]
   rfl
theorem wV {n:Nat} (h:n<=1000000000000):zo (n:Int)=some (bOf (vL n),()):=by
 rw [qil,qeE n [] (by omega) (by simp; omega) h (by simp; omega)]
 show some (q3o (vI n),())=_;unfold vI;rw [qbH]
theorem qdb:∀ (n:Nat) (xs:List Int),n<=1000000000000->xs.length+n<=2000000000000->q35 (n:Int) xs=some ((q3o (xs++vI n),true),()):=by
 intro n;induction n using Nat.strongRecOn with
 | ind n ih=>
  intro xs h3 h4;rw [qda];have kl:lim (xs.length+1) 1=true:=qW (by omega)
  by_cases h:n < 128
  ·have k1:decide ((n:Int) > 127)=false:=dYF (by omega)
   have k2:IntKind.u8.wrap (n:Int)=(n:Int):=q3v (by omega) (by omega)
   simp only [k1,cF,kl,cT,k2,qqI h];rfl
  ·have k1:decide ((n:Int) > 127)=true:=dYT (by omega)
   have e1:tdiv (n:Int) 128=((n / 128:Nat):Int):=qlu n 128;have e2:tmod (n:Int) 128=((n % 128:Nat):Int):=qca n 128;have k2:w64 (((n / 128:Nat):Int))=((n / 128:Nat):Int):=qo (by omega) (by omega)
   have k3:w64 (((n % 128:Nat):Int)+128)=((n % 128+128:Nat):Int):=qo (by omega) (by omega)
   have k4:IntKind.u8.wrap ((n % 128+128:Nat):Int)=((n % 128+128:Nat):Int):=q3v (by omega) (by omega)
   simp only [k1,cT,kl,e1,e2,k2,k3,k4];rw [ih (n / 128) (by omega) _ (by omega) (by rw [lA,lS]; omega),qqH h,pA]
   rfl
theorem q0c (n:Int):q07 n=some ((if 0<=n/\n<=1000000000 then (bOf (vL n.toNat),true) else (eB,false)),()):=by
 rw [qgB,jB];simp only [oB];by_cases h:0<=n/\n<=1000000000
 ·have e:inB n 0 1000000000=true:=by unfold inB; simp [h]
  simp only [e,nT,cF,if_pos h];obtain ⟨m,rfl⟩:∃ m:Nat,n=(m:Int):=⟨n.toNat,by omega⟩
  rw [qdb m [] (by omega) (by simp; omega)]
  show some ((q3o (vI m),true),())=_;unfold vI;rw [qbH]; rfl
 ·have e:inB n 0 1000000000=false:=by
   unfold inB;rw [<- not_eq_true,and_eq_true,decide_eq_true_eq,decide_eq_true_eq]; exact h
  simp only [e,nF,cT,if_neg h]
def rvO (s:BA) (at':Int):Int×Int×Bool:=if 0<=at'/\at'<=(s.size:Int) then (match rvar ((bl s).drop at'.toNat) with | some (n,k)=>((n:Int),at'+(k:Int),true) | none=>(0,0,false)) else (0,0,false)
theorem qcL (s:BA) {i:Nat} {c:UInt8} {r:List UInt8} (h:(bl s).drop i=c::r):bt s i=(c.toNat:Int):=by
 unfold bt;have:(bl s)[i]?=some c:=by
  have:=congrArg List.head? h;rw [List.head?_drop] at this;exact this
 show (((bl s).getD i 0).toNat:Int)=_;rw [List.getD_eq_getElem?_getD,this]; rfl
theorem q74 {l:List UInt8} {i:Nat} {c:UInt8} {r:List UInt8} (h:l.drop i=c::r):l.drop (i+1)=r:=by
 rw [<- drop_drop,h]; rfl
theorem qdW {l:List UInt8} {i:Nat} {c:UInt8} {r:List UInt8} (h:l.drop i=c::r):i < l.length:=by
 have:=congrArg length h;rw [length_drop,length_cons] at this; omega
theorem qrF {i:Nat} (hi:i < 5) (x:Int):shlI .i64 x (7 * (i:Int))=x * 128 ^ i:=by
 rw [qmT]
 match i,hi with
 | 0,_=>rfl
 | 1,_=>rfl
 | 2,_=>rfl
 | 3,_=>rfl
 | 4,_=>rfl
theorem qp6 {i:Nat} (hi:i < 5):(128:Nat) ^ i<=268435456/\(128:Nat) ^ (i+1)=128 * 128 ^ i:=by
 match i,hi with
 | 0,_=>decide
 | 1,_=>decide
 | 2,_=>decide
 | 3,_=>decide
 | 4,_=>decide
def rvT (a:Nat):Option (Nat×Nat)->(Int×Int×Bool)×Unit
 | some (n,k)=>(((n:Int),(((a+k:Nat):Int),true)),())
 | none=>((0,(0,false)),())
theorem q7f (s:BA) (hs:s.size<=1000000000) (a:Nat) (ha:a<=s.size):∀ (k i acc:Nat),k+i=5->acc < 128 ^ i->q2Z s (a:Int) (acc:Int) (i:Int)=some (rvT a (rvG i acc ((bl s).drop (a+i))))
 | 0,i,acc,hk,_=>by
  rw [q7e];have k1:decide ((i:Int) < 5)=false:=dYF (by omega)
  simp only [k1,cF];have:rvG i acc ((bl s).drop (a+i))=none:=by
   cases (bl s).drop (a+i) with
   | nil=>rfl
   | cons c r=>simp only [rvG]; rw [if_pos (by omega)]
  rw [this]; rfl
 | k+1,i,acc,hk,hacc=>by
  rw [q7e];have hi:i < 5:=by omega
  have k1:decide ((i:Int) < 5)=true:=dYT (by omega)
  have k2:w64 ((a:Int)+(i:Int))=((a+i:Nat):Int):=qo (by omega) (by omega)
  have k3:w64 (7 * (i:Int))=7 * (i:Int):=qo (by omega) (by omega)
  have k4:decide (0<=7 * (i:Int))=true:=dYT (by omega)
  simp only [k1,k2,k3,k4,cT,tN];have hsz:=yj s;cases hd:(bl s).drop (a+i) with
  | nil=>
   have:(bl s).length<=a+i:=drop_eq_nil_iff.1 hd;have k5:decide (((a+i:Nat):Int) < (s.size:Int))=false:=dYF (by omega)
   simp only [k5,cF];rfl
  | cons c r=>
   have hlt:=qdW hd;have k5:decide (((a+i:Nat):Int) < (s.size:Int))=true:=dYT (by omega)
   have k6:decide (0<=((a+i:Nat):Int))=true:=dYT (by omega)
   have hc:=c.toNat_lt;obtain ⟨hp1,hp2⟩:=qp6 hi;have hpp:0 < 128 ^ i:=Nat.pow_pos (by decide)
   have k7:w64 (bt s (a+i))=(c.toNat:Int):=by rw [qcL s hd]; exact qo (by omega) (by omega)
   have e2:tmod (c.toNat:Int) 128=((c.toNat % 128:Nat):Int):=qca _ 128;have hm:c.toNat % 128 * 128 ^ i<=127 * 128 ^ i:=Nat.mul_le_mul_right _ (by omega)
   generalize hq:c.toNat % 128 * 128 ^ i=q at hm;have e3:((c.toNat % 128:Nat):Int) * 128 ^ i=(q:Int):=by rw [<- hq]; simp
   have k8:w64 (q:Int)=(q:Int):=qo (by omega) (by omega)
   have k9:w64 ((acc:Int)+(q:Int))=((acc+q:Nat):Int):=qo (by omega) (by omega)
   have k10:w64 ((i:Int)+1)=((i+1:Nat):Int):=ql (by omega)
   simp only [k5,k6,cT,aS,k7,e2,qrF hi,e3,k8,k9,k10];rw [show rvG i acc (c::r)=if 5<=i then none else if c.toNat < 128 then (if acc+c.toNat % 128 * 128 ^ i<=1000000000/\(vL (acc+c.toNat % 128 * 128 ^ i)).length=i+1 then some (acc+c.toNat % 128 * 128 ^ i,i+1) else none) else rvG (i+1) (acc+c.toNat % 128 * 128 ^ i) r from rfl,if_neg (by omega),hq]
   by_cases hl:c.toNat < 128
   ·have k11:decide ((c.toNat:Int) < 128)=true:=dYT (by omega)
    rw [if_pos hl];simp only [k11,cT,q0c,oB];by_cases h9:acc+q<=1000000000
    ·rw [if_pos (show (0:Int)<=((acc+q:Nat):Int)/\((acc+q:Nat):Int)<=1000000000 by omega)]
     simp only [nT,cF,tN,qz];have k12:w64 (((a+i:Nat):Int)+1)=((a+i+1:Nat):Int):=ql (by omega)
     by_cases hL:(vL (acc+q)).length=i+1
     ·have k13:(((vL (acc+q)).length:Int) != ((i+1:Nat):Int))=false:=by rw [hL]; simp
      simp only [k13,cF,k12,if_pos (And.intro h9 hL)];rfl
     ·have k13:(((vL (acc+q)).length:Int) != ((i+1:Nat):Int))=true:=by
       rw [bne_iff_ne]; omega
      simp only [k13,cT,if_neg (fun (h:_/\_)=>hL h.2)]
      rfl
    ·rw [if_neg (show ¬ ((0:Int)<=((acc+q:Nat):Int)/\((acc+q:Nat):Int)<=1000000000) by omega),if_neg (fun (h:_/\_)=>h9 h.1)]
     simp only [nF,cT];rfl
   ·have k11:decide ((c.toNat:Int) < 128)=false:=dYF (by omega)
    rw [if_neg hl];simp only [k11,cF];rw [q7f s hs a ha k (i+1) (acc+q) (by omega) (by omega),<- Nat.add_assoc,q74 hd]
theorem qmR (s:BA) (a:Nat) (ha:a<=s.size):rvT a (rvG 0 0 ((bl s).drop a))=(rvO s (a:Int),()):=by
 unfold rvO;rw [if_pos (by omega),tN]
 show rvT a (rvar ((bl s).drop a))=_;cases rvar ((bl s).drop a) with
 | none=>rfl
 | some p=>simp only [rvT]; rw [Int.natCast_add]
theorem q5c (s:BA) (hs:s.size<=1000000000) (a:Int):q3m s a=some (rvO s a,()):=by
 rw [qgp,jB];simp only [oB];by_cases h:0<=a/\a<=(s.size:Int)
 ·have e:inB a 0 (s.size:Int)=true:=by unfold inB; simp [h]
  simp only [e,nT,cF];obtain ⟨m,rfl⟩:∃ m:Nat,a=(m:Int):=⟨a.toNat,by omega⟩
  rw [show (0:Int)=((0:Nat):Int) from rfl,q7f s hs m (by omega) 5 0 0 rfl (by decide)]
  exact congrArg some (qmR s m (by omega))
 ·have e:inB a 0 (s.size:Int)=false:=by
   unfold inB;rw [<- not_eq_true,and_eq_true,decide_eq_true_eq,decide_eq_true_eq]; exact h
  simp only [e,nF,cT];unfold rvO;rw [if_neg h]
theorem qrL {p:List UInt8} {c:UInt8} (hp:∀ x∈p,128<=x.toNat) (hc:c.toNat < 128):(vL (vV p+c.toNat % 128 * 128 ^ p.length)).length=p.length+1↔vL (vV p+c.toNat % 128 * 128 ^ p.length)=p++[c]:=by
 have hf:=qcf hp hc;have hv:vV (p++[c])=vV p+c.toNat % 128 * 128 ^ p.length:=by
  rw [q9m];simp only [vV];rw [Nat.mul_zero,Nat.add_zero,Nat.mul_comm]
 have hk:=(qax hf).2;rw [hv] at hk;constructor
 ·intro h;exact hk (by rw [h,lA]; rfl)
 ·intro h;rw [h,lA]; rfl
theorem qqK:∀ p:List UInt8,vV p < 128 ^ p.length
 | []=>by decide
 | c::p=>by
  have:=qqK p;simp only [vV,length_cons,Nat.pow_succ];omega
theorem q7C (s:BA) (hs:s.size<=1000000000) (a:Nat) (ha:a<=s.size):∀ (k i acc sc:Nat) (p:List UInt8),k+i=5->p.length=i->(∀ x∈p,128<=x.toNat)->acc=vV p->sc=128 ^ i->(bl s).drop a=p++(bl s).drop (a+i)->q39 s (a:Int) (acc:Int) (sc:Int) ((a+i:Nat):Int)=some (rvT a (rvG i acc ((bl s).drop (a+i))))
 | 0,i,acc,sc,p,hk,hpl,hp,hacc,hsc,hdr=>by
  rw [q7B];have k3:w64 ((a:Int)+5)=(a:Int)+5:=qo (by omega) (by omega)
  have k1:decide (((a+i:Nat):Int) < (a:Int)+5)=false:=dYF (by omega)
  have:rvG i acc ((bl s).drop (a+i))=none:=by
   cases (bl s).drop (a+i) with
   | nil=>rfl
   | cons c r=>simp only [rvG]; rw [if_pos (by omega)]
  rw [this];simp only [k3,k1,cF];by_cases h:((a+i:Nat):Int) < (s.size:Int)
  ·simp only [dYT h,cT]; rfl
  ·simp only [dYF h,cF]; rfl
 | k+1,i,acc,sc,p,hk,hpl,hp,hacc,hsc,hdr=>by
  rw [q7B];have hi:i < 5:=by omega
  have hsz:=yj s;have k3:w64 ((a:Int)+5)=(a:Int)+5:=qo (by omega) (by omega)
  have k1:decide (((a+i:Nat):Int) < (a:Int)+5)=true:=dYT (by omega)
  simp only [k3,k1,cT,tN];cases hd:(bl s).drop (a+i) with
  | nil=>
   have:(bl s).length<=a+i:=drop_eq_nil_iff.1 hd;have k5:decide (((a+i:Nat):Int) < (s.size:Int))=false:=dYF (by omega)
   simp only [k5,cF];rfl
  | cons c r=>
   have hlt:=qdW hd;have k5:decide (((a+i:Nat):Int) < (s.size:Int))=true:=dYT (by omega)
   have k6:decide (0<=((a+i:Nat):Int))=true:=dYT (by omega)
   have hc:=c.toNat_lt;obtain ⟨hp1,hp2⟩:=qp6 hi;have hpp:0 < 128 ^ i:=Nat.pow_pos (by decide)
   have hb:bt s (a+i)=(c.toNat:Int):=qcL s hd;have k7:w64 (c.toNat:Int)=(c.toNat:Int):=qo (by omega) (by omega)
   have e2:tmod (c.toNat:Int) 128=((c.toNat % 128:Nat):Int):=qca _ 128;have hm:c.toNat % 128 * 128 ^ i<=127 * 128 ^ i:=Nat.mul_le_mul_right _ (by omega)
   have hacc2:acc < 128 ^ i:=by rw [hacc,<- hpl]; exact qqK p
   have hL:(vL (acc+c.toNat % 128 * 128 ^ i)).length=i+1↔vL (acc+c.toNat % 128 * 128 ^ i)=p++[c]\/¬ c.toNat < 128/\(vL (acc+c.toNat % 128 * 128 ^ i)).length=i+1:=by
    by_cases hl:c.toNat < 128
    ·have:=qrL hp hl;rw [hpl,<- hacc] at this;simp [this,hl]
    ·simp only [hl,not_false_eq_true,true_and];constructor
     ·exact .inr
     ·rintro (h | h)
      ·rw [h,lA,hpl]; rfl
      ·exact h
   generalize hq:c.toNat % 128 * 128 ^ i=q at hm hL;have e3:((c.toNat % 128:Nat):Int) * (sc:Int)=(q:Int):=by rw [hsc,<- hq]; simp
   have k8:w64 (q:Int)=(q:Int):=qo (by omega) (by omega)
   have k9:w64 ((acc:Int)+(q:Int))=((acc+q:Nat):Int):=qo (by omega) (by omega)
   have k12:w64 (((a+i:Nat):Int)+1)=((a+i+1:Nat):Int):=ql (by omega)
   have k13:w64 ((sc:Int) * 128)=((128 ^ (i+1):Nat):Int):=by
    rw [hp2,hsc];have:(((128 ^ i:Nat):Int) * 128)=((128 * 128 ^ i:Nat):Int):=by
     rw [Nat.mul_comm]; simp
    rw [this];exact qo (by omega) (by omega)
   simp only [k5,k6,cT,aS,hb,k7,e2,e3,k8,k9,k12,k13];rw [show rvG i acc (c::r)=if 5<=i then none else if c.toNat < 128 then (if acc+c.toNat % 128 * 128 ^ i<=1000000000/\(vL (acc+c.toNat % 128 * 128 ^ i)).length=i+1 then some (acc+c.toNat % 128 * 128 ^ i,i+1) else none) else rvG (i+1) (acc+c.toNat % 128 * 128 ^ i) r from rfl,if_neg (by omega),hq]
   by_cases hl:c.toNat < 128
   ·have k11:decide ((c.toNat:Int) < 128)=true:=dYT (by omega)
    rw [if_pos hl];simp only [k11,cT];by_cases h9:acc+q<=1000000000
    ·have k14:decide (((acc+q:Nat):Int) > 1000000000)=false:=dYF (by omega)
     have k15:decide (0<=(a:Int))=true:=dYT (by omega)
     have k16:decide ((a:Int)<=((a+i+1:Nat):Int))=true:=dYT (by omega)
     have k17:decide (((a+i+1:Nat):Int)<=(s.size:Int))=true:=dYT (by omega)
     simp only [k14,cF,wV (show acc+q<=1000000000000 by omega),oB,k15,k16,k17,aS,cT,y5,tN]
     have hx:bOf (vL (acc+q))=s.extract a (a+i+1)↔(vL (acc+q)).length=i+1:=by
      rw [hL];simp only [hl,not_true_eq_false,false_and,or_false];have:bl (s.extract a (a+i+1))=p++[c]:=by
       rw [q3f,hdr,hd,show a+i+1 - a=(p++[c]).length by rw [lA,hpl,lS]; omega,show p++c::r=(p++[c])++r by simp]
       exact q5P _ _
      constructor
      ·intro h; rw [<- this,<- h]
      ·intro h; exact zx (by rw [this,wh,h])
     by_cases hL':(vL (acc+q)).length=i+1
     ·simp only [dYT (hx.2 hL'),nT,cF,if_pos (And.intro h9 hL')];rfl
     ·simp only [dYF (fun h=>hL' (hx.1 h)),nF,cT,if_neg (fun (h:_/\_)=>hL' h.2)]
      rfl
    ·have k14:decide (((acc+q:Nat):Int) > 1000000000)=true:=dYT (by omega)
     rw [if_neg (fun (h:_/\_)=>h9 h.1)]
     simp only [k14,cT];rfl
   ·have k11:decide ((c.toNat:Int) < 128)=false:=dYF (by omega)
    rw [if_neg hl];simp only [k11,cF];have e4:((a+i+1:Nat):Int)=((a+(i+1):Nat):Int):=rfl;rw [e4,q7C s hs a ha k (i+1) (acc+q) (128 ^ (i+1)) (p++[c]) (by omega) (by rw [lA,hpl]; rfl) (fun x hx=>by
     rcases List.mem_append.1 hx with hx | hx
     ·exact hp x hx
     ·rw [List.mem_singleton.1 hx]; omega) (by
      rw [q9m,<- hacc,hpl,<- hq];simp only [vV];rw [Nat.mul_zero,Nat.add_zero,Nat.mul_comm]) rfl (by
      rw [<- Nat.add_assoc,q74 hd,hdr,hd]; simp),<- Nat.add_assoc,q74 hd]
theorem q9Y (s:BA) (hs:s.size<=1000000000) (a:Int):q5K s a=some (rvO s a,()):=by
 rw [qh2,jg];simp only [oB];by_cases h:0<=a/\a<=(s.size:Int)
 ·have e:inB a 0 (s.size:Int)=true:=by unfold inB; simp [h]
  simp only [e,nT,cF];obtain ⟨m,rfl⟩:∃ m:Nat,a=(m:Int):=⟨a.toNat,by omega⟩
  have:=q7C s hs m (by omega) 5 0 0 1 [] rfl rfl (fun x hx=>by cases hx) rfl rfl rfl
  exact this.trans (congrArg some (qmR s m (by omega)))
 ·have e:inB a 0 (s.size:Int)=false:=by
   unfold inB;rw [<- not_eq_true,and_eq_true,decide_eq_true_eq,decide_eq_true_eq]; exact h
  simp only [e,nF,cT];unfold rvO;rw [if_neg h]
theorem qdh {α:Type} (l:List α) (d:α) {R:Type} (F:Nat->R) (G:List α->R) (h0:F l.length=G []) (h1:∀ i x r,l.drop i=x::r->i < l.length->l.getD i d=x->F (i+1)=G r->F i=G (x::r)):F 0=G l:=by
 have key:∀ (k i:Nat),k+i=l.length->F i=G (l.drop i):=by
  intro k;induction k with
  | zero=>intro i hi; rw [show i=l.length by omega,List.drop_length]; exact h0
  | succ k ih=>
   intro i hi;have hlt:i < l.length:=by omega
   have hd:l.drop i=l[i]::l.drop (i+1):=List.drop_eq_getElem_cons hlt;rw [hd];exact h1 i l[i] _ hd hlt (wT hlt) (ih (i+1) (by omega))
 have:=key l.length 0 (by omega)
 rwa [drop_zero] at this
theorem q7j (s:BA) (z:Int):∀ (k i:Nat),k+i=8->∀ x:Int,q1s x s z (i:Int)=q1r (rndN k x) s (w64 (z+1))
 | 0,i,hk,x=>by
  rw [q7i];have k1:decide ((i:Int) < 8)=false:=dYF (by omega)
  simp only [k1,cF]; rfl
 | k+1,i,hk,x=>by
  rw [q7i];have k1:decide ((i:Int) < 8)=true:=dYT (by omega)
  have k4:w64 ((i:Int)+1)=((i+1:Nat):Int):=ql (by omega)
  simp only [k1,cT,k4,q7j s z k (i+1) (by omega)]
  have:rndN (k+1) x=rndN k (rnd1 x):=rfl;rw [this];unfold rnd1;cases (tmod x 2==1)<;>rfl
theorem q7F (s:BA) (z:Int):∀ (k i:Nat),k+i=8->∀ x:Int,q1F x s z (i:Int)=q1E (rndN k x) s (w64 (z+1))
 | 0,i,hk,x=>by
  rw [q7E];have k1:decide ((i:Int) < 8)=false:=dYF (by omega)
  simp only [k1,cF]; rfl
 | k+1,i,hk,x=>by
  rw [q7E];have k1:decide ((i:Int) < 8)=true:=dYT (by omega)
  have k4:w64 ((i:Int)+1)=((i+1:Nat):Int):=ql (by omega)
  simp only [k1,cT,k4,q7F s z k (i+1) (by omega)]
  have:rndN (k+1) x=rndN k (rnd1 x):=rfl;rw [this];unfold rnd1;cases (tmod x 2==1)<;>rfl
theorem qo7 {n:Int} (h0:0<=n) (h1:n<=4294967295):IntKind.u32.wrap n=n:=by
 have e:IntKind.u32.wrap n=if IntKind.u32.signed&&decide ((n % 4294967296)>=2147483648) then n % 4294967296 - 4294967296 else n % 4294967296:=rfl
 rw [e,show IntKind.u32.signed=false from rfl,Bool.false_and,if_neg (by decide)]
 omega
theorem qlw (c:UInt8):IntKind.u32.wrap (c.toNat:Int)=(c.toNat:Int):=by
 have:=c.toNat_lt;exact qo7 (by omega) (by omega)
theorem qgs (s:BA) (hs:s.size<=1000000000) (x:Int):q8S x s=some (sumL x (bl s),()):=by
 rw [qgr];have hsz:=yj s;have key:=qdh (bl s) 0 (fun i=>fun x=>q1r x s (i:Int)) (fun l=>fun x=>some (sumL x l,())) (by
  funext x
  rw [q7h];have k1:decide (((bl s).length:Int) < (s.size:Int))=false:=dYF (by omega)
  simp only [k1,cF]; rfl) (fun i c r hd hlt _ ih=>by
  funext x
  rw [q7h];have k1:decide ((i:Int) < (s.size:Int))=true:=dYT (by omega)
  have k2:decide (0<=(i:Int))=true:=dYT (by omega)
  have k4:w64 ((i:Int)+1)=((i+1:Nat):Int):=ql (by omega)
  simp only [k1,k2,aS,cT,tN,qcL s hd,qlw];have h8:=q7j s (i:Int) 8 0 rfl;rw [show (0:Int)=((0:Nat):Int) from rfl,h8,k4]
  exact congrFun ih _)
 exact congrFun key x
theorem qh5 (s:BA) (hs:s.size<=1000000000) (x:Int):q9b x s=some (sumL x (bl s),()):=by
 rw [qh4];have hsz:=yj s;have key:=qdh (bl s) 0 (fun i=>fun x=>q1E x s (i:Int)) (fun l=>fun x=>some (sumL x l,())) (by
  funext x
  rw [q7D];have k1:decide (((bl s).length:Int) < (s.size:Int))=false:=dYF (by omega)
  simp only [k1,cF]; rfl) (fun i c r hd hlt _ ih=>by
  funext x
  rw [q7D];have k1:decide ((i:Int) < (s.size:Int))=true:=dYT (by omega)
  have k2:decide (0<=(i:Int))=true:=dYT (by omega)
  have k4:w64 ((i:Int)+1)=((i+1:Nat):Int):=ql (by omega)
  simp only [k1,k2,aS,cT,tN,qcL s hd,qlw];have h8:=q7F s (i:Int) 8 0 rfl;rw [show (0:Int)=((0:Nat):Int) from rfl,h8,k4]
  exact congrFun ih _)
 exact congrFun key x
theorem qjw (s:BA) (hs:s.size<=1000000000):qby s=some (sumL 4294967295 (bl s),()):=by
 rw [qjv,qgs s hs]; rfl
theorem qjL (s:BA) (hs:s.size<=1000000000):qbZ s=some (sumL 4294967295 (bl s),()):=by
 rw [qjK,qh5 s hs]; rfl
theorem shr0 (x:Int):shrI .u32 x 0=x:=by
 rw [qmV];show x.fdiv (2 ^ (min 0 IntKind.u32.bits))=x;rw [Nat.zero_min,Int.pow_zero,Int.fdiv_one]
theorem qms (x:Int):q3o [IntKind.u8.wrap (shrI .u32 x 24),IntKind.u8.wrap (shrI .u32 x 16),IntKind.u8.wrap (shrI .u32 x 8),IntKind.u8.wrap x]=bOf (q1p x):=by
 unfold q3o q1p;simp only [map_cons,List.map_nil,shr0]
theorem qhe (x:Int):q9e x=some (bOf (q1p x),()):=by
 rw [qhd];exact congrArg (fun y=>some (y,())) (qms x)
noncomputable def frO (s:BA):BA×Bool:=if 1<=s.size/\s.size<=9000 then (bOf (frL s),true) else (eB,false)
theorem qiT (s:BA):(bOf (vL s.size)++bOf (q1p (sumL 4294967295 (bl s))))++s=bOf (frL s):=zx (by
 rw [jP,jP,wh,wh,wh];unfold frL;rw [pA])
theorem qe1 (n:Nat) {a b:Nat}:inB (n:Int) (a:Int) (b:Int)=decide (a<=n/\n<=b):=by
 unfold inB;rw [Bool.eq_iff_iff];simp only [and_eq_true,decide_eq_true_eq];omega
theorem q1h (s:BA):q0C s=some (frO s,()):=by
 rw [qjJ,jg];unfold frO;rw [show inB (s.size:Int) 1 9000=decide (1<=s.size/\s.size<=9000) from qe1 _]
 by_cases h:1<=s.size/\s.size<=9000
 ·have hv:=wB (show s.size<=1000000000 by omega)
  have k1:limS ((bOf (vL s.size)).size+(bOf (q1p (sumL 4294967295 (bl s)))).size)=true:=qX (by rw [qz (vL s.size),qz (q1p _),q4P]; omega)
  have k2:limS ((bOf (vL s.size)++bOf (q1p (sumL 4294967295 (bl s)))).size+s.size)=true:=qX (by rw [size_append,qz (vL s.size),qz (q1p _),q4P]; omega)
  simp only [dYT h,oB,nT,cF,wV (show s.size<=1000000000000 by omega),qjL s (by omega),qhe,k1,k2,cT,qiT,if_pos h]
 ·simp only [dYF h,oB,nF,cT,if_neg h]
theorem q7Q (s:BA):q3C s=some (frO s,()):=by
 rw [qju,jB];unfold frO;rw [show inB (s.size:Int) 1 9000=decide (1<=s.size/\s.size<=9000) from qe1 _]
 by_cases h:1<=s.size/\s.size<=9000
 ·have hv:=wB (show s.size<=1000000000 by omega)
  have k1:limS ((bOf (vL s.size)).size+(bOf (q1p (sumL 4294967295 (bl s)))).size)=true:=qX (by rw [qz (vL s.size),qz (q1p _),q4P]; omega)
  have k2:limS ((bOf (vL s.size)++bOf (q1p (sumL 4294967295 (bl s)))).size+s.size)=true:=qX (by rw [size_append,qz (vL s.size),qz (q1p _),q4P]; omega)
  have hx:(⟨List.toArray (map (fun n=>UInt8.ofNat (toNat n)) [IntKind.u8.wrap (shrI .u32 (sumL 4294967295 (bl s)) 24),IntKind.u8.wrap (shrI .u32 (sumL 4294967295 (bl s)) 16),IntKind.u8.wrap (shrI .u32 (sumL 4294967295 (bl s)) 8),IntKind.u8.wrap (sumL 4294967295 (bl s))])⟩:BA)=bOf (q1p (sumL 4294967295 (bl s))):=qms _
  simp only [dYT h,oB,nT,cF,q0c,qjw s (show s.size<=1000000000 by omega),if_pos (show (0:Int)<=(s.size:Int)/\(s.size:Int)<=1000000000 by omega),tN,hx,k1,k2,cT,qiT,if_pos h]
 ·simp only [dYF h,oB,nF,cT,if_neg h]
theorem qlx {f:Nat} {l:List UInt8} (h:fr1 l=none):unf f l=([],0):=by
 cases f with
 | zero=>rfl
 | succ f=>simp only [unf,h]
theorem qly {f:Nat} {l:List UInt8} {t:BA} {m:Nat} (h:fr1 l=some (t,m)):unf (f+1) l=(t::(unf f (l.drop m)).1,m+(unf f (l.drop m)).2):=by
 simp only [unf,h]
theorem qdt (s:BA) (a:Nat) (ha:a<=s.size):rvO s (a:Int)=match rvar ((bl s).drop a) with | some (n,k)=>((n:Int),((a:Int)+(k:Int),true)) | none=>(0,(0,false)):=by
 unfold rvO;rw [if_pos (by omega),tN]
 all_goals (cases rvar ((bl s).drop a)<;>rfl)
theorem qia {l:List UInt8} {a:Nat} {n k:Nat} (h:rvar (l.drop a)=some (n,k)):n<=1000000000/\0 < k/\a+k<=l.length:=by
 obtain ⟨h1,h2,_,h4⟩:=q93 h;rw [length_drop] at h4;exact ⟨h1,h2,by omega⟩
theorem qaK {l:List UInt8} {n k:Nat} (h:rvar l=some (n,k)) (hc:¬ (n+k+4<=l.length/\1<=n/\n<=9000/\frL (bOf ((l.drop (k+4)).take n))=l.take (k+4+n))):fr1 l=none:=by
 unfold fr1;simp only [h,if_neg hc]
theorem qmt {l:List UInt8} {n k:Nat} (h:rvar l=some (n,k)) (hc:n+k+4<=l.length/\1<=n/\n<=9000/\frL (bOf ((l.drop (k+4)).take n))=l.take (k+4+n)):fr1 l=some (bOf ((l.drop (k+4)).take n),k+4+n):=by
 unfold fr1;simp only [h,if_pos hc]
theorem qoC {l:List UInt8} (h:rvar l=none):fr1 l=none:=by
 unfold fr1;simp only [h]
theorem qd9 (s:BA) (hs:s.size<=20000):∀ (f a:Nat) (acc:List BA),a+f=s.size+1->acc.length<=a->q33 s acc (a:Int)=some ((acc++(unf f ((bl s).drop a)).1,((a+(unf f ((bl s).drop a)).2:Nat):Int)),()):=by
 intro f;induction f using Nat.strongRecOn with
 | ind f ih=>
  intro a acc hf hacc;have hsz:=yj s;have stop:∀ g,fr1 ((bl s).drop a)=none->some ((acc,(a:Int)),())=some ((acc++(unf g ((bl s).drop a)).1,((a+(unf g ((bl s).drop a)).2:Nat):Int)),()):=fun g h=>by
   rw [qlx h,append_nil]; rfl
  rw [qd8,q5c s (by omega)]
  simp only [oB];by_cases ha:a<=s.size
  ·rw [qdt s a ha];cases hr:rvar ((bl s).drop a) with
   | none=>
    simp only [nF,cT];exact stop f (qoC hr)
   | some p=>
    obtain ⟨n,k⟩:=p;obtain ⟨hn,hk,hak⟩:=qia hr;have hdl:((bl s).drop a).length=s.size - a:=by rw [length_drop,hsz]
    simp only [nT,cF];have w1:w64 ((s.size:Int) - ((a:Int)+(k:Int)))=(s.size:Int) - ((a:Int)+(k:Int)):=qo (by omega) (by omega)
    have w2:w64 ((s.size:Int) - ((a:Int)+(k:Int)) - 4)=(s.size:Int) - ((a:Int)+(k:Int)) - 4:=qo (by omega) (by omega)
    have w3:w64 ((a:Int)+(k:Int)+4)=((a+k+4:Nat):Int):=qo (by omega) (by omega)
    have w4:w64 (((a+k+4:Nat):Int)+(n:Int))=((a+k+4+n:Nat):Int):=qo (by omega) (by omega)
    simp only [w1,w2,w3,w4];by_cases hb:(n:Int) > (s.size:Int) - ((a:Int)+(k:Int)) - 4
    ·simp only [dYT hb,cT];exact stop f (qaK hr fun h=>by rw [hdl] at h; omega)
    ·have q1:decide (0<=((a+k+4:Nat):Int))=true:=dYT (by omega)
     have q2:decide (((a+k+4:Nat):Int)<=((a+k+4+n:Nat):Int))=true:=dYT (by omega)
     have q3:decide (((a+k+4+n:Nat):Int)<=(s.size:Int))=true:=dYT (by omega)
     have q4:decide (0<=(a:Int))=true:=dYT (by omega)
     have q5:decide ((a:Int)<=((a+k+4+n:Nat):Int))=true:=dYT (by omega)
     simp only [dYF hb,cF,q1,q2,q3,q4,q5,aS,cT,q7Q,oB,tN,y5];have hx:s.extract (a+k+4) (a+k+4+n)=bOf ((((bl s).drop a).drop (k+4)).take n):=zx (by
      rw [q3f,wh,drop_drop]; congr 1<;>first | omega | (congr 1; omega))
     have hy:bl (s.extract a (a+k+4+n))=((bl s).drop a).take (k+4+n):=by
      rw [q3f]; congr 1; omega
     have hxs:(bOf ((((bl s).drop a).drop (k+4)).take n)).size=n:=by
      rw [qz,List.length_take,length_drop,hdl]; omega
     rw [hx];unfold frO;rw [hxs];by_cases h9:1<=n/\n<=9000
     ·simp only [if_pos h9,nT,cF];by_cases he:frL (bOf ((((bl s).drop a).drop (k+4)).take n))=((bl s).drop a).take (k+4+n)
      ·have q6:bOf (frL (bOf ((((bl s).drop a).drop (k+4)).take n)))=s.extract a (a+k+4+n):=zx (by rw [wh,hy,he])
       have q7:lim (acc.length+1) 16=true:=qW (by omega)
       have hyes:=qmt hr ⟨by rw [hdl]; omega,h9.1,h9.2,he⟩
       simp only [dYT q6,nT,cF,q7,cT];obtain ⟨g,rfl⟩:∃ g,f=g+1:=⟨f - 1,by omega⟩
       obtain ⟨d,hd⟩:∃ d,d+(k+4+n)=g+1:=⟨g+1 - (k+4+n),by omega⟩
       rw [ih d (by omega) (a+k+4+n) _ (by omega) (by rw [lA,lS]; omega),qly hyes,show ((bl s).drop a).drop (k+4+n)=(bl s).drop (a+k+4+n) by rw [drop_drop]; congr 1; omega,q6P d g _ (by rw [length_drop]; omega) (by rw [length_drop]; omega)]
       simp only [pA,List.singleton_append];congr 4; omega
      ·have q6:¬ bOf (frL (bOf ((((bl s).drop a).drop (k+4)).take n)))=s.extract a (a+k+4+n):=fun h=>he (by rw [<- hy,<- h])
       simp only [dYF q6,nF,cT];exact stop f (qaK hr fun h=>he h.2.2.2)
     ·simp only [if_neg h9,nF,cT];exact stop f (qaK hr fun h=>h9 ⟨h.2.1,h.2.2.1⟩)
  ·have:rvO s (a:Int)=(0,(0,false)):=by unfold rvO; rw [if_neg (by omega)]
   rw [this];simp only [nF,cT];refine stop f ?_;rw [List.drop_eq_nil_of_le (by omega)]; exact qaJ
noncomputable def unO (s:BA):List BA×Int:=if s.size<=20000 then ((unfr (bl s)).1,((unfr (bl s)).2:Int)) else ([],0)
theorem q5e (s:BA):q3n s=some (unO s,()):=by
 rw [qgx];unfold unO;by_cases h:s.size<=20000
 ·have k1:decide ((s.size:Int) > 20000)=false:=dYF (by omega)
  have hk:=qd9 s h (s.size+1) 0 [] (by omega) (le_refl _)
  simp only [k1,cF,if_pos h];have e:unf (s.size+1) ((bl s).drop 0)=unfr (bl s):=q6P _ _ _ (by rw [drop_zero,yj]; omega) (le_refl _)
  rw [e] at hk;simpa using hk
 ·have k1:decide ((s.size:Int) > 20000)=true:=dYT (by omega)
  simp only [k1,cT,if_neg h]
theorem qdE (s:BA) (hs:s.size<=20000):∀ (f a:Nat) (acc:List BA),a+f=s.size+1->acc.length<=a->q3a s acc (a:Int)=some ((acc++(unf f ((bl s).drop a)).1,((a+(unf f ((bl s).drop a)).2:Nat):Int)),()):=by
 intro f;induction f using Nat.strongRecOn with
 | ind f ih=>
  intro a acc hf hacc;have hsz:=yj s;have stop:∀ g,fr1 ((bl s).drop a)=none->some ((acc,(a:Int)),())=some ((acc++(unf g ((bl s).drop a)).1,((a+(unf g ((bl s).drop a)).2:Nat):Int)),()):=fun g h=>by
   rw [qlx h,append_nil]; rfl
  rw [qdD,q9Y s (by omega)]
  simp only [oB];by_cases ha:a < s.size
  ·have k0:decide ((a:Int) < (s.size:Int))=true:=dYT (by omega)
   rw [qdt s a (Nat.le_of_lt ha)];simp only [k0,cT];cases hr:rvar ((bl s).drop a) with
   | none=>
    simp only [nF,cT];exact stop f (qoC hr)
   | some p=>
    obtain ⟨n,k⟩:=p;obtain ⟨hn,hk,hak⟩:=qia hr;have hdl:((bl s).drop a).length=s.size - a:=by rw [length_drop,hsz]
    simp only [nT,cF];have w1:w64 ((s.size:Int) - ((a:Int)+(k:Int)))=(s.size:Int) - ((a:Int)+(k:Int)):=qo (by omega) (by omega)
    have w2:w64 ((s.size:Int) - ((a:Int)+(k:Int)) - 4)=(s.size:Int) - ((a:Int)+(k:Int)) - 4:=qo (by omega) (by omega)
    have w3:w64 ((a:Int)+(k:Int)+4)=((a+k+4:Nat):Int):=qo (by omega) (by omega)
    have w4:w64 (((a+k+4:Nat):Int)+(n:Int))=((a+k+4+n:Nat):Int):=qo (by omega) (by omega)
    simp only [w1,w2,w3,w4];by_cases hb:(n:Int) > (s.size:Int) - ((a:Int)+(k:Int)) - 4
    ·simp only [dYT hb,cT];exact stop f (qaK hr fun h=>by rw [hdl] at h; omega)
    ·have q1:decide (0<=((a+k+4:Nat):Int))=true:=dYT (by omega)
     have q2:decide (((a+k+4:Nat):Int)<=((a+k+4+n:Nat):Int))=true:=dYT (by omega)
     have q3:decide (((a+k+4+n:Nat):Int)<=(s.size:Int))=true:=dYT (by omega)
     have q4:decide (0<=(a:Int))=true:=dYT (by omega)
     have q5:decide ((a:Int)<=((a+k+4+n:Nat):Int))=true:=dYT (by omega)
     simp only [dYF hb,cF,q1,q2,q3,q4,q5,aS,cT,q1h,oB,tN,y5];have hx:s.extract (a+k+4) (a+k+4+n)=bOf ((((bl s).drop a).drop (k+4)).take n):=zx (by
      rw [q3f,wh,drop_drop]; congr 1<;>first | omega | (congr 1; omega))
     have hy:bl (s.extract a (a+k+4+n))=((bl s).drop a).take (k+4+n):=by
      rw [q3f]; congr 1; omega
     have hxs:(bOf ((((bl s).drop a).drop (k+4)).take n)).size=n:=by
      rw [qz,List.length_take,length_drop,hdl]; omega
     rw [hx];unfold frO;rw [hxs];by_cases h9:1<=n/\n<=9000
     ·simp only [if_pos h9,nT,cF];by_cases he:frL (bOf ((((bl s).drop a).drop (k+4)).take n))=((bl s).drop a).take (k+4+n)
      ·have q6:bOf (frL (bOf ((((bl s).drop a).drop (k+4)).take n)))=s.extract a (a+k+4+n):=zx (by rw [wh,hy,he])
       have q7:lim (acc.length+1) 16=true:=qW (by omega)
       have hyes:=qmt hr ⟨by rw [hdl]; omega,h9.1,h9.2,he⟩
       simp only [dYT q6,nT,cF,q7,cT];obtain ⟨g,rfl⟩:∃ g,f=g+1:=⟨f - 1,by omega⟩
       obtain ⟨d,hd⟩:∃ d,d+(k+4+n)=g+1:=⟨g+1 - (k+4+n),by omega⟩
       rw [ih d (by omega) (a+k+4+n) _ (by omega) (by rw [lA,lS]; omega),qly hyes,show ((bl s).drop a).drop (k+4+n)=(bl s).drop (a+k+4+n) by rw [drop_drop]; congr 1; omega,q6P d g _ (by rw [length_drop]; omega) (by rw [length_drop]; omega)]
       simp only [pA,List.singleton_append];congr 4; omega
      ·have q6:¬ bOf (frL (bOf ((((bl s).drop a).drop (k+4)).take n)))=s.extract a (a+k+4+n):=fun h=>he (by rw [<- hy,<- h])
       simp only [dYF q6,nF,cT];exact stop f (qaK hr fun h=>he h.2.2.2)
     ·simp only [if_neg h9,nF,cT];exact stop f (qaK hr fun h=>h9 ⟨h.2.1,h.2.2.1⟩)
  ·have k0:decide ((a:Int) < (s.size:Int))=false:=dYF (by omega)
   simp only [k0,cF];refine stop f ?_;rw [List.drop_eq_nil_of_le (by omega)]; exact qaJ
theorem qh8 (s:BA):q5M s=some (unO s,()):=by
 rw [qh7];unfold unO;by_cases h:s.size<=20000
 ·have k1:decide ((s.size:Int) > 20000)=false:=dYF (by omega)
  have hk:=qdE s h (s.size+1) 0 [] (by omega) (le_refl _)
  simp only [k1,cF,if_pos h];have e:unf (s.size+1) ((bl s).drop 0)=unfr (bl s):=q6P _ _ _ (by rw [drop_zero,yj]; omega) (le_refl _)
  rw [e] at hk;simpa using hk
 ·have k1:decide ((s.size:Int) > 20000)=true:=dYT (by omega)
  simp only [k1,cT,if_neg h]
structure RD (s:BA) (c:qA) (st:RS):Prop where
 txt:c.1=s
 lo:0<=c.2.1
 hi:c.2.1<=(s.size:Int)
 bad:c.2.2=st.2
 rest:st.2=false->(bl s).drop c.2.1.toNat=st.1
theorem qbG {st:RS} (h:st.2=true):numR st=(0,st.1,true):=by
 unfold numR;split
 ·simp [h]
 ·rfl
theorem qjk {st:RS} (h:st.2=true):qP st=(bOf [],st.1,true):=by
 unfold qP;split
 ·rw [if_pos (.inl h)]
 ·rfl
theorem qiF {st:RS} (h:st.2=true):(qB st).1=0/\(qB st).2.2=true:=by
 unfold qB;split
 ·simp [h]
 ·exact ⟨rfl,rfl⟩
theorem q3q {s:BA} {c:qA} {st:RS} (h:RD s c st) {st':RS} (hb:st'.2=true):RD s (s,(c.2.1,true)) st':=
 ⟨rfl,h.lo,h.hi,hb.symm,fun h=>by rw [hb] at h; cases h⟩
theorem qjS {s:BA} {m:Nat} (hm:m<=s.size) {l:List UInt8} (hl:(bl s).drop m=l):RD s (s,((m:Int),false)) (l,false):=
 ⟨rfl,Int.natCast_nonneg _,by show (m:Int)<=_; omega,rfl,fun _=>by simpa using hl⟩
theorem qmG {s:BA} (F:qA->Option (Int×(qA×Unit))) (hF:∀ c:qA,c.1=s->F c=bif c.2.2 then some (0,((s,(c.2.1,true)),())) else bif !(rvO s c.2.1).2.2 then some (0,((s,(c.2.1,true)),())) else some ((rvO s c.2.1).1,((s,((rvO s c.2.1).2.1,c.2.2)),()))) {c:qA} {st:RS} (h:RD s c st) :
  ∃ c',F c=some (((numR st).1:Int),(c',()))/\RD s c' (numR st).2:=by
 rw [hF c h.txt];cases hb:c.2.2 with
 | true=>
  have hb':st.2=true:=by rw [<- h.bad]; exact hb
  rw [qbG hb'];exact ⟨_,rfl,q3q h rfl⟩
 | false=>
  have hb':st.2=false:=by rw [<- h.bad]; exact hb
  have hr:=h.rest hb';obtain ⟨m,hm⟩:∃ m:Nat,c.2.1=(m:Int):=⟨c.2.1.toNat,by have:=h.lo; omega⟩
  have hms:m<=s.size:=by have:=h.hi; omega
  rw [hm,tN] at hr;rw [hm,qdt s m hms,hr];cases hv:rvar st.1 with
  | none=>
   have:numR st=(0,st.1,true):=by unfold numR; rw [hv]
   rw [this];exact ⟨_,rfl,by rw [<- hm]; exact q3q h rfl⟩
  | some p=>
   obtain ⟨n,k⟩:=p;have:numR st=(n,st.1.drop k,false):=by unfold numR; simp only [hv,hb']; rfl
   rw [this];have:=q93 hv;have hl:=congrArg length hr;rw [length_drop,<- yj] at hl;refine ⟨_,rfl,?_⟩;show RD s (s,(((m+k:Nat):Int),false)) (st.1.drop k,false);exact qjS (by omega) (by rw [<- hr,drop_drop])
theorem qb0 {s:BA} (hs:s.size<=20000) {c:qA} {st:RS} (h:RD s c st):∃ c',y7 c=some (((numR st).1:Int),(c',()))/\RD s c' (numR st).2:=
 qmG _ (fun c hc=>by rw [q2b,hc,q5c s (by omega)]; rfl) h
theorem q7r {s:BA} (hs:s.size<=20000) {c:qA} {st:RS} (h:RD s c st):∃ c',q1P c=some (((numR st).1:Int),(c',()))/\RD s c' (numR st).2:=
 qmG _ (fun c hc=>by rw [qin,hc,q9Y s (by omega)]; rfl) h
theorem qdR {s:BA} (hs:s.size<=20000) {c:qA} {st:RS} (h:RD s c st):∃ c',yI c=some (((qB st).1:Int),(c',()))/\RD s c' (qB st).2:=by
 rw [q20,h.txt];cases hb:c.2.2 with
 | true=>
  have hb':st.2=true:=by rw [<- h.bad]; exact hb
  obtain ⟨q1,q2⟩:=qiF hb';rw [q1];exact ⟨_,rfl,q3q h q2⟩
 | false=>
  have hb':st.2=false:=by rw [<- h.bad]; exact hb
  have hr:=h.rest hb';obtain ⟨m,hm⟩:∃ m:Nat,c.2.1=(m:Int):=⟨c.2.1.toNat,by have:=h.lo; omega⟩
  have hms:m<=s.size:=by have:=h.hi; omega
  rw [hm,tN] at hr;simp only [hm,cF];have hsz:=yj s;cases hl:st.1 with
  | nil=>
   rw [hl] at hr;have:=drop_eq_nil_iff.1 hr;have k1:decide ((m:Int)>=(s.size:Int))=true:=dYT (by omega)
   simp only [k1,cT];have e:qB st=(0,[],true):=by unfold qB; rw [hl]
   rw [e];exact ⟨_,rfl,by rw [<- hm]; exact q3q h rfl⟩
  | cons x r=>
   rw [hl] at hr;have hlt:=qdW hr;have k1:decide ((m:Int)>=(s.size:Int))=false:=dYF (by omega)
   have w1:w64 ((m:Int)+1)=((m+1:Nat):Int):=ql (by omega)
   have w2:w64 (((m+1:Nat):Int) - 1)=(m:Int):=(qo (by omega) (by omega)).trans (by omega)
   have k2:decide (0<=(m:Int))=true:=dYT (by omega)
   have k3:decide ((m:Int) < (s.size:Int))=true:=dYT (by omega)
   have hx:=x.toNat_lt;have w3:w64 (x.toNat:Int)=(x.toNat:Int):=qo (by omega) (by omega)
   simp only [k1,cF,w1,w2,k2,k3,aS,cT,tN,qcL s hr,w3];have e:qB st=(x.toNat,r,false):=by unfold qB; simp only [hl,hb']; rfl
   rw [e];exact ⟨_,rfl,qjS (by omega) (q74 hr)⟩
theorem qfM {s:BA} (hs:s.size<=20000) {c:qA} {st:RS} (h:RD s c st):∃ t c',q29 c 1=some (t,(c',()))/\RD s c' (qB st).2/\(decide (t=q9A)=((qB st).1==1)):=by
 rw [qa0,h.txt];cases hb:c.2.2 with
 | true=>
  have hb':st.2=true:=by rw [<- h.bad]; exact hb
  obtain ⟨q1,q2⟩:=qiF hb';rw [q1];exact ⟨_,_,rfl,q3q h q2,by decide⟩
 | false=>
  have hb':st.2=false:=by rw [<- h.bad]; exact hb
  have hr:=h.rest hb';obtain ⟨m,hm⟩:∃ m:Nat,c.2.1=(m:Int):=⟨c.2.1.toNat,by have:=h.lo; omega⟩
  have hms:m<=s.size:=by have:=h.hi; omega
  rw [hm,tN] at hr;have hsz:=yj s;have w0:w64 ((s.size:Int) - (m:Int))=(s.size:Int) - (m:Int):=qo (by omega) (by omega)
  simp only [hm,cF,w0];cases hl:st.1 with
  | nil=>
   rw [hl] at hr;have:=drop_eq_nil_iff.1 hr;have k1:decide ((1:Int) > (s.size:Int) - (m:Int))=true:=dYT (by omega)
   simp only [k1,cT];have e:qB st=(0,[],true):=by unfold qB; rw [hl]
   rw [e];exact ⟨_,_,rfl,by rw [<- hm]; exact q3q h rfl,by decide⟩
  | cons x r=>
   rw [hl] at hr;have hlt:=qdW hr;have k1:decide ((1:Int) > (s.size:Int) - (m:Int))=false:=dYF (by omega)
   have w1:w64 ((m:Int)+1)=((m+1:Nat):Int):=ql (by omega)
   have w2:w64 (((m+1:Nat):Int) - 1)=(m:Int):=(qo (by omega) (by omega)).trans (by omega)
   have k2:decide (0<=(m:Int))=true:=dYT (by omega)
   have k3:decide ((m:Int)<=((m+1:Nat):Int))=true:=dYT (by omega)
   have k4:decide (((m+1:Nat):Int)<=(s.size:Int))=true:=dYT (by omega)
   have hx:=x.toNat_lt;simp only [k1,cF,w1,w2,k2,k3,k4,aS,cT,tN];have e:qB st=(x.toNat,r,false):=by unfold qB; simp only [hl,hb']; rfl
   rw [e];refine ⟨_,_,rfl,qjS (by omega) (q74 hr),?_⟩
   have:s.extract m (m+1)=bOf [x]:=zx (by rw [q3f,hr,show m+1 - m=1 by omega]; rfl)
   rw [this,Bool.eq_iff_iff,decide_eq_true_eq,beq_iff_eq];constructor
   ·intro h;have:=congrArg bl h;have h:[x]=[(1:UInt8)]:=this;rw [List.head_eq_of_cons_eq h]; rfl
   ·intro h;have:x=1:=UInt8.toNat_inj.1 h;rw [this]
theorem qjb {s:BA} {m n k:Nat} {st:RS} (hr:(bl s).drop m=st.1) (hb:st.2=false) (hm:m<=s.size) (hv:rvar st.1=some (n,k)) (hn:n<=20000) (hk:m+k+n<=s.size):qP st=(s.extract (m+k) (m+k+n),st.1.drop (k+n),false)/\RD s (s,(((m+k+n:Nat):Int),false)) (qP st).2:=by
 have hl:=congrArg length hr;rw [length_drop,<- yj] at hl;have e:qP st=(s.extract (m+k) (m+k+n),st.1.drop (k+n),false):=by
  unfold qP;simp only [hv];rw [if_neg (by rw [hb]; simp; omega)]
  congr 1
  refine zx ?_;rw [q3f,wh,<- hr,drop_drop];congr 1; omega
 refine ⟨e,?_⟩;rw [e];exact qjS (by omega) (by rw [<- hr,drop_drop]; congr 1; omega)
theorem qfN {st:RS} {n k:Nat} (hv:rvar st.1=some (n,k)) (h:20000 < n\/st.1.length < n+k):qP st=(bOf [],st.1,true):=by
 unfold qP;simp only [hv];rw [if_pos (.inr h)]
theorem qeg {s:BA} (hs:s.size<=20000) {c:qA} {st:RS} (h:RD s c st):∃ c',yJ c=some ((qP st).1,(c',()))/\RD s c' (qP st).2:=by
 rw [q23,qeo,h.txt,q5c s (by omega)]
 simp only [oB];cases hb:c.2.2 with
 | true=>
  have hb':st.2=true:=by rw [<- h.bad]; exact hb
  rw [qjk hb'];simp only [cT];have key:∃ x,(bif !(rvO s c.2.1).2.2 then some ((eB,(0,false)),()) else bif decide ((rvO s c.2.1).1 > 20000) then some ((eB,(0,false)),()) else bif decide ((rvO s c.2.1).1 > w64 ((s.size:Int) - (rvO s c.2.1).2.1)) then some ((eB,(0,false)),()) else bif (decide (0<=(rvO s c.2.1).2.1)&&(decide ((rvO s c.2.1).2.1<=w64 ((rvO s c.2.1).2.1+(rvO s c.2.1).1))&&decide (w64 ((rvO s c.2.1).2.1+(rvO s c.2.1).1)<=(s.size:Int)))) then some ((s.extract (rvO s c.2.1).2.1.toNat (w64 ((rvO s c.2.1).2.1+(rvO s c.2.1).1)).toNat,(w64 ((rvO s c.2.1).2.1+(rvO s c.2.1).1),true)),()) else none:Option ((BA×(Int×Bool))×Unit))=some x:=by
   obtain ⟨m,hm⟩:∃ m:Nat,c.2.1=(m:Int):=⟨c.2.1.toNat,by have:=h.lo; omega⟩
   have hms:m<=s.size:=by have:=h.hi; omega
   rw [hm,qdt s m hms];cases hv:rvar ((bl s).drop m) with
   | none=>exact ⟨_,rfl⟩
   | some p=>
    obtain ⟨n,k⟩:=p;have hq:=qia hv;have hsz:=yj s;simp only [nT,cF];by_cases q1:(n:Int) > 20000
    ·simp only [dYT q1,cT]; exact ⟨_,rfl⟩
    ·simp only [dYF q1,cF];have w0:w64 ((s.size:Int) - ((m:Int)+(k:Int)))=(s.size:Int) - ((m:Int)+(k:Int)):=qo (by omega) (by omega)
     rw [w0];by_cases q2:(n:Int) > (s.size:Int) - ((m:Int)+(k:Int))
     ·simp only [dYT q2,cT]; exact ⟨_,rfl⟩
     ·have w1:w64 ((m:Int)+(k:Int)+(n:Int))=(m:Int)+(k:Int)+(n:Int):=qo (by omega) (by omega)
      rw [w1];simp only [dYF q2,cF,dYT (show 0<=(m:Int)+(k:Int) by omega),dYT (show (m:Int)+(k:Int)<=(m:Int)+(k:Int)+(n:Int) by omega),dYT (show (m:Int)+(k:Int)+(n:Int)<=(s.size:Int) by omega),aS,cT]
      exact ⟨_,rfl⟩
  obtain ⟨x,hx⟩:=key;rw [hx];exact ⟨_,rfl,q3q h rfl⟩
 | false=>
  have hb':st.2=false:=by rw [<- h.bad]; exact hb
  have hr:=h.rest hb';obtain ⟨m,hm⟩:∃ m:Nat,c.2.1=(m:Int):=⟨c.2.1.toNat,by have:=h.lo; omega⟩
  have hms:m<=s.size:=by have:=h.hi; omega
  rw [hm,tN] at hr;rw [hm,qdt s m hms,hr];have hl:=congrArg length hr;rw [length_drop,<- yj] at hl;have no:qP st=(bOf [],st.1,true)->∃ c',some (eB,((s,((m:Int),true)),()))=some ((qP st).1,(c',()))/\RD s c' (qP st).2:=fun e=>by
   rw [e]; exact ⟨_,rfl,by rw [<- hm]; exact q3q h rfl⟩
  cases hv:rvar st.1 with
  | none=>exact no (by unfold qP; rw [hv])
  | some p=>
   obtain ⟨n,k⟩:=p;have hq:=q93 hv;simp only [nT,cF];by_cases q1:(n:Int) > 20000
   ·simp only [dYT q1,cT];exact no (qfN hv (.inl (by omega)))
   ·simp only [dYF q1,cF];have w0:w64 ((s.size:Int) - ((m:Int)+(k:Int)))=(s.size:Int) - ((m:Int)+(k:Int)):=qo (by omega) (by omega)
    rw [w0];by_cases q2:(n:Int) > (s.size:Int) - ((m:Int)+(k:Int))
    ·simp only [dYT q2,cT];exact no (qfN hv (.inr (by omega)))
    ·have w1:w64 ((m:Int)+(k:Int)+(n:Int))=((m+k+n:Nat):Int):=qo (by omega) (by omega)
     rw [w1];obtain ⟨e,hR⟩:=qjb hr hb' hms hv (by omega) (by omega)
     simp only [dYF q2,cF,dYT (show 0<=(m:Int)+(k:Int) by omega),dYT (show (m:Int)+(k:Int)<=((m+k+n:Nat):Int) by omega),dYT (show ((m+k+n:Nat):Int)<=(s.size:Int) by omega),aS,cT,oB,nT]
     refine ⟨_,?_,hR⟩;rw [e]; rfl
theorem q9P {s:BA} (hs:s.size<=20000) {c:qA} {st:RS} (h:RD s c st):∃ c',q1X c=some ((qP st).1,(c',()))/\RD s c' (qP st).2:=by
 rw [qc0];obtain ⟨c1,e1,h1⟩:=q7r hs h;rw [e1];simp only [oB];rw [qa0,h1.txt];cases hb:st.2 with
 | true=>
  have:(numR st).2.2=true:=by rw [qbG hb]
  have hb1:c1.2.2=true:=by rw [h1.bad]; exact this
  rw [qjk hb];simp only [hb1,cT,oB];exact ⟨_,rfl,q3q h1 rfl⟩
 | false=>
  have hr:=h.rest hb;cases hv:rvar st.1 with
  | none=>
   have e:numR st=(0,st.1,true):=by unfold numR; rw [hv]
   have hb1:c1.2.2=true:=by rw [h1.bad,e]
   have e2:qP st=(bOf [],st.1,true):=by unfold qP; rw [hv]
   rw [e2];simp only [hb1,cT,oB];exact ⟨_,rfl,q3q h1 rfl⟩
  | some p=>
   obtain ⟨n,k⟩:=p;have e:numR st=(n,st.1.drop k,false):=by unfold numR; simp only [hv,hb]; rfl
   rw [e] at h1 ⊢;have hb1:c1.2.2=false:=h1.bad;have hr1:=h1.rest rfl;obtain ⟨m,hm⟩:∃ m:Nat,c.2.1=(m:Int):=⟨c.2.1.toNat,by have:=h.lo; omega⟩
   have hms:m<=s.size:=by have:=h.hi; omega
   rw [hm,tN] at hr;obtain ⟨q,hq⟩:∃ q:Nat,c1.2.1=(q:Int):=⟨c1.2.1.toNat,by have:=h1.lo; omega⟩
   have hqs:q<=s.size:=by have:=h1.hi; omega
   rw [hq,tN] at hr1;have hl:=congrArg length hr;rw [length_drop,<- yj] at hl;have hl1:=congrArg length hr1;rw [length_drop,<- yj,length_drop] at hl1;have hv':=q93 hv;have w0:w64 ((s.size:Int) - (q:Int))=(s.size:Int) - (q:Int):=qo (by omega) (by omega)
   simp only [hb1,cF,hq,w0];by_cases q2:(n:Int) > (s.size:Int) - (q:Int)
   ·rw [qfN hv (.inr (by omega))]
    simp only [dYT q2,cT,oB];exact ⟨_,rfl,by rw [<- hq]; exact q3q h1 rfl⟩
   ·have hqm:q=m+k:=by omega
    subst hqm;have w1:w64 (((m+k:Nat):Int)+(n:Int))=((m+k+n:Nat):Int):=qo (by omega) (by omega)
    have w2:w64 (((m+k+n:Nat):Int) - (n:Int))=((m+k:Nat):Int):=(qo (by omega) (by omega)).trans (by omega)
    obtain ⟨e,hR⟩:=qjb hr hb hms hv (by omega) (by omega)
    simp only [dYF q2,cF,w1,w2,dYT (show 0<=((m+k:Nat):Int) by omega),dYT (show ((m+k:Nat):Int)<=((m+k+n:Nat):Int) by omega),dYT (show ((m+k+n:Nat):Int)<=(s.size:Int) by omega),aS,cT,oB,tN]
    refine ⟨_,?_,hR⟩;rw [e]
def q1B (p:Option BA) (k:BA):Bool:=match p with | none=>true | some j=>blt j k
theorem qf4 (l:List UInt8):@length Int (wQ (bOf l))=l.length:=length_map ..
def chk:Option BA->List Chg->Bool
 | _,[]=>true
 | p,c::r=>q3w c&&(q1B p c.1&&chk (some c.1) r)
theorem qkb:∀ (l:List Chg) (a:Chg),chk (some a.1) l=(l.all q3w&&ascB (fun x y=>blt x.1 y.1) (a::l))
 | [],a=>rfl
 | c::l,a=>by
  simp only [chk,q1B,qkb l c,List.all_cons,ascB];cases q3w c<;>cases blt a.1 c.1<;>cases l.all q3w<;>rfl
theorem qpE (l:List Chg):chk none l=(l.all q3w&&ascB (fun x y=>blt x.1 y.1) l):=by
 cases l with
 | nil=>rfl
 | cons c l=>
  simp only [chk,q1B,qkb l c,List.all_cons];cases q3w c<;>rfl
theorem qkD (k:BA):q5i k=some (q4c k,()):=by
 rw [qjy,jB];simp only [oB];have:inB (k.size:Int) 1 20=q4c k:=by
  rw [show inB (k.size:Int) 1 20=decide (1<=k.size/\k.size<=20) from qe1 _]
  unfold q4c;rw [Bool.eq_iff_iff]; simp
 rw [this]
theorem qoP (k:BA):yX (k.size:Int) 1 20=some (q4c k,()):=by
 rw [jg];have:inB (k.size:Int) 1 20=q4c k:=by
  rw [show inB (k.size:Int) 1 20=decide (1<=k.size/\k.size<=20) from qe1 _]
  unfold q4c;rw [Bool.eq_iff_iff]; simp
 rw [this]
theorem q9X (v:BA):decide (v=eB)=decide (v.size=0):=by
 rw [Bool.eq_iff_iff,decide_eq_true_eq,decide_eq_true_eq];constructor
 ·intro h; rw [h]; rfl
 ·intro h;refine zx ?_;rw [yj] at h;exact List.eq_nil_of_length_eq_zero h
abbrev dC:Chg:=(eB,(eB,false))
theorem qV {α:Type} {l:List α} {i:Nat} {c:α} {r:List α} (d:α) (h:l.drop i=c::r):l.getD i d=c/\i < l.length/\l.drop (i+1)=r:=by
 have hlt:i < l.length:=by
  have:=congrArg length h;rw [length_drop,length_cons] at this; omega
 have hd:=List.drop_eq_getElem_cons hlt;rw [h] at hd;injection hd with h1 h2;exact ⟨by rw [wT hlt,h1],hlt,h2.symm⟩
theorem q7d (q:Int) (cs:List Chg) (hn:cs.length<=1000000000):∀ (r:List Chg) (i:Nat) (p:Option BA),cs.drop i=r->i<=cs.length->(i=0->p=none)->(0 < i->p=some (cs.getD (i - 1) dC).1)->jG cs (cs.length:Int) (i:Int) q cs=some (chk p r&&(inB q 0 1000000000&&inB (cs.length:Int) 1 40),())
 | [],i,p,hd,hi,_,_=>by
  have:=drop_eq_nil_iff.1 hd;rw [q7c];have k1:decide ((i:Int) < (cs.length:Int))=false:=dYF (by omega)
  simp only [k1,cF,jB,oB,chk,Bool.true_and];cases inB q 0 1000000000<;>rfl
 | c::r,i,p,hd,hi,h0,hp=>by
  obtain ⟨e1,hlt,e2⟩:=qV dC hd;rw [q7c];have k1:decide ((i:Int) < (cs.length:Int))=true:=dYT (by omega)
  have k2:decide (0<=(i:Int))=true:=dYT (by omega)
  have k4:w64 ((i:Int)+1)=((i+1:Nat):Int):=ql (by omega)
  have ih:=q7d q cs hn r (i+1) (some c.1) e2 hlt (fun h=>by omega) (fun _=>by rw [Nat.add_sub_cancel,e1])
  simp only [k1,k2,k4,aS,cT,tN,e1,qkD,oB,y5,q9X,ih,chk];unfold q3w;cases hk:q4c c.1 with
  | false=>simp only [nF,cT,Bool.false_and]
  | true=>
   simp only [nT,cF,Bool.true_and];by_cases h2:c.2.1.size<=2000
   ·have k5:decide ((c.2.1.size:Int) > 2000)=false:=dYF (by omega)
    simp only [k5,cF,dYT h2,Bool.true_and];have hord:(bif decide ((i:Int) > 0) then bif (decide (0<=w64 ((i:Int) - 1))&&decide (w64 ((i:Int) - 1) < (cs.length:Int))) then bif !(Op.bytesLess (cs.getD (w64 ((i:Int) - 1)).toNat dC).1.toList c.1.toList) then some (false,()) else some (chk (some c.1) r&&(inB q 0 1000000000&&inB (cs.length:Int) 1 40),()) else none else some (chk (some c.1) r&&(inB q 0 1000000000&&inB (cs.length:Int) 1 40),()):Option (Bool×Unit))=some (q1B p c.1&&chk (some c.1) r&&(inB q 0 1000000000&&inB (cs.length:Int) 1 40),()):=by
     by_cases hi0:i=0
     ·rw [h0 hi0];have:decide ((i:Int) > 0)=false:=dYF (by omega)
      simp only [this,cF,q1B,Bool.true_and]
     ·have q1:decide ((i:Int) > 0)=true:=dYT (by omega)
      have q2:w64 ((i:Int) - 1)=((i - 1:Nat):Int):=(qo (by omega) (by omega)).trans (by omega)
      have q3:decide (0<=((i - 1:Nat):Int))=true:=dYT (by omega)
      have q4:decide (((i - 1:Nat):Int) < (cs.length:Int))=true:=dYT (by omega)
      rw [hp (by omega)]
      simp only [q1,q2,q3,q4,aS,cT,tN,blt_eq,q1B];cases blt (cs.getD (i - 1) dC).1 c.1<;>rfl
    rw [hord];cases hg:c.2.2 with
    | false=>simp only [cF,nF,Bool.true_or,Bool.true_and]
    | true=>
     simp only [cT,nT,Bool.false_or];cases decide (c.2.1.size=0)<;>rfl
   ·have k5:decide ((c.2.1.size:Int) > 2000)=true:=dYT (by omega)
    simp only [k5,cT,dYF h2,Bool.false_and]
theorem qiE (b:Bat):q06 b=(inB b.1 0 1000000000&&(inB (b.2.length:Int) 1 40&&chk none b.2)):=by
 rw [qpE];unfold q06 inB;rw [Bool.eq_iff_iff];simp only [and_eq_true,decide_eq_true_eq];constructor
 ·rintro ⟨h1,h2,h3,h4,h5⟩; exact ⟨⟨h1,h2⟩,⟨by omega,by omega⟩,h5⟩
 ·rintro ⟨⟨h1,h2⟩,⟨h3,h4⟩,h5⟩; exact ⟨h1,h2,by omega,by omega,h5⟩
theorem qgl (b:Bat) (hn:b.2.length<=1000000000):q8M b=some (q06 b,()):=by
 rw [qgk];have:=q7d b.1 b.2 hn b.2 0 none rfl (Nat.zero_le _) (fun _=>rfl) (fun h=>by omega)
 refine (Eq.trans ?_ this).trans ?_
 ·rfl
 ·rw [qiE];cases chk none b.2<;>cases inB b.1 0 1000000000<;>cases inB (b.2.length:Int) 1 40<;>rfl
theorem q7y (q:Int) (cs:List Chg) (hn:cs.length<=1000000000):∀ (r:List Chg) (i:Nat) (p:Option BA),cs.drop i=r->i<=cs.length->(i=0->p=none)->(0 < i->p=some (cs.getD (i - 1) dC).1)->zX (i:Int) q cs=some (chk p r,())
 | [],i,p,hd,hi,_,_=>by
  have:=drop_eq_nil_iff.1 hd;rw [q7x];have k1:decide ((i:Int) < (cs.length:Int))=false:=dYF (by omega)
  simp only [k1,cF,chk]
 | c::r,i,p,hd,hi,h0,hp=>by
  obtain ⟨e1,hlt,e2⟩:=qV dC hd;rw [q7x];have k1:decide ((i:Int) < (cs.length:Int))=true:=dYT (by omega)
  have k2:decide (0<=(i:Int))=true:=dYT (by omega)
  have k4:w64 ((i:Int)+1)=((i+1:Nat):Int):=ql (by omega)
  have ih:=q7y q cs hn r (i+1) (some c.1) e2 hlt (fun h=>by omega) (fun _=>by rw [Nat.add_sub_cancel,e1])
  simp only [k1,k2,k4,aS,cT,tN,e1,qoP,oB,y5,q9X,ih,chk];unfold q3w;have hbody:(bif decide ((c.2.1.size:Int) > 2000) then some (false,()) else bif c.2.2 then bif !decide (c.2.1.size=0) then some (false,()) else some (chk (some c.1) r,()) else some (chk (some c.1) r,()):Option (Bool×Unit))=some ((decide (c.2.1.size<=2000)&&(!c.2.2||decide (c.2.1.size=0)))&&chk (some c.1) r,()):=by
   by_cases h2:c.2.1.size<=2000
   ·have k5:decide ((c.2.1.size:Int) > 2000)=false:=dYF (by omega)
    simp only [k5,cF,dYT h2,Bool.true_and];cases c.2.2<;>cases decide (c.2.1.size=0)<;>rfl
   ·have k5:decide ((c.2.1.size:Int) > 2000)=true:=dYT (by omega)
    simp only [k5,cT,dYF h2,Bool.false_and]
  rw [hbody];cases hk:q4c c.1 with
  | false=>simp only [nF,cT,Bool.false_and]
  | true=>
   simp only [nT,cF,Bool.true_and];by_cases hi0:i=0
   ·rw [h0 hi0];have:decide ((i:Int) > 0)=false:=dYF (by omega)
    simp only [this,cF,q1B,Bool.true_and]
   ·have q1:decide ((i:Int) > 0)=true:=dYT (by omega)
    have q2:w64 ((i:Int) - 1)=((i - 1:Nat):Int):=(qo (by omega) (by omega)).trans (by omega)
    have q3:decide (0<=((i - 1:Nat):Int))=true:=dYT (by omega)
    have q4:decide (((i - 1:Nat):Int) < (cs.length:Int))=true:=dYT (by omega)
    rw [hp (by omega)]
    simp only [q1,q2,q3,q4,aS,cT,tN,blt_eq,q1B];cases blt (cs.getD (i - 1) dC).1 c.1<;>cases (decide (c.2.1.size<=2000)&&(!c.2.2||decide (c.2.1.size=0)))<;>rfl
theorem qh0 (b:Bat) (hn:b.2.length<=1000000000):q96 b=some (q06 b,()):=by
 rw [qgZ,jg,jg,qiE];have:=q7y b.1 b.2 hn b.2 0 none rfl (Nat.zero_le _) (fun _=>rfl) (fun h=>by omega)
 have e:zX 0 b.1 b.2=some (chk none b.2,()):=this;simp only [oB,e];cases inB b.1 0 1000000000<;>cases inB (b.2.length:Int) 1 40<;>rfl
theorem qes (s:BA) (hs:s.size<=20000):q6B s=some ((bOf (shL s),true),()):=by
 rw [qer,q0c,if_pos (by omega)]
 have k1:decide ((s.size:Int) > 20000)=false:=dYF (by omega)
 have hv:=wB (show s.size<=1000000000 by omega)
 have k2:limS ((bOf (vL s.size)).size+s.size)=true:=qX (by rw [qz (vL s.size)]; omega)
 simp only [k1,cF,oB,tN,k2,cT];have:bOf (vL s.size)++s=bOf (shL s):=zx (by rw [jP,wh,wh]; rfl)
 rw [this]
theorem q4m (s:BA) (hs:s.size<=20000):q3F s=some (bOf (shL s),()):=by
 rw [qjz,qes s hs]; rfl
theorem q6U (s:BA) (hs:s.size<=20000):q1l s=some (bOf (shL s),()):=by
 rw [qfJ,wV (by omega)]
 have hv:=wB (show s.size<=1000000000 by omega)
 have k2:limS ((bOf (vL s.size)).size+s.size)=true:=qX (by rw [qz (vL s.size)]; omega)
 simp only [oB,k2,cT];have:bOf (vL s.size)++s=bOf (shL s):=zx (by rw [jP,wh,wh]; rfl)
 rw [this]
def flL (g:Bool):BA:=bOf [bif g then 1 else 0]
theorem qkx (g:Bool):qdc g=some (flL g,()):=by
 rw [qkw]; cases g<;>rfl
theorem qnH (g:Bool):q9g g=some (flL g,()):=by
 rw [qhg]; cases g<;>rfl
theorem qmb (c:Chg):(bOf (shL c.1)++flL c.2.2)++bOf (shL c.2.1)=bOf (chL c):=zx (by
 rw [jP,jP,wh,wh,wh];unfold chL flL;rw [wh,pA]; rfl)
theorem q0f (s:BA) (hs:s.size<=20000):(shL s).length<=s.size+5:=by
 unfold shL;have:=wB (show s.size<=1000000000 by omega)
 rw [lA,<- yj]; omega
theorem qma {c:Chg} (h1:c.1.size<=20000) (h2:c.2.1.size<=20000):(chL c).length<=40011:=by
 unfold chL;have:=q0f c.1 h1;have:=q0f c.2.1 h2;rw [lA,length_cons]; omega
theorem qbn {b:Bat} (h:q06 b=true) {c:Chg} (hc:c∈b.2):c.1.size<=20000/\c.2.1.size<=20000:=by
 obtain ⟨_,_,_,_,h5,_⟩:=q00.1 h;have:=q72.1 (h5 c hc);omega
noncomputable def btO (b:Bat):BA×Bool:=if batT b=true then (bOf (bTL b),true) else (eB,false)
theorem yM {α:Type} {l:List α} {i:Nat} {c:α} {r:List α} (h:l.drop i=c::r):c∈l:=List.mem_of_mem_drop (by rw [h]; exact List.mem_cons_self ..)
theorem q58 (cs:List Chg) (hn:cs.length<=40) (hs:∀ c∈cs,c.1.size<=20000/\c.2.1.size<=20000):∀ (r:List Chg) (i:Nat) (acc:BA),cs.drop i=r->acc.size<=1000+i * 40011->q1S acc cs (cs.length:Int) (i:Int)=some ((if (bl acc++r.flatMap chL).length<=9000 then (bOf (bl acc++r.flatMap chL),true) else (eB,false)),())
 | [],i,acc,hd,ha=>by
  have:=drop_eq_nil_iff.1 hd;rw [q57];have k1:decide ((i:Int) < (cs.length:Int))=false:=dYF (by omega)
  have hz:=yj acc;simp only [k1,cF,List.flatMap_nil,append_nil,qcI];by_cases h:acc.size<=9000
  ·simp only [dYF (show ¬ (acc.size:Int) > 9000 by omega),cF]
   rw [if_pos (by omega)]
  ·simp only [dYT (show (acc.size:Int) > 9000 by omega),cT]
   rw [if_neg (by omega)]
 | c::r,i,acc,hd,ha=>by
  obtain ⟨e1,hlt,e2⟩:=qV dC hd;obtain ⟨z1,z2⟩:=hs c (yM hd);rw [q57];have k1:decide ((i:Int) < (cs.length:Int))=true:=dYT (by omega)
  have k2:decide (0<=(i:Int))=true:=dYT (by omega)
  have k4:w64 ((i:Int)+1)=((i+1:Nat):Int):=ql (by omega)
  have hl1:=q0f c.1 z1;have hl2:=q0f c.2.1 z2;have hl3:=qma z1 z2;have hf:(flL c.2.2).size=1:=rfl;have q1:limS ((bOf (shL c.1)).size+(flL c.2.2).size)=true:=qX (by rw [qz (shL c.1)]; omega)
  have q2:limS ((bOf (shL c.1)++flL c.2.2).size+(bOf (shL c.2.1)).size)=true:=qX (by rw [size_append,qz (shL c.1),qz (shL c.2.1)]; omega)
  have q3:limS (acc.size+(bOf (chL c)).size)=true:=qX (by rw [qz (chL c)]; omega)
  simp only [k1,k2,k4,aS,cT,tN,e1,q4m c.1 z1,q4m c.2.1 z2,qkx,oB,q1,q2,qmb,q3];rw [q58 cs hn hs r (i+1) _ e2 (by rw [size_append,qz (chL c),Nat.succ_mul]; omega)]
  simp only [jP,wh,List.flatMap_cons,pA]
theorem qm6 (b:Bat) {n:Nat} (h:b.1=(n:Int)):bl ((c_B++bOf (vL n))++bOf (vL b.2.length))++b.2.flatMap chL=bTL b:=by
 rw [jP,jP,wh,wh];unfold bTL;rw [h,tN,pA,pA]; rfl
theorem qgI (m n:Nat) (hm:m<=1000000000) (hn:n<=1000000000):q9M [(m:Int),(n:Int)]=some ((bOf (vL m++vL n),true),()):=by
 rw [qky];have v1:=wB hm;have v2:=wB hn;have hb:∀ l:List UInt8,wQ (bOf l)=l.map fun c=>(c.toNat:Int):=fun l=>rfl
 have l1:lim (([]:List Int).length+(wQ (bOf (vL m))).length) 1=true:=qW (by rw [hb,length_map]; simp; omega)
 have l2:lim (([]++wQ (bOf (vL m)):List Int).length+(wQ (bOf (vL n))).length) 1=true:=qW (by rw [hb,hb,lA,length_map,length_map]; simp; omega)
 rw [q5k];simp only [show decide ((0:Int) < (([(m:Int),(n:Int)]:List Int).length:Int))=true from rfl,show decide ((0:Int)<=0)=true from rfl,aS,cT,show getD [(m:Int),(n:Int)] (toNat 0) 0=(m:Int) from rfl,q0c,if_pos (show (0:Int)<=(m:Int)/\(m:Int)<=1000000000 by omega),oB,nT,cF,tN,l1,show w64 ((0:Int)+1)=1 from rfl]
 rw [q5k];simp only [show decide ((1:Int) < (([(m:Int),(n:Int)]:List Int).length:Int))=true from rfl,show decide ((0:Int)<=1)=true from rfl,aS,cT,show getD [(m:Int),(n:Int)] (toNat 1) 0=(n:Int) from rfl,q0c,if_pos (show (0:Int)<=(n:Int)/\(n:Int)<=1000000000 by omega),oB,nT,cF,tN,l2,show w64 ((1:Int)+1)=2 from rfl]
 rw [q5k];simp only [show decide ((2:Int) < (([(m:Int),(n:Int)]:List Int).length:Int))=false from rfl,cF]
 have:q3o (([]++wQ (bOf (vL m)))++wQ (bOf (vL n)))=bOf (vL m++vL n):=by
  rw [hb,hb,List.nil_append,<- List.map_append,qbH]
 exact congrArg (fun x=>some ((x,true),())) this
theorem qf2 {b:Bat} (hok:q06 b=true):batT b=decide ((bTL b).length<=9000):=by unfold batT; rw [hok,Bool.true_and]
theorem qem (b:Bat) (hn:b.2.length<=1000000000):q6w b=some (btO b,()):=by
 rw [qel,qgl b hn];simp only [oB];cases hok:q06 b with
 | false=>
  have:btO b=(eB,false):=by unfold btO batT; rw [hok]; rfl
  rw [this]; rfl
 | true=>
  obtain ⟨h1,h2,h3,h4,h5,_⟩:=q00.1 hok;obtain ⟨m,hm⟩:∃ m:Nat,b.1=(m:Int):=⟨b.1.toNat,by omega⟩
  have v1:=wB (show m<=1000000000 by omega)
  have v2:=wB (show b.2.length<=1000000000 by omega)
  have l1:limS (c_B.size+(bOf (vL m++vL b.2.length)).size)=true:=qX (by rw [qz (vL m++vL b.2.length),lA]; show 1+_<=_; omega)
  simp only [nT,cF,hm,qgI m b.2.length (by omega) (by omega),oB,l1,cT]
  have hL:=q58 b.2 h4 (fun c hc=>qbn hok hc) b.2 0 (c_B++bOf (vL m++vL b.2.length)) rfl (by rw [size_append,qz (vL m++vL b.2.length),lA]; show 1+_<=_; omega)
  have e:bl (c_B++bOf (vL m++vL b.2.length))++b.2.flatMap chL=bTL b:=by
   rw [<- qm6 b hm];congr 1
  rw [e] at hL;refine hL.trans ?_;unfold btO;rw [qf2 hok];simp only [decide_eq_true_eq]
theorem q5v (q:Int) (cs:List Chg) (hn:cs.length<=40) (hs:∀ c∈cs,c.1.size<=20000/\c.2.1.size<=20000):∀ (r:List Chg) (i:Nat) (acc:List UInt8),cs.drop i=r->acc.length<=1000+i * 40011->q1V (wQ (bOf acc)) (i:Int) q cs=some ((if (acc++r.flatMap chL).length<=9000 then (bOf (acc++r.flatMap chL),true) else (eB,false)),())
 | [],i,acc,hd,ha=>by
  have:=drop_eq_nil_iff.1 hd;rw [q5u];have k1:decide ((i:Int) < (cs.length:Int))=false:=dYF (by omega)
  have hz:@length Int (wQ (bOf acc))=acc.length:=qf4 acc;have hz':((@length Int (wQ (bOf acc)):Nat):Int)=(acc.length:Int):=congrArg _ hz;simp only [k1,cF,List.flatMap_nil,append_nil,hz'];have hn:(⟨List.toArray (map (fun n=>UInt8.ofNat (toNat n)) (wQ (bOf acc)))⟩:BA)=bOf acc:=qjD (bOf acc)
  by_cases h:acc.length<=9000
  ·simp only [dYF (show ¬ (acc.length:Int) > 9000 by omega),cF,hn]
   rw [if_pos h]
  ·simp only [dYT (show (acc.length:Int) > 9000 by omega),cT]
   rw [if_neg h]
 | c::r,i,acc,hd,ha=>by
  obtain ⟨e1,hlt,e2⟩:=qV dC hd;obtain ⟨z1,z2⟩:=hs c (yM hd);rw [q5u];have k1:decide ((i:Int) < (cs.length:Int))=true:=dYT (by omega)
  have k2:decide (0<=(i:Int))=true:=dYT (by omega)
  have k4:w64 ((i:Int)+1)=((i+1:Nat):Int):=ql (by omega)
  have hl1:=q0f c.1 z1;have hl2:=q0f c.2.1 z2;have hl3:=qma z1 z2;have hf:(flL c.2.2).size=1:=rfl;have q1:limS ((bOf (shL c.1)).size+(flL c.2.2).size)=true:=qX (by rw [qz (shL c.1)]; omega)
  have q2:limS ((bOf (shL c.1)++flL c.2.2).size+(bOf (shL c.2.1)).size)=true:=qX (by rw [size_append,qz (shL c.1),qz (shL c.2.1)]; omega)
  have q3:lim (@length Int (wQ (bOf acc))+@length Int (wQ (bOf (chL c)))) 1=true:=qW (by
   rw [qf4,qf4]; omega)
  have e5:(wQ (bOf acc)++wQ (bOf (chL c)):List Int)=wQ (bOf (acc++chL c)):=List.map_append.symm;simp only [k1,k2,k4,aS,cT,tN,e1,q6U c.1 z1,q6U c.2.1 z2,qnH,oB,q1,q2,qmb,q3,e5];rw [q5v q cs hn hs r (i+1) _ e2 (by rw [lA,Nat.succ_mul]; omega)]
  simp only [List.flatMap_cons,pA]
theorem q43 (b:Bat) (hn:b.2.length<=1000000000):jo b=some (btO b,()):=by
 rw [qey,qh0 b hn];simp only [oB];cases hok:q06 b with
 | false=>
  have:btO b=(eB,false):=by unfold btO batT; rw [hok]; rfl
  rw [this]; rfl
 | true=>
  obtain ⟨h1,h2,h3,h4,h5,_⟩:=q00.1 hok;obtain ⟨m,hm⟩:∃ m:Nat,b.1=(m:Int):=⟨b.1.toNat,by omega⟩
  have v1:=wB (show m<=1000000000 by omega)
  have v2:=wB (show b.2.length<=1000000000 by omega)
  have l1:limS (c_B.size+(bOf (vL m)).size)=true:=qX (by rw [qz (vL m)]; show 1+_<=_; omega)
  have l2:limS ((c_B++bOf (vL m)).size+(bOf (vL b.2.length)).size)=true:=qX (by rw [size_append,qz (vL m),qz (vL b.2.length)]; show 1+_+_<=_; omega)
  simp only [nT,cF,hm,wV (show m<=1000000000000 by omega),wV (show b.2.length<=1000000000000 by omega),oB,l1,l2,cT]
  have hL:=q5v (m:Int) b.2 h4 (fun c hc=>qbn hok hc) b.2 0 (bl ((c_B++bOf (vL m))++bOf (vL b.2.length))) rfl (by
   rw [<- yj,size_append,size_append,qz (vL m),qz (vL b.2.length)]; show 1+_+_<=_; omega)
  rw [qm6 b hm] at hL;rw [qcI] at hL;refine hL.trans ?_;unfold btO;rw [qf2 hok];simp only [decide_eq_true_eq]
end Go.Den.S
