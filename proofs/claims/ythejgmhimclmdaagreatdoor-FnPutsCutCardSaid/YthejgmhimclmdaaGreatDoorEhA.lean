/- EhA: equations of the functions of this seat as the executor tells them, or plain facts about them. Conditions: none here. -/
import Derived.Test.YthejgmhimclmdaaGreatDoorEqD0
import Derived.Test.YthejgmhimclmdaaGreatDoorEqD1
import Derived.Test.YthejgmhimclmdaaGreatDoorEgA
set_option linter.all false
open Bool (and_eq_true not_eq_true)
open ByteArray (size_append)
open Int (tdiv tmod toNat toNat_natCast)
open List (append_assoc append_nil drop_drop drop_eq_nil_iff drop_zero getD length length_append length_cons length_drop length_map length_singleton map map_cons)
open Nat (le_refl)
namespace Go.Den.S
open Go Go.Den
set_option maxRecDepth 4000
def inB (a b c:Int):Bool:=decide (b<=a)&&decide (a<=c)
theorem q00 (a b c:Int):wL a b c=some (inB a b c,()):=by
 rw [qm8];unfold inB;by_cases h:a>=b
 ·simp only [dYT h,cT,dYT (show b<=a from h),Bool.true_and]
 ·simp only [dYF h,cF,dYF (show ¬ b<=a from h),Bool.false_and]
theorem jy (a b c:Int):wK a b c=some (inB a b c,()):=by
 rw [qnD];unfold inB;by_cases h:a>=b
 ·simp only [dYT h,cT,dYT (show b<=a from h),Bool.true_and]
 ·simp only [dYF h,cF,dYF (show ¬ b<=a from h),Bool.false_and]
def vI (n:Nat):List Int:=(vL n).map fun c=>(c.toNat:Int)
theorem qec (l:List UInt8):q40 (l.map fun c=>(c.toNat:Int))=bOf l:=by
 unfold q40;rw [List.map_map];congr 2
 refine (List.map_congr_left fun c _=>?_).trans (List.map_id _)
 simp
theorem qv7 {n:Nat} (h:n < 128):vI n=[(n:Int)]:=by
 unfold vI;rw [qct h,map_cons,q9W (by omega)]; rfl
theorem qv1 {n:Nat} (h:¬ n < 128):vI n=((n % 128+128:Nat):Int)::vI (n / 128):=by
 unfold vI;rw [qeG h,map_cons,q9W (by omega)]
theorem qj7 (n m:Nat):tdiv (n:Int) (m:Int)=((n / m:Nat):Int):=by
 rw [Int.tdiv_eq_ediv_of_nonneg (by omega)]; rfl
theorem qeU (n m:Nat):tmod (n:Int) (m:Int)=((n % m:Nat):Int):=by
 rw [Int.tmod_eq_emod_of_nonneg (by omega)]; rfl
theorem qhw:∀ (n:Nat) (xs:List Int),n<=4611686018427387904->xs.length+n<=4611686018427387904->n<=1000000000000->xs.length+n<=2000000000000->q5t (n:Int) xs=some (q40 (xs++vI n),()):=by
 intro n;induction n using Nat.strongRecOn with
 | ind n ih=>
  intro xs h1 h2 h3 h4;rw [qhs];have kl:lim (xs.length+1) 1=true:=qJ (by omega)
  by_cases h:n < 128
  ·have k1:decide ((n:Int) > 127)=false:=dYF (by omega)
   have k2:IntKind.u8.wrap (n:Int)=(n:Int):=q9q (by omega) (by omega)
   simp only [k1,cF,kl,cT,k2,qv7 h];rfl
  ·have k1:decide ((n:Int) > 127)=true:=dYT (by omega)
   have e1:tdiv (n:Int) 128=((n / 128:Nat):Int):=qj7 n 128;have e2:tmod (n:Int) 128=((n % 128:Nat):Int):=qeU n 128;have k2:w64 (((n / 128:Nat):Int))=((n / 128:Nat):Int):=qg (by omega) (by omega)
   have k3:w64 (((n % 128:Nat):Int)+128)=((n % 128+128:Nat):Int):=qg (by omega) (by omega)
   have k4:IntKind.u8.wrap ((n % 128+128:Nat):Int)=((n % 128+128:Nat):Int):=q9q (by omega) (by omega)
   simp only [k1,cT,kl,e1,e2,k2,k3,k4];rw [ih (n / 128) (by omega) _ (by omega) (by rw [length_append,length_singleton]; omega) (by omega) (by rw [length_append,length_singleton]; omega),qv1 h,append_assoc]
   rfl
theorem ji {n:Nat} (h:n<=1000000000000):jL (n:Int)=some (bOf (vL n),()):=by
 rw [qlw,qhw n [] (by omega) (by simp; omega) h (by simp; omega)]
 show some (q40 (vI n),())=_;unfold vI;rw [qec]
theorem qgA:∀ (n:Nat) (xs:List Int),n<=1000000000000->xs.length+n<=2000000000000->q4n (n:Int) xs=some ((q40 (xs++vI n),true),()):=by
 intro n;induction n using Nat.strongRecOn with
 | ind n ih=>
  intro xs h3 h4;rw [qgF];have kl:lim (xs.length+1) 1=true:=qJ (by omega)
  by_cases h:n < 128
  ·have k1:decide ((n:Int) > 127)=false:=dYF (by omega)
   have k2:IntKind.u8.wrap (n:Int)=(n:Int):=q9q (by omega) (by omega)
   simp only [k1,cF,kl,cT,k2,qv7 h];rfl
  ·have k1:decide ((n:Int) > 127)=true:=dYT (by omega)
   have e1:tdiv (n:Int) 128=((n / 128:Nat):Int):=qj7 n 128;have e2:tmod (n:Int) 128=((n % 128:Nat):Int):=qeU n 128;have k2:w64 (((n / 128:Nat):Int))=((n / 128:Nat):Int):=qg (by omega) (by omega)
   have k3:w64 (((n % 128:Nat):Int)+128)=((n % 128+128:Nat):Int):=qg (by omega) (by omega)
   have k4:IntKind.u8.wrap ((n % 128+128:Nat):Int)=((n % 128+128:Nat):Int):=q9q (by omega) (by omega)
   simp only [k1,cT,kl,e1,e2,k2,k3,k4];rw [ih (n / 128) (by omega) _ (by omega) (by rw [length_append,length_singleton]; omega),qv1 h,append_assoc]
   rfl
theorem q2s (n:Int):q3d n=some ((if 0<=n/\n<=1000000000 then (bOf (vL n.toNat),true) else (eB,false)),()):=by
 rw [qjj,q00];simp only [oB];by_cases h:0<=n/\n<=1000000000
 ·have e:inB n 0 1000000000=true:=by unfold inB; simp [h]
  simp only [e,Bool.not_true,cF,if_pos h];obtain ⟨m,rfl⟩:∃ m:Nat,n=(m:Int):=⟨n.toNat,by omega⟩
  rw [qgA m [] (by omega) (by simp; omega)]
  show some ((q40 (vI m),true),())=_;unfold vI;rw [qec]; rfl
 ·have e:inB n 0 1000000000=false:=by
   unfold inB;rw [<- not_eq_true,and_eq_true,decide_eq_true_eq,decide_eq_true_eq]; exact h
  simp only [e,Bool.not_false,cT,if_neg h]
def rvO (s:BA) (at':Int):Int×Int×Bool:=if 0<=at'/\at'<=(s.size:Int) then (match rvar ((bl s).drop at'.toNat) with | some (n,k)=>((n:Int),at'+(k:Int),true) | none=>(0,0,false)) else (0,0,false)
theorem qfB (s:BA) {i:Nat} {c:UInt8} {r:List UInt8} (h:(bl s).drop i=c::r):bt s i=(c.toNat:Int):=by
 unfold bt;have:(bl s)[i]?=some c:=by
  have:=congrArg List.head? h;rw [List.head?_drop] at this;exact this
 show (((bl s).getD i 0).toNat:Int)=_;rw [List.getD_eq_getElem?_getD,this]; rfl
theorem q95 {l:List UInt8} {i:Nat} {c:UInt8} {r:List UInt8} (h:l.drop i=c::r):l.drop (i+1)=r:=by
 rw [<- drop_drop,h]; rfl
theorem qh7 {l:List UInt8} {i:Nat} {c:UInt8} {r:List UInt8} (h:l.drop i=c::r):i < l.length:=by
 have:=congrArg length h;rw [length_drop,length_cons] at this; omega
theorem qvI {i:Nat} (hi:i < 5) (x:Int):shlI .i64 x (7 * (i:Int))=x * 128 ^ i:=by
 rw [qqx]
 match i,hi with
 | 0,_=>rfl
 | 1,_=>rfl
 | 2,_=>rfl
 | 3,_=>rfl
 | 4,_=>rfl
theorem qtV {i:Nat} (hi:i < 5):(128:Nat) ^ i<=268435456/\(128:Nat) ^ (i+1)=128 * 128 ^ i:=by
 match i,hi with
 | 0,_=>decide
 | 1,_=>decide
 | 2,_=>decide
 | 3,_=>decide
 | 4,_=>decide
def rvT (a:Nat):Option (Nat×Nat)->(Int×Int×Bool)×Unit
 | some (n,k)=>(((n:Int),(((a+k:Nat):Int),true)),())
 | none=>((0,(0,false)),())
theorem q97 (s:BA) (hs:s.size<=1000000000) (a:Nat) (ha:a<=s.size):∀ (k i acc:Nat),k+i=5->acc < 128 ^ i->q4s s (a:Int) (acc:Int) (i:Int)=some (rvT a (rvG i acc ((bl s).drop (a+i))))
 | 0,i,acc,hk,_=>by
  rw [q90];have k1:decide ((i:Int) < 5)=false:=dYF (by omega)
  simp only [k1,cF];have:rvG i acc ((bl s).drop (a+i))=none:=by
   cases (bl s).drop (a+i) with
   | nil=>rfl
   | cons c r=>simp only [rvG]; rw [if_pos (by omega)]
  rw [this]; rfl
 | k+1,i,acc,hk,hacc=>by
  rw [q90];have hi:i < 5:=by omega
  have k1:decide ((i:Int) < 5)=true:=dYT (by omega)
  have k2:w64 ((a:Int)+(i:Int))=((a+i:Nat):Int):=qg (by omega) (by omega)
  have k3:w64 (7 * (i:Int))=7 * (i:Int):=qg (by omega) (by omega)
  have k4:decide (0<=7 * (i:Int))=true:=dYT (by omega)
  simp only [k1,k2,k3,k4,cT,toNat_natCast];have hsz:=qW s;cases hd:(bl s).drop (a+i) with
  | nil=>
   have:(bl s).length<=a+i:=drop_eq_nil_iff.1 hd;have k5:decide (((a+i:Nat):Int) < (s.size:Int))=false:=dYF (by omega)
   simp only [k5,cF];rfl
  | cons c r=>
   have hlt:=qh7 hd;have k5:decide (((a+i:Nat):Int) < (s.size:Int))=true:=dYT (by omega)
   have k6:decide (0<=((a+i:Nat):Int))=true:=dYT (by omega)
   have hc:=c.toNat_lt;obtain ⟨hp1,hp2⟩:=qtV hi;have hpp:0 < 128 ^ i:=Nat.pow_pos (by decide)
   have k7:w64 (bt s (a+i))=(c.toNat:Int):=by rw [qfB s hd]; exact qg (by omega) (by omega)
   have e2:tmod (c.toNat:Int) 128=((c.toNat % 128:Nat):Int):=qeU _ 128;have hm:c.toNat % 128 * 128 ^ i<=127 * 128 ^ i:=Nat.mul_le_mul_right _ (by omega)
   generalize hq:c.toNat % 128 * 128 ^ i=q at hm;have e3:((c.toNat % 128:Nat):Int) * 128 ^ i=(q:Int):=by rw [<- hq]; simp
   have k8:w64 (q:Int)=(q:Int):=qg (by omega) (by omega)
   have k9:w64 ((acc:Int)+(q:Int))=((acc+q:Nat):Int):=qg (by omega) (by omega)
   have k10:w64 ((i:Int)+1)=((i+1:Nat):Int):=qw (by omega)
   simp only [k5,k6,cT,Bool.and_self,k7,e2,qvI hi,e3,k8,k9,k10];rw [show rvG i acc (c::r)=if 5<=i then none else if c.toNat < 128 then (if acc+c.toNat % 128 * 128 ^ i<=1000000000/\(vL (acc+c.toNat % 128 * 128 ^ i)).length=i+1 then some (acc+c.toNat % 128 * 128 ^ i,i+1) else none) else rvG (i+1) (acc+c.toNat % 128 * 128 ^ i) r from rfl,if_neg (by omega),hq]
   by_cases hl:c.toNat < 128
   ·have k11:decide ((c.toNat:Int) < 128)=true:=dYT (by omega)
    rw [if_pos hl];simp only [k11,cT,q2s,oB];by_cases h9:acc+q<=1000000000
    ·rw [if_pos (show (0:Int)<=((acc+q:Nat):Int)/\((acc+q:Nat):Int)<=1000000000 by omega)]
     simp only [Bool.not_true,cF,toNat_natCast,qD];have k12:w64 (((a+i:Nat):Int)+1)=((a+i+1:Nat):Int):=qw (by omega)
     by_cases hL:(vL (acc+q)).length=i+1
     ·have k13:(((vL (acc+q)).length:Int) != ((i+1:Nat):Int))=false:=by rw [hL]; simp
      simp only [k13,cF,k12,if_pos (And.intro h9 hL)];rfl
     ·have k13:(((vL (acc+q)).length:Int) != ((i+1:Nat):Int))=true:=by
       rw [bne_iff_ne]; omega
      simp only [k13,cT,if_neg (fun (h:_/\_)=>hL h.2)]
      rfl
    ·rw [if_neg (show ¬ ((0:Int)<=((acc+q:Nat):Int)/\((acc+q:Nat):Int)<=1000000000) by omega),if_neg (fun (h:_/\_)=>h9 h.1)]
     simp only [Bool.not_false,cT];rfl
   ·have k11:decide ((c.toNat:Int) < 128)=false:=dYF (by omega)
    rw [if_neg hl];simp only [k11,cF];rw [q97 s hs a ha k (i+1) (acc+q) (by omega) (by omega),<- Nat.add_assoc,q95 hd]
theorem qqU (s:BA) (a:Nat) (ha:a<=s.size):rvT a (rvG 0 0 ((bl s).drop a))=(rvO s (a:Int),()):=by
 unfold rvO;rw [if_pos (by omega),toNat_natCast]
 show rvT a (rvar ((bl s).drop a))=_;cases rvar ((bl s).drop a) with
 | none=>rfl
 | some p=>simp only [rvT]; rw [Int.natCast_add]
theorem q7K (s:BA) (hs:s.size<=1000000000) (a:Int):q4W s a=some (rvO s a,()):=by
 rw [qki,q00];simp only [oB];by_cases h:0<=a/\a<=(s.size:Int)
 ·have e:inB a 0 (s.size:Int)=true:=by unfold inB; simp [h]
  simp only [e,Bool.not_true,cF];obtain ⟨m,rfl⟩:∃ m:Nat,a=(m:Int):=⟨a.toNat,by omega⟩
  rw [show (0:Int)=((0:Nat):Int) from rfl,q97 s hs m (by omega) 5 0 0 rfl (by decide)]
  exact congrArg some (qqU s m (by omega))
 ·have e:inB a 0 (s.size:Int)=false:=by
   unfold inB;rw [<- not_eq_true,and_eq_true,decide_eq_true_eq,decide_eq_true_eq]; exact h
  simp only [e,Bool.not_false,cT];unfold rvO;rw [if_neg h]
theorem qw9 {p:List UInt8} {c:UInt8} (hp:∀ x∈p,128<=x.toNat) (hc:c.toNat < 128):(vL (vV p+c.toNat % 128 * 128 ^ p.length)).length=p.length+1↔vL (vV p+c.toNat % 128 * 128 ^ p.length)=p++[c]:=by
 have hf:=qe2 hp hc;have hv:vV (p++[c])=vV p+c.toNat % 128 * 128 ^ p.length:=by
  rw [qbZ];simp only [vV];rw [Nat.mul_zero,Nat.add_zero,Nat.mul_comm]
 have hk:=(qd3 hf).2;rw [hv] at hk;constructor
 ·intro h;exact hk (by rw [h,length_append]; rfl)
 ·intro h;rw [h,length_append]; rfl
theorem qvc:∀ p:List UInt8,vV p < 128 ^ p.length
 | []=>by decide
 | c::p=>by
  have:=qvc p;simp only [vV,length_cons,Nat.pow_succ];omega
theorem q93 (s:BA) (hs:s.size<=1000000000) (a:Nat) (ha:a<=s.size):∀ (k i acc sc:Nat) (p:List UInt8),k+i=5->p.length=i->(∀ x∈p,128<=x.toNat)->acc=vV p->sc=128 ^ i->(bl s).drop a=p++(bl s).drop (a+i)->q4v s (a:Int) (acc:Int) (sc:Int) ((a+i:Nat):Int)=some (rvT a (rvG i acc ((bl s).drop (a+i))))
 | 0,i,acc,sc,p,hk,hpl,hp,hacc,hsc,hdr=>by
  rw [q9A];have k3:w64 ((a:Int)+5)=(a:Int)+5:=qg (by omega) (by omega)
  have k1:decide (((a+i:Nat):Int) < (a:Int)+5)=false:=dYF (by omega)
  have:rvG i acc ((bl s).drop (a+i))=none:=by
   cases (bl s).drop (a+i) with
   | nil=>rfl
   | cons c r=>simp only [rvG]; rw [if_pos (by omega)]
  rw [this];simp only [k3,k1,cF];by_cases h:((a+i:Nat):Int) < (s.size:Int)
  ·simp only [dYT h,cT]; rfl
  ·simp only [dYF h,cF]; rfl
 | k+1,i,acc,sc,p,hk,hpl,hp,hacc,hsc,hdr=>by
  rw [q9A];have hi:i < 5:=by omega
  have hsz:=qW s;have k3:w64 ((a:Int)+5)=(a:Int)+5:=qg (by omega) (by omega)
  have k1:decide (((a+i:Nat):Int) < (a:Int)+5)=true:=dYT (by omega)
  simp only [k3,k1,cT,toNat_natCast];cases hd:(bl s).drop (a+i) with
  | nil=>
   have:(bl s).length<=a+i:=drop_eq_nil_iff.1 hd;have k5:decide (((a+i:Nat):Int) < (s.size:Int))=false:=dYF (by omega)
   simp only [k5,cF];rfl
  | cons c r=>
   have hlt:=qh7 hd;have k5:decide (((a+i:Nat):Int) < (s.size:Int))=true:=dYT (by omega)
   have k6:decide (0<=((a+i:Nat):Int))=true:=dYT (by omega)
   have hc:=c.toNat_lt;obtain ⟨hp1,hp2⟩:=qtV hi;have hpp:0 < 128 ^ i:=Nat.pow_pos (by decide)
   have hb:bt s (a+i)=(c.toNat:Int):=qfB s hd;have k7:w64 (c.toNat:Int)=(c.toNat:Int):=qg (by omega) (by omega)
   have e2:tmod (c.toNat:Int) 128=((c.toNat % 128:Nat):Int):=qeU _ 128;have hm:c.toNat % 128 * 128 ^ i<=127 * 128 ^ i:=Nat.mul_le_mul_right _ (by omega)
   have hacc2:acc < 128 ^ i:=by rw [hacc,<- hpl]; exact qvc p
   have hL:(vL (acc+c.toNat % 128 * 128 ^ i)).length=i+1↔vL (acc+c.toNat % 128 * 128 ^ i)=p++[c]\/¬ c.toNat < 128/\(vL (acc+c.toNat % 128 * 128 ^ i)).length=i+1:=by
    by_cases hl:c.toNat < 128
    ·have:=qw9 hp hl;rw [hpl,<- hacc] at this;simp [this,hl]
    ·simp only [hl,not_false_eq_true,true_and];constructor
     ·exact .inr
     ·rintro (h | h)
      ·rw [h,length_append,hpl]; rfl
      ·exact h
   generalize hq:c.toNat % 128 * 128 ^ i=q at hm hL;have e3:((c.toNat % 128:Nat):Int) * (sc:Int)=(q:Int):=by rw [hsc,<- hq]; simp
   have k8:w64 (q:Int)=(q:Int):=qg (by omega) (by omega)
   have k9:w64 ((acc:Int)+(q:Int))=((acc+q:Nat):Int):=qg (by omega) (by omega)
   have k12:w64 (((a+i:Nat):Int)+1)=((a+i+1:Nat):Int):=qw (by omega)
   have k13:w64 ((sc:Int) * 128)=((128 ^ (i+1):Nat):Int):=by
    rw [hp2,hsc];have:(((128 ^ i:Nat):Int) * 128)=((128 * 128 ^ i:Nat):Int):=by
     rw [Nat.mul_comm]; simp
    rw [this];exact qg (by omega) (by omega)
   simp only [k5,k6,cT,Bool.and_self,hb,k7,e2,e3,k8,k9,k12,k13];rw [show rvG i acc (c::r)=if 5<=i then none else if c.toNat < 128 then (if acc+c.toNat % 128 * 128 ^ i<=1000000000/\(vL (acc+c.toNat % 128 * 128 ^ i)).length=i+1 then some (acc+c.toNat % 128 * 128 ^ i,i+1) else none) else rvG (i+1) (acc+c.toNat % 128 * 128 ^ i) r from rfl,if_neg (by omega),hq]
   by_cases hl:c.toNat < 128
   ·have k11:decide ((c.toNat:Int) < 128)=true:=dYT (by omega)
    rw [if_pos hl];simp only [k11,cT];by_cases h9:acc+q<=1000000000
    ·have k14:decide (((acc+q:Nat):Int) > 1000000000)=false:=dYF (by omega)
     have k15:decide (0<=(a:Int))=true:=dYT (by omega)
     have k16:decide ((a:Int)<=((a+i+1:Nat):Int))=true:=dYT (by omega)
     have k17:decide (((a+i+1:Nat):Int)<=(s.size:Int))=true:=dYT (by omega)
     simp only [k14,cF,ji (show acc+q<=1000000000000 by omega),oB,k15,k16,k17,Bool.and_self,cT,y8,toNat_natCast]
     have hx:bOf (vL (acc+q))=s.extract a (a+i+1)↔(vL (acc+q)).length=i+1:=by
      rw [hL];simp only [hl,not_true_eq_false,false_and,or_false];have:bl (s.extract a (a+i+1))=p++[c]:=by
       rw [q4M,hdr,hd,show a+i+1 - a=(p++[c]).length by rw [length_append,hpl,length_singleton]; omega,show p++c::r=(p++[c])++r by simp]
       exact q4C _ _
      constructor
      ·intro h; rw [<- this,<- h]
      ·intro h; exact zU (by rw [this,yX,h])
     by_cases hL':(vL (acc+q)).length=i+1
     ·simp only [dYT (hx.2 hL'),Bool.not_true,cF,if_pos (And.intro h9 hL')];rfl
     ·simp only [dYF (fun h=>hL' (hx.1 h)),Bool.not_false,cT,if_neg (fun (h:_/\_)=>hL' h.2)]
      rfl
    ·have k14:decide (((acc+q:Nat):Int) > 1000000000)=true:=dYT (by omega)
     rw [if_neg (fun (h:_/\_)=>h9 h.1)]
     simp only [k14,cT];rfl
   ·have k11:decide ((c.toNat:Int) < 128)=false:=dYF (by omega)
    rw [if_neg hl];simp only [k11,cF];have e4:((a+i+1:Nat):Int)=((a+(i+1):Nat):Int):=rfl;rw [e4,q93 s hs a ha k (i+1) (acc+q) (128 ^ (i+1)) (p++[c]) (by omega) (by rw [length_append,hpl]; rfl) (fun x hx=>by
     rcases List.mem_append.1 hx with hx | hx
     ·exact hp x hx
     ·rw [List.mem_singleton.1 hx]; omega) (by
      rw [qbZ,<- hacc,hpl,<- hq];simp only [vV];rw [Nat.mul_zero,Nat.add_zero,Nat.mul_comm]) rfl (by
      rw [<- Nat.add_assoc,q95 hd,hdr,hd]; simp),<- Nat.add_assoc,q95 hd]
theorem qcP (s:BA) (hs:s.size<=1000000000) (a:Int):q7L s a=some (rvO s a,()):=by
 rw [qjB,jy];simp only [oB];by_cases h:0<=a/\a<=(s.size:Int)
 ·have e:inB a 0 (s.size:Int)=true:=by unfold inB; simp [h]
  simp only [e,Bool.not_true,cF];obtain ⟨m,rfl⟩:∃ m:Nat,a=(m:Int):=⟨a.toNat,by omega⟩
  have:=q93 s hs m (by omega) 5 0 0 1 [] rfl rfl (fun x hx=>by cases hx) rfl rfl rfl
  exact this.trans (congrArg some (qqU s m (by omega)))
 ·have e:inB a 0 (s.size:Int)=false:=by
   unfold inB;rw [<- not_eq_true,and_eq_true,decide_eq_true_eq,decide_eq_true_eq]; exact h
  simp only [e,Bool.not_false,cT];unfold rvO;rw [if_neg h]
theorem qgE {α:Type} (l:List α) (d:α) {R:Type} (F:Nat->R) (G:List α->R) (h0:F l.length=G []) (h1:∀ i x r,l.drop i=x::r->i < l.length->l.getD i d=x->F (i+1)=G r->F i=G (x::r)):F 0=G l:=by
 have key:∀ (k i:Nat),k+i=l.length->F i=G (l.drop i):=by
  intro k;induction k with
  | zero=>intro i hi; rw [show i=l.length by omega,List.drop_length]; exact h0
  | succ k ih=>
   intro i hi;have hlt:i < l.length:=by omega
   have hd:l.drop i=l[i]::l.drop (i+1):=List.drop_eq_getElem_cons hlt;rw [hd];exact h1 i l[i] _ hd hlt (jA hlt) (ih (i+1) (by omega))
 have:=key l.length 0 (by omega)
 rwa [drop_zero] at this
theorem q9v (s:BA) (z:Int):∀ (k i:Nat),k+i=8->∀ x:Int,q2G x s z (i:Int)=q2t (rndN k x) s (w64 (z+1))
 | 0,i,hk,x=>by
  rw [q9L];have k1:decide ((i:Int) < 8)=false:=dYF (by omega)
  simp only [k1,cF]; rfl
 | k+1,i,hk,x=>by
  rw [q9L];have k1:decide ((i:Int) < 8)=true:=dYT (by omega)
  have k4:w64 ((i:Int)+1)=((i+1:Nat):Int):=qw (by omega)
  simp only [k1,cT,k4,q9v s z k (i+1) (by omega)]
  have:rndN (k+1) x=rndN k (rnd1 x):=rfl;rw [this];unfold rnd1;cases (tmod x 2==1)<;>rfl
theorem q9P (s:BA) (z:Int):∀ (k i:Nat),k+i=8->∀ x:Int,q2B x s z (i:Int)=q2j (rndN k x) s (w64 (z+1))
 | 0,i,hk,x=>by
  rw [q9f];have k1:decide ((i:Int) < 8)=false:=dYF (by omega)
  simp only [k1,cF]; rfl
 | k+1,i,hk,x=>by
  rw [q9f];have k1:decide ((i:Int) < 8)=true:=dYT (by omega)
  have k4:w64 ((i:Int)+1)=((i+1:Nat):Int):=qw (by omega)
  simp only [k1,cT,k4,q9P s z k (i+1) (by omega)]
  have:rndN (k+1) x=rndN k (rnd1 x):=rfl;rw [this];unfold rnd1;cases (tmod x 2==1)<;>rfl
theorem qrU {n:Int} (h0:0<=n) (h1:n<=4294967295):IntKind.u32.wrap n=n:=by
 have e:IntKind.u32.wrap n=if IntKind.u32.signed&&decide ((n % 4294967296)>=2147483648) then n % 4294967296 - 4294967296 else n % 4294967296:=rfl
 rw [e,show IntKind.u32.signed=false from rfl,Bool.false_and,if_neg (by decide)]
 omega
theorem qok (c:UInt8):IntKind.u32.wrap (c.toNat:Int)=(c.toNat:Int):=by
 have:=c.toNat_lt;exact qrU (by omega) (by omega)
theorem qjN (s:BA) (hs:s.size<=1000000000) (x:Int):qbg x s=some (sumL x (bl s),()):=by
 rw [qk9];have hsz:=qW s;have key:=qgE (bl s) 0 (fun i=>fun x=>q2t x s (i:Int)) (fun l=>fun x=>some (sumL x l,())) (by
  funext x
  rw [q9X];have k1:decide (((bl s).length:Int) < (s.size:Int))=false:=dYF (by omega)
  simp only [k1,cF]; rfl) (fun i c r hd hlt _ ih=>by
  funext x
  rw [q9X];have k1:decide ((i:Int) < (s.size:Int))=true:=dYT (by omega)
  have k2:decide (0<=(i:Int))=true:=dYT (by omega)
  have k4:w64 ((i:Int)+1)=((i+1:Nat):Int):=qw (by omega)
  simp only [k1,k2,Bool.and_self,cT,toNat_natCast,qfB s hd,qok];have h8:=q9v s (i:Int) 8 0 rfl;rw [show (0:Int)=((0:Nat):Int) from rfl,h8,k4]
  exact congrFun ih _)
 exact congrFun key x
theorem qkB (s:BA) (hs:s.size<=1000000000) (x:Int):qc7 x s=some (sumL x (bl s),()):=by
 rw [qkq];have hsz:=qW s;have key:=qgE (bl s) 0 (fun i=>fun x=>q2j x s (i:Int)) (fun l=>fun x=>some (sumL x l,())) (by
  funext x
  rw [q9B];have k1:decide (((bl s).length:Int) < (s.size:Int))=false:=dYF (by omega)
  simp only [k1,cF]; rfl) (fun i c r hd hlt _ ih=>by
  funext x
  rw [q9B];have k1:decide ((i:Int) < (s.size:Int))=true:=dYT (by omega)
  have k2:decide (0<=(i:Int))=true:=dYT (by omega)
  have k4:w64 ((i:Int)+1)=((i+1:Nat):Int):=qw (by omega)
  simp only [k1,k2,Bool.and_self,cT,toNat_natCast,qfB s hd,qok];have h8:=q9P s (i:Int) 8 0 rfl;rw [show (0:Int)=((0:Nat):Int) from rfl,h8,k4]
  exact congrFun ih _)
 exact congrFun key x
theorem qnm (s:BA) (hs:s.size<=1000000000):qeI s=some (sumL 4294967295 (bl s),()):=by
 rw [qnF,qjN s hs]; rfl
theorem qnA (s:BA) (hs:s.size<=1000000000):qet s=some (sumL 4294967295 (bl s),()):=by
 rw [qnB,qkB s hs]; rfl
theorem shr0 (x:Int):shrI .u32 x 0=x:=by
 rw [qqB];show x.fdiv (2 ^ (min 0 IntKind.u32.bits))=x;rw [Nat.zero_min,Int.pow_zero,Int.fdiv_one]
theorem qqD (x:Int):q40 [IntKind.u8.wrap (shrI .u32 x 24),IntKind.u8.wrap (shrI .u32 x 16),IntKind.u8.wrap (shrI .u32 x 8),IntKind.u8.wrap x]=bOf (q2o x):=by
 unfold q40 q2o;simp only [map_cons,List.map_nil,shr0]
theorem qkG (x:Int):qbL x=some (bOf (q2o x),()):=by
 rw [qk5];exact congrArg (fun y=>some (y,())) (qqD x)
noncomputable def frO (s:BA):BA×Bool:=if 1<=s.size/\s.size<=9000 then (bOf (frL s),true) else (eB,false)
theorem qmj (s:BA):(bOf (vL s.size)++bOf (q2o (sumL 4294967295 (bl s))))++s=bOf (frL s):=zU (by
 rw [q0D,q0D,yX,yX,yX];unfold frL;rw [append_assoc])
theorem qgR (n:Nat) {a b:Nat}:inB (n:Int) (a:Int) (b:Int)=decide (a<=n/\n<=b):=by
 unfold inB;rw [Bool.eq_iff_iff];simp only [and_eq_true,decide_eq_true_eq];omega
theorem q18 (s:BA):q0Q s=some (frO s,()):=by
 rw [qnK,jy];unfold frO;rw [show inB (s.size:Int) 1 9000=decide (1<=s.size/\s.size<=9000) from qgR _]
 by_cases h:1<=s.size/\s.size<=9000
 ·have hv:=zq (show s.size<=1000000000 by omega)
  have k1:limS ((bOf (vL s.size)).size+(bOf (q2o (sumL 4294967295 (bl s)))).size)=true:=yA (by rw [qD (vL s.size),qD (q2o _),q3m]; omega)
  have k2:limS ((bOf (vL s.size)++bOf (q2o (sumL 4294967295 (bl s)))).size+s.size)=true:=yA (by rw [size_append,qD (vL s.size),qD (q2o _),q3m]; omega)
  simp only [dYT h,oB,Bool.not_true,cF,ji (show s.size<=1000000000000 by omega),qnA s (by omega),qkG,k1,k2,cT,qmj,if_pos h]
 ·simp only [dYF h,oB,Bool.not_false,cT,if_neg h]
theorem q44 (s:BA):q2F s=some (frO s,()):=by
 rw [qnJ,q00];unfold frO;rw [show inB (s.size:Int) 1 9000=decide (1<=s.size/\s.size<=9000) from qgR _]
 by_cases h:1<=s.size/\s.size<=9000
 ·have hv:=zq (show s.size<=1000000000 by omega)
  have k1:limS ((bOf (vL s.size)).size+(bOf (q2o (sumL 4294967295 (bl s)))).size)=true:=yA (by rw [qD (vL s.size),qD (q2o _),q3m]; omega)
  have k2:limS ((bOf (vL s.size)++bOf (q2o (sumL 4294967295 (bl s)))).size+s.size)=true:=yA (by rw [size_append,qD (vL s.size),qD (q2o _),q3m]; omega)
  have hx:(⟨List.toArray (map (fun n=>UInt8.ofNat (toNat n)) [IntKind.u8.wrap (shrI .u32 (sumL 4294967295 (bl s)) 24),IntKind.u8.wrap (shrI .u32 (sumL 4294967295 (bl s)) 16),IntKind.u8.wrap (shrI .u32 (sumL 4294967295 (bl s)) 8),IntKind.u8.wrap (sumL 4294967295 (bl s))])⟩:BA)=bOf (q2o (sumL 4294967295 (bl s))):=qqD _
  simp only [dYT h,oB,Bool.not_true,cF,q2s,qnm s (show s.size<=1000000000 by omega),if_pos (show (0:Int)<=(s.size:Int)/\(s.size:Int)<=1000000000 by omega),toNat_natCast,hx,k1,k2,cT,qmj,if_pos h]
 ·simp only [dYF h,oB,Bool.not_false,cT,if_neg h]
theorem qo9 {f:Nat} {l:List UInt8} (h:fr1 l=none):unf f l=([],0):=by
 cases f with
 | zero=>rfl
 | succ f=>simp only [unf,h]
theorem qpQ {f:Nat} {l:List UInt8} {t:BA} {m:Nat} (h:fr1 l=some (t,m)):unf (f+1) l=(t::(unf f (l.drop m)).1,m+(unf f (l.drop m)).2):=by
 simp only [unf,h]
theorem qgq (s:BA) (a:Nat) (ha:a<=s.size):rvO s (a:Int)=match rvar ((bl s).drop a) with | some (n,k)=>((n:Int),((a:Int)+(k:Int),true)) | none=>(0,(0,false)):=by
 unfold rvO;rw [if_pos (by omega),toNat_natCast]
 all_goals (cases rvar ((bl s).drop a)<;>rfl)
theorem qlg {l:List UInt8} {a:Nat} {n k:Nat} (h:rvar (l.drop a)=some (n,k)):n<=1000000000/\0 < k/\a+k<=l.length:=by
 obtain ⟨h1,h2,_,h4⟩:=qbq h;rw [length_drop] at h4;exact ⟨h1,h2,by omega⟩
theorem qdw {l:List UInt8} {n k:Nat} (h:rvar l=some (n,k)) (hc:¬ (n+k+4<=l.length/\1<=n/\n<=9000/\frL (bOf ((l.drop (k+4)).take n))=l.take (k+4+n))):fr1 l=none:=by
 unfold fr1;simp only [h,if_neg hc]
theorem qqr {l:List UInt8} {n k:Nat} (h:rvar l=some (n,k)) (hc:n+k+4<=l.length/\1<=n/\n<=9000/\frL (bOf ((l.drop (k+4)).take n))=l.take (k+4+n)):fr1 l=some (bOf ((l.drop (k+4)).take n),k+4+n):=by
 unfold fr1;simp only [h,if_pos hc]
theorem qtm {l:List UInt8} (h:rvar l=none):fr1 l=none:=by
 unfold fr1;simp only [h]
theorem qfY (s:BA) (hs:s.size<=20000):∀ (f a:Nat) (acc:List BA),a+f=s.size+1->acc.length<=a->q4B s acc (a:Int)=some ((acc++(unf f ((bl s).drop a)).1,((a+(unf f ((bl s).drop a)).2:Nat):Int)),()):=by
 intro f;induction f using Nat.strongRecOn with
 | ind f ih=>
  intro a acc hf hacc;have hsz:=qW s;have stop:∀ g,fr1 ((bl s).drop a)=none->some ((acc,(a:Int)),())=some ((acc++(unf g ((bl s).drop a)).1,((a+(unf g ((bl s).drop a)).2:Nat):Int)),()):=fun g h=>by
   rw [qo9 h,append_nil]; rfl
  rw [qg3,q7K s (by omega)]
  simp only [oB];by_cases ha:a<=s.size
  ·rw [qgq s a ha];cases hr:rvar ((bl s).drop a) with
   | none=>
    simp only [Bool.not_false,cT];exact stop f (qtm hr)
   | some p=>
    obtain ⟨n,k⟩:=p;obtain ⟨hn,hk,hak⟩:=qlg hr;have hdl:((bl s).drop a).length=s.size - a:=by rw [length_drop,hsz]
    simp only [Bool.not_true,cF];have w1:w64 ((s.size:Int) - ((a:Int)+(k:Int)))=(s.size:Int) - ((a:Int)+(k:Int)):=qg (by omega) (by omega)
    have w2:w64 ((s.size:Int) - ((a:Int)+(k:Int)) - 4)=(s.size:Int) - ((a:Int)+(k:Int)) - 4:=qg (by omega) (by omega)
    have w3:w64 ((a:Int)+(k:Int)+4)=((a+k+4:Nat):Int):=qg (by omega) (by omega)
    have w4:w64 (((a+k+4:Nat):Int)+(n:Int))=((a+k+4+n:Nat):Int):=qg (by omega) (by omega)
    simp only [w1,w2,w3,w4];by_cases hb:(n:Int) > (s.size:Int) - ((a:Int)+(k:Int)) - 4
    ·simp only [dYT hb,cT];exact stop f (qdw hr fun h=>by rw [hdl] at h; omega)
    ·have q1:decide (0<=((a+k+4:Nat):Int))=true:=dYT (by omega)
     have q2:decide (((a+k+4:Nat):Int)<=((a+k+4+n:Nat):Int))=true:=dYT (by omega)
     have q3:decide (((a+k+4+n:Nat):Int)<=(s.size:Int))=true:=dYT (by omega)
     have q4:decide (0<=(a:Int))=true:=dYT (by omega)
     have q5:decide ((a:Int)<=((a+k+4+n:Nat):Int))=true:=dYT (by omega)
     simp only [dYF hb,cF,q1,q2,q3,q4,q5,Bool.and_self,cT,q44,oB,toNat_natCast,y8];have hx:s.extract (a+k+4) (a+k+4+n)=bOf ((((bl s).drop a).drop (k+4)).take n):=zU (by
      rw [q4M,yX,drop_drop]; congr 1<;>first | omega | (congr 1; omega))
     have hy:bl (s.extract a (a+k+4+n))=((bl s).drop a).take (k+4+n):=by
      rw [q4M]; congr 1; omega
     have hxs:(bOf ((((bl s).drop a).drop (k+4)).take n)).size=n:=by
      rw [qD,List.length_take,length_drop,hdl]; omega
     rw [hx];unfold frO;rw [hxs];by_cases h9:1<=n/\n<=9000
     ·simp only [if_pos h9,Bool.not_true,cF];by_cases he:frL (bOf ((((bl s).drop a).drop (k+4)).take n))=((bl s).drop a).take (k+4+n)
      ·have q6:bOf (frL (bOf ((((bl s).drop a).drop (k+4)).take n)))=s.extract a (a+k+4+n):=zU (by rw [yX,hy,he])
       have q7:lim (acc.length+1) 16=true:=qJ (by omega)
       have hyes:=qqr hr ⟨by rw [hdl]; omega,h9.1,h9.2,he⟩
       simp only [dYT q6,Bool.not_true,cF,q7,cT];obtain ⟨g,rfl⟩:∃ g,f=g+1:=⟨f - 1,by omega⟩
       obtain ⟨d,hd⟩:∃ d,d+(k+4+n)=g+1:=⟨g+1 - (k+4+n),by omega⟩
       rw [ih d (by omega) (a+k+4+n) _ (by omega) (by rw [length_append,length_singleton]; omega),qpQ hyes,show ((bl s).drop a).drop (k+4+n)=(bl s).drop (a+k+4+n) by rw [drop_drop]; congr 1; omega,q8k d g _ (by rw [length_drop]; omega) (by rw [length_drop]; omega)]
       simp only [append_assoc,List.singleton_append];congr 4; omega
      ·have q6:¬ bOf (frL (bOf ((((bl s).drop a).drop (k+4)).take n)))=s.extract a (a+k+4+n):=fun h=>he (by rw [<- hy,<- h])
       simp only [dYF q6,Bool.not_false,cT];exact stop f (qdw hr fun h=>he h.2.2.2)
     ·simp only [if_neg h9,Bool.not_false,cT];exact stop f (qdw hr fun h=>h9 ⟨h.2.1,h.2.2.1⟩)
  ·have:rvO s (a:Int)=(0,(0,false)):=by unfold rvO; rw [if_neg (by omega)]
   rw [this];simp only [Bool.not_false,cT];refine stop f ?_;rw [List.drop_eq_nil_of_le (by omega)]; exact qdk
noncomputable def unO (s:BA):List BA×Int:=if s.size<=20000 then ((unfr (bl s)).1,((unfr (bl s)).2:Int)) else ([],0)
theorem q7e (s:BA):q4R s=some (unO s,()):=by
 rw [qjt];unfold unO;by_cases h:s.size<=20000
 ·have k1:decide ((s.size:Int) > 20000)=false:=dYF (by omega)
  have hk:=qfY s h (s.size+1) 0 [] (by omega) (le_refl _)
  simp only [k1,cF,if_pos h];have e:unf (s.size+1) ((bl s).drop 0)=unfr (bl s):=q8k _ _ _ (by rw [drop_zero,qW]; omega) (le_refl _)
  rw [e] at hk;simpa using hk
 ·have k1:decide ((s.size:Int) > 20000)=true:=dYT (by omega)
  simp only [k1,cT,if_neg h]
theorem qgd (s:BA) (hs:s.size<=20000):∀ (f a:Nat) (acc:List BA),a+f=s.size+1->acc.length<=a->q4o s acc (a:Int)=some ((acc++(unf f ((bl s).drop a)).1,((a+(unf f ((bl s).drop a)).2:Nat):Int)),()):=by
 intro f;induction f using Nat.strongRecOn with
 | ind f ih=>
  intro a acc hf hacc;have hsz:=qW s;have stop:∀ g,fr1 ((bl s).drop a)=none->some ((acc,(a:Int)),())=some ((acc++(unf g ((bl s).drop a)).1,((a+(unf g ((bl s).drop a)).2:Nat):Int)),()):=fun g h=>by
   rw [qo9 h,append_nil]; rfl
  rw [qfV,qcP s (by omega)]
  simp only [oB];by_cases ha:a < s.size
  ·have k0:decide ((a:Int) < (s.size:Int))=true:=dYT (by omega)
   rw [qgq s a (Nat.le_of_lt ha)];simp only [k0,cT];cases hr:rvar ((bl s).drop a) with
   | none=>
    simp only [Bool.not_false,cT];exact stop f (qtm hr)
   | some p=>
    obtain ⟨n,k⟩:=p;obtain ⟨hn,hk,hak⟩:=qlg hr;have hdl:((bl s).drop a).length=s.size - a:=by rw [length_drop,hsz]
    simp only [Bool.not_true,cF];have w1:w64 ((s.size:Int) - ((a:Int)+(k:Int)))=(s.size:Int) - ((a:Int)+(k:Int)):=qg (by omega) (by omega)
    have w2:w64 ((s.size:Int) - ((a:Int)+(k:Int)) - 4)=(s.size:Int) - ((a:Int)+(k:Int)) - 4:=qg (by omega) (by omega)
    have w3:w64 ((a:Int)+(k:Int)+4)=((a+k+4:Nat):Int):=qg (by omega) (by omega)
    have w4:w64 (((a+k+4:Nat):Int)+(n:Int))=((a+k+4+n:Nat):Int):=qg (by omega) (by omega)
    simp only [w1,w2,w3,w4];by_cases hb:(n:Int) > (s.size:Int) - ((a:Int)+(k:Int)) - 4
    ·simp only [dYT hb,cT];exact stop f (qdw hr fun h=>by rw [hdl] at h; omega)
    ·have q1:decide (0<=((a+k+4:Nat):Int))=true:=dYT (by omega)
     have q2:decide (((a+k+4:Nat):Int)<=((a+k+4+n:Nat):Int))=true:=dYT (by omega)
     have q3:decide (((a+k+4+n:Nat):Int)<=(s.size:Int))=true:=dYT (by omega)
     have q4:decide (0<=(a:Int))=true:=dYT (by omega)
     have q5:decide ((a:Int)<=((a+k+4+n:Nat):Int))=true:=dYT (by omega)
     simp only [dYF hb,cF,q1,q2,q3,q4,q5,Bool.and_self,cT,q18,oB,toNat_natCast,y8];have hx:s.extract (a+k+4) (a+k+4+n)=bOf ((((bl s).drop a).drop (k+4)).take n):=zU (by
      rw [q4M,yX,drop_drop]; congr 1<;>first | omega | (congr 1; omega))
     have hy:bl (s.extract a (a+k+4+n))=((bl s).drop a).take (k+4+n):=by
      rw [q4M]; congr 1; omega
     have hxs:(bOf ((((bl s).drop a).drop (k+4)).take n)).size=n:=by
      rw [qD,List.length_take,length_drop,hdl]; omega
     rw [hx];unfold frO;rw [hxs];by_cases h9:1<=n/\n<=9000
     ·simp only [if_pos h9,Bool.not_true,cF];by_cases he:frL (bOf ((((bl s).drop a).drop (k+4)).take n))=((bl s).drop a).take (k+4+n)
      ·have q6:bOf (frL (bOf ((((bl s).drop a).drop (k+4)).take n)))=s.extract a (a+k+4+n):=zU (by rw [yX,hy,he])
       have q7:lim (acc.length+1) 16=true:=qJ (by omega)
       have hyes:=qqr hr ⟨by rw [hdl]; omega,h9.1,h9.2,he⟩
       simp only [dYT q6,Bool.not_true,cF,q7,cT];obtain ⟨g,rfl⟩:∃ g,f=g+1:=⟨f - 1,by omega⟩
       obtain ⟨d,hd⟩:∃ d,d+(k+4+n)=g+1:=⟨g+1 - (k+4+n),by omega⟩
       rw [ih d (by omega) (a+k+4+n) _ (by omega) (by rw [length_append,length_singleton]; omega),qpQ hyes,show ((bl s).drop a).drop (k+4+n)=(bl s).drop (a+k+4+n) by rw [drop_drop]; congr 1; omega,q8k d g _ (by rw [length_drop]; omega) (by rw [length_drop]; omega)]
       simp only [append_assoc,List.singleton_append];congr 4; omega
      ·have q6:¬ bOf (frL (bOf ((((bl s).drop a).drop (k+4)).take n)))=s.extract a (a+k+4+n):=fun h=>he (by rw [<- hy,<- h])
       simp only [dYF q6,Bool.not_false,cT];exact stop f (qdw hr fun h=>he h.2.2.2)
     ·simp only [if_neg h9,Bool.not_false,cT];exact stop f (qdw hr fun h=>h9 ⟨h.2.1,h.2.2.1⟩)
  ·have k0:decide ((a:Int) < (s.size:Int))=false:=dYF (by omega)
   simp only [k0,cF];refine stop f ?_;rw [List.drop_eq_nil_of_le (by omega)]; exact qdk
theorem qcB (s:BA):q4I s=some (unO s,()):=by
 rw [qkR];unfold unO;by_cases h:s.size<=20000
 ·have k1:decide ((s.size:Int) > 20000)=false:=dYF (by omega)
  have hk:=qgd s h (s.size+1) 0 [] (by omega) (le_refl _)
  simp only [k1,cF,if_pos h];have e:unf (s.size+1) ((bl s).drop 0)=unfr (bl s):=q8k _ _ _ (by rw [drop_zero,qW]; omega) (le_refl _)
  rw [e] at hk;simpa using hk
 ·have k1:decide ((s.size:Int) > 20000)=true:=dYT (by omega)
  simp only [k1,cT,if_neg h]
structure RD (s:BA) (c:qH) (st:RS):Prop where
 txt:c.1=s
 lo:0<=c.2.1
 hi:c.2.1<=(s.size:Int)
 bad:c.2.2=st.2
 rest:st.2=false->(bl s).drop c.2.1.toNat=st.1
theorem qdX {st:RS} (h:st.2=true):numR st=(0,st.1,true):=by
 unfold numR;split
 ·simp [h]
 ·rfl
theorem qmv {st:RS} (h:st.2=true):q0a st=(bOf [],st.1,true):=by
 unfold q0a;split
 ·rw [if_pos (.inl h)]
 ·rfl
theorem qmy {st:RS} (h:st.2=true):(yh st).1=0/\(yh st).2.2=true:=by
 unfold yh;split
 ·simp [h]
 ·exact ⟨rfl,rfl⟩
theorem q4S {s:BA} {c:qH} {st:RS} (h:RD s c st) {st':RS} (hb:st'.2=true):RD s (s,(c.2.1,true)) st':=
 ⟨rfl,h.lo,h.hi,hb.symm,fun h=>by rw [hb] at h; cases h⟩
theorem qnQ {s:BA} {m:Nat} (hm:m<=s.size) {l:List UInt8} (hl:(bl s).drop m=l):RD s (s,((m:Int),false)) (l,false):=
 ⟨rfl,Int.natCast_nonneg _,by show (m:Int)<=_; omega,rfl,fun _=>by simpa using hl⟩
theorem qqz {s:BA} (F:qH->Option (Int×(qH×Unit))) (hF:∀ c:qH,c.1=s->F c=bif c.2.2 then some (0,((s,(c.2.1,true)),())) else bif !(rvO s c.2.1).2.2 then some (0,((s,(c.2.1,true)),())) else some ((rvO s c.2.1).1,((s,((rvO s c.2.1).2.1,c.2.2)),()))) {c:qH} {st:RS} (h:RD s c st) :
  ∃ c',F c=some (((numR st).1:Int),(c',()))/\RD s c' (numR st).2:=by
 rw [hF c h.txt];cases hb:c.2.2 with
 | true=>
  have hb':st.2=true:=by rw [<- h.bad]; exact hb
  rw [qdX hb'];exact ⟨_,rfl,q4S h rfl⟩
 | false=>
  have hb':st.2=false:=by rw [<- h.bad]; exact hb
  have hr:=h.rest hb';obtain ⟨m,hm⟩:∃ m:Nat,c.2.1=(m:Int):=⟨c.2.1.toNat,by have:=h.lo; omega⟩
  have hms:m<=s.size:=by have:=h.hi; omega
  rw [hm,toNat_natCast] at hr;rw [hm,qgq s m hms,hr];cases hv:rvar st.1 with
  | none=>
   have:numR st=(0,st.1,true):=by unfold numR; rw [hv]
   rw [this];exact ⟨_,rfl,by rw [<- hm]; exact q4S h rfl⟩
  | some p=>
   obtain ⟨n,k⟩:=p;have:numR st=(n,st.1.drop k,false):=by unfold numR; simp only [hv,hb']; rfl
   rw [this];have:=qbq hv;have hl:=congrArg length hr;rw [length_drop,<- qW] at hl;refine ⟨_,rfl,?_⟩;show RD s (s,(((m+k:Nat):Int),false)) (st.1.drop k,false);exact qnQ (by omega) (by rw [<- hr,drop_drop])
theorem qjV {s:BA} (hs:s.size<=20000) {c:qH} {st:RS} (h:RD s c st):∃ c',yN c=some (((numR st).1:Int),(c',()))/\RD s c' (numR st).2:=
 qqz _ (fun c hc=>by rw [q3l,hc,q7K s (by omega)]; rfl) h
theorem q9l {s:BA} (hs:s.size<=20000) {c:qH} {st:RS} (h:RD s c st):∃ c',q2P c=some (((numR st).1:Int),(c',()))/\RD s c' (numR st).2:=
 qqz _ (fun c hc=>by rw [qlA,hc,qcP s (by omega)]; rfl) h
theorem qmg {s:BA} (hs:s.size<=20000) {c:qH} {st:RS} (h:RD s c st):∃ c',yY c=some (((yh st).1:Int),(c',()))/\RD s c' (yh st).2:=by
 rw [q3k,h.txt];cases hb:c.2.2 with
 | true=>
  have hb':st.2=true:=by rw [<- h.bad]; exact hb
  obtain ⟨q1,q2⟩:=qmy hb';rw [q1];exact ⟨_,rfl,q4S h q2⟩
 | false=>
  have hb':st.2=false:=by rw [<- h.bad]; exact hb
  have hr:=h.rest hb';obtain ⟨m,hm⟩:∃ m:Nat,c.2.1=(m:Int):=⟨c.2.1.toNat,by have:=h.lo; omega⟩
  have hms:m<=s.size:=by have:=h.hi; omega
  rw [hm,toNat_natCast] at hr;simp only [hm,cF];have hsz:=qW s;cases hl:st.1 with
  | nil=>
   rw [hl] at hr;have:=drop_eq_nil_iff.1 hr;have k1:decide ((m:Int)>=(s.size:Int))=true:=dYT (by omega)
   simp only [k1,cT];have e:yh st=(0,[],true):=by unfold yh; rw [hl]
   rw [e];exact ⟨_,rfl,by rw [<- hm]; exact q4S h rfl⟩
  | cons x r=>
   rw [hl] at hr;have hlt:=qh7 hr;have k1:decide ((m:Int)>=(s.size:Int))=false:=dYF (by omega)
   have w1:w64 ((m:Int)+1)=((m+1:Nat):Int):=qw (by omega)
   have w2:w64 (((m+1:Nat):Int) - 1)=(m:Int):=(qg (by omega) (by omega)).trans (by omega)
   have k2:decide (0<=(m:Int))=true:=dYT (by omega)
   have k3:decide ((m:Int) < (s.size:Int))=true:=dYT (by omega)
   have hx:=x.toNat_lt;have w3:w64 (x.toNat:Int)=(x.toNat:Int):=qg (by omega) (by omega)
   simp only [k1,cF,w1,w2,k2,k3,Bool.and_self,cT,toNat_natCast,qfB s hr,w3];have e:yh st=(x.toNat,r,false):=by unfold yh; simp only [hl,hb']; rfl
   rw [e];exact ⟨_,rfl,qnQ (by omega) (q95 hr)⟩
theorem qj6 {s:BA} (hs:s.size<=20000) {c:qH} {st:RS} (h:RD s c st):∃ t c',q3f c 1=some (t,(c',()))/\RD s c' (yh st).2/\(decide (t=qcr)=((yh st).1==1)):=by
 rw [qcg,h.txt];cases hb:c.2.2 with
 | true=>
  have hb':st.2=true:=by rw [<- h.bad]; exact hb
  obtain ⟨q1,q2⟩:=qmy hb';rw [q1];exact ⟨_,_,rfl,q4S h q2,by decide⟩
 | false=>
  have hb':st.2=false:=by rw [<- h.bad]; exact hb
  have hr:=h.rest hb';obtain ⟨m,hm⟩:∃ m:Nat,c.2.1=(m:Int):=⟨c.2.1.toNat,by have:=h.lo; omega⟩
  have hms:m<=s.size:=by have:=h.hi; omega
  rw [hm,toNat_natCast] at hr;have hsz:=qW s;have w0:w64 ((s.size:Int) - (m:Int))=(s.size:Int) - (m:Int):=qg (by omega) (by omega)
  simp only [hm,cF,w0];cases hl:st.1 with
  | nil=>
   rw [hl] at hr;have:=drop_eq_nil_iff.1 hr;have k1:decide ((1:Int) > (s.size:Int) - (m:Int))=true:=dYT (by omega)
   simp only [k1,cT];have e:yh st=(0,[],true):=by unfold yh; rw [hl]
   rw [e];exact ⟨_,_,rfl,by rw [<- hm]; exact q4S h rfl,by decide⟩
  | cons x r=>
   rw [hl] at hr;have hlt:=qh7 hr;have k1:decide ((1:Int) > (s.size:Int) - (m:Int))=false:=dYF (by omega)
   have w1:w64 ((m:Int)+1)=((m+1:Nat):Int):=qw (by omega)
   have w2:w64 (((m+1:Nat):Int) - 1)=(m:Int):=(qg (by omega) (by omega)).trans (by omega)
   have k2:decide (0<=(m:Int))=true:=dYT (by omega)
   have k3:decide ((m:Int)<=((m+1:Nat):Int))=true:=dYT (by omega)
   have k4:decide (((m+1:Nat):Int)<=(s.size:Int))=true:=dYT (by omega)
   have hx:=x.toNat_lt;simp only [k1,cF,w1,w2,k2,k3,k4,Bool.and_self,cT,toNat_natCast];have e:yh st=(x.toNat,r,false):=by unfold yh; simp only [hl,hb']; rfl
   rw [e];refine ⟨_,_,rfl,qnQ (by omega) (q95 hr),?_⟩
   have:s.extract m (m+1)=bOf [x]:=zU (by rw [q4M,hr,show m+1 - m=1 by omega]; rfl)
   rw [this,Bool.eq_iff_iff,decide_eq_true_eq,beq_iff_eq];constructor
   ·intro h;have:=congrArg bl h;have h:[x]=[(1:UInt8)]:=this;rw [List.head_eq_of_cons_eq h]; rfl
   ·intro h;have:x=1:=UInt8.toNat_inj.1 h;rw [this]
theorem qmD {s:BA} {m n k:Nat} {st:RS} (hr:(bl s).drop m=st.1) (hb:st.2=false) (hm:m<=s.size) (hv:rvar st.1=some (n,k)) (hn:n<=20000) (hk:m+k+n<=s.size):q0a st=(s.extract (m+k) (m+k+n),st.1.drop (k+n),false)/\RD s (s,(((m+k+n:Nat):Int),false)) (q0a st).2:=by
 have hl:=congrArg length hr;rw [length_drop,<- qW] at hl;have e:q0a st=(s.extract (m+k) (m+k+n),st.1.drop (k+n),false):=by
  unfold q0a;simp only [hv];rw [if_neg (by rw [hb]; simp; omega)]
  congr 1
  refine zU ?_;rw [q4M,yX,<- hr,drop_drop];congr 1; omega
 refine ⟨e,?_⟩;rw [e];exact qnQ (by omega) (by rw [<- hr,drop_drop]; congr 1; omega)
theorem qi3 {st:RS} {n k:Nat} (hv:rvar st.1=some (n,k)) (h:20000 < n\/st.1.length < n+k):q0a st=(bOf [],st.1,true):=by
 unfold q0a;simp only [hv];rw [if_pos (.inr h)]
theorem qqE {s:BA} (hs:s.size<=20000) {c:qH} {st:RS} (h:RD s c st):∃ c',wO c=some ((q0a st).1,(c',()))/\RD s c' (q0a st).2:=by
 rw [q3g,qhh,h.txt,q7K s (by omega)]
 simp only [oB];cases hb:c.2.2 with
 | true=>
  have hb':st.2=true:=by rw [<- h.bad]; exact hb
  rw [qmv hb'];simp only [cT];have key:∃ x,(bif !(rvO s c.2.1).2.2 then some ((eB,(0,false)),()) else bif decide ((rvO s c.2.1).1 > 20000) then some ((eB,(0,false)),()) else bif decide ((rvO s c.2.1).1 > w64 ((s.size:Int) - (rvO s c.2.1).2.1)) then some ((eB,(0,false)),()) else bif (decide (0<=(rvO s c.2.1).2.1)&&(decide ((rvO s c.2.1).2.1<=w64 ((rvO s c.2.1).2.1+(rvO s c.2.1).1))&&decide (w64 ((rvO s c.2.1).2.1+(rvO s c.2.1).1)<=(s.size:Int)))) then some ((s.extract (rvO s c.2.1).2.1.toNat (w64 ((rvO s c.2.1).2.1+(rvO s c.2.1).1)).toNat,(w64 ((rvO s c.2.1).2.1+(rvO s c.2.1).1),true)),()) else none:Option ((BA×(Int×Bool))×Unit))=some x:=by
   obtain ⟨m,hm⟩:∃ m:Nat,c.2.1=(m:Int):=⟨c.2.1.toNat,by have:=h.lo; omega⟩
   have hms:m<=s.size:=by have:=h.hi; omega
   rw [hm,qgq s m hms];cases hv:rvar ((bl s).drop m) with
   | none=>exact ⟨_,rfl⟩
   | some p=>
    obtain ⟨n,k⟩:=p;have hq:=qlg hv;have hsz:=qW s;simp only [Bool.not_true,cF];by_cases q1:(n:Int) > 20000
    ·simp only [dYT q1,cT]; exact ⟨_,rfl⟩
    ·simp only [dYF q1,cF];have w0:w64 ((s.size:Int) - ((m:Int)+(k:Int)))=(s.size:Int) - ((m:Int)+(k:Int)):=qg (by omega) (by omega)
     rw [w0];by_cases q2:(n:Int) > (s.size:Int) - ((m:Int)+(k:Int))
     ·simp only [dYT q2,cT]; exact ⟨_,rfl⟩
     ·have w1:w64 ((m:Int)+(k:Int)+(n:Int))=(m:Int)+(k:Int)+(n:Int):=qg (by omega) (by omega)
      rw [w1];simp only [dYF q2,cF,dYT (show 0<=(m:Int)+(k:Int) by omega),dYT (show (m:Int)+(k:Int)<=(m:Int)+(k:Int)+(n:Int) by omega),dYT (show (m:Int)+(k:Int)+(n:Int)<=(s.size:Int) by omega),Bool.and_self,cT]
      exact ⟨_,rfl⟩
  obtain ⟨x,hx⟩:=key;rw [hx];exact ⟨_,rfl,q4S h rfl⟩
 | false=>
  have hb':st.2=false:=by rw [<- h.bad]; exact hb
  have hr:=h.rest hb';obtain ⟨m,hm⟩:∃ m:Nat,c.2.1=(m:Int):=⟨c.2.1.toNat,by have:=h.lo; omega⟩
  have hms:m<=s.size:=by have:=h.hi; omega
  rw [hm,toNat_natCast] at hr;rw [hm,qgq s m hms,hr];have hl:=congrArg length hr;rw [length_drop,<- qW] at hl;have no:q0a st=(bOf [],st.1,true)->∃ c',some (eB,((s,((m:Int),true)),()))=some ((q0a st).1,(c',()))/\RD s c' (q0a st).2:=fun e=>by
   rw [e]; exact ⟨_,rfl,by rw [<- hm]; exact q4S h rfl⟩
  cases hv:rvar st.1 with
  | none=>exact no (by unfold q0a; rw [hv])
  | some p=>
   obtain ⟨n,k⟩:=p;have hq:=qbq hv;simp only [Bool.not_true,cF];by_cases q1:(n:Int) > 20000
   ·simp only [dYT q1,cT];exact no (qi3 hv (.inl (by omega)))
   ·simp only [dYF q1,cF];have w0:w64 ((s.size:Int) - ((m:Int)+(k:Int)))=(s.size:Int) - ((m:Int)+(k:Int)):=qg (by omega) (by omega)
    rw [w0];by_cases q2:(n:Int) > (s.size:Int) - ((m:Int)+(k:Int))
    ·simp only [dYT q2,cT];exact no (qi3 hv (.inr (by omega)))
    ·have w1:w64 ((m:Int)+(k:Int)+(n:Int))=((m+k+n:Nat):Int):=qg (by omega) (by omega)
     rw [w1];obtain ⟨e,hR⟩:=qmD hr hb' hms hv (by omega) (by omega)
     simp only [dYF q2,cF,dYT (show 0<=(m:Int)+(k:Int) by omega),dYT (show (m:Int)+(k:Int)<=((m+k+n:Nat):Int) by omega),dYT (show ((m+k+n:Nat):Int)<=(s.size:Int) by omega),Bool.and_self,cT,oB,Bool.not_true]
     refine ⟨_,?_,hR⟩;rw [e]; rfl
theorem qcj {s:BA} (hs:s.size<=20000) {c:qH} {st:RS} (h:RD s c st):∃ c',q2U c=some ((q0a st).1,(c',()))/\RD s c' (q0a st).2:=by
 rw [qe9];obtain ⟨c1,e1,h1⟩:=q9l hs h;rw [e1];simp only [oB];rw [qcg,h1.txt];cases hb:st.2 with
 | true=>
  have:(numR st).2.2=true:=by rw [qdX hb]
  have hb1:c1.2.2=true:=by rw [h1.bad]; exact this
  rw [qmv hb];simp only [hb1,cT,oB];exact ⟨_,rfl,q4S h1 rfl⟩
 | false=>
  have hr:=h.rest hb;cases hv:rvar st.1 with
  | none=>
   have e:numR st=(0,st.1,true):=by unfold numR; rw [hv]
   have hb1:c1.2.2=true:=by rw [h1.bad,e]
   have e2:q0a st=(bOf [],st.1,true):=by unfold q0a; rw [hv]
   rw [e2];simp only [hb1,cT,oB];exact ⟨_,rfl,q4S h1 rfl⟩
  | some p=>
   obtain ⟨n,k⟩:=p;have e:numR st=(n,st.1.drop k,false):=by unfold numR; simp only [hv,hb]; rfl
   rw [e] at h1 ⊢;have hb1:c1.2.2=false:=h1.bad;have hr1:=h1.rest rfl;obtain ⟨m,hm⟩:∃ m:Nat,c.2.1=(m:Int):=⟨c.2.1.toNat,by have:=h.lo; omega⟩
   have hms:m<=s.size:=by have:=h.hi; omega
   rw [hm,toNat_natCast] at hr;obtain ⟨q,hq⟩:∃ q:Nat,c1.2.1=(q:Int):=⟨c1.2.1.toNat,by have:=h1.lo; omega⟩
   have hqs:q<=s.size:=by have:=h1.hi; omega
   rw [hq,toNat_natCast] at hr1;have hl:=congrArg length hr;rw [length_drop,<- qW] at hl;have hl1:=congrArg length hr1;rw [length_drop,<- qW,length_drop] at hl1;have hv':=qbq hv;have w0:w64 ((s.size:Int) - (q:Int))=(s.size:Int) - (q:Int):=qg (by omega) (by omega)
   simp only [hb1,cF,hq,w0];by_cases q2:(n:Int) > (s.size:Int) - (q:Int)
   ·rw [qi3 hv (.inr (by omega))]
    simp only [dYT q2,cT,oB];exact ⟨_,rfl,by rw [<- hq]; exact q4S h1 rfl⟩
   ·have hqm:q=m+k:=by omega
    subst hqm;have w1:w64 (((m+k:Nat):Int)+(n:Int))=((m+k+n:Nat):Int):=qg (by omega) (by omega)
    have w2:w64 (((m+k+n:Nat):Int) - (n:Int))=((m+k:Nat):Int):=(qg (by omega) (by omega)).trans (by omega)
    obtain ⟨e,hR⟩:=qmD hr hb hms hv (by omega) (by omega)
    simp only [dYF q2,cF,w1,w2,dYT (show 0<=((m+k:Nat):Int) by omega),dYT (show ((m+k:Nat):Int)<=((m+k+n:Nat):Int) by omega),dYT (show ((m+k+n:Nat):Int)<=(s.size:Int) by omega),Bool.and_self,cT,oB,toNat_natCast]
    refine ⟨_,?_,hR⟩;rw [e]
def q2w (p:Option BA) (k:BA):Bool:=match p with | none=>true | some j=>blt j k
theorem qis (l:List UInt8):@length Int (zm (bOf l))=l.length:=length_map ..
def chk:Option BA->List Chg->Bool
 | _,[]=>true
 | p,c::r=>q60 c&&(q2w p c.1&&chk (some c.1) r)
theorem qo4:∀ (l:List Chg) (a:Chg),chk (some a.1) l=(l.all q60&&ascB (fun x y=>blt x.1 y.1) (a::l))
 | [],a=>rfl
 | c::l,a=>by
  simp only [chk,q2w,qo4 l c,List.all_cons,ascB];cases q60 c<;>cases blt a.1 c.1<;>cases l.all q60<;>rfl
theorem quV (l:List Chg):chk none l=(l.all q60&&ascB (fun x y=>blt x.1 y.1) l):=by
 cases l with
 | nil=>rfl
 | cons c l=>
  simp only [chk,q2w,qo4 l c,List.all_cons];cases q60 c<;>rfl
theorem quI (k:BA):qeg k=some (q5H k,()):=by
 rw [qnN,q00];simp only [oB];have:inB (k.size:Int) 1 20=q5H k:=by
  rw [show inB (k.size:Int) 1 20=decide (1<=k.size/\k.size<=20) from qgR _]
  unfold q5H;rw [Bool.eq_iff_iff]; simp
 rw [this]
theorem qtY (k:BA):wK (k.size:Int) 1 20=some (q5H k,()):=by
 rw [jy];have:inB (k.size:Int) 1 20=q5H k:=by
  rw [show inB (k.size:Int) 1 20=decide (1<=k.size/\k.size<=20) from qgR _]
  unfold q5H;rw [Bool.eq_iff_iff]; simp
 rw [this]
theorem qcK (v:BA):decide (v=eB)=decide (v.size=0):=by
 rw [Bool.eq_iff_iff,decide_eq_true_eq,decide_eq_true_eq];constructor
 ·intro h; rw [h]; rfl
 ·intro h;refine zU ?_;rw [qW] at h;exact List.eq_nil_of_length_eq_zero h
abbrev dC:Chg:=(eB,(eB,false))
theorem qK {α:Type} {l:List α} {i:Nat} {c:α} {r:List α} (d:α) (h:l.drop i=c::r):l.getD i d=c/\i < l.length/\l.drop (i+1)=r:=by
 have hlt:i < l.length:=by
  have:=congrArg length h;rw [length_drop,length_cons] at this; omega
 have hd:=List.drop_eq_getElem_cons hlt;rw [h] at hd;injection hd with h1 h2;exact ⟨by rw [jA hlt,h1],hlt,h2.symm⟩
theorem q9e (q:Int) (cs:List Chg) (hn:cs.length<=1000000000):∀ (r:List Chg) (i:Nat) (p:Option BA),cs.drop i=r->i<=cs.length->(i=0->p=none)->(0 < i->p=some (cs.getD (i - 1) dC).1)->q0h cs (cs.length:Int) (i:Int) q cs=some (chk p r&&(inB q 0 1000000000&&inB (cs.length:Int) 1 40),())
 | [],i,p,hd,hi,_,_=>by
  have:=drop_eq_nil_iff.1 hd;rw [q9Q];have k1:decide ((i:Int) < (cs.length:Int))=false:=dYF (by omega)
  simp only [k1,cF,q00,oB,chk,Bool.true_and];cases inB q 0 1000000000<;>rfl
 | c::r,i,p,hd,hi,h0,hp=>by
  obtain ⟨e1,hlt,e2⟩:=qK dC hd;rw [q9Q];have k1:decide ((i:Int) < (cs.length:Int))=true:=dYT (by omega)
  have k2:decide (0<=(i:Int))=true:=dYT (by omega)
  have k4:w64 ((i:Int)+1)=((i+1:Nat):Int):=qw (by omega)
  have ih:=q9e q cs hn r (i+1) (some c.1) e2 hlt (fun h=>by omega) (fun _=>by rw [Nat.add_sub_cancel,e1])
  simp only [k1,k2,k4,Bool.and_self,cT,toNat_natCast,e1,quI,oB,y8,qcK,ih,chk];unfold q60;cases hk:q5H c.1 with
  | false=>simp only [Bool.not_false,cT,Bool.false_and]
  | true=>
   simp only [Bool.not_true,cF,Bool.true_and];by_cases h2:c.2.1.size<=2000
   ·have k5:decide ((c.2.1.size:Int) > 2000)=false:=dYF (by omega)
    simp only [k5,cF,dYT h2,Bool.true_and];have hord:(bif decide ((i:Int) > 0) then bif (decide (0<=w64 ((i:Int) - 1))&&decide (w64 ((i:Int) - 1) < (cs.length:Int))) then bif !(Op.bytesLess (cs.getD (w64 ((i:Int) - 1)).toNat dC).1.toList c.1.toList) then some (false,()) else some (chk (some c.1) r&&(inB q 0 1000000000&&inB (cs.length:Int) 1 40),()) else none else some (chk (some c.1) r&&(inB q 0 1000000000&&inB (cs.length:Int) 1 40),()):Option (Bool×Unit))=some (q2w p c.1&&chk (some c.1) r&&(inB q 0 1000000000&&inB (cs.length:Int) 1 40),()):=by
     by_cases hi0:i=0
     ·rw [h0 hi0];have:decide ((i:Int) > 0)=false:=dYF (by omega)
      simp only [this,cF,q2w,Bool.true_and]
     ·have q1:decide ((i:Int) > 0)=true:=dYT (by omega)
      have q2:w64 ((i:Int) - 1)=((i - 1:Nat):Int):=(qg (by omega) (by omega)).trans (by omega)
      have q3:decide (0<=((i - 1:Nat):Int))=true:=dYT (by omega)
      have q4:decide (((i - 1:Nat):Int) < (cs.length:Int))=true:=dYT (by omega)
      rw [hp (by omega)]
      simp only [q1,q2,q3,q4,Bool.and_self,cT,toNat_natCast,blt_eq,q2w];cases blt (cs.getD (i - 1) dC).1 c.1<;>rfl
    rw [hord];cases hg:c.2.2 with
    | false=>simp only [cF,Bool.not_false,Bool.true_or,Bool.true_and]
    | true=>
     simp only [cT,Bool.not_true,Bool.false_or];cases decide (c.2.1.size=0)<;>rfl
   ·have k5:decide ((c.2.1.size:Int) > 2000)=true:=dYT (by omega)
    simp only [k5,cT,dYF h2,Bool.false_and]
theorem qn1 (b:Bat):q0E b=(inB b.1 0 1000000000&&(inB (b.2.length:Int) 1 40&&chk none b.2)):=by
 rw [quV];unfold q0E inB;rw [Bool.eq_iff_iff];simp only [and_eq_true,decide_eq_true_eq];constructor
 ·rintro ⟨h1,h2,h3,h4,h5⟩; exact ⟨⟨h1,h2⟩,⟨by omega,by omega⟩,h5⟩
 ·rintro ⟨⟨h1,h2⟩,⟨h3,h4⟩,h5⟩; exact ⟨h1,h2,by omega,by omega,h5⟩
theorem qjZ (b:Bat) (hn:b.2.length<=1000000000):qbo b=some (q0E b,()):=by
 rw [qjq];have:=q9e b.1 b.2 hn b.2 0 none rfl (Nat.zero_le _) (fun _=>rfl) (fun h=>by omega)
 refine (Eq.trans ?_ this).trans ?_
 ·rfl
 ·rw [qn1];cases chk none b.2<;>cases inB b.1 0 1000000000<;>cases inB (b.2.length:Int) 1 40<;>rfl
theorem q99 (q:Int) (cs:List Chg) (hn:cs.length<=1000000000):∀ (r:List Chg) (i:Nat) (p:Option BA),cs.drop i=r->i<=cs.length->(i=0->p=none)->(0 < i->p=some (cs.getD (i - 1) dC).1)->jE (i:Int) q cs=some (chk p r,())
 | [],i,p,hd,hi,_,_=>by
  have:=drop_eq_nil_iff.1 hd;rw [q9V];have k1:decide ((i:Int) < (cs.length:Int))=false:=dYF (by omega)
  simp only [k1,cF,chk]
 | c::r,i,p,hd,hi,h0,hp=>by
  obtain ⟨e1,hlt,e2⟩:=qK dC hd;rw [q9V];have k1:decide ((i:Int) < (cs.length:Int))=true:=dYT (by omega)
  have k2:decide (0<=(i:Int))=true:=dYT (by omega)
  have k4:w64 ((i:Int)+1)=((i+1:Nat):Int):=qw (by omega)
  have ih:=q99 q cs hn r (i+1) (some c.1) e2 hlt (fun h=>by omega) (fun _=>by rw [Nat.add_sub_cancel,e1])
  simp only [k1,k2,k4,Bool.and_self,cT,toNat_natCast,e1,qtY,oB,y8,qcK,ih,chk];unfold q60;have hbody:(bif decide ((c.2.1.size:Int) > 2000) then some (false,()) else bif c.2.2 then bif !decide (c.2.1.size=0) then some (false,()) else some (chk (some c.1) r,()) else some (chk (some c.1) r,()):Option (Bool×Unit))=some ((decide (c.2.1.size<=2000)&&(!c.2.2||decide (c.2.1.size=0)))&&chk (some c.1) r,()):=by
   by_cases h2:c.2.1.size<=2000
   ·have k5:decide ((c.2.1.size:Int) > 2000)=false:=dYF (by omega)
    simp only [k5,cF,dYT h2,Bool.true_and];cases c.2.2<;>cases decide (c.2.1.size=0)<;>rfl
   ·have k5:decide ((c.2.1.size:Int) > 2000)=true:=dYT (by omega)
    simp only [k5,cT,dYF h2,Bool.false_and]
  rw [hbody];cases hk:q5H c.1 with
  | false=>simp only [Bool.not_false,cT,Bool.false_and]
  | true=>
   simp only [Bool.not_true,cF,Bool.true_and];by_cases hi0:i=0
   ·rw [h0 hi0];have:decide ((i:Int) > 0)=false:=dYF (by omega)
    simp only [this,cF,q2w,Bool.true_and]
   ·have q1:decide ((i:Int) > 0)=true:=dYT (by omega)
    have q2:w64 ((i:Int) - 1)=((i - 1:Nat):Int):=(qg (by omega) (by omega)).trans (by omega)
    have q3:decide (0<=((i - 1:Nat):Int))=true:=dYT (by omega)
    have q4:decide (((i - 1:Nat):Int) < (cs.length:Int))=true:=dYT (by omega)
    rw [hp (by omega)]
    simp only [q1,q2,q3,q4,Bool.and_self,cT,toNat_natCast,blt_eq,q2w];cases blt (cs.getD (i - 1) dC).1 c.1<;>cases (decide (c.2.1.size<=2000)&&(!c.2.2||decide (c.2.1.size=0)))<;>rfl
theorem qkH (b:Bat) (hn:b.2.length<=1000000000):qbj b=some (q0E b,()):=by
 rw [qjr,jy,jy,qn1];have:=q99 b.1 b.2 hn b.2 0 none rfl (Nat.zero_le _) (fun _=>rfl) (fun h=>by omega)
 have e:jE 0 b.1 b.2=some (chk none b.2,()):=this;simp only [oB,e];cases inB b.1 0 1000000000<;>cases inB (b.2.length:Int) 1 40<;>rfl
theorem qhD (s:BA) (hs:s.size<=20000):q8h s=some ((bOf (shL s),true),()):=by
 rw [qhq,q2s,if_pos (by omega)]
 have k1:decide ((s.size:Int) > 20000)=false:=dYF (by omega)
 have hv:=zq (show s.size<=1000000000 by omega)
 have k2:limS ((bOf (vL s.size)).size+s.size)=true:=yA (by rw [qD (vL s.size)]; omega)
 simp only [k1,cF,oB,toNat_natCast,k2,cT];have:bOf (vL s.size)++s=bOf (shL s):=zU (by rw [q0D,yX,yX]; rfl)
 rw [this]
theorem qfi (s:BA) (hs:s.size<=20000):qaQ s=some (bOf (shL s),()):=by
 rw [qnO,qhD s hs]; rfl
theorem qhF (s:BA) (hs:s.size<=20000):q66 s=some (bOf (shL s),()):=by
 rw [qiu,ji (by omega)]
 have hv:=zq (show s.size<=1000000000 by omega)
 have k2:limS ((bOf (vL s.size)).size+s.size)=true:=yA (by rw [qD (vL s.size)]; omega)
 simp only [oB,k2,cT];have:bOf (vL s.size)++s=bOf (shL s):=zU (by rw [q0D,yX,yX]; rfl)
 rw [this]
def flL (g:Bool):BA:=bOf [bif g then 1 else 0]
theorem qpy (g:Bool):qfP g=some (flL g,()):=by
 rw [qou]; cases g<;>rfl
theorem qsw (g:Bool):qbb g=some (flL g,()):=by
 rw [qkk]; cases g<;>rfl
theorem qrm (c:Chg):(bOf (shL c.1)++flL c.2.2)++bOf (shL c.2.1)=bOf (chL c):=zU (by
 rw [q0D,q0D,yX,yX,yX];unfold chL flL;rw [yX,append_assoc]; rfl)
theorem q6J (s:BA) (hs:s.size<=20000):(shL s).length<=s.size+5:=by
 unfold shL;have:=zq (show s.size<=1000000000 by omega)
 rw [length_append,<- qW]; omega
theorem qr9 {c:Chg} (h1:c.1.size<=20000) (h2:c.2.1.size<=20000):(chL c).length<=40011:=by
 unfold chL;have:=q6J c.1 h1;have:=q6J c.2.1 h2;rw [length_append,length_cons]; omega
theorem qeO {b:Bat} (h:q0E b=true) {c:Chg} (hc:c∈b.2):c.1.size<=20000/\c.2.1.size<=20000:=by
 obtain ⟨_,_,_,_,h5,_⟩:=jQ.1 h;have:=qfS.1 (h5 c hc);omega
noncomputable def btO (b:Bat):BA×Bool:=if batT b=true then (bOf (bTL b),true) else (eB,false)
theorem yL {α:Type} {l:List α} {i:Nat} {c:α} {r:List α} (h:l.drop i=c::r):c∈l:=List.mem_of_mem_drop (by rw [h]; exact List.mem_cons_self ..)
theorem q7s (cs:List Chg) (hn:cs.length<=40) (hs:∀ c∈cs,c.1.size<=20000/\c.2.1.size<=20000):∀ (r:List Chg) (i:Nat) (acc:BA),cs.drop i=r->acc.size<=1000+i * 40011->q31 acc cs (cs.length:Int) (i:Int)=some ((if (bl acc++r.flatMap chL).length<=9000 then (bOf (bl acc++r.flatMap chL),true) else (eB,false)),())
 | [],i,acc,hd,ha=>by
  have:=drop_eq_nil_iff.1 hd;rw [q7n];have k1:decide ((i:Int) < (cs.length:Int))=false:=dYF (by omega)
  have hz:=qW acc;simp only [k1,cF,List.flatMap_nil,append_nil,q9G];by_cases h:acc.size<=9000
  ·simp only [dYF (show ¬ (acc.size:Int) > 9000 by omega),cF]
   rw [if_pos (by omega)]
  ·simp only [dYT (show (acc.size:Int) > 9000 by omega),cT]
   rw [if_neg (by omega)]
 | c::r,i,acc,hd,ha=>by
  obtain ⟨e1,hlt,e2⟩:=qK dC hd;obtain ⟨z1,z2⟩:=hs c (yL hd);rw [q7n];have k1:decide ((i:Int) < (cs.length:Int))=true:=dYT (by omega)
  have k2:decide (0<=(i:Int))=true:=dYT (by omega)
  have k4:w64 ((i:Int)+1)=((i+1:Nat):Int):=qw (by omega)
  have hl1:=q6J c.1 z1;have hl2:=q6J c.2.1 z2;have hl3:=qr9 z1 z2;have hf:(flL c.2.2).size=1:=rfl;have q1:limS ((bOf (shL c.1)).size+(flL c.2.2).size)=true:=yA (by rw [qD (shL c.1)]; omega)
  have q2:limS ((bOf (shL c.1)++flL c.2.2).size+(bOf (shL c.2.1)).size)=true:=yA (by rw [size_append,qD (shL c.1),qD (shL c.2.1)]; omega)
  have q3:limS (acc.size+(bOf (chL c)).size)=true:=yA (by rw [qD (chL c)]; omega)
  simp only [k1,k2,k4,Bool.and_self,cT,toNat_natCast,e1,qfi c.1 z1,qfi c.2.1 z2,qpy,oB,q1,q2,qrm,q3];rw [q7s cs hn hs r (i+1) _ e2 (by rw [size_append,qD (chL c),Nat.succ_mul]; omega)]
  simp only [q0D,yX,List.flatMap_cons,append_assoc]
theorem qre (b:Bat) {n:Nat} (h:b.1=(n:Int)):bl ((c_B++bOf (vL n))++bOf (vL b.2.length))++b.2.flatMap chL=bTL b:=by
 rw [q0D,q0D,yX,yX];unfold bTL;rw [h,toNat_natCast,append_assoc,append_assoc]; rfl
theorem qjv (m n:Nat) (hm:m<=1000000000) (hn:n<=1000000000):qcG [(m:Int),(n:Int)]=some ((bOf (vL m++vL n),true),()):=by
 rw [qof];have v1:=zq hm;have v2:=zq hn;have hb:∀ l:List UInt8,zm (bOf l)=l.map fun c=>(c.toNat:Int):=fun l=>rfl
 have l1:lim (([]:List Int).length+(zm (bOf (vL m))).length) 1=true:=qJ (by rw [hb,length_map]; simp; omega)
 have l2:lim (([]++zm (bOf (vL m)):List Int).length+(zm (bOf (vL n))).length) 1=true:=qJ (by rw [hb,hb,length_append,length_map,length_map]; simp; omega)
 rw [q71];simp only [show decide ((0:Int) < (([(m:Int),(n:Int)]:List Int).length:Int))=true from rfl,show decide ((0:Int)<=0)=true from rfl,Bool.and_self,cT,show getD [(m:Int),(n:Int)] (toNat 0) 0=(m:Int) from rfl,q2s,if_pos (show (0:Int)<=(m:Int)/\(m:Int)<=1000000000 by omega),oB,Bool.not_true,cF,toNat_natCast,l1,show w64 ((0:Int)+1)=1 from rfl]
 rw [q71];simp only [show decide ((1:Int) < (([(m:Int),(n:Int)]:List Int).length:Int))=true from rfl,show decide ((0:Int)<=1)=true from rfl,Bool.and_self,cT,show getD [(m:Int),(n:Int)] (toNat 1) 0=(n:Int) from rfl,q2s,if_pos (show (0:Int)<=(n:Int)/\(n:Int)<=1000000000 by omega),oB,Bool.not_true,cF,toNat_natCast,l2,show w64 ((1:Int)+1)=2 from rfl]
 rw [q71];simp only [show decide ((2:Int) < (([(m:Int),(n:Int)]:List Int).length:Int))=false from rfl,cF]
 have:q40 (([]++zm (bOf (vL m)))++zm (bOf (vL n)))=bOf (vL m++vL n):=by
  rw [hb,hb,List.nil_append,<- List.map_append,qec]
 exact congrArg (fun x=>some ((x,true),())) this
theorem qj3 {b:Bat} (hok:q0E b=true):batT b=decide ((bTL b).length<=9000):=by unfold batT; rw [hok,Bool.true_and]
theorem q5y (b:Bat) (hn:b.2.length<=1000000000):q3j b=some (btO b,()):=by
 rw [qhx,qjZ b hn];simp only [oB];cases hok:q0E b with
 | false=>
  have:btO b=(eB,false):=by unfold btO batT; rw [hok]; rfl
  rw [this]; rfl
 | true=>
  obtain ⟨h1,h2,h3,h4,h5,_⟩:=jQ.1 hok;obtain ⟨m,hm⟩:∃ m:Nat,b.1=(m:Int):=⟨b.1.toNat,by omega⟩
  have v1:=zq (show m<=1000000000 by omega)
  have v2:=zq (show b.2.length<=1000000000 by omega)
  have l1:limS (c_B.size+(bOf (vL m++vL b.2.length)).size)=true:=yA (by rw [qD (vL m++vL b.2.length),length_append]; show 1+_<=_; omega)
  simp only [Bool.not_true,cF,hm,qjv m b.2.length (by omega) (by omega),oB,l1,cT]
  have hL:=q7s b.2 h4 (fun c hc=>qeO hok hc) b.2 0 (c_B++bOf (vL m++vL b.2.length)) rfl (by rw [size_append,qD (vL m++vL b.2.length),length_append]; show 1+_<=_; omega)
  have e:bl (c_B++bOf (vL m++vL b.2.length))++b.2.flatMap chL=bTL b:=by
   rw [<- qre b hm];congr 1
  rw [e] at hL;refine hL.trans ?_;unfold btO;rw [qj3 hok];simp only [decide_eq_true_eq]
theorem q7h (q:Int) (cs:List Chg) (hn:cs.length<=40) (hs:∀ c∈cs,c.1.size<=20000/\c.2.1.size<=20000):∀ (r:List Chg) (i:Nat) (acc:List UInt8),cs.drop i=r->acc.length<=1000+i * 40011->q2W (zm (bOf acc)) (i:Int) q cs=some ((if (acc++r.flatMap chL).length<=9000 then (bOf (acc++r.flatMap chL),true) else (eB,false)),())
 | [],i,acc,hd,ha=>by
  have:=drop_eq_nil_iff.1 hd;rw [q7u];have k1:decide ((i:Int) < (cs.length:Int))=false:=dYF (by omega)
  have hz:@length Int (zm (bOf acc))=acc.length:=qis acc;have hz':((@length Int (zm (bOf acc)):Nat):Int)=(acc.length:Int):=congrArg _ hz;simp only [k1,cF,List.flatMap_nil,append_nil,hz'];have hn:(⟨List.toArray (map (fun n=>UInt8.ofNat (toNat n)) (zm (bOf acc)))⟩:BA)=bOf acc:=qnp (bOf acc)
  by_cases h:acc.length<=9000
  ·simp only [dYF (show ¬ (acc.length:Int) > 9000 by omega),cF,hn]
   rw [if_pos h]
  ·simp only [dYT (show (acc.length:Int) > 9000 by omega),cT]
   rw [if_neg h]
 | c::r,i,acc,hd,ha=>by
  obtain ⟨e1,hlt,e2⟩:=qK dC hd;obtain ⟨z1,z2⟩:=hs c (yL hd);rw [q7u];have k1:decide ((i:Int) < (cs.length:Int))=true:=dYT (by omega)
  have k2:decide (0<=(i:Int))=true:=dYT (by omega)
  have k4:w64 ((i:Int)+1)=((i+1:Nat):Int):=qw (by omega)
  have hl1:=q6J c.1 z1;have hl2:=q6J c.2.1 z2;have hl3:=qr9 z1 z2;have hf:(flL c.2.2).size=1:=rfl;have q1:limS ((bOf (shL c.1)).size+(flL c.2.2).size)=true:=yA (by rw [qD (shL c.1)]; omega)
  have q2:limS ((bOf (shL c.1)++flL c.2.2).size+(bOf (shL c.2.1)).size)=true:=yA (by rw [size_append,qD (shL c.1),qD (shL c.2.1)]; omega)
  have q3:lim (@length Int (zm (bOf acc))+@length Int (zm (bOf (chL c)))) 1=true:=qJ (by
   rw [qis,qis]; omega)
  have e5:(zm (bOf acc)++zm (bOf (chL c)):List Int)=zm (bOf (acc++chL c)):=List.map_append.symm;simp only [k1,k2,k4,Bool.and_self,cT,toNat_natCast,e1,qhF c.1 z1,qhF c.2.1 z2,qsw,oB,q1,q2,qrm,q3,e5];rw [q7h q cs hn hs r (i+1) _ e2 (by rw [length_append,Nat.succ_mul]; omega)]
  simp only [List.flatMap_cons,append_assoc]
theorem q38 (b:Bat) (hn:b.2.length<=1000000000):jk b=some (btO b,()):=by
 rw [qhi,qkH b hn];simp only [oB];cases hok:q0E b with
 | false=>
  have:btO b=(eB,false):=by unfold btO batT; rw [hok]; rfl
  rw [this]; rfl
 | true=>
  obtain ⟨h1,h2,h3,h4,h5,_⟩:=jQ.1 hok;obtain ⟨m,hm⟩:∃ m:Nat,b.1=(m:Int):=⟨b.1.toNat,by omega⟩
  have v1:=zq (show m<=1000000000 by omega)
  have v2:=zq (show b.2.length<=1000000000 by omega)
  have l1:limS (c_B.size+(bOf (vL m)).size)=true:=yA (by rw [qD (vL m)]; show 1+_<=_; omega)
  have l2:limS ((c_B++bOf (vL m)).size+(bOf (vL b.2.length)).size)=true:=yA (by rw [size_append,qD (vL m),qD (vL b.2.length)]; show 1+_+_<=_; omega)
  simp only [Bool.not_true,cF,hm,ji (show m<=1000000000000 by omega),ji (show b.2.length<=1000000000000 by omega),oB,l1,l2,cT]
  have hL:=q7h (m:Int) b.2 h4 (fun c hc=>qeO hok hc) b.2 0 (bl ((c_B++bOf (vL m))++bOf (vL b.2.length))) rfl (by
   rw [<- qW,size_append,size_append,qD (vL m),qD (vL b.2.length)]; show 1+_+_<=_; omega)
  rw [qre b hm] at hL;rw [q9G] at hL;refine hL.trans ?_;unfold btO;rw [qj3 hok];simp only [decide_eq_true_eq]
end Go.Den.S
