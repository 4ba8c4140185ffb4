/- EhF: equations of the functions of this seat as the executor tells them, or plain facts about them. Conditions: none here. -/
import Derived.Test.YthejgmhimclmdaaGreatDoorEhA
import Derived.Lib.ItoaNum
import Derived.Lib.AtoiAll
set_option linter.all false
open Bool (and_eq_true false_eq_true not_eq_true)
open ByteArray (size size_append)
open Int (tdiv tmod toNat toNat_natCast)
open List (all_cons all_eq_true append_nil filter_append filter_cons filter_eq_self find?_cons length_append length_cons map_cons map_nil mem_cons_self nil_append toArray)
open Nat (le_refl zero_add zero_le)
namespace Go.Den.S
open Go Go.Den
set_option maxRecDepth 4000
noncomputable def rbO (s:BA):Bat×Bool:=match zX s with
 | some b=>(b,true)
 | none=>((0,[]),false)
theorem qlf {α:Type} (one:RS->α×RS):∀ (n:Nat) (st:RS),(yx one n st).1.length<=n
 | 0,_=>zero_le _
 | n+1,st=>by
  simp only [yx];split
  ·exact zero_le _
  ·rw [length_cons]; have:=qlf one n (one st).2; omega
theorem qbx {s:BA} (hs:s.size<=20000) {c:qz} {st:RS} (h:RD s c st) (b:Bat) (hl:b.2.length<=2000000000):∃ c',q3X c b=some ((),(c',((b.1,b.2++[(chR st).1]),())))/\RD s c' (chR st).2:=by
 rw [qbw];obtain ⟨c1,e1,h1⟩:=qdm hs h;rw [e1]; simp only [oB];obtain ⟨c2,e2,h2⟩:=qcZ hs h1;rw [e2]; simp only [oB];obtain ⟨c3,e3,h3⟩:=qdm hs h2;rw [e3];have k:lim (b.2.length+1) 40=true:=qZ (by omega)
 simp only [oB,k,cT];refine ⟨c3,?_,h3⟩;have:(((qy (qE st).2).1:Int)==1)=((qy (qE st).2).1==1):=by
  rw [Bool.eq_iff_iff,beq_iff_eq,beq_iff_eq]; omega
 rw [this]; rfl
theorem q4s {s:BA} (hs:s.size<=20000) (q:Int) (n:Nat) (hn:n<=1000000000):∀ (k i:Nat) (st:RS) (c:qz) (acc:List Chg),i+k=n->acc.length<=i->RD s c st->
  ∃ c',q03 (n:Int) (i:Int) c.1 c.2.1 c.2.2 q acc=some ((),(c',(((q,acc++(yx chR k st).1),()),())))/\RD s c' (yx chR k st).2
 | 0,i,st,c,acc,hi,ha,h=>by
  rw [q4r];have k1:decide ((i:Int) < (n:Int))=false:=dYF (by omega)
  simp only [k1,cF,yx,append_nil];exact ⟨_,rfl,h⟩
 | k+1,i,st,c,acc,hi,ha,h=>by
  rw [q4r];have k1:decide ((i:Int) < (n:Int))=true:=dYT (by omega)
  have k4:w64 ((i:Int)+1)=((i+1:Nat):Int):=qo (by omega)
  simp only [k1,cT,k4];cases hb:st.2 with
  | true=>
   have:c.2.2=true:=by rw [h.bad]; exact hb
   simp only [this,Bool.not_true,cF,yx,hb,if_true,append_nil];refine ⟨_,rfl,?_⟩;have:=h;exact ⟨h.txt,h.lo,h.hi,hb.symm,fun x=>by rw [hb] at x; cases x⟩
  | false=>
   have hc:c.2.2=false:=by rw [h.bad]; exact hb
   have hcc:(c.1,(c.2.1,false))=c:=by rw [<- hc]
   obtain ⟨c1,e1,h1⟩:=qbx hs h (q,acc) (by show acc.length<=_; omega)
   simp only [hc,Bool.not_false,cT,hcc,e1,oB];obtain ⟨c2,e2,h2⟩:=q4s hs q n hn k (i+1) (chR st).2 c1 (acc++[(chR st).1]) (by omega) (by rw [length_append,List.length_singleton]; omega) h1
   refine ⟨c2,?_,?_⟩
   ·rw [e2];simp only [yx,hb,false_eq_true,if_false,List.append_assoc,List.singleton_append]
   ·simp only [yx,hb,false_eq_true,if_false];exact h2
theorem qnL {s:BA} {m:Nat} (hm:40<=m) (u:Bool) (hu:(jS m (bl s)).1=66->u=true):(if (u&&(!(jS m (bl s)).2.2.2&&(batT (jS m (bl s)).2.1&&decide (bTL (jS m (bl s)).2.1=bl s))))=true then ((jS m (bl s)).2.1,true) else (((0:Int),([]:List Chg)),false))=rbO s:=by
 obtain ⟨h1,h2⟩:=qkR hm u hu;rw [h1];unfold rbO;cases hx:zX s with
 | none=>rfl
 | some b=>rw [h2 b hx]; rfl
theorem q84 (s:BA):RD s (s,((0:Int),false)) (bl s,false):=⟨rfl,Int.le_refl _,Int.natCast_nonneg _,rfl,fun _=>rfl⟩
theorem qn4 {b:Bat} {s:BA}:((btO b).2&&decide ((btO b).1=s))=(batT b&&decide (bTL b=bl s)):=by
 unfold btO;by_cases h:batT b=true
 ·rw [if_pos h,h,Bool.true_and,Bool.true_and,Bool.eq_iff_iff,decide_eq_true_eq,decide_eq_true_eq];constructor
  ·intro e; rw [<- e]
  ·intro e; exact zh (by rw [yT,e])
 ·have:batT b=false:=by simpa using h
  rw [if_neg h,this]; rfl
theorem q7v (s:BA) (hs:s.size<=20000):q3e s=some (rbO s,()):=by
 rw [qds];obtain ⟨c1,e1,h1⟩:=qcZ hs (q84 s);rw [e1]; simp only [oB];obtain ⟨c2,e2,h2⟩:=qae hs h1;rw [e2]; simp only [oB];rw [qdo];obtain ⟨c3,e3,h3⟩:=qae hs h2;rw [e3]; simp only [oB];have hN:=q8z (numR (qy (bl s,false)).2).2;obtain ⟨c4,e4,h4⟩:=q4s hs ((numR (qy (bl s,false)).2).1:Int) (numR (numR (qy (bl s,false)).2).2).1 hN (numR (numR (qy (bl s,false)).2).2).1 0 _ c3 [] (by omega) (le_refl _) h3
 have e4':q03 ((numR (numR (qy (bl s,false)).2).2).1:Int) 0 c3.1 c3.2.1 c3.2.2 ((numR (qy (bl s,false)).2).1:Int) []=_:=e4;rw [e4'];simp only [oB,nil_append];have hlen:=qlf chR (numR (numR (qy (bl s,false)).2).2).1 (numR (numR (qy (bl s,false)).2).2).2;have hbt:=qdr (((numR (qy (bl s,false)).2).1:Int),(yx chR (numR (numR (qy (bl s,false)).2).2).1 (numR (numR (qy (bl s,false)).2).2).2).1) (Nat.le_trans hlen hN);rw [hbt];simp only [oB,qV];have key:=qnL (s:=s) (m:=1000000000) (by decide) ((jS 1000000000 (bl s)).1==66) (fun h=>by rw [h]; rfl)
 have hr:jS 1000000000 (bl s)=((qy (bl s,false)).1,((((numR (qy (bl s,false)).2).1:Int),(yx chR (numR (numR (qy (bl s,false)).2).2).1 (numR (numR (qy (bl s,false)).2).2).2).1),(yx chR (numR (numR (qy (bl s,false)).2).2).1 (numR (numR (qy (bl s,false)).2).2).2).2)):=by
  unfold jS;simp only [Nat.min_eq_left hN]
 rw [hr,<- qn4] at key;rw [<- key,h4.bad];generalize (((numR (qy (bl s,false)).2).1:Int),(yx chR (numR (numR (qy (bl s,false)).2).2).1 (numR (numR (qy (bl s,false)).2).2).2).1)=b;generalize (yx chR (numR (numR (qy (bl s,false)).2).2).1 (numR (numR (qy (bl s,false)).2).2).2).2.2=g;generalize (qy (bl s,false)).1=x;have hx:(((x:Int)) != 66)=!(x==66):=by
  rw [Bool.eq_iff_iff]; simp; omega
 simp only [hx];cases (x==66)<;>cases g<;>cases (btO b).2<;>cases decide ((btO b).1=s)<;>rfl
theorem qb0 {s:BA} (hs:s.size<=20000) (x:Int) (y:List Chg) (q:Int) (n:Nat) (hn:n<=1000000000):∀ (k i:Nat) (st:RS) (c:qz) (acc:List Chg),i+k=min n 100->acc.length<=i->RD s c st->
  q1k s (n:Int) (i:Int) x y c.1 c.2.1 c.2.2 q acc=some ((if ((!(yx chR k st).2.2)&&((btO (q,acc++(yx chR k st).1)).2&&decide ((btO (q,acc++(yx chR k st).1)).1=s)))=true then ((q,acc++(yx chR k st).1),true) else ((0,[]),false)),()):=by
 have fin:∀ (bad:Bool) (b:Bat),b.2.length<=1000000000->((jB b).bind fun r12=>bif bad then some ((((0:Int),([]:List Chg)),false),()) else bif !r12.1.2 then some ((((0:Int),([]:List Chg)),false),()) else bif !(r12.1.1.toList==s.toList) then some ((((0:Int),([]:List Chg)),false),()) else some ((b,true),()))=some ((if ((!bad)&&((btO b).2&&decide ((btO b).1=s)))=true then (b,true) else ((0,[]),false)),()):=fun bad b hl=>by
  rw [q7w b hl];simp only [oB,qV];cases bad<;>cases (btO b).2<;>cases decide ((btO b).1=s)<;>rfl
 intro k;induction k with
 | zero=>
  intro i st c acc hi ha h;rw [q4Y];have hf:=fin c.2.2 (q,acc) (by show acc.length<=_; omega)
  simp only [yx,append_nil];rw [<- h.bad];by_cases h1:i < n
  ·have k1:decide ((i:Int) < (n:Int))=true:=dYT (by omega)
   have k2:decide ((i:Int) < 100)=false:=dYF (by omega)
   simp only [k1,k2,cT,cF];exact hf
  ·have k1:decide ((i:Int) < (n:Int))=false:=dYF (by omega)
   simp only [k1,cF];exact hf
 | succ k ih=>
  intro i st c acc hi ha h;rw [q4Y];have k1:decide ((i:Int) < (n:Int))=true:=dYT (by omega)
  have k2:decide ((i:Int) < 100)=true:=dYT (by omega)
  have k4:w64 ((i:Int)+1)=((i+1:Nat):Int):=qo (by omega)
  simp only [k1,k2,cT,k4];cases hb:st.2 with
  | true=>
   have hc:c.2.2=true:=by rw [h.bad]; exact hb
   have hf:=fin true (q,acc) (by show acc.length<=_; omega)
   simp only [hc,Bool.not_true,cF,yx,hb,if_true,append_nil];exact hf
  | false=>
   have hc:c.2.2=false:=by rw [h.bad]; exact hb
   have hcc:(c.1,(c.2.1,false))=c:=by rw [<- hc]
   simp only [hc,Bool.not_false,cT,hcc];obtain ⟨c1,e1,h1⟩:=q2p hs h;rw [e1]; simp only [oB];obtain ⟨t,c2,e2,h2,ht⟩:=qeU hs h1;rw [e2]; simp only [oB];obtain ⟨c3,e3,h3⟩:=q2p hs h2;rw [e3];have kl:lim (acc.length+1) 40=true:=qZ (by omega)
   simp only [oB,kl,cT,qV,ht];have hr:=ih (i+1) (chR st).2 c3 (acc++[(chR st).1]) (by omega) (by rw [length_append,List.length_singleton]; omega) h3
   simp only [yx,hb,false_eq_true,if_false];rw [show acc++(chR st).1::(yx chR k (chR st).2).1=(acc++[(chR st).1])++(yx chR k (chR st).2).1 by simp]
   exact hr
theorem q7B (s:BA) (hs:s.size<=20000):q3r s=some (rbO s,()):=by
 rw [qdE];obtain ⟨t,c1,e1,h1,_⟩:=qeU hs (q84 s);rw [e1]; simp only [oB];obtain ⟨c2,e2,h2⟩:=q2O hs h1;rw [e2]; simp only [oB];obtain ⟨c3,e3,h3⟩:=q2O hs h2;rw [e3]; simp only [oB];have hN:=q8z (numR (qy (bl s,false)).2).2;have hL:=qb0 hs 0 [] ((numR (qy (bl s,false)).2).1:Int) (numR (numR (qy (bl s,false)).2).2).1 hN (min (numR (numR (qy (bl s,false)).2).2).1 100) 0 _ c3 [] (by omega) (le_refl _) h3
 refine Eq.trans hL ?_;have key:=qnL (s:=s) (m:=100) (by decide) true (fun _=>rfl)
 rw [Bool.true_and,<- qn4] at key;rw [<- key];rfl
end Go.Den.S
namespace Go.Den.S
open Go Go.Den
def mkB (l:List UInt8):BA:=⟨l.toArray⟩
theorem qaM (l:List UInt8):(mkB l).data.toList=l:=by simp [mkB]
theorem qeB (l:List UInt8):(mkB l).size=l.length:=by simp [mkB,size]
theorem qhb (l m:List UInt8):mkB l++mkB m=mkB (l++m):=q2E (by simp [mkB])
def decB (n:Int):BA:=mkB (Lib.itoa n)
theorem q97 (n:Int) (h0:-9223372036854775808<=n) (h1:n<=9223372036854775807):q4x n=some (decB n,()):=by
 rw [qfp,qgr];unfold q2b;simp only [dYT h0,dYT h1,Bool.and_self,cT,oB];rfl
theorem qc9 (d:Nat) (h:d < 10):q3s (d:Int)=some (((48+d:Nat):Int),()):=by
 rw [qdF];have e:(Go.IntKind.u8.wrap (w64 (48+(d:Int))))=((48+d:Nat):Int):=by
  show IntKind.u8.wrap (IntKind.i64.wrap _)=_;rw [qh (by omega) (by omega),q4k (by omega) (by omega)]; omega
 simp only [dYT (show (d:Int) < 10 by omega),cT,e]
theorem q94 (u:Nat) (h:¬ u < 10):Lib.decDigits u=Lib.decDigits (u / 10)++[UInt8.ofNat (48+u % 10)]:=by
 rw [Lib.decDigits,dif_neg h]
theorem qee (k u:Nat) (h:u < 10 ^ (k+1)):(Lib.decDigits u).length<=k+1:=by
 induction k generalizing u with
 | zero=>
  rw [Lib.decDigits,dif_pos (by simpa using h)]
  simp
 | succ k ih=>
  by_cases hu:u < 10
  ·rw [Lib.decDigits,dif_pos hu]; simp
  ·rw [q94 u hu,length_append];have:=ih (u / 10) (by rw [Nat.pow_succ] at h; omega)
   simp only [List.length_singleton];omega
theorem qjp (neg:Bool) (k u:Nat) (acc:BA) (h1:1<=u) (h2:u < 10 ^ (k+1)) (h3:u<=9000000000000000000) (h4:acc.size+k<=1000000)
  (ih:10<=u->zl (if neg then -((u / 10:Nat):Int) else ((u / 10:Nat):Int)) neg ((⟨toArray [UInt8.ofNat (48+u % 10)]⟩:BA)++acc)=some ((if neg then mkB (45::Lib.decDigits (u / 10)) else mkB (Lib.decDigits (u / 10)))++((⟨toArray [UInt8.ofNat (48+u % 10)]⟩:BA)++acc),())) :
  zl (if neg then -(u:Int) else (u:Int)) neg acc=some ((if neg then mkB (45::Lib.decDigits u) else mkB (Lib.decDigits u))++acc,()):=by
 have hsz:∀ x:UInt8,(⟨toArray [x]⟩:BA).size=1:=fun _=>rfl
 have hround:zl (if neg then -(u:Int) else (u:Int)) neg acc=zl (if neg then -((u / 10:Nat):Int) else ((u / 10:Nat):Int)) neg ((⟨toArray [UInt8.ofNat (48+u % 10)]⟩:BA)++acc):=by
  conv=>lhs; rw [q6X]
  have hbyte:UInt8.ofNat (toNat ((48+u % 10:Nat):Int))=UInt8.ofNat (48+u % 10):=by rw [toNat_natCast]
  cases neg with
  | false=>
   have k1:((u:Int) != 0)=true:=by simp; omega
   have k2:tmod (u:Int) 10=((u % 10:Nat):Int):=by rw [Int.tmod_eq_emod_of_nonneg (by omega)]; omega
   have k3:w64 (tdiv (u:Int) 10)=((u / 10:Nat):Int):=by
    show IntKind.i64.wrap _=_;rw [Int.tdiv_eq_ediv_of_nonneg (by omega),qh (by omega) (by omega)]; omega
   simp only [false_eq_true,if_false,k1,k2,k3,cT,dYF (show ¬ (((u % 10:Nat):Int) < 0) by omega),cF,qc9 (u % 10) (by omega),oB,map_cons,map_nil,hbyte,hsz,qY (show 1+acc.size<=9223372036854775807 by omega)]
  | true=>
   have k1:((-(u:Int)) != 0)=true:=by simp; omega
   have k2:tmod (-(u:Int)) 10=-((u % 10:Nat):Int):=by rw [Int.neg_tmod,Int.tmod_eq_emod_of_nonneg (by omega)]; omega
   have k3:w64 (tdiv (-(u:Int)) 10)=-((u / 10:Nat):Int):=by
    show IntKind.i64.wrap _=_;rw [Int.neg_tdiv,Int.tdiv_eq_ediv_of_nonneg (by omega),qh (by omega) (by omega)]; omega
   have k4:w64 (0 - (-((u % 10:Nat):Int)))=((u % 10:Nat):Int):=by
    show IntKind.i64.wrap _=_;rw [qh (by omega) (by omega)]; omega
   simp only [if_true,k1,k2,k3,k4,cT];by_cases hz:(-((u % 10:Nat):Int)) < 0
   ·simp only [dYT hz,cT,qc9 (u % 10) (by omega),oB,map_cons,map_nil,hbyte,hsz,qY (show 1+acc.size<=9223372036854775807 by omega)]
   ·have h0:u % 10=0:=by omega
    have e0:(-((u % 10:Nat):Int))=((0:Nat):Int):=by omega
    have hz':decide ((-((u % 10:Nat):Int)) < 0)=false:=dYF hz;simp only [hz',cF];rw [e0];simp only [qc9 0 (by omega),oB,map_cons,map_nil,hsz,qY (show 1+acc.size<=9223372036854775807 by omega),cT,toNat_natCast]
    rw [h0]
 rw [hround];have hone:(⟨toArray [UInt8.ofNat (48+u % 10)]⟩:BA)=mkB [UInt8.ofNat (48+u % 10)]:=rfl;by_cases hu:u < 10
 ·have e0:u / 10=0:=by omega
  have e1:u % 10=u:=by omega
  rw [e0,q6X];have e2:(if neg=true then -((0:Nat):Int) else ((0:Nat):Int))=0:=by split<;>rfl
  have hd:Lib.decDigits u=[UInt8.ofNat (48+u)]:=by rw [Lib.decDigits,dif_pos hu]
  rw [e2,hd];cases neg with
  | false=>simp only [show ((0:Int) != 0)=false from rfl,cF,e1,false_eq_true,if_false]; rfl
  | true=>
   have e3:(q92:BA)=mkB [45]:=rfl;have e4:(q92:BA).size=1:=rfl;simp only [show ((0:Int) != 0)=false from rfl,cF,cT,size_append,e4,hsz,qY (show 1+(1+acc.size)<=9223372036854775807 by omega),e1,if_true]
   rw [e3,show (⟨toArray [UInt8.ofNat (48+u)]⟩:BA)=mkB [UInt8.ofNat (48+u)] from rfl,<- ByteArray.append_assoc,qhb]
   rfl
 ·rw [ih (by omega),hone,q94 u hu]
  cases neg with
  | false=>simp only [false_eq_true,if_false]; rw [<- ByteArray.append_assoc,qhb]
  | true=>simp only [if_true]; rw [<- ByteArray.append_assoc,qhb]; rfl
theorem qjo (neg:Bool) (k:Nat):∀ (u:Nat) (acc:BA),1<=u->u < 10 ^ (k+1)->u<=9000000000000000000->acc.size+k<=1000000->
  zl (if neg then -(u:Int) else (u:Int)) neg acc=some ((if neg then mkB (45::Lib.decDigits u) else mkB (Lib.decDigits u))++acc,()):=by
 induction k with
 | zero=>exact fun u acc h1 h2 h3 h4=>qjp neg 0 u acc h1 h2 h3 h4 (fun h=>absurd h2 (by rw [zero_add,Nat.pow_one]; omega))
 | succ k ih=>
  exact fun u acc h1 h2 h3 h4=>qjp neg (k+1) u acc h1 h2 h3 h4 fun h=>ih (u / 10) _ (by omega) (by rw [Nat.pow_succ] at h2; omega) (by omega) (by
   rw [size_append];have:∀ x:UInt8,(⟨toArray [x]⟩:BA).size=1:=fun _=>rfl
   rw [this]; omega)
theorem q9h (n:Int) (h0:-9000000000000000000<=n) (h1:n<=9000000000000000000):q4W n=some (decB n,()):=by
 rw [qg2];by_cases hz:n=0
 ·subst hz;have:decB 0=c_0:=by
   unfold decB Lib.itoa;rw [if_neg (by omega),show toNat 0=0 from rfl,Lib.decDigits,dif_pos (by omega)]; rfl
  simp only [show ((0:Int)==0)=true from rfl,cT,this]
 ·have k0:(n==0)=false:=by simpa using hz
  simp only [k0,cF];by_cases hn:n < 0
  ·have:=qjo true 18 n.natAbs eB (by omega) (by omega) (by omega) (by decide)
   simp only [if_true,show -((n.natAbs:Nat):Int)=n by omega] at this
   rw [dYT hn,this];unfold decB Lib.itoa;rw [if_pos hn,ByteArray.append_empty]
  ·have:=qjo false 18 n.toNat eB (by omega) (by omega) (by omega) (by decide)
   simp only [false_eq_true,if_false,show ((n.toNat:Nat):Int)=n by omega] at this
   rw [dYF hn,this];unfold decB Lib.itoa;rw [if_neg hn,ByteArray.append_empty]
theorem qhP (n:Int) (h0:-9223372036854775808<=n) (h1:n<=9223372036854775807):(decB n).size<=20:=by
 unfold decB Lib.itoa;rw [qeB];split
 ·have:=qee 18 n.natAbs (by omega)
  simp only [length_cons]; omega
 ·have:=qee 18 n.toNat (by omega)
  omega
def digB (c:UInt8):Bool:=decide (48<=c.toNat)&&decide (c.toNat<=57)
def valL (l:List UInt8) (a:Nat):Nat:=l.foldl (fun a c=>10 * a+(c.toNat - 48)) a
theorem qoZ (l m:List UInt8) (a:Nat):valL (l++m) a=valL m (valL l a):=by simp [valL]
theorem qbY (d:Nat) (h:d < 10):(UInt8.ofNat (48+d)).toNat=48+d:=by
 rw [UInt8.toNat_ofNat'];omega
theorem q62 (k:Nat):∀ u:Nat,u < 10 ^ (k+1)->(∀ c∈Lib.decDigits u,digB c=true)/\valL (Lib.decDigits u) 0=u:=by
 induction k with
 | zero=>
  intro u h;have h:u < 10:=by simpa using h
  rw [Lib.decDigits,dif_pos h];have:=qbY u h;refine ⟨fun c hc=>?_,?_⟩
  ·simp only [List.mem_singleton] at hc;rw [hc];unfold digB;rw [this,dYT (by omega),dYT (by omega)]; rfl
  ·show 10 * 0+((UInt8.ofNat (48+u)).toNat - 48)=u;rw [this]; omega
 | succ k ih=>
  intro u h;by_cases hu:u < 10
  ·rw [Lib.decDigits,dif_pos hu];have:=qbY u hu;refine ⟨fun c hc=>?_,?_⟩
   ·simp only [List.mem_singleton] at hc;rw [hc];unfold digB;rw [this,dYT (by omega),dYT (by omega)]; rfl
   ·show 10 * 0+((UInt8.ofNat (48+u)).toNat - 48)=u;rw [this]; omega
  ·obtain ⟨h1,h2⟩:=ih (u / 10) (by rw [Nat.pow_succ] at h; omega)
   have:=qbY (u % 10) (by omega)
   rw [q94 u hu];refine ⟨fun c hc=>?_,?_⟩
   ·rcases List.mem_append.1 hc with hc | hc
    ·exact h1 c hc
    ·simp only [List.mem_singleton] at hc;rw [hc];unfold digB;rw [this,dYT (by omega),dYT (by omega)]; rfl
   ·rw [qoZ,h2];show 10 * (u / 10)+((UInt8.ofNat (48+u % 10)).toNat - 48)=u;rw [this]; omega
def rdL (s:BA) (l:List UInt8) (a:Nat):Int×Bool:=bif l.all digB then (bif decide (valL l a<=1000000000)&&decide (decB (valL l a:Int)=s) then ((valL l a:Int),true) else (0,false)) else (0,false)
theorem qpK (s:BA) (h10:s.size<=10):jo s 0 0=some (rdL s s.data.toList 0,()):=by
 have hlen:s.data.toList.length=s.size:=Array.length_toList;have key:=q8w s.data.toList 0 (fun i r=>∀ a:Nat,a < 10 ^ i->jo s (a:Int) (i:Int)=some (rdL s r a,()))
  (fun a ha=>by
   rw [q3F,hlen];have ha':a < 10 ^ 10:=Nat.lt_of_lt_of_le ha (Nat.pow_le_pow_right (by omega) (by omega))
   simp only [Int.lt_irrefl,decide_false,cF];unfold rdL;show _=some ((bif (decide (a<=1000000000)&&decide (decB (a:Int)=s)) then ((a:Int),true) else (0,false)),())
   by_cases h9:a<=1000000000
   ·rw [dYF (show ¬ ((a:Int) > 1000000000) by omega),dYT h9]
    simp only [cF,q9h (a:Int) (by omega) (by omega),oB,qV,Bool.true_and]
    cases decide (decB (a:Int)=s)<;>rfl
   ·rw [dYT (show ((a:Int) > 1000000000) by omega),dYF h9]; rfl)
  (fun i c r hi hx hm ih a ha=>by
   rw [hlen] at hi;have ha':a < 10 ^ 10:=Nat.lt_of_lt_of_le ha (Nat.pow_le_pow_right (by omega) (by omega))
   have hc:c.toNat < 256:=c.toNat_lt;have hb:bt s i=(c.toNat:Int):=by unfold bt; rw [hx]
   rw [q3F];have e1:decide ((i:Int) < (s.size:Int))=true:=dYT (by omega)
   have e2:decide (0<=(i:Int))=true:=dYT (by omega)
   have e3:w64 ((i:Int)+1)=((i+1:Nat):Int):=qo (by omega)
   simp only [e1,e2,e3,Bool.and_self,cT,toNat_natCast,hb];unfold rdL;rw [all_cons];unfold digB;by_cases h48:48<=c.toNat
   ·by_cases h57:c.toNat<=57
    ·rw [dYF (show ¬ ((c.toNat:Int) < 48) by omega),dYF (show ¬ ((c.toNat:Int) > 57) by omega),dYT h48,dYT h57]
     have hw:w64 (w64 (w64 (10 * (a:Int))+w64 (c.toNat:Int)) - 48)=((10 * a+(c.toNat - 48):Nat):Int):=by
      show IntKind.i64.wrap (IntKind.i64.wrap (IntKind.i64.wrap _+IntKind.i64.wrap _) - 48)=_;rw [qh (n:=10 * (a:Int)) (by omega) (by omega),qh (n:=(c.toNat:Int)) (by omega) (by omega),qh (n:=10 * (a:Int)+(c.toNat:Int)) (by omega) (by omega),qh (by omega) (by omega)]
      omega
     simp only [cF,hw,Bool.true_and];rw [ih (10 * a+(c.toNat - 48)) (by rw [Nat.pow_succ]; omega)]
     rfl
    ·rw [dYF (show ¬ ((c.toNat:Int) < 48) by omega),dYT (show ((c.toNat:Int) > 57) by omega),dYT h48,dYF h57]
     rfl
   ·rw [dYT (show ((c.toNat:Int) < 48) by omega),dYF h48]
    rfl)
 exact key 0 (by decide)
def rdD (s:BA):Int×Bool:=bif decide (s.size<=10) then rdL s s.data.toList 0 else (0,false)
theorem qbE (s:BA):q44 s=some (rdD s,()):=by
 rw [qbD];unfold rdD;by_cases h:s.size<=10
 ·rw [dYF (show ¬ ((s.size:Int) > 10) by omega),dYT h]
  simp only [cF,cT];exact qpK s h
 ·rw [dYT (show ((s.size:Int) > 10) by omega),dYF h]; rfl
theorem qlH (s:BA):rdD s=(0,false)\/∃ v:Nat,v<=1000000000/\decB (v:Int)=s/\rdD s=((v:Int),true):=by
 unfold rdD rdL;cases decide (s.size<=10) with
 | false=>exact .inl rfl
 | true=>
  simp only [cT];cases s.data.toList.all digB with
  | false=>exact .inl rfl
  | true=>
   simp only [cT];cases h:(decide (valL s.data.toList 0<=1000000000)&&decide (decB (valL s.data.toList 0:Int)=s)) with
   | false=>exact .inl rfl
   | true=>
    simp only [and_eq_true,decide_eq_true_eq] at h;exact .inr ⟨_,h.1,h.2,rfl⟩
theorem q87 (v:Nat):decB (v:Int)=mkB (Lib.decDigits v):=by
 unfold decB Lib.itoa;rw [if_neg (by omega),toNat_natCast]
theorem qlI (v:Nat) (h:v<=1000000000):rdD (decB (v:Int))=((v:Int),true):=by
 obtain ⟨h1,h2⟩:=q62 9 v (by omega)
 have hl:=qee 9 v (by omega)
 unfold rdD rdL;have e1:(decB (v:Int)).data.toList=Lib.decDigits v:=by rw [q87,qaM]
 rw [e1,h2,dYT (show (decB (v:Int)).size<=10 by rw [q87,qeB]; omega),show (Lib.decDigits v).all digB=true from all_eq_true.2 h1,dYT h,dYT rfl]
 rfl
theorem qoo (v:Nat) (h:1<=v):decB (-(v:Int))=mkB (45::Lib.decDigits v):=by
 unfold decB Lib.itoa;rw [if_pos (by omega)]
 simp
theorem qbX (v:Nat):∃ c r,Lib.decDigits v=c::r/\digB c=true:=by
 have h1:(Lib.decDigits v)≠[]:=by
  rw [Lib.decDigits];split<;>simp
 match hd:Lib.decDigits v,h1 with
 | c::r,_=>exact ⟨c,r,rfl,by
   obtain ⟨k,hk⟩:∃ k,v < 10 ^ (k+1):=⟨v,by
    have:∀ n:Nat,n < 10 ^ (n+1):=fun n=>Nat.lt_of_lt_of_le (Nat.lt_pow_self (by omega)) (Nat.pow_le_pow_right (by omega) (by omega))
    exact this v⟩
   have:=(q62 k v hk).1 c (by rw [hd]; exact mem_cons_self ..)
   exact this⟩
theorem q8A:∀ (l:List UInt8) (a:Nat),(∀ c∈l,digB c=true)->valL l a<=1000000000000->Lib.parseUint10 a l=.ok (valL l a)
 | [],a,_,_=>rfl
 | c::r,a,h,hb=>by
  have hc:=h c (mem_cons_self ..);unfold digB at hc;simp only [and_eq_true,decide_eq_true_eq] at hc;have mono:∀ (l:List UInt8) (a:Nat),a<=valL l a:=by
   intro l;induction l with
   | nil=>intro a; exact le_refl _
   | cons x l ih=>intro a; exact Nat.le_trans (by omega) (ih (10 * a+(x.toNat - 48)))
  have hv:valL (c::r) a=valL r (10 * a+(c.toNat - 48)):=rfl;have hm:=mono r (10 * a+(c.toNat - 48));rw [hv] at hb ⊢;unfold Lib.parseUint10;rw [if_pos hc,if_neg (by omega),if_neg (by omega),show a * 10+(c.toNat - 48)=10 * a+(c.toNat - 48) by omega]
  exact q8A r _ (fun x hx=>h x (List.mem_cons_of_mem _ hx)) hb
theorem qat (n:Int) (h0:-1000000000<=n) (h1:n<=1000000000):Lib.atoiAll (decB n).data.toList=.ok n:=by
 by_cases hn:n < 0
 ·obtain ⟨v,rfl⟩:∃ v:Nat,n=-(v:Int):=⟨n.natAbs,by omega⟩
  obtain ⟨d1,d2⟩:=q62 9 v (by omega)
  obtain ⟨c,r,hc,_⟩:=qbX v;have hp:=q8A (Lib.decDigits v) 0 d1 (by rw [d2]; omega)
  rw [d2] at hp;rw [qoo v (by omega),qaM]
  unfold Lib.atoiAll Lib.parseMag;have e45:(45:UInt8).toNat=45:=rfl;simp only [e45,or_true,if_true,hp,hc,reduceCtorEq,if_false,not_true_eq_false,false_and,true_and];rw [<- hc,hp];simp only;rw [if_neg (by omega)]
 ·obtain ⟨v,rfl⟩:∃ v:Nat,n=(v:Int):=⟨n.toNat,by omega⟩
  obtain ⟨d1,d2⟩:=q62 9 v (by omega)
  obtain ⟨c,r,hc,hd⟩:=qbX v;have hp:=q8A (Lib.decDigits v) 0 d1 (by rw [d2]; omega)
  rw [d2,hc] at hp;rw [q87,qaM,hc];unfold digB at hd;simp only [and_eq_true,decide_eq_true_eq] at hd;unfold Lib.atoiAll Lib.parseMag;have n43:¬ (c.toNat=43):=by omega
  have n45:¬ (c.toNat=45):=by omega
  simp only [n43,n45,or_self,reduceCtorEq,hp,not_false_eq_true,true_and,false_and,if_false];rw [if_neg (by omega)]
theorem qm2 {l:List UInt8} {v:Int} (h:Lib.atoiAll l=.ok v):-9223372036854775808<=v/\v<=9223372036854775807:=by
 unfold Lib.atoiAll at h;split at h
 ·cases h
 ·rename_i c r;simp only at h;split at h
  ·cases h
  ·cases h
  ·rename_i u hu;split at h
   ·cases h
   ·rename_i h1;split at h
    ·cases h
    ·rename_i h2;injection h with h;by_cases hn:c.toNat=45
     ·rw [if_pos hn] at h; omega
     ·rw [if_neg hn] at h; omega
theorem q57 (s:BA) (hs:s.size<=100000000):q3Y s=some (rdD s,()):=by
 rw [qby,qgq];unfold q2a;simp only [dYT (show s.size<=281474976710656 by omega),cT]
 have hS:=qlH s;have no:(∀ n:Nat,n<=1000000000->decB (n:Int)=s->False)->rdD s=(0,false):=fun h=>hS.elim id fun ⟨n,h1,h2,_⟩=>(h n h1 h2).elim
 cases ha:Lib.atoiAll s.data.toList with
 | «syntax»=>
  rw [no fun n h1 h2=>by rw [<- h2,qat n (by omega) (by omega)] at ha; cases ha]
  rfl
 | range=>
  rw [no fun n h1 h2=>by rw [<- h2,qat n (by omega) (by omega)] at ha; cases ha]
  rfl
 | ok v=>
  obtain ⟨r1,r2⟩:=qm2 ha;simp only [oB,cF,q97 v r1 r2,qV,zW];by_cases hd:decB v=s
  ·rw [dYT hd];simp only [Bool.not_true,cF];by_cases hr:0<=v/\v<=1000000000
   ·obtain ⟨n,rfl⟩:∃ n:Nat,v=(n:Int):=⟨v.toNat,by omega⟩
    have e:inB (n:Int) 0 1000000000=true:=by unfold inB; simp [hr]
    have:=qlI n (by omega)
    rw [hd] at this;rw [this,e]; rfl
   ·have e:inB v 0 1000000000=false:=by
     unfold inB;rw [<- not_eq_true,and_eq_true,decide_eq_true_eq,decide_eq_true_eq]; exact hr
    rw [e,no fun n h1 h2=>by
     rw [<- h2,qat n (by omega) (by omega)] at ha
     injection ha with ha;omega]
    rfl
  ·rw [dYF hd,no fun n h1 h2=>by
    rw [<- h2,qat n (by omega) (by omega)] at ha
    injection ha with ha;exact hd (by rw [<- ha]; exact h2)]
   rfl
end Go.Den.S
namespace Go.Den.S
open Go Go.Den
set_option maxRecDepth 4000
theorem qdf {n:Nat} (h:n < 100):c_b++decB (n:Int)=nmL n:=by
 refine zh ?_;rw [jK,q87];unfold nmL;rw [yT];show 98::bl (mkB (Lib.decDigits n))=_;congr 1
 show (mkB (Lib.decDigits n)).data.toList=_;rw [qaM];by_cases h10:n < 10
 ·rw [if_pos h10,Lib.decDigits,dif_pos h10]
 ·rw [if_neg h10,q94 n h10,Lib.decDigits,dif_pos (by omega)]; rfl
def nmO (n:Int):BA:=if 0<=n/\n<=99 then nmL n.toNat else eB
theorem q0D {n:Nat} (h:n < 100):nmO (n:Int)=nmL n:=by
 unfold nmO;rw [if_pos (by omega),toNat_natCast]
theorem q0R (a b c:Int):inB a b c=decide (b<=a/\a<=c):=by
 unfold inB;rw [Bool.eq_iff_iff]; simp
theorem jP (n:Int):zJ n=some (nmO n,()):=by
 rw [qft,zW,q0R];unfold nmO;by_cases h:0<=n/\n<=99
 ·obtain ⟨m,rfl⟩:∃ m:Nat,n=(m:Int):=⟨n.toNat,by omega⟩
  have hz:=qhP (m:Int) (by omega) (by omega)
  have k:limS ((c_b:BA).size+(decB (m:Int)).size)=true:=qY (by show 1+_<=_; omega)
  simp only [dYT h,oB,Bool.not_true,cF,q97 (m:Int) (by omega) (by omega),k,cT,if_pos h,toNat_natCast,qdf (show m < 100 by omega)]
 ·simp only [dYF h,oB,Bool.not_false,cT,if_neg h]
theorem jg (n:Int):jf n=some (nmO n,()):=by
 rw [qg6,zO,q0R];unfold nmO;by_cases h:0<=n/\n<=99
 ·obtain ⟨m,rfl⟩:∃ m:Nat,n=(m:Int):=⟨n.toNat,by omega⟩
  have hz:=qhP (m:Int) (by omega) (by omega)
  have k:limS ((c_b:BA).size+(decB (m:Int)).size)=true:=qY (by show 1+_<=_; omega)
  simp only [dYT h,oB,Bool.not_true,cF,q9h (m:Int) (by omega) (by omega),k,cT,if_pos h,toNat_natCast,qdf (show m < 100 by omega)]
 ·simp only [dYF h,oB,Bool.not_false,cT,if_neg h]
def numI (s:BA):Int:=match numOf s with | some n=>(n:Int) | none=>-1
theorem q3j (s:BA):(numI s=-1/\numOf s=none)\/∃ n:Nat,n < 100/\numI s=(n:Int)/\numOf s=some n/\nmL n=s:=by
 unfold numI;cases h:numOf s with
 | none=>exact .inl ⟨rfl,rfl⟩
 | some n=>exact .inr ⟨n,(q1C.1 h).1,rfl,rfl,(q1C.1 h).2⟩
theorem qk5 (s rest:BA) (hne:1<=s.size) (hrest:∀ n:Nat,n < 100->nmL n=s->rest=decB (n:Int)):(bif !(rdD rest).2 then ((-1:Int)) else bif !decide (nmO (rdD rest).1=s) then (-1:Int) else (rdD rest).1)=numI s:=by
 rcases q3j s with ⟨h1,h2⟩ | ⟨n,hn,h1,_,h3⟩
 ·rw [h1];rcases qlH rest with hr | ⟨v,hv,_,hr⟩
  ·rw [hr]; rfl
  ·rw [hr];have:¬ nmO (v:Int)=s:=fun e=>by
    unfold nmO at e;split at e
    ·rename_i hv2;rw [toNat_natCast] at e;rw [q1C.2 ⟨by omega,e⟩] at h2; cases h2
    ·rw [<- e] at hne;exact absurd hne (by decide)
   simp only [Bool.not_true,cF,dYF this,Bool.not_false,cT]
 ·rw [h1,hrest n hn h3,qlI n (by omega)]
  simp only [Bool.not_true,cF,q0D hn,dYT h3]
theorem qhf {n:Nat} (hn:n < 100) {s:BA} (h:nmL n=s):s.extract 1 s.size=decB (n:Int):=by
 rw [<- h,<- qdf hn];refine zh ?_;rw [q1V,jK];have e1:bl c_b=[98]:=rfl;have e2:(c_b++decB (n:Int)).size=1+(bl (decB (n:Int))).length:=by rw [size_append,<- yg]; rfl
 rw [e1,e2];show List.take _ (bl (decB (n:Int)))=_;rw [List.take_of_length_le];omega
theorem qjL (s:BA) (hs:s.size<=1000000):q5W s=some (numI s,()):=by
 rw [qdI];by_cases h:s.size < 2
 ·have k:decide ((s.size:Int) < 2)=true:=dYT (by omega)
  simp only [k,cT];rcases q3j s with ⟨h1,_⟩ | ⟨n,hn,_,_,h3⟩
  ·rw [h1]
  ·have e:=qhf hn h3;have e2:=congrArg size h3;rw [<- qdf hn,size_append] at e2;have hz:1<=(decB (n:Int)).size:=by
    rw [q87,qeB];obtain ⟨c,r,hc,_⟩:=qbX n;rw [hc]; simp
   have:(c_b:BA).size=1:=rfl;omega
 ·have k:decide ((s.size:Int) < 2)=false:=dYF (by omega)
  have q1:decide ((1:Int)<=(s.size:Int))=true:=dYT (by omega)
  simp only [k,cF,show decide ((0:Int)<=1)=true from rfl,q1,dYT (Int.le_refl (s.size:Int)),Bool.and_self,cT,show toNat 1=1 from rfl,toNat_natCast,qbE,oB,jg,qV]
  have:=qk5 s (s.extract 1 s.size) (by omega) (fun n hn h=>qhf hn h)
  rw [<- this];cases (rdD (s.extract 1 s.size)).2
  ·rfl
  ·cases decide (nmO (rdD (s.extract 1 s.size)).1=s)<;>rfl
theorem qoz (s:BA):jc s c_b=some (decide (s.extract 0 1=c_b),()):=by
 rw [q3B];by_cases h:1<=s.size
 ·have k:decide ((s.size:Int)>=((c_b:BA).size:Int))=true:=dYT (by show (1:Int)<=_; omega)
  have q:decide (((c_b:BA).size:Int)<=(s.size:Int))=true:=dYT (by show (1:Int)<=_; omega)
  simp only [k,cT,show decide ((0:Int)<=0)=true from rfl,show decide ((0:Int)<=((c_b:BA).size:Int))=true from rfl,q,Bool.and_self,qV]
  rfl
 ·have k:decide ((s.size:Int)>=((c_b:BA).size:Int))=false:=dYF (by show ¬ (1:Int)<=_; omega)
  simp only [k,cF];have:¬ s.extract 0 1=c_b:=fun e=>by
   have:=congrArg size e;rw [ByteArray.size_extract] at this;have h1:(c_b:BA).size=1:=rfl;omega
  rw [dYF this]
theorem qcE (s:BA) (hs:s.size<=1000000):q3f s=some (numI s,()):=by
 rw [qdz,qb3,q3A,qoz];simp only [oB];by_cases h:s.extract 0 1=c_b
 ·have hz:1<=s.size:=by
   have:=congrArg size h;rw [ByteArray.size_extract] at this;have h1:(c_b:BA).size=1:=rfl;omega
  have q1:decide (((c_b:BA).size:Int)<=(s.size:Int))=true:=dYT (by show (1:Int)<=_; omega)
  have hx:s.extract (c_b:BA).size s.size=s.extract 1 s.size:=rfl;simp only [dYT h,Bool.not_true,cF,show decide ((0:Int)<=((c_b:BA).size:Int))=true from rfl,q1,dYT (Int.le_refl (s.size:Int)),Bool.and_self,cT,oB,toNat_natCast,hx,q57 (s.extract 1 s.size) (by rw [ByteArray.size_extract]; omega),jP,qV]
  have:=qk5 s (s.extract 1 s.size) hz (fun n hn h=>qhf hn h)
  rw [<- this];cases (rdD (s.extract 1 s.size)).2
  ·rfl
  ·cases decide (nmO (rdD (s.extract 1 s.size)).1=s)<;>rfl
 ·simp only [dYF h,Bool.not_false,cT,oB,q57 s (by omega)]
  rcases q3j s with ⟨h1,_⟩ | ⟨n,hn,_,_,h3⟩
  ·rw [h1]
  ·refine absurd ?_ h;rw [<- h3];refine zh ?_;rw [q1V]; rfl
noncomputable def htO (n f:Int):BA×Bool:=if 0<=n/\n<=99/\0<=f/\f<=n then (bOf (wz n.toNat f.toNat),true) else (eB,false)
theorem qi5 (m k:Nat):(c_H++bOf (vL m))++bOf (vL k)=hdT m k:=zh (by
 rw [jK,jK,yT,yT];unfold hdT;rw [yT,List.append_assoc]; rfl)
theorem qnj {m k:Nat} (hm:m<=99) (hk:k<=m):frO (hdT m k)=(bOf (wz m k),true):=by
 unfold frO;have h:1<=(hdT m k).size/\(hdT m k).size<=9000:=qjC hm hk;rw [if_pos h]; rfl
theorem qeN (n f:Int):q7o n f=some (htO n f,()):=by
 rw [qeM,zO,zO,q0R,q0R];unfold htO;by_cases h:0<=n/\n<=99
 ·by_cases h2:0<=f/\f<=n
  ·obtain ⟨m,rfl⟩:∃ m:Nat,n=(m:Int):=⟨n.toNat,by omega⟩
   obtain ⟨k,rfl⟩:∃ k:Nat,f=(k:Int):=⟨f.toNat,by omega⟩
   have v1:=wQ (show m<=1000000000 by omega)
   have v2:=wQ (show k<=1000000000 by omega)
   have l1:limS ((c_H:BA).size+(bOf (vL m)).size)=true:=qY (by rw [qF (vL m)]; show 1+_<=_; omega)
   have l2:limS ((c_H++bOf (vL m)).size+(bOf (vL k)).size)=true:=qY (by rw [size_append,qF (vL m),qF (vL k)]; show 1+_+_<=_; omega)
   simp only [dYT h,dYT h2,oB,Bool.not_true,cF,wP (show m<=1000000000000 by omega),wP (show k<=1000000000000 by omega),l1,l2,cT,qi5,q28,qnj (show m<=99 by omega) (show k<=m by omega)]
   rw [if_pos ⟨h.1,h.2,h2.1,h2.2⟩]; rfl
  ·simp only [dYT h,dYF h2,oB,Bool.not_true,cF,Bool.not_false,cT];rw [if_neg fun hh=>h2 ⟨hh.2.2.1,hh.2.2.2⟩]
 ·simp only [dYF h,oB,Bool.not_false,cT];rw [if_neg fun hh=>h ⟨hh.1,hh.2.1⟩]
theorem qel (n f:Int):q7e n f=some (htO n f,()):=by
 rw [qek,zW,zW,q0R,q0R];unfold htO;by_cases h:0<=n/\n<=99
 ·by_cases h2:0<=f/\f<=n
  ·obtain ⟨m,rfl⟩:∃ m:Nat,n=(m:Int):=⟨n.toNat,by omega⟩
   obtain ⟨k,rfl⟩:∃ k:Nat,f=(k:Int):=⟨f.toNat,by omega⟩
   have v1:=wQ (show m<=1000000000 by omega)
   have v2:=wQ (show k<=1000000000 by omega)
   have l1:limS ((c_H:BA).size+(bOf (vL m++vL k)).size)=true:=qY (by rw [qF (vL m++vL k),length_append]; show 1+_<=_; omega)
   have e:c_H++bOf (vL m++vL k)=hdT m k:=zh (by
    rw [jK,yT]; unfold hdT; rw [yT]; rfl)
   simp only [dYT h,dYT h2,oB,Bool.not_true,cF,qfH m k (by omega) (by omega),l1,cT,e,q7d,qnj (show m<=99 by omega) (show k<=m by omega)]
   rw [if_pos ⟨h.1,h.2,h2.1,h2.2⟩]; rfl
  ·simp only [dYT h,dYF h2,oB,Bool.not_true,cF,Bool.not_false,cT];rw [if_neg fun hh=>h2 ⟨hh.2.2.1,hh.2.2.2⟩]
 ·simp only [dYF h,oB,Bool.not_false,cT];rw [if_neg fun hh=>h ⟨hh.1,hh.2.1⟩]
theorem qk4 {l:List UInt8} (h:(numR (l,false)).2.2=false):l=vL (numR (l,false)).1++(numR (l,false)).2.1/\(numR (l,false)).1<=1000000000:=by
 refine ⟨?_,q8z _⟩;unfold numR at h ⊢;cases hv:rvar l with
 | none=>simp only [hv] at h; cases h
 | some p=>
  obtain ⟨n,k⟩:=p;obtain ⟨_,h2,r,h3⟩:=q8D.1 hv;simp only [hv,false_eq_true,if_false];rw [h3,h2,jL]
theorem qjD (s:BA) {n f:Nat} (hn:n<=99) (hf:f<=n) (e:hdT n f=s):qy (bl s,false)=(72,vL n++vL f,false)/\numR (vL n++vL f,false)=(n,vL f,false)/\numR (vL f,false)=(f,[],false):=by
 have:bl s=72::(vL n++vL f):=by rw [<- e]; rfl
 refine ⟨by rw [this]; rfl,q82 (by omega) _,?_⟩
 have:=q82 (show f<=1000000000 by omega) []
 rwa [append_nil] at this
noncomputable def hoO (n:Nat) (t:BA):Int×Int×Bool:=match (unO t).1 with
 | []=>(0,(0,false))
 | h::_=>match hdOf n h with
  | none=>(0,(0,false))
  | some f=>((f:Int),((wz n f).length:Int),true)
theorem qcQ {t h:BA} (hh:h∈(unO t).1):frOk h:=by
 unfold unO at hh;split at hh
 ·obtain ⟨r,h1,_⟩:=qcR (bl t);exact h1 h hh
 ·cases hh
theorem qle {s:BA} {c:qz} {st:RS} (h:RD s c st):∃ c',wm c=some ((!st.2&&decide (st.1=[])),(c',())):=by
 rw [q1n,h.bad];cases hb:st.2 with
 | true=>exact ⟨_,rfl⟩
 | false=>
  have hr:=h.rest hb;simp only [Bool.not_false,cT,Bool.true_and,h.txt];have:(c.2.1==(s.size:Int))=decide (st.1=[]):=by
   rw [Bool.eq_iff_iff,beq_iff_eq,decide_eq_true_eq,<- hr,List.drop_eq_nil_iff,<- yg];have:=h.lo; have:=h.hi; omega
  rw [this];exact ⟨_,rfl⟩
theorem q96 (n:Nat) (hn:n<=99) (t:BA):q2d (n:Int) t=some (hoO n t,()):=by
 rw [qgV,q4E];unfold hoO;simp only [oB];cases hu:(unO t).1 with
 | nil=>rfl
 | cons h r=>
  have hf:frOk h:=qcQ (by rw [hu]; exact mem_cons_self ..)
  have hs:h.size<=20000:=by have:=hf.2; omega
  have k1:((((h::r).length:Nat):Int)==0)=false:=by
   rw [<- not_eq_true,beq_iff_eq,length_cons]; omega
  have k2:decide ((0:Int) < (((h::r).length:Nat):Int))=true:=dYT (by rw [length_cons]; omega)
  simp only [k1,cF,show decide ((0:Int)<=0)=true from rfl,k2,Bool.and_self,cT,show List.getD (h::r) (toNat 0) eB=h from rfl]
  obtain ⟨c1,e1,h1⟩:=qcZ hs (q84 h);rw [e1]; simp only [oB];obtain ⟨c2,e2,h2⟩:=qae hs h1;rw [e2]; simp only [oB];obtain ⟨c3,e3,h3⟩:=qae hs h2;rw [e3]; simp only [oB,qel];obtain ⟨c4,e4⟩:=qle h3;rw [e4]; simp only [oB];cases hx:hdOf n h with
  | some f=>
   obtain ⟨q1,q2⟩:=q2L.1 hx;obtain ⟨p1,p2,p3⟩:=qjD h hn q1 q2;have hht:htO (n:Int) (f:Int)=(bOf (wz n f),true):=by
    unfold htO;rw [if_pos (by omega)]; rfl
   rw [p1,p2,p3];simp only [hht,qF];have k3:(((n:Nat):Int) != (n:Int))=false:=by simp
   simp only [k3];rfl
  | none=>
   have no:∀ f,f<=n->hdT n f≠h:=fun f hf e=>by rw [q2L.2 ⟨hf,e⟩] at hx; cases hx
   by_cases a1:(qy (bl h,false)).1=72
   ·have k3:(((qy (bl h,false)).1:Int) != 72)=false:=by rw [a1]; rfl
    simp only [k3,cF];by_cases a2:(numR (numR (qy (bl h,false)).2).2).2.2=false/\(numR (numR (qy (bl h,false)).2).2).2.1=[]
    ·simp only [a2.1,a2.2,decide_true,Bool.not_false,Bool.and_self,Bool.not_true,cF];have b1:(numR (qy (bl h,false)).2).2.2=false:=by
      cases hb:(numR (qy (bl h,false)).2).2.2 with
      | false=>rfl
      | true=>have:=a2.1; rw [qaO hb] at this; cases this
     have b0:(qy (bl h,false)).2.2=false:=by
      cases hb:(qy (bl h,false)).2.2 with
      | false=>rfl
      | true=>rw [qaO hb] at b1; cases b1
     have hbl:bl h=72::(qy (bl h,false)).2.1:=by
      unfold qy at a1 b0 ⊢;cases hc:bl h with
      | nil=>simp only [hc] at b0; cases b0
      | cons c q=>
       simp only [hc,false_eq_true,if_false] at a1 ⊢;rw [show c=72 from UInt8.toNat_inj.1 a1]
     generalize hst0:(qy (bl h,false)).2=st0 at *;obtain ⟨l0,g0⟩:=st0;have b0:g0=false:=b0;subst b0;obtain ⟨i1,i2⟩:=qk4 b1;generalize hst1:numR (l0,false)=st1 at *;obtain ⟨m1,l1,g1⟩:=st1;have b1:g1=false:=b1;subst b1;obtain ⟨i3,i4⟩:=qk4 a2.1;have a22:=a2.2;rw [a22,append_nil] at i3;have hh:hdT m1 (numR (l1,false)).1=h:=zh (by
      unfold hdT;rw [yT,<- i3];rw [hbl];congr 1
      exact i1.symm)
     by_cases a3:(m1:Int)<=99/\((numR (l1,false)).1:Int)<=(m1:Int)
     ·have hht:htO (m1:Int) ((numR (l1,false)).1:Int)=(bOf (wz m1 (numR (l1,false)).1),true):=by
       unfold htO;rw [if_pos (by omega)]; rfl
      have hne:m1≠n:=fun e=>no (numR (l1,false)).1 (by omega) (by rw [<- e]; exact hh)
      have k4:((m1:Int) != (n:Int))=true:=by rw [bne_iff_ne]; omega
      simp only [hht,Bool.not_true,cF,k4,cT]
     ·have hht:htO (m1:Int) ((numR (l1,false)).1:Int)=(eB,false):=by
       unfold htO;rw [if_neg (by omega)]
      simp only [hht,Bool.not_false,cT]
    ·have:(!(numR (numR (qy (bl h,false)).2).2).2.2&&decide ((numR (numR (qy (bl h,false)).2).2).2.1=[]))=false:=by
      rw [<- not_eq_true,and_eq_true,decide_eq_true_eq,Bool.not_eq_true']; exact a2
     simp only [this,Bool.not_false,cT]
   ·have k3:(((qy (bl h,false)).1:Int) != 72)=true:=by rw [bne_iff_ne]; omega
    simp only [k3,cT]
theorem qmy (n:Nat) (hn:n<=99) (h:BA) (hs:h.size<=20000):q8T (n:Int) h=some ((match hdOf n h with | none=>((0:Int),false) | some f=>((f:Int),true)),()):=by
 rw [qgn];obtain ⟨t,c1,e1,h1,_⟩:=qeU hs (q84 h);rw [e1]; simp only [oB];obtain ⟨c2,e2,h2⟩:=q2O hs h1;rw [e2]; simp only [oB];obtain ⟨c3,e3,h3⟩:=q2O hs h2;rw [e3]; simp only [oB,zO,q0R,h3.bad];have hN:=q8z (numR (qy (bl h,false)).2).2;have v1:=wQ (show n<=1000000000 by omega)
 have v2:=wQ hN;have l1:limS ((c_H:BA).size+(bOf (vL n)).size)=true:=qY (by rw [qF (vL n)]; show 1+_<=_; omega)
 have l2:limS ((c_H++bOf (vL n)).size+(bOf (vL (numR (numR (qy (bl h,false)).2).2).1)).size)=true:=qY (by rw [size_append,qF (vL n),qF (vL _)]; show 1+_+_<=_; omega)
 simp only [wP (show n<=1000000000000 by omega),wP (show (numR (numR (qy (bl h,false)).2).2).1<=1000000000000 by omega),oB,l1,l2,cT,qi5,qV]
 cases hx:hdOf n h with
 | some f=>
  obtain ⟨q1,q2⟩:=q2L.1 hx;obtain ⟨p1,p2,p3⟩:=qjD h hn q1 q2;rw [p1,p2,p3];simp only [cF];have k3:(((n:Nat):Int) != (n:Int))=false:=by simp
  have k4:decide ((0:Int)<=(f:Int)/\(f:Int)<=(n:Int))=true:=dYT (by omega)
  simp only [k3,k4,cF,Bool.not_true,dYT q2]
 | none=>
  have no:∀ f,f<=n->hdT n f≠h:=fun f hf e=>by rw [q2L.2 ⟨hf,e⟩] at hx; cases hx
  cases (numR (numR (qy (bl h,false)).2).2).2.2 with
  | true=>rfl
  | false=>
   simp only [cF];by_cases a1:(((numR (qy (bl h,false)).2).1:Int) != (n:Int))=true
   ·simp only [a1,cT]
   ·have a1:(((numR (qy (bl h,false)).2).1:Int) != (n:Int))=false:=by simpa using a1
    simp only [a1,cF];by_cases a2:(0:Int)<=((numR (numR (qy (bl h,false)).2).2).1:Int)/\((numR (numR (qy (bl h,false)).2).2).1:Int)<=(n:Int)
    ·simp only [dYT a2,Bool.not_true,cF,dYF (no (numR (numR (qy (bl h,false)).2).2).1 (by omega)),Bool.not_false,cT]
    ·simp only [dYF a2,Bool.not_false,cT]
abbrev dF:Fil:=(eB,(eB,0))
def chkF:Option BA->List Fil->Bool
 | _,[]=>true
 | p,c::r=>q1p c&&(q0Y p c.1&&chkF (some c.1) r)
theorem qhO:∀ (l:List Fil) (a:Fil),chkF (some a.1) l=(l.all q1p&&ascB (fun x y=>blt x.1 y.1) (a::l))
 | [],a=>rfl
 | c::l,a=>by
  simp only [chkF,q0Y,qhO l c,all_cons,ascB];cases q1p c<;>cases blt a.1 c.1<;>cases l.all q1p<;>rfl
theorem qhN (l:List Fil):chkF none l=(l.all q1p&&ascB (fun x y=>blt x.1 y.1) l):=by
 cases l with
 | nil=>rfl
 | cons c l=>
  simp only [chkF,q0Y,qhO l c,all_cons];cases q1p c<;>rfl
theorem qjv (f:Fil):q1p f=(inB (f.1.size:Int) 1 8&&(decide (f.2.1.size<=20000)&&inB f.2.2 0 (f.2.1.size:Int))):=by
 unfold q1p qhe inB;rw [Bool.eq_iff_iff];simp only [and_eq_true,decide_eq_true_eq];omega
theorem q7s (d:List Fil) (hn:d.length<=1000000000):∀ (r:List Fil) (i:Nat) (p:Option BA),d.drop i=r->i<=d.length->(i=0->p=none)->(0 < i->p=some (d.getD (i - 1) dF).1)->q1q d (d.length:Int) (i:Int) d=some (chkF p r&&decide (d.length<=30),())
 | [],i,p,hd,hi,_,_=>by
  have:=List.drop_eq_nil_iff.1 hd;rw [q7r];have k1:decide ((i:Int) < (d.length:Int))=false:=dYF (by omega)
  have k2:decide ((d.length:Int)<=30)=decide (d.length<=30):=decide_eq_decide.2 (by omega)
  simp only [k1,cF,chkF,Bool.true_and,k2]
 | c::r,i,p,hd,hi,h0,hp=>by
  obtain ⟨e1,hlt,e2⟩:=qX dF hd;rw [q7r];have k1:decide ((i:Int) < (d.length:Int))=true:=dYT (by omega)
  have k2:decide (0<=(i:Int))=true:=dYT (by omega)
  have k4:w64 ((i:Int)+1)=((i+1:Nat):Int):=qo (by omega)
  have ih:=q7s d hn r (i+1) (some c.1) e2 hlt (fun h=>by omega) (fun _=>by rw [Nat.add_sub_cancel,e1])
  have k5:decide ((c.2.1.size:Int) > 20000)=!decide (c.2.1.size<=20000):=by
   rw [Bool.eq_iff_iff]; simp; omega
  simp only [k1,k2,k4,Bool.and_self,cT,toNat_natCast,e1,zW,oB,ih,chkF,qjv,k5];have hord:(bif decide ((i:Int) > 0) then bif (decide (0<=w64 ((i:Int) - 1))&&decide (w64 ((i:Int) - 1) < (d.length:Int))) then bif !(Op.bytesLess (d.getD (w64 ((i:Int) - 1)).toNat dF).1.toList c.1.toList) then some (false,()) else some (chkF (some c.1) r&&decide (d.length<=30),()) else none else some (chkF (some c.1) r&&decide (d.length<=30),()):Option (Bool×Unit))=some (q0Y p c.1&&chkF (some c.1) r&&decide (d.length<=30),()):=by
   by_cases hi0:i=0
   ·rw [h0 hi0];have:decide ((i:Int) > 0)=false:=dYF (by omega)
    simp only [this,cF,q0Y,Bool.true_and]
   ·have q1:decide ((i:Int) > 0)=true:=dYT (by omega)
    have q2:w64 ((i:Int) - 1)=((i - 1:Nat):Int):=(qh (by omega) (by omega)).trans (by omega)
    have q3:decide (0<=((i - 1:Nat):Int))=true:=dYT (by omega)
    have q4:decide (((i - 1:Nat):Int) < (d.length:Int))=true:=dYT (by omega)
    rw [hp (by omega)]
    simp only [q1,q2,q3,q4,Bool.and_self,cT,toNat_natCast,blt_eq,q0Y];cases blt (d.getD (i - 1) dF).1 c.1<;>rfl
  rw [hord];cases inB (c.1.size:Int) 1 8<;>cases decide (c.2.1.size<=20000)<;>cases inB c.2.2 0 (c.2.1.size:Int)<;>rfl
theorem zq (d:List Fil) (hn:d.length<=1000000000):yu d=some (dOkB d,()):=by
 rw [qgQ];have:=q7s d hn d 0 none rfl (zero_le _) (fun _=>rfl) (fun h=>by omega)
 refine Eq.trans this ?_;rw [qhN];unfold dOkB;cases decide (d.length<=30)<;>cases (d.all q1p&&ascB (fun x y:Fil=>blt x.1 y.1) d)<;>rfl
theorem qfI (k:BA):z8 k=some (inB (k.size:Int) 1 8,()):=by
 rw [qgl,zO]; rfl
theorem q7y (d:List Fil) (hn:d.length<=1000000000):∀ (r:List Fil) (i:Nat) (p:Option BA),d.drop i=r->i<=d.length->(i=0->p=none)->(0 < i->p=some (d.getD (i - 1) dF).1)->q0f (i:Int) d=some (chkF p r,())
 | [],i,p,hd,hi,_,_=>by
  have:=List.drop_eq_nil_iff.1 hd;rw [q7x];have k1:decide ((i:Int) < (d.length:Int))=false:=dYF (by omega)
  simp only [k1,cF,chkF]
 | c::r,i,p,hd,hi,h0,hp=>by
  obtain ⟨e1,hlt,e2⟩:=qX dF hd;rw [q7x];have k1:decide ((i:Int) < (d.length:Int))=true:=dYT (by omega)
  have k2:decide (0<=(i:Int))=true:=dYT (by omega)
  have k4:w64 ((i:Int)+1)=((i+1:Nat):Int):=qo (by omega)
  have ih:=q7y d hn r (i+1) (some c.1) e2 hlt (fun h=>by omega) (fun _=>by rw [Nat.add_sub_cancel,e1])
  have k5:decide ((c.2.1.size:Int) > 20000)=!decide (c.2.1.size<=20000):=by
   rw [Bool.eq_iff_iff]; simp; omega
  simp only [k1,k2,k4,Bool.and_self,cT,toNat_natCast,e1,qfI,zO,oB,ih,chkF,qjv,k5];have hord:(bif decide ((i:Int) > 0) then bif (decide (0<=w64 ((i:Int) - 1))&&decide (w64 ((i:Int) - 1) < (d.length:Int))) then bif !(Op.bytesLess (d.getD (w64 ((i:Int) - 1)).toNat dF).1.toList c.1.toList) then some (false,()) else some (chkF (some c.1) r,()) else none else some (chkF (some c.1) r,()):Option (Bool×Unit))=some (q0Y p c.1&&chkF (some c.1) r,()):=by
   by_cases hi0:i=0
   ·rw [h0 hi0];have:decide ((i:Int) > 0)=false:=dYF (by omega)
    simp only [this,cF,q0Y,Bool.true_and]
   ·have q1:decide ((i:Int) > 0)=true:=dYT (by omega)
    have q2:w64 ((i:Int) - 1)=((i - 1:Nat):Int):=(qh (by omega) (by omega)).trans (by omega)
    have q3:decide (0<=((i - 1:Nat):Int))=true:=dYT (by omega)
    have q4:decide (((i - 1:Nat):Int) < (d.length:Int))=true:=dYT (by omega)
    rw [hp (by omega)]
    simp only [q1,q2,q3,q4,Bool.and_self,cT,toNat_natCast,blt_eq,q0Y];cases blt (d.getD (i - 1) dF).1 c.1<;>rfl
  rw [hord];cases inB (c.1.size:Int) 1 8<;>cases decide (c.2.1.size<=20000)<;>cases inB c.2.2 0 (c.2.1.size:Int)<;>rfl
theorem zx (d:List Fil) (hn:d.length<=1000000000):qH d=some (dOkB d,()):=by
 rw [qhp];have e:q0f 0 d=some (chkF none d,()):=q7y d hn d 0 none rfl (zero_le _) (fun _=>rfl) (fun h=>by omega)
 rw [e,qhN];unfold dOkB;by_cases h:d.length<=30
 ·simp only [dYF (show ¬ (d.length:Int) > 30 by omega),cF,dYT h,Bool.true_and]
 ·simp only [dYT (show (d.length:Int) > 30 by omega),cT,dYF h,Bool.false_and]
theorem qjE {α:Type} (P:α->Bool) (d:α):∀ (l:List α) (i:Nat),(idxI P l i=-1/\l.find? P=none)\/∃ k,k < l.length/\idxI P l i=((i+k:Nat):Int)/\l.find? P=some (l.getD k d)
 | [],i=>.inl ⟨rfl,rfl⟩
 | x::r,i=>by
  unfold idxI;cases h:P x with
  | true=>exact .inr ⟨0,by simp,by simp,by simp [find?_cons,h]⟩
  | false=>
   simp only [cF];rcases qjE P d r (i+1) with ⟨h1,h2⟩ | ⟨k,h1,h2,h3⟩
   ·exact .inl ⟨h1,by simp [find?_cons,h,h2]⟩
   ·exact .inr ⟨k+1,by simp; omega,by rw [h2]; congr 1; omega,by simp [find?_cons,h,h3]⟩
theorem qlX (d:List Fil) (hn:d.length<=1000000000) (k:BA):q0p d (k,())=some (idxI (fun f=>decide (f.1=k)) d 0,((),())):=by
 rw [q6T];refine q5H (fun i=>wD d (d.length:Int) i k) (fun f=>decide (f.1=k)) dF d (fun n=>some (n,((),()))) (fun i hi=>?_) ?_
 ·show wD d (d.length:Int) (i:Int) k=_;rw [q0Z];have k1:decide ((i:Int) < (d.length:Int))=true:=dYT (by omega)
  have k2:decide (0<=(i:Int))=true:=dYT (by omega)
  have k4:w64 ((i:Int)+1)=((i+1:Nat):Int):=qo (by omega)
  simp only [k1,k2,k4,Bool.and_self,cT,toNat_natCast,qer,oB,qV]
 ·show wD d (d.length:Int) (d.length:Int) k=_;rw [q0Z];have k1:decide ((d.length:Int) < (d.length:Int))=false:=dYF (by omega)
  simp only [k1,cF]
theorem q8o (d:List Fil) (hn:d.length<=1000000000) (k:BA):jG d k=some (idxI (fun f=>decide (f.1=k)) d 0,()):=by
 rw [qiZ];refine q5H (fun i=>q0E k i d) (fun f=>decide (f.1=k)) dF d (fun n=>some (n,())) (fun i hi=>?_) ?_
 ·show q0E k (i:Int) d=_;rw [q8R];have k1:decide ((i:Int) < (d.length:Int))=true:=dYT (by omega)
  have k2:decide (0<=(i:Int))=true:=dYT (by omega)
  have k4:w64 ((i:Int)+1)=((i+1:Nat):Int):=qo (by omega)
  simp only [k1,k2,k4,Bool.and_self,cT,toNat_natCast,qV]
 ·show q0E k (d.length:Int) d=_;rw [q8R];have k1:decide ((d.length:Int) < (d.length:Int))=false:=dYF (by omega)
  simp only [k1,cF]
theorem qca (d:List Fil) (hn:d.length<=1000000000) (k:BA):q3y d k=some (idxI (fun f=>decide (f.1=k)) d 0,()):=by
 rw [qgU,qlX d hn]; rfl
theorem q18 (d:List Fil) (k:BA):(idxI (fun f:Fil=>decide (f.1=k)) d 0=-1/\getK k d=none)\/∃ m,m < d.length/\idxI (fun f:Fil=>decide (f.1=k)) d 0=(m:Int)/\getK k d=some (d.getD m dF).2/\(d.getD m dF).1=k:=by
 rcases qjE (fun f:Fil=>decide (f.1=k)) dF d 0 with ⟨h1,h2⟩ | ⟨m,h1,h2,h3⟩
 ·exact .inl ⟨h1,by unfold getK; rw [h2]; rfl⟩
 ·refine .inr ⟨m,h1,by rw [h2,zero_add],by unfold getK; rw [h3]; rfl,?_⟩
  have:=List.find?_some h3;exact of_decide_eq_true this
def faO (d:List Fil) (k:BA):BA×Bool:=match getK k d with
 | some x=>(x.1,true)
 | none=>(eB,false)
theorem q1r (d:List Fil) (hn:d.length<=1000000000) (k:BA):q19 d k=some (faO d k,()):=by
 rw [qgT,qca d hn];unfold faO;rcases q18 d k with ⟨h1,h2⟩ | ⟨m,h1,h2,h3,_⟩
 ·rw [h1,h2]; rfl
 ·rw [h2,h3];simp only [oB,dYF (show ¬ (m:Int) < 0 by omega),cF,dYT (show (0:Int)<=(m:Int) by omega),dYT (show (m:Int) < (d.length:Int) by omega),Bool.and_self,cT,toNat_natCast]
theorem q3q (d:List Fil) (hn:d.length<=1000000000) (k:BA):q2e d k=some (faO d k,()):=by
 rw [qhr,q8o d hn];unfold faO;rcases q18 d k with ⟨h1,h2⟩ | ⟨m,h1,h2,h3,_⟩
 ·rw [h1,h2]; rfl
 ·rw [h2,h3];simp only [oB,dYF (show ¬ (m:Int) < 0 by omega),cF,dYT (show (0:Int)<=(m:Int) by omega),dYT (show (m:Int) < (d.length:Int) by omega),Bool.and_self,cT,toNat_natCast]
theorem qj4 (d:List Fil) (hn:d.length<=1000000000):jZ d ()=some (idxI (fun f=>f.2.2 != (f.2.1.size:Int)) d 0,((),())):=by
 rw [q55];refine q5H (fun i=>yZ d (d.length:Int) i) (fun f=>f.2.2 != (f.2.1.size:Int)) dF d (fun n=>some (n,((),()))) (fun i hi=>?_) ?_
 ·show yZ d (d.length:Int) (i:Int)=_;rw [q0q];have k1:decide ((i:Int) < (d.length:Int))=true:=dYT (by omega)
  have k2:decide (0<=(i:Int))=true:=dYT (by omega)
  have k4:w64 ((i:Int)+1)=((i+1:Nat):Int):=qo (by omega)
  simp only [k1,k2,k4,Bool.and_self,cT,toNat_natCast,qdp,oB]
 ·show yZ d (d.length:Int) (d.length:Int)=_;rw [q0q];have k1:decide ((d.length:Int) < (d.length:Int))=false:=dYF (by omega)
  simp only [k1,cF]
theorem qfm (d:List Fil) (hn:d.length<=1000000000):q8d d=some (q1K d,()):=by
 rw [qfl,zq d hn];simp only [oB];unfold q1K;cases dOkB d with
 | false=>rfl
 | true=>
  simp only [cT,wO,qj4 d hn,oB,Bool.true_and];congr 2
  rcases q6j (fun f:Fil=>f.2.2 != (f.2.1.size:Int)) d 0 with ⟨h1,h2⟩ | ⟨k,h1,h2,h3,_⟩
  ·rw [h1,dYF (by omega),Bool.not_false,eq_comm,all_eq_true]
   intro f hf;have:=h2 f hf;simpa using this
  ·rw [h2,dYT (show ((0+k:Nat):Int)>=0 by omega),Bool.not_true,eq_comm,<- not_eq_true,all_eq_true]
   intro hall;have e:=List.getElem?_eq_getElem h1;have:=h3 _ e;have h5:=hall _ (List.getElem_mem h1);simp at this h5;exact this h5
theorem qfZ (d:List Fil) (hn:d.length<=1000000000):q8G d=some (q1K d,()):=by
 rw [qfY,zx d hn];simp only [oB];unfold q1K;cases hok:dOkB d with
 | false=>rfl
 | true=>
  simp only [Bool.not_true,cF,Bool.true_and];have hf:=(qP.1 hok).2.1;have key:=qcr d dF (fun i=>q2x (i:Int) d) (fun l=>some (l.all (fun f=>!decide (f.2.2 < (f.2.1.size:Int))),())) (by
   rw [q6U];have k1:decide ((d.length:Int) < (d.length:Int))=false:=dYF (by omega)
   simp only [k1,cF,List.all_nil]) (fun i f r hd hi hg ih=>by
   rw [q6U];have k1:decide ((i:Int) < (d.length:Int))=true:=dYT (by omega)
   have k2:decide (0<=(i:Int))=true:=dYT (by omega)
   have k4:w64 ((i:Int)+1)=((i+1:Nat):Int):=qo (by omega)
   simp only [k1,k2,k4,Bool.and_self,cT,toNat_natCast,hg,ih,all_cons];cases decide (f.2.2 < (f.2.1.size:Int))<;>rfl)
  refine Eq.trans key ?_;congr 2
  rw [Bool.eq_iff_iff,all_eq_true,all_eq_true];refine forall_congr' fun f=>forall_congr' fun hm=>?_
  have:=q0J.1 (hf f hm);simp only [Bool.not_eq_true',decide_eq_false_iff_not,decide_eq_true_eq];omega
theorem qlk {a b:List Fil} {k:BA} (ha:∀ x∈a,blt x.1 k=true) (hb:∀ x∈b,blt k x.1=true):(a.filter fun x=>blt x.1 k)=a/\(b.filter fun x=>blt x.1 k)=[]/\(a.filter fun x=>blt k x.1)=[]/\(b.filter fun x=>blt k x.1)=b:=
 ⟨filter_eq_self.2 ha,List.filter_eq_nil_iff.2 fun x hx=>by rw [q68 (hb x hx)]; simp,List.filter_eq_nil_iff.2 fun x hx=>by rw [q68 (ha x hx)]; simp,filter_eq_self.2 hb⟩
theorem qoL {a b:List Fil} {k:BA} {u v:BA×Int} (ha:∀ x∈a,blt x.1 k=true) (hb:∀ x∈b,blt k x.1=true):putK k v (a++(k,u)::b)=a++(k,v)::b:=by
 obtain ⟨h1,h2,h3,h4⟩:=qlk ha hb;unfold putK;rw [filter_append,filter_append,filter_cons,filter_cons,h1,h2,h3,h4];simp only [q4o,false_eq_true,if_false,append_nil,nil_append]
theorem qkb {a b:List Fil} {k:BA} {v:BA×Int} (ha:∀ x∈a,blt x.1 k=true) (hb:∀ x∈b,blt k x.1=true):putK k v (a++b)=a++(k,v)::b:=by
 obtain ⟨h1,h2,h3,h4⟩:=qlk ha hb;unfold putK;rw [filter_append,filter_append,h1,h2,h3,h4,append_nil,nil_append]
theorem qop {a b:List Fil} {k:BA} {u:BA×Int} (ha:∀ x∈a,blt x.1 k=true) (hb:∀ x∈b,blt k x.1=true):delK k (a++(k,u)::b)=a++b:=by
 unfold delK;rw [filter_append,filter_cons];simp only [ne_eq,not_true_eq_false,decide_false,false_eq_true,if_false];rw [filter_eq_self.2 (fun x hx=>by simpa using q1W (ha x hx)),filter_eq_self.2 (fun x hx=>by simpa using (q1W (hb x hx)).symm)]
theorem qf5 {d:List Fil} (h:AscK d) {m:Nat} (hm:m < d.length):d=d.take m++d.getD m dF::d.drop (m+1)/\(∀ x∈d.take m,blt x.1 (d.getD m dF).1=true)/\(∀ x∈d.drop (m+1),blt (d.getD m dF).1 x.1=true):=by
 have e:d=d.take m++d.getD m dF::d.drop (m+1):=by
  rw [zC hm,<- List.drop_eq_getElem_cons hm,List.take_append_drop]
 refine ⟨e,?_⟩;have h':=h;unfold AscK at h';rw [e,List.pairwise_append] at h';exact ⟨fun x hx=>h'.2.2 x hx _ (mem_cons_self ..),fun x hx=>(List.pairwise_cons.1 h'.2.1).1 x hx⟩
theorem qnW {d:List Fil} (h:AscK d) {m:Nat} (hm:m < d.length) (v:BA×Int):d.set m ((d.getD m dF).1,v)=putK (d.getD m dF).1 v d:=by
 obtain ⟨e,h1,h2⟩:=qf5 h hm;have:=qoL (u:=(d.getD m dF).2) (v:=v) h1 h2;rw [<- e] at this;rw [this,List.set_eq_take_append_cons_drop,if_pos hm]
theorem qq4 {d:List Fil} (h:AscK d) {m:Nat} (hm:m < d.length):d.take m++d.drop (m+1)=delK (d.getD m dF).1 d:=by
 obtain ⟨e,h1,h2⟩:=qf5 h hm;have:=qop (u:=(d.getD m dF).2) h1 h2;rw [<- e] at this;exact this.symm
theorem qkC (d:List Fil) (hn:d.length<=1000000000) (f:Fil):q09 d (f,())=some (idxI (fun x=>!(blt x.1 f.1||decide (x.1=f.1))) d 0,((),())):=by
 rw [q5V];refine q5H (fun i=>wh d (d.length:Int) i f.1 f.2.1 f.2.2) (fun x=>!(blt x.1 f.1||decide (x.1=f.1))) dF d (fun n=>some (n,((),()))) (fun i hi=>?_) ?_
 ·show wh d (d.length:Int) (i:Int) f.1 f.2.1 f.2.2=_;rw [q0y];have k1:decide ((i:Int) < (d.length:Int))=true:=dYT (by omega)
  have k2:decide (0<=(i:Int))=true:=dYT (by omega)
  have k4:w64 ((i:Int)+1)=((i+1:Nat):Int):=qo (by omega)
  simp only [k1,k2,k4,Bool.and_self,cT,toNat_natCast,qdy,oB,qV,blt_eq]
 ·show wh d (d.length:Int) (d.length:Int) f.1 f.2.1 f.2.2=_;rw [q0y];have k1:decide ((d.length:Int) < (d.length:Int))=false:=dYF (by omega)
  simp only [k1,cF]
theorem qdK (d:List Fil) (hn:d.length<=2000000) (m:Nat) (hm:m<=d.length) (f:Fil):qO d (m:Int) [f]=some (d.take m++f::d.drop m,()):=by
 rw [wW];unfold insF;have k1:decide (0<=(m:Int))=true:=dYT (by omega)
 have k2:decide ((m:Int)<=(d.length:Int))=true:=dYT (by omega)
 have k3:lim (d.length+[f].length) 40=true:=qZ (by simp; omega)
 simp only [k1,k2,k3,show decide (0 < [f].length)=true from rfl,Bool.and_self,cT,toNat_natCast,List.append_assoc,List.singleton_append]
theorem qaT (d:List Fil) (h:AscK d) (hn:d.length<=2000000) (f:Fil):wH d f=some ((),(putK f.1 f.2 d,())):=by
 rw [qfG,qca d (by omega)]
 simp only [oB];rcases q18 d f.1 with ⟨h1,h2⟩ | ⟨m,hm,h2,h3,h4⟩
 ·have hno:=q0L.1 h2;rw [h1,qkC d (by omega)]
  simp only [show decide ((-1:Int)>=0)=false from rfl,cF,oB]
  rcases q6j (fun x:Fil=>!(blt x.1 f.1||decide (x.1=f.1))) d 0 with ⟨q1,q2⟩ | ⟨k,q1,q2,q3,q4⟩
  ·have hall:∀ x∈d,blt x.1 f.1=true:=fun x hx=>by
    have:=q2 x hx;simpa [hno x hx] using this
   have hp:=qkb (a:=d) (b:=[]) (v:=f.2) hall (fun x hx=>by cases hx)
   rw [append_nil] at hp;rw [q1,hp];simp only [show decide ((-1:Int) < 0)=true from rfl,cT,qdK d hn d.length (le_refl _),oB,List.take_length,List.drop_length]
  ·rw [q2,zero_add];have hd:d=d.take k++d.drop k:=(List.take_append_drop k d).symm;have ha:∀ x∈d.take k,blt x.1 f.1=true:=fun x hx=>by
    obtain ⟨j,hj,rfl⟩:=List.mem_iff_getElem.1 hx;rw [List.length_take] at hj;rw [List.getElem_take];have hjk:j < k:=by omega
    have:=q4 j _ hjk (List.getElem?_eq_getElem (by omega))
    have hne:=hno _ (List.getElem_mem (show j < d.length by omega))
    simpa [hne] using this
   have hk:blt f.1 (d.getD k dF).1=true:=by
    have:=q3 _ (List.getElem?_eq_getElem q1);rw [<- zC (d:=dF) q1] at this;simp only [Bool.not_eq_true',Bool.or_eq_false_iff,decide_eq_false_iff_not] at this;exact q69 this.2 this.1
   have hb:∀ x∈d.drop k,blt f.1 x.1=true:=fun x hx=>by
    rw [List.drop_eq_getElem_cons q1,<- zC (d:=dF) q1] at hx;rcases List.mem_cons.1 hx with rfl | hx
    ·exact hk
    ·exact q6a hk ((qf5 h q1).2.2 x hx)
   have hp:=qkb (v:=f.2) ha hb;rw [<- hd] at hp;rw [hp];simp only [dYF (show ¬ (k:Int) < 0 by omega),cF,qdK d hn k (by omega),oB]
 ·rw [h2];simp only [dYT (show (m:Int)>=0 by omega),cT,dYT (show (0:Int)<=(m:Int) by omega),dYT (show (m:Int) < (d.length:Int) by omega),Bool.and_self,toNat_natCast]
  have:=qnW h hm f.2;rw [h4] at this;rw [<- this]
end Go.Den.S
