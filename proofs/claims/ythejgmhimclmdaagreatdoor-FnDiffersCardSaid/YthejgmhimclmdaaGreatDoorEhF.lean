/- EhF: equations of the functions of this seat as the executor tells them, or plain facts about them. Conditions: none here. -/
import Derived.Test.YthejgmhimclmdaaGreatDoorEhA
import Derived.Lib.ItoaNum
import Derived.Lib.AtoiAll
set_option linter.all false
open Bool (and_eq_true false_eq_true not_eq_true)
open ByteArray (size size_append)
open Int (tdiv tmod toNat)
open List (all_cons all_eq_true append_nil filter_append filter_cons filter_eq_self find?_cons length_cons map_cons map_nil mem_cons_self nil_append toArray)
open Nat (le_refl zero_add zero_le)
namespace Go.Den.S
open Go Go.Den
set_option maxRecDepth 4000
noncomputable def rbO (s:BA):Bat×Bool:=match jC s with
 | some b=>(b,true)
 | none=>((0,[]),false)
theorem qmj {α:Type} (one:RS->α×RS):∀ (n:Nat) (st:RS),(yP one n st).1.length<=n
 | 0,_=>zero_le _
 | n+1,st=>by
  simp only [yP];split
  ·exact zero_le _
  ·rw [length_cons]; have:=qmj one n (one st).2; omega
theorem qcv {s:BA} (hs:s.size<=20000) {c:qA} {st:RS} (h:RD s c st) (b:Bat) (hl:b.2.length<=2000000000):∃ c',q4x c b=some ((),(c',((b.1,b.2++[(chR st).1]),())))/\RD s c' (chR st).2:=by
 rw [qcu];obtain ⟨c1,e1,h1⟩:=qeg hs h;rw [e1]; simp only [oB];obtain ⟨c2,e2,h2⟩:=qdR hs h1;rw [e2]; simp only [oB];obtain ⟨c3,e3,h3⟩:=qeg hs h2;rw [e3];have k:lim (b.2.length+1) 40=true:=qW (by omega)
 simp only [oB,k,cT];refine ⟨c3,?_,h3⟩;have:(((qB (qP st).2).1:Int)==1)=((qB (qP st).2).1==1):=by
  rw [Bool.eq_iff_iff,beq_iff_eq,beq_iff_eq]; omega
 rw [this]; rfl
theorem q54 {s:BA} (hs:s.size<=20000) (q:Int) (n:Nat) (hn:n<=1000000000):∀ (k i:Nat) (st:RS) (c:qA) (acc:List Chg),i+k=n->acc.length<=i->RD s c st->
  ∃ c',q0r (n:Int) (i:Int) c.1 c.2.1 c.2.2 q acc=some ((),(c',(((q,acc++(yP chR k st).1),()),())))/\RD s c' (yP chR k st).2
 | 0,i,st,c,acc,hi,ha,h=>by
  rw [q53];have k1:decide ((i:Int) < (n:Int))=false:=dYF (by omega)
  simp only [k1,cF,yP,append_nil];exact ⟨_,rfl,h⟩
 | k+1,i,st,c,acc,hi,ha,h=>by
  rw [q53];have k1:decide ((i:Int) < (n:Int))=true:=dYT (by omega)
  have k4:w64 ((i:Int)+1)=((i+1:Nat):Int):=ql (by omega)
  simp only [k1,cT,k4];cases hb:st.2 with
  | true=>
   have:c.2.2=true:=by rw [h.bad]; exact hb
   simp only [this,nT,cF,yP,hb,if_true,append_nil];refine ⟨_,rfl,?_⟩;have:=h;exact ⟨h.txt,h.lo,h.hi,hb.symm,fun x=>by rw [hb] at x; cases x⟩
  | false=>
   have hc:c.2.2=false:=by rw [h.bad]; exact hb
   have hcc:(c.1,(c.2.1,false))=c:=by rw [<- hc]
   obtain ⟨c1,e1,h1⟩:=qcv hs h (q,acc) (by show acc.length<=_; omega)
   simp only [hc,nF,cT,hcc,e1,oB];obtain ⟨c2,e2,h2⟩:=q54 hs q n hn k (i+1) (chR st).2 c1 (acc++[(chR st).1]) (by omega) (by rw [lA,lS]; omega) h1
   refine ⟨c2,?_,?_⟩
   ·rw [e2];simp only [yP,hb,false_eq_true,if_false,pA,List.singleton_append]
   ·simp only [yP,hb,false_eq_true,if_false];exact h2
theorem qpa {s:BA} {m:Nat} (hm:40<=m) (u:Bool) (hu:(q0e m (bl s)).1=66->u=true):(if (u&&(!(q0e m (bl s)).2.2.2&&(batT (q0e m (bl s)).2.1&&decide (bTL (q0e m (bl s)).2.1=bl s))))=true then ((q0e m (bl s)).2.1,true) else (((0:Int),([]:List Chg)),false))=rbO s:=by
 obtain ⟨h1,h2⟩:=qlV hm u hu;rw [h1];unfold rbO;cases hx:jC s with
 | none=>rfl
 | some b=>rw [h2 b hx]; rfl
theorem qb6 (s:BA):RD s (s,((0:Int),false)) (bl s,false):=⟨rfl,Int.le_refl _,Int.natCast_nonneg _,rfl,fun _=>rfl⟩
theorem qog {b:Bat} {s:BA}:((btO b).2&&decide ((btO b).1=s))=(batT b&&decide (bTL b=bl s)):=by
 unfold btO;by_cases h:batT b=true
 ·rw [if_pos h,h,Bool.true_and,Bool.true_and,Bool.eq_iff_iff,decide_eq_true_eq,decide_eq_true_eq];constructor
  ·intro e; rw [<- e]
  ·intro e; exact zx (by rw [wh,e])
 ·have:batT b=false:=by simpa using h
  rw [if_neg h,this]; rfl
theorem q86 (s:BA) (hs:s.size<=20000):q3D s=some (rbO s,()):=by
 rw [qen];obtain ⟨c1,e1,h1⟩:=qdR hs (qb6 s);rw [e1]; simp only [oB];obtain ⟨c2,e2,h2⟩:=qb0 hs h1;rw [e2]; simp only [oB];rw [qej];obtain ⟨c3,e3,h3⟩:=qb0 hs h2;rw [e3]; simp only [oB];have hN:=qaZ (numR (qB (bl s,false)).2).2;obtain ⟨c4,e4,h4⟩:=q54 hs ((numR (qB (bl s,false)).2).1:Int) (numR (numR (qB (bl s,false)).2).2).1 hN (numR (numR (qB (bl s,false)).2).2).1 0 _ c3 [] (by omega) (le_refl _) h3
 have e4':q0r ((numR (numR (qB (bl s,false)).2).2).1:Int) 0 c3.1 c3.2.1 c3.2.2 ((numR (qB (bl s,false)).2).1:Int) []=_:=e4;rw [e4'];simp only [oB,nil_append];have hlen:=qmj chR (numR (numR (qB (bl s,false)).2).2).1 (numR (numR (qB (bl s,false)).2).2).2;have hbt:=qem (((numR (qB (bl s,false)).2).1:Int),(yP chR (numR (numR (qB (bl s,false)).2).2).1 (numR (numR (qB (bl s,false)).2).2).2).1) (Nat.le_trans hlen hN);rw [hbt];simp only [oB,y5];have key:=qpa (s:=s) (m:=1000000000) (by decide) ((q0e 1000000000 (bl s)).1==66) (fun h=>by rw [h]; rfl)
 have hr:q0e 1000000000 (bl s)=((qB (bl s,false)).1,((((numR (qB (bl s,false)).2).1:Int),(yP chR (numR (numR (qB (bl s,false)).2).2).1 (numR (numR (qB (bl s,false)).2).2).2).1),(yP chR (numR (numR (qB (bl s,false)).2).2).1 (numR (numR (qB (bl s,false)).2).2).2).2)):=by
  unfold q0e;simp only [Nat.min_eq_left hN]
 rw [hr,<- qog] at key;rw [<- key,h4.bad];generalize (((numR (qB (bl s,false)).2).1:Int),(yP chR (numR (numR (qB (bl s,false)).2).2).1 (numR (numR (qB (bl s,false)).2).2).2).1)=b;generalize (yP chR (numR (numR (qB (bl s,false)).2).2).1 (numR (numR (qB (bl s,false)).2).2).2).2.2=g;generalize (qB (bl s,false)).1=x;have hx:(((x:Int)) != 66)=!(x==66):=by
  rw [Bool.eq_iff_iff]; simp; omega
 simp only [hx];cases (x==66)<;>cases g<;>cases (btO b).2<;>cases decide ((btO b).1=s)<;>rfl
theorem qbY {s:BA} (hs:s.size<=20000) (x:Int) (y:List Chg) (q:Int) (n:Nat) (hn:n<=1000000000):∀ (k i:Nat) (st:RS) (c:qA) (acc:List Chg),i+k=min n 100->acc.length<=i->RD s c st->
  q1W s (n:Int) (i:Int) x y c.1 c.2.1 c.2.2 q acc=some ((if ((!(yP chR k st).2.2)&&((btO (q,acc++(yP chR k st).1)).2&&decide ((btO (q,acc++(yP chR k st).1)).1=s)))=true then ((q,acc++(yP chR k st).1),true) else ((0,[]),false)),()):=by
 have fin:∀ (bad:Bool) (b:Bat),b.2.length<=1000000000->((jo b).bind fun r12=>bif bad then some ((((0:Int),([]:List Chg)),false),()) else bif !r12.1.2 then some ((((0:Int),([]:List Chg)),false),()) else bif !(r12.1.1.toList==s.toList) then some ((((0:Int),([]:List Chg)),false),()) else some ((b,true),()))=some ((if ((!bad)&&((btO b).2&&decide ((btO b).1=s)))=true then (b,true) else ((0,[]),false)),()):=fun bad b hl=>by
  rw [q43 b hl];simp only [oB,y5];cases bad<;>cases (btO b).2<;>cases decide ((btO b).1=s)<;>rfl
 intro k;induction k with
 | zero=>
  intro i st c acc hi ha h;rw [q5J];have hf:=fin c.2.2 (q,acc) (by show acc.length<=_; omega)
  simp only [yP,append_nil];rw [<- h.bad];by_cases h1:i < n
  ·have k1:decide ((i:Int) < (n:Int))=true:=dYT (by omega)
   have k2:decide ((i:Int) < 100)=false:=dYF (by omega)
   simp only [k1,k2,cT,cF];exact hf
  ·have k1:decide ((i:Int) < (n:Int))=false:=dYF (by omega)
   simp only [k1,cF];exact hf
 | succ k ih=>
  intro i st c acc hi ha h;rw [q5J];have k1:decide ((i:Int) < (n:Int))=true:=dYT (by omega)
  have k2:decide ((i:Int) < 100)=true:=dYT (by omega)
  have k4:w64 ((i:Int)+1)=((i+1:Nat):Int):=ql (by omega)
  simp only [k1,k2,cT,k4];cases hb:st.2 with
  | true=>
   have hc:c.2.2=true:=by rw [h.bad]; exact hb
   have hf:=fin true (q,acc) (by show acc.length<=_; omega)
   simp only [hc,nT,cF,yP,hb,if_true,append_nil];exact hf
  | false=>
   have hc:c.2.2=false:=by rw [h.bad]; exact hb
   have hcc:(c.1,(c.2.1,false))=c:=by rw [<- hc]
   simp only [hc,nF,cT,hcc];obtain ⟨c1,e1,h1⟩:=q9P hs h;rw [e1]; simp only [oB];obtain ⟨t,c2,e2,h2,ht⟩:=qfM hs h1;rw [e2]; simp only [oB];obtain ⟨c3,e3,h3⟩:=q9P hs h2;rw [e3];have kl:lim (acc.length+1) 40=true:=qW (by omega)
   simp only [oB,kl,cT,y5,ht];have hr:=ih (i+1) (chR st).2 c3 (acc++[(chR st).1]) (by omega) (by rw [lA,lS]; omega) h3
   simp only [yP,hb,false_eq_true,if_false];rw [show acc++(chR st).1::(yP chR k (chR st).2).1=(acc++[(chR st).1])++(yP chR k (chR st).2).1 by simp]
   exact hr
theorem qeB (s:BA) (hs:s.size<=20000):q6L s=some (rbO s,()):=by
 rw [qeA];obtain ⟨t,c1,e1,h1,_⟩:=qfM hs (qb6 s);rw [e1]; simp only [oB];obtain ⟨c2,e2,h2⟩:=q7r hs h1;rw [e2]; simp only [oB];obtain ⟨c3,e3,h3⟩:=q7r hs h2;rw [e3]; simp only [oB];have hN:=qaZ (numR (qB (bl s,false)).2).2;have hL:=qbY hs 0 [] ((numR (qB (bl s,false)).2).1:Int) (numR (numR (qB (bl s,false)).2).2).1 hN (min (numR (numR (qB (bl s,false)).2).2).1 100) 0 _ c3 [] (by omega) (le_refl _) h3
 refine Eq.trans hL ?_;have key:=qpa (s:=s) (m:=100) (by decide) true (fun _=>rfl)
 rw [Bool.true_and,<- qog] at key;rw [<- key];rfl
end Go.Den.S
namespace Go.Den.S
open Go Go.Den
def mkB (l:List UInt8):BA:=⟨l.toArray⟩
theorem qbE (l:List UInt8):(mkB l).data.toList=l:=by simp [mkB]
theorem qfs (l:List UInt8):(mkB l).size=l.length:=by simp [mkB,size]
theorem qhZ (l m:List UInt8):mkB l++mkB m=mkB (l++m):=q2c (by simp [mkB])
def decB (n:Int):BA:=mkB (Lib.itoa n)
theorem q9J (n:Int) (h0:-9223372036854775808<=n) (h1:n<=9223372036854775807):q59 n=some (decB n,()):=by
 rw [qgm,qho];unfold q2N;simp only [dYT h0,dYT h1,aS,cT,oB];rfl
theorem qd0 (d:Nat) (h:d < 10):q3Q (d:Int)=some (((48+d:Nat):Int),()):=by
 rw [qeC];have e:(Go.IntKind.u8.wrap (w64 (48+(d:Int))))=((48+d:Nat):Int):=by
  show IntKind.u8.wrap (IntKind.i64.wrap _)=_;rw [qo (by omega) (by omega),q3v (by omega) (by omega)]; omega
 simp only [dYT (show (d:Int) < 10 by omega),cT,e]
theorem q9E (u:Nat) (h:¬ u < 10):Lib.decDigits u=Lib.decDigits (u / 10)++[UInt8.ofNat (48+u % 10)]:=by
 rw [Lib.decDigits,dif_neg h]
theorem qf8 (k u:Nat) (h:u < 10 ^ (k+1)):(Lib.decDigits u).length<=k+1:=by
 induction k generalizing u with
 | zero=>
  rw [Lib.decDigits,dif_pos (by simpa using h)]
  simp
 | succ k ih=>
  by_cases hu:u < 10
  ·rw [Lib.decDigits,dif_pos hu]; simp
  ·rw [q9E u hu,lA];have:=ih (u / 10) (by rw [Nat.pow_succ] at h; omega)
   simp only [lS];omega
theorem qkh (neg:Bool) (k u:Nat) (acc:BA) (h1:1<=u) (h2:u < 10 ^ (k+1)) (h3:u<=9000000000000000000) (h4:acc.size+k<=1000000)
  (ih:10<=u->zB (if neg then -((u / 10:Nat):Int) else ((u / 10:Nat):Int)) neg ((⟨toArray [UInt8.ofNat (48+u % 10)]⟩:BA)++acc)=some ((if neg then mkB (45::Lib.decDigits (u / 10)) else mkB (Lib.decDigits (u / 10)))++((⟨toArray [UInt8.ofNat (48+u % 10)]⟩:BA)++acc),())) :
  zB (if neg then -(u:Int) else (u:Int)) neg acc=some ((if neg then mkB (45::Lib.decDigits u) else mkB (Lib.decDigits u))++acc,()):=by
 have hsz:∀ x:UInt8,(⟨toArray [x]⟩:BA).size=1:=fun _=>rfl
 have hround:zB (if neg then -(u:Int) else (u:Int)) neg acc=zB (if neg then -((u / 10:Nat):Int) else ((u / 10:Nat):Int)) neg ((⟨toArray [UInt8.ofNat (48+u % 10)]⟩:BA)++acc):=by
  conv=>lhs; rw [q7z]
  have hbyte:UInt8.ofNat (toNat ((48+u % 10:Nat):Int))=UInt8.ofNat (48+u % 10):=by rw [tN]
  cases neg with
  | false=>
   have k1:((u:Int) != 0)=true:=by simp; omega
   have k2:tmod (u:Int) 10=((u % 10:Nat):Int):=by rw [Int.tmod_eq_emod_of_nonneg (by omega)]; omega
   have k3:w64 (tdiv (u:Int) 10)=((u / 10:Nat):Int):=by
    show IntKind.i64.wrap _=_;rw [Int.tdiv_eq_ediv_of_nonneg (by omega),qo (by omega) (by omega)]; omega
   simp only [false_eq_true,if_false,k1,k2,k3,cT,dYF (show ¬ (((u % 10:Nat):Int) < 0) by omega),cF,qd0 (u % 10) (by omega),oB,map_cons,map_nil,hbyte,hsz,qX (show 1+acc.size<=9223372036854775807 by omega)]
  | true=>
   have k1:((-(u:Int)) != 0)=true:=by simp; omega
   have k2:tmod (-(u:Int)) 10=-((u % 10:Nat):Int):=by rw [Int.neg_tmod,Int.tmod_eq_emod_of_nonneg (by omega)]; omega
   have k3:w64 (tdiv (-(u:Int)) 10)=-((u / 10:Nat):Int):=by
    show IntKind.i64.wrap _=_;rw [Int.neg_tdiv,Int.tdiv_eq_ediv_of_nonneg (by omega),qo (by omega) (by omega)]; omega
   have k4:w64 (0 - (-((u % 10:Nat):Int)))=((u % 10:Nat):Int):=by
    show IntKind.i64.wrap _=_;rw [qo (by omega) (by omega)]; omega
   simp only [if_true,k1,k2,k3,k4,cT];by_cases hz:(-((u % 10:Nat):Int)) < 0
   ·simp only [dYT hz,cT,qd0 (u % 10) (by omega),oB,map_cons,map_nil,hbyte,hsz,qX (show 1+acc.size<=9223372036854775807 by omega)]
   ·have h0:u % 10=0:=by omega
    have e0:(-((u % 10:Nat):Int))=((0:Nat):Int):=by omega
    have hz':decide ((-((u % 10:Nat):Int)) < 0)=false:=dYF hz;simp only [hz',cF];rw [e0];simp only [qd0 0 (by omega),oB,map_cons,map_nil,hsz,qX (show 1+acc.size<=9223372036854775807 by omega),cT,tN]
    rw [h0]
 rw [hround];have hone:(⟨toArray [UInt8.ofNat (48+u % 10)]⟩:BA)=mkB [UInt8.ofNat (48+u % 10)]:=rfl;by_cases hu:u < 10
 ·have e0:u / 10=0:=by omega
  have e1:u % 10=u:=by omega
  rw [e0,q7z];have e2:(if neg=true then -((0:Nat):Int) else ((0:Nat):Int))=0:=by split<;>rfl
  have hd:Lib.decDigits u=[UInt8.ofNat (48+u)]:=by rw [Lib.decDigits,dif_pos hu]
  rw [e2,hd];cases neg with
  | false=>simp only [show ((0:Int) != 0)=false from rfl,cF,e1,false_eq_true,if_false]; rfl
  | true=>
   have e3:(q9B:BA)=mkB [45]:=rfl;have e4:(q9B:BA).size=1:=rfl;simp only [show ((0:Int) != 0)=false from rfl,cF,cT,size_append,e4,hsz,qX (show 1+(1+acc.size)<=9223372036854775807 by omega),e1,if_true]
   rw [e3,show (⟨toArray [UInt8.ofNat (48+u)]⟩:BA)=mkB [UInt8.ofNat (48+u)] from rfl,<- ByteArray.append_assoc,qhZ]
   rfl
 ·rw [ih (by omega),hone,q9E u hu]
  cases neg with
  | false=>simp only [false_eq_true,if_false]; rw [<- ByteArray.append_assoc,qhZ]
  | true=>simp only [if_true]; rw [<- ByteArray.append_assoc,qhZ]; rfl
theorem qkg (neg:Bool) (k:Nat):∀ (u:Nat) (acc:BA),1<=u->u < 10 ^ (k+1)->u<=9000000000000000000->acc.size+k<=1000000->
  zB (if neg then -(u:Int) else (u:Int)) neg acc=some ((if neg then mkB (45::Lib.decDigits u) else mkB (Lib.decDigits u))++acc,()):=by
 induction k with
 | zero=>exact fun u acc h1 h2 h3 h4=>qkh neg 0 u acc h1 h2 h3 h4 (fun h=>absurd h2 (by rw [zero_add,Nat.pow_one]; omega))
 | succ k ih=>
  exact fun u acc h1 h2 h3 h4=>qkh neg (k+1) u acc h1 h2 h3 h4 fun h=>ih (u / 10) _ (by omega) (by rw [Nat.pow_succ] at h2; omega) (by omega) (by
   rw [size_append];have:∀ x:UInt8,(⟨toArray [x]⟩:BA).size=1:=fun _=>rfl
   rw [this]; omega)
theorem q5w (n:Int) (h0:-9000000000000000000<=n) (h1:n<=9000000000000000000):q3t n=some (decB n,()):=by
 rw [qh1];by_cases hz:n=0
 ·subst hz;have:decB 0=c_0:=by
   unfold decB Lib.itoa;rw [if_neg (by omega),show toNat 0=0 from rfl,Lib.decDigits,dif_pos (by omega)]; rfl
  simp only [show ((0:Int)==0)=true from rfl,cT,this]
 ·have k0:(n==0)=false:=by simpa using hz
  simp only [k0,cF];by_cases hn:n < 0
  ·have:=qkg true 18 n.natAbs eB (by omega) (by omega) (by omega) (by decide)
   simp only [if_true,show -((n.natAbs:Nat):Int)=n by omega] at this
   rw [dYT hn,this];unfold decB Lib.itoa;rw [if_pos hn,ByteArray.append_empty]
  ·have:=qkg false 18 n.toNat eB (by omega) (by omega) (by omega) (by decide)
   simp only [false_eq_true,if_false,show ((n.toNat:Nat):Int)=n by omega] at this
   rw [dYF hn,this];unfold decB Lib.itoa;rw [if_neg hn,ByteArray.append_empty]
theorem qcO (n:Int) (h0:-9223372036854775808<=n) (h1:n<=9223372036854775807):(decB n).size<=20:=by
 unfold decB Lib.itoa;rw [qfs];split
 ·have:=qf8 18 n.natAbs (by omega)
  simp only [length_cons]; omega
 ·have:=qf8 18 n.toNat (by omega)
  omega
def digB (c:UInt8):Bool:=decide (48<=c.toNat)&&decide (c.toNat<=57)
def valL (l:List UInt8) (a:Nat):Nat:=l.foldl (fun a c=>10 * a+(c.toNat - 48)) a
theorem qqv (l m:List UInt8) (a:Nat):valL (l++m) a=valL m (valL l a):=by simp [valL]
theorem qcT (d:Nat) (h:d < 10):(UInt8.ofNat (48+d)).toNat=48+d:=by
 rw [UInt8.toNat_ofNat'];omega
theorem q6S (k:Nat):∀ u:Nat,u < 10 ^ (k+1)->(∀ c∈Lib.decDigits u,digB c=true)/\valL (Lib.decDigits u) 0=u:=by
 induction k with
 | zero=>
  intro u h;have h:u < 10:=by simpa using h
  rw [Lib.decDigits,dif_pos h];have:=qcT u h;refine ⟨fun c hc=>?_,?_⟩
  ·simp only [List.mem_singleton] at hc;rw [hc];unfold digB;rw [this,dYT (by omega),dYT (by omega)]; rfl
  ·show 10 * 0+((UInt8.ofNat (48+u)).toNat - 48)=u;rw [this]; omega
 | succ k ih=>
  intro u h;by_cases hu:u < 10
  ·rw [Lib.decDigits,dif_pos hu];have:=qcT u hu;refine ⟨fun c hc=>?_,?_⟩
   ·simp only [List.mem_singleton] at hc;rw [hc];unfold digB;rw [this,dYT (by omega),dYT (by omega)]; rfl
   ·show 10 * 0+((UInt8.ofNat (48+u)).toNat - 48)=u;rw [this]; omega
  ·obtain ⟨h1,h2⟩:=ih (u / 10) (by rw [Nat.pow_succ] at h; omega)
   have:=qcT (u % 10) (by omega)
   rw [q9E u hu];refine ⟨fun c hc=>?_,?_⟩
   ·rcases List.mem_append.1 hc with hc | hc
    ·exact h1 c hc
    ·simp only [List.mem_singleton] at hc;rw [hc];unfold digB;rw [this,dYT (by omega),dYT (by omega)]; rfl
   ·rw [qqv,h2];show 10 * (u / 10)+((UInt8.ofNat (48+u % 10)).toNat - 48)=u;rw [this]; omega
def rdL (s:BA) (l:List UInt8) (a:Nat):Int×Bool:=bif l.all digB then (bif decide (valL l a<=1000000000)&&decide (decB (valL l a:Int)=s) then ((valL l a:Int),true) else (0,false)) else (0,false)
theorem qrz (s:BA) (h10:s.size<=10):jQ s 0 0=some (rdL s s.data.toList 0,()):=by
 have hlen:s.data.toList.length=s.size:=Array.length_toList;have key:=qkH s.data.toList 0 (fun i r=>∀ a:Nat,a < 10 ^ i->jQ s (a:Int) (i:Int)=some (rdL s r a,()))
  (fun a ha=>by
   rw [q4e,hlen];have ha':a < 10 ^ 10:=Nat.lt_of_lt_of_le ha (Nat.pow_le_pow_right (by omega) (by omega))
   simp only [Int.lt_irrefl,decide_false,cF];unfold rdL;show _=some ((bif (decide (a<=1000000000)&&decide (decB (a:Int)=s)) then ((a:Int),true) else (0,false)),())
   by_cases h9:a<=1000000000
   ·rw [dYF (show ¬ ((a:Int) > 1000000000) by omega),dYT h9]
    simp only [cF,q5w (a:Int) (by omega) (by omega),oB,y5,Bool.true_and]
    cases decide (decB (a:Int)=s)<;>rfl
   ·rw [dYT (show ((a:Int) > 1000000000) by omega),dYF h9]; rfl)
  (fun i c r hi hx hm ih a ha=>by
   rw [hlen] at hi;have ha':a < 10 ^ 10:=Nat.lt_of_lt_of_le ha (Nat.pow_le_pow_right (by omega) (by omega))
   have hc:c.toNat < 256:=c.toNat_lt;have hb:bt s i=(c.toNat:Int):=by unfold bt; rw [hx]
   rw [q4e];have e1:decide ((i:Int) < (s.size:Int))=true:=dYT (by omega)
   have e2:decide (0<=(i:Int))=true:=dYT (by omega)
   have e3:w64 ((i:Int)+1)=((i+1:Nat):Int):=ql (by omega)
   simp only [e1,e2,e3,aS,cT,tN,hb];unfold rdL;rw [all_cons];unfold digB;by_cases h48:48<=c.toNat
   ·by_cases h57:c.toNat<=57
    ·rw [dYF (show ¬ ((c.toNat:Int) < 48) by omega),dYF (show ¬ ((c.toNat:Int) > 57) by omega),dYT h48,dYT h57]
     have hw:w64 (w64 (w64 (10 * (a:Int))+w64 (c.toNat:Int)) - 48)=((10 * a+(c.toNat - 48):Nat):Int):=by
      show IntKind.i64.wrap (IntKind.i64.wrap (IntKind.i64.wrap _+IntKind.i64.wrap _) - 48)=_;rw [qo (n:=10 * (a:Int)) (by omega) (by omega),qo (n:=(c.toNat:Int)) (by omega) (by omega),qo (n:=10 * (a:Int)+(c.toNat:Int)) (by omega) (by omega),qo (by omega) (by omega)]
      omega
     simp only [cF,hw,Bool.true_and];rw [ih (10 * a+(c.toNat - 48)) (by rw [Nat.pow_succ]; omega)]
     rfl
    ·rw [dYF (show ¬ ((c.toNat:Int) < 48) by omega),dYT (show ((c.toNat:Int) > 57) by omega),dYT h48,dYF h57]
     rfl
   ·rw [dYT (show ((c.toNat:Int) < 48) by omega),dYF h48]
    rfl)
 exact key 0 (by decide)
def rdD (s:BA):Int×Bool:=bif decide (s.size<=10) then rdL s s.data.toList 0 else (0,false)
theorem qcB (s:BA):q4I s=some (rdD s,()):=by
 rw [qcA];unfold rdD;by_cases h:s.size<=10
 ·rw [dYF (show ¬ ((s.size:Int) > 10) by omega),dYT h]
  simp only [cF,cT];exact qrz s h
 ·rw [dYT (show ((s.size:Int) > 10) by omega),dYF h]; rfl
theorem qmN (s:BA):rdD s=(0,false)\/∃ v:Nat,v<=1000000000/\decB (v:Int)=s/\rdD s=((v:Int),true):=by
 unfold rdD rdL;cases decide (s.size<=10) with
 | false=>exact .inl rfl
 | true=>
  simp only [cT];cases s.data.toList.all digB with
  | false=>exact .inl rfl
  | true=>
   simp only [cT];cases h:(decide (valL s.data.toList 0<=1000000000)&&decide (decB (valL s.data.toList 0:Int)=s)) with
   | false=>exact .inl rfl
   | true=>
    simp only [and_eq_true,decide_eq_true_eq] at h;exact .inr ⟨_,h.1,h.2,rfl⟩
theorem q6m (v:Nat):decB (v:Int)=mkB (Lib.decDigits v):=by
 unfold decB Lib.itoa;rw [if_neg (by omega),tN]
theorem qmO (v:Nat) (h:v<=1000000000):rdD (decB (v:Int))=((v:Int),true):=by
 obtain ⟨h1,h2⟩:=q6S 9 v (by omega)
 have hl:=qf8 9 v (by omega)
 unfold rdD rdL;have e1:(decB (v:Int)).data.toList=Lib.decDigits v:=by rw [q6m,qbE]
 rw [e1,h2,dYT (show (decB (v:Int)).size<=10 by rw [q6m,qfs]; omega),show (Lib.decDigits v).all digB=true from all_eq_true.2 h1,dYT h,dYT rfl]
 rfl
theorem qpJ (v:Nat) (h:1<=v):decB (-(v:Int))=mkB (45::Lib.decDigits v):=by
 unfold decB Lib.itoa;rw [if_pos (by omega)]
 simp
theorem qcS (v:Nat):∃ c r,Lib.decDigits v=c::r/\digB c=true:=by
 have h1:(Lib.decDigits v)≠[]:=by
  rw [Lib.decDigits];split<;>simp
 match hd:Lib.decDigits v,h1 with
 | c::r,_=>exact ⟨c,r,rfl,by
   obtain ⟨k,hk⟩:∃ k,v < 10 ^ (k+1):=⟨v,by
    have:∀ n:Nat,n < 10 ^ (n+1):=fun n=>Nat.lt_of_lt_of_le (Nat.lt_pow_self (by omega)) (Nat.pow_le_pow_right (by omega) (by omega))
    exact this v⟩
   have:=(q6S k v hk).1 c (by rw [hd]; exact mem_cons_self ..)
   exact this⟩
theorem q8Z:∀ (l:List UInt8) (a:Nat),(∀ c∈l,digB c=true)->valL l a<=1000000000000->Lib.parseUint10 a l=.ok (valL l a)
 | [],a,_,_=>rfl
 | c::r,a,h,hb=>by
  have hc:=h c (mem_cons_self ..);unfold digB at hc;simp only [and_eq_true,decide_eq_true_eq] at hc;have mono:∀ (l:List UInt8) (a:Nat),a<=valL l a:=by
   intro l;induction l with
   | nil=>intro a; exact le_refl _
   | cons x l ih=>intro a; exact Nat.le_trans (by omega) (ih (10 * a+(x.toNat - 48)))
  have hv:valL (c::r) a=valL r (10 * a+(c.toNat - 48)):=rfl;have hm:=mono r (10 * a+(c.toNat - 48));rw [hv] at hb ⊢;unfold Lib.parseUint10;rw [if_pos hc,if_neg (by omega),if_neg (by omega),show a * 10+(c.toNat - 48)=10 * a+(c.toNat - 48) by omega]
  exact q8Z r _ (fun x hx=>h x (List.mem_cons_of_mem _ hx)) hb
theorem qbk (n:Int) (h0:-1000000000<=n) (h1:n<=1000000000):Lib.atoiAll (decB n).data.toList=.ok n:=by
 by_cases hn:n < 0
 ·obtain ⟨v,rfl⟩:∃ v:Nat,n=-(v:Int):=⟨n.natAbs,by omega⟩
  obtain ⟨d1,d2⟩:=q6S 9 v (by omega)
  obtain ⟨c,r,hc,_⟩:=qcS v;have hp:=q8Z (Lib.decDigits v) 0 d1 (by rw [d2]; omega)
  rw [d2] at hp;rw [qpJ v (by omega),qbE]
  unfold Lib.atoiAll Lib.parseMag;have e45:(45:UInt8).toNat=45:=rfl;simp only [e45,or_true,if_true,hp,hc,reduceCtorEq,if_false,not_true_eq_false,false_and,true_and];rw [<- hc,hp];simp only;rw [if_neg (by omega)]
 ·obtain ⟨v,rfl⟩:∃ v:Nat,n=(v:Int):=⟨n.toNat,by omega⟩
  obtain ⟨d1,d2⟩:=q6S 9 v (by omega)
  obtain ⟨c,r,hc,hd⟩:=qcS v;have hp:=q8Z (Lib.decDigits v) 0 d1 (by rw [d2]; omega)
  rw [d2,hc] at hp;rw [q6m,qbE,hc];unfold digB at hd;simp only [and_eq_true,decide_eq_true_eq] at hd;unfold Lib.atoiAll Lib.parseMag;have n43:¬ (c.toNat=43):=by omega
  have n45:¬ (c.toNat=45):=by omega
  simp only [n43,n45,or_self,reduceCtorEq,hp,not_false_eq_true,true_and,false_and,if_false];rw [if_neg (by omega)]
theorem qn8 {l:List UInt8} {v:Int} (h:Lib.atoiAll l=.ok v):-9223372036854775808<=v/\v<=9223372036854775807:=by
 unfold Lib.atoiAll at h;split at h
 ·cases h
 ·rename_i c r;simp only at h;split at h
  ·cases h
  ·cases h
  ·rename_i u hu;split at h
   ·cases h
   ·rename_i h1;split at h
    ·cases h
    ·rename_i h2;injection h with h;by_cases hn:c.toNat=45
     ·rw [if_pos hn] at h; omega
     ·rw [if_neg hn] at h; omega
theorem q5U (s:BA) (hs:s.size<=100000000):q4y s=some (rdD s,()):=by
 rw [qcw,qhn];unfold q2M;simp only [dYT (show s.size<=281474976710656 by omega),cT]
 have hS:=qmN s;have no:(∀ n:Nat,n<=1000000000->decB (n:Int)=s->False)->rdD s=(0,false):=fun h=>hS.elim id fun ⟨n,h1,h2,_⟩=>(h n h1 h2).elim
 cases ha:Lib.atoiAll s.data.toList with
 | «syntax»=>
  rw [no fun n h1 h2=>by rw [<- h2,qbk n (by omega) (by omega)] at ha; cases ha]
  rfl
 | range=>
  rw [no fun n h1 h2=>by rw [<- h2,qbk n (by omega) (by omega)] at ha; cases ha]
  rfl
 | ok v=>
  obtain ⟨r1,r2⟩:=qn8 ha;simp only [oB,cF,q9J v r1 r2,y5,jB];by_cases hd:decB v=s
  ·rw [dYT hd];simp only [nT,cF];by_cases hr:0<=v/\v<=1000000000
   ·obtain ⟨n,rfl⟩:∃ n:Nat,v=(n:Int):=⟨v.toNat,by omega⟩
    have e:inB (n:Int) 0 1000000000=true:=by unfold inB; simp [hr]
    have:=qmO n (by omega)
    rw [hd] at this;rw [this,e]; rfl
   ·have e:inB v 0 1000000000=false:=by
     unfold inB;rw [<- not_eq_true,and_eq_true,decide_eq_true_eq,decide_eq_true_eq]; exact hr
    rw [e,no fun n h1 h2=>by
     rw [<- h2,qbk n (by omega) (by omega)] at ha
     injection ha with ha;omega]
    rfl
  ·rw [dYF hd,no fun n h1 h2=>by
    rw [<- h2,qbk n (by omega) (by omega)] at ha
    injection ha with ha;exact hd (by rw [<- ha]; exact h2)]
   rfl
end Go.Den.S
namespace Go.Den.S
open Go Go.Den
set_option maxRecDepth 4000
theorem qe8 {n:Nat} (h:n < 100):c_b++decB (n:Int)=nmL n:=by
 refine zx ?_;rw [jP,q6m];unfold nmL;rw [wh];show 98::bl (mkB (Lib.decDigits n))=_;congr 1
 show (mkB (Lib.decDigits n)).data.toList=_;rw [qbE];by_cases h10:n < 10
 ·rw [if_pos h10,Lib.decDigits,dif_pos h10]
 ·rw [if_neg h10,q9E n h10,Lib.decDigits,dif_pos (by omega)]; rfl
def nmO (n:Int):BA:=if 0<=n/\n<=99 then nmL n.toNat else eB
theorem q0d {n:Nat} (h:n < 100):nmO (n:Int)=nmL n:=by
 unfold nmO;rw [if_pos (by omega),tN]
theorem q1u (a b c:Int):inB a b c=decide (b<=a/\a<=c):=by
 unfold inB;rw [Bool.eq_iff_iff]; simp
theorem q0b (n:Int):j5 n=some (nmO n,()):=by
 rw [qgq,jB,q1u];unfold nmO;by_cases h:0<=n/\n<=99
 ·obtain ⟨m,rfl⟩:∃ m:Nat,n=(m:Int):=⟨n.toNat,by omega⟩
  have hz:=qcO (m:Int) (by omega) (by omega)
  have k:limS ((c_b:BA).size+(decB (m:Int)).size)=true:=qX (by show 1+_<=_; omega)
  simp only [dYT h,oB,nT,cF,q9J (m:Int) (by omega) (by omega),k,cT,if_pos h,tN,qe8 (show m < 100 by omega)]
 ·simp only [dYF h,oB,nF,cT,if_neg h]
theorem zC (n:Int):zJ n=some (nmO n,()):=by
 rw [qh3,jg,q1u];unfold nmO;by_cases h:0<=n/\n<=99
 ·obtain ⟨m,rfl⟩:∃ m:Nat,n=(m:Int):=⟨n.toNat,by omega⟩
  have hz:=qcO (m:Int) (by omega) (by omega)
  have k:limS ((c_b:BA).size+(decB (m:Int)).size)=true:=qX (by show 1+_<=_; omega)
  simp only [dYT h,oB,nT,cF,q5w (m:Int) (by omega) (by omega),k,cT,if_pos h,tN,qe8 (show m < 100 by omega)]
 ·simp only [dYF h,oB,nF,cT,if_neg h]
def numI (s:BA):Int:=match numOf s with | some n=>(n:Int) | none=>-1
theorem q3J (s:BA):(numI s=-1/\numOf s=none)\/∃ n:Nat,n < 100/\numI s=(n:Int)/\numOf s=some n/\nmL n=s:=by
 unfold numI;cases h:numOf s with
 | none=>exact .inl ⟨rfl,rfl⟩
 | some n=>exact .inr ⟨n,(q2g.1 h).1,rfl,rfl,(q2g.1 h).2⟩
theorem ql1 (s rest:BA) (hne:1<=s.size) (hrest:∀ n:Nat,n < 100->nmL n=s->rest=decB (n:Int)):(bif !(rdD rest).2 then ((-1:Int)) else bif !decide (nmO (rdD rest).1=s) then (-1:Int) else (rdD rest).1)=numI s:=by
 rcases q3J s with ⟨h1,h2⟩ | ⟨n,hn,h1,_,h3⟩
 ·rw [h1];rcases qmN rest with hr | ⟨v,hv,_,hr⟩
  ·rw [hr]; rfl
  ·rw [hr];have:¬ nmO (v:Int)=s:=fun e=>by
    unfold nmO at e;split at e
    ·rename_i hv2;rw [tN] at e;rw [q2g.2 ⟨by omega,e⟩] at h2; cases h2
    ·rw [<- e] at hne;exact absurd hne (by decide)
   simp only [nT,cF,dYF this,nF,cT]
 ·rw [h1,hrest n hn h3,qmO n (by omega)]
  simp only [nT,cF,q0d hn,dYT h3]
theorem qi2 {n:Nat} (hn:n < 100) {s:BA} (h:nmL n=s):s.extract 1 s.size=decB (n:Int):=by
 rw [<- h,<- qe8 hn];refine zx ?_;rw [q3f,jP];have e1:bl c_b=[98]:=rfl;have e2:(c_b++decB (n:Int)).size=1+(bl (decB (n:Int))).length:=by rw [size_append,<- yj]; rfl
 rw [e1,e2];show List.take _ (bl (decB (n:Int)))=_;rw [List.take_of_length_le];omega
theorem qkE (s:BA) (hs:s.size<=1000000):q6M s=some (numI s,()):=by
 rw [qeF];by_cases h:s.size < 2
 ·have k:decide ((s.size:Int) < 2)=true:=dYT (by omega)
  simp only [k,cT];rcases q3J s with ⟨h1,_⟩ | ⟨n,hn,_,_,h3⟩
  ·rw [h1]
  ·have e:=qi2 hn h3;have e2:=congrArg size h3;rw [<- qe8 hn,size_append] at e2;have hz:1<=(decB (n:Int)).size:=by
    rw [q6m,qfs];obtain ⟨c,r,hc,_⟩:=qcS n;rw [hc]; simp
   have:(c_b:BA).size=1:=rfl;omega
 ·have k:decide ((s.size:Int) < 2)=false:=dYF (by omega)
  have q1:decide ((1:Int)<=(s.size:Int))=true:=dYT (by omega)
  simp only [k,cF,show decide ((0:Int)<=1)=true from rfl,q1,dYT (Int.le_refl (s.size:Int)),aS,cT,show toNat 1=1 from rfl,tN,qcB,oB,zC,y5]
  have:=ql1 s (s.extract 1 s.size) (by omega) (fun n hn h=>qi2 hn h)
  rw [<- this];cases (rdD (s.extract 1 s.size)).2
  ·rfl
  ·cases decide (nmO (rdD (s.extract 1 s.size)).1=s)<;>rfl
theorem qpZ (s:BA):jI s c_b=some (decide (s.extract 0 1=c_b),()):=by
 rw [q4b];by_cases h:1<=s.size
 ·have k:decide ((s.size:Int)>=((c_b:BA).size:Int))=true:=dYT (by show (1:Int)<=_; omega)
  have q:decide (((c_b:BA).size:Int)<=(s.size:Int))=true:=dYT (by show (1:Int)<=_; omega)
  simp only [k,cT,show decide ((0:Int)<=0)=true from rfl,show decide ((0:Int)<=((c_b:BA).size:Int))=true from rfl,q,aS,y5]
  rfl
 ·have k:decide ((s.size:Int)>=((c_b:BA).size:Int))=false:=dYF (by show ¬ (1:Int)<=_; omega)
  simp only [k,cF];have:¬ s.extract 0 1=c_b:=fun e=>by
   have:=congrArg size e;rw [ByteArray.size_extract] at this;have h1:(c_b:BA).size=1:=rfl;omega
  rw [dYF this]
theorem qdx (s:BA) (hs:s.size<=1000000):q3E s=some (numI s,()):=by
 rw [qeu,qc7,q4a,qpZ];simp only [oB];by_cases h:s.extract 0 1=c_b
 ·have hz:1<=s.size:=by
   have:=congrArg size h;rw [ByteArray.size_extract] at this;have h1:(c_b:BA).size=1:=rfl;omega
  have q1:decide (((c_b:BA).size:Int)<=(s.size:Int))=true:=dYT (by show (1:Int)<=_; omega)
  have hx:s.extract (c_b:BA).size s.size=s.extract 1 s.size:=rfl;simp only [dYT h,nT,cF,show decide ((0:Int)<=((c_b:BA).size:Int))=true from rfl,q1,dYT (Int.le_refl (s.size:Int)),aS,cT,oB,tN,hx,q5U (s.extract 1 s.size) (by rw [ByteArray.size_extract]; omega),q0b,y5]
  have:=ql1 s (s.extract 1 s.size) hz (fun n hn h=>qi2 hn h)
  rw [<- this];cases (rdD (s.extract 1 s.size)).2
  ·rfl
  ·cases decide (nmO (rdD (s.extract 1 s.size)).1=s)<;>rfl
 ·simp only [dYF h,nF,cT,oB,q5U s (by omega)]
  rcases q3J s with ⟨h1,_⟩ | ⟨n,hn,_,_,h3⟩
  ·rw [h1]
  ·refine absurd ?_ h;rw [<- h3];refine zx ?_;rw [q3f]; rfl
noncomputable def htO (n f:Int):BA×Bool:=if 0<=n/\n<=99/\0<=f/\f<=n then (bOf (qL n.toNat f.toNat),true) else (eB,false)
theorem qiX (m k:Nat):(c_H++bOf (vL m))++bOf (vL k)=hdT m k:=zx (by
 rw [jP,jP,wh,wh];unfold hdT;rw [wh,pA]; rfl)
theorem qoD {m k:Nat} (hm:m<=99) (hk:k<=m):frO (hdT m k)=(bOf (qL m k),true):=by
 unfold frO;have h:1<=(hdT m k).size/\(hdT m k).size<=9000:=qkt hm hk;rw [if_pos h]; rfl
theorem q4H (n f:Int):q2L n f=some (htO n f,()):=by
 rw [qfD,jg,jg,q1u,q1u];unfold htO;by_cases h:0<=n/\n<=99
 ·by_cases h2:0<=f/\f<=n
  ·obtain ⟨m,rfl⟩:∃ m:Nat,n=(m:Int):=⟨n.toNat,by omega⟩
   obtain ⟨k,rfl⟩:∃ k:Nat,f=(k:Int):=⟨f.toNat,by omega⟩
   have v1:=wB (show m<=1000000000 by omega)
   have v2:=wB (show k<=1000000000 by omega)
   have l1:limS ((c_H:BA).size+(bOf (vL m)).size)=true:=qX (by rw [qz (vL m)]; show 1+_<=_; omega)
   have l2:limS ((c_H++bOf (vL m)).size+(bOf (vL k)).size)=true:=qX (by rw [size_append,qz (vL m),qz (vL k)]; show 1+_+_<=_; omega)
   simp only [dYT h,dYT h2,oB,nT,cF,wV (show m<=1000000000000 by omega),wV (show k<=1000000000000 by omega),l1,l2,cT,qiX,q1h,qoD (show m<=99 by omega) (show k<=m by omega)]
   rw [if_pos ⟨h.1,h.2,h2.1,h2.2⟩]; rfl
  ·simp only [dYT h,dYF h2,oB,nT,cF,nF,cT];rw [if_neg fun hh=>h2 ⟨hh.2.2.1,hh.2.2.2⟩]
 ·simp only [dYF h,oB,nF,cT];rw [if_neg fun hh=>h ⟨hh.1,hh.2.1⟩]
theorem qfh (n f:Int):q7R n f=some (htO n f,()):=by
 rw [qfg,jB,jB,q1u,q1u];unfold htO;by_cases h:0<=n/\n<=99
 ·by_cases h2:0<=f/\f<=n
  ·obtain ⟨m,rfl⟩:∃ m:Nat,n=(m:Int):=⟨n.toNat,by omega⟩
   obtain ⟨k,rfl⟩:∃ k:Nat,f=(k:Int):=⟨f.toNat,by omega⟩
   have v1:=wB (show m<=1000000000 by omega)
   have v2:=wB (show k<=1000000000 by omega)
   have l1:limS ((c_H:BA).size+(bOf (vL m++vL k)).size)=true:=qX (by rw [qz (vL m++vL k),lA]; show 1+_<=_; omega)
   have e:c_H++bOf (vL m++vL k)=hdT m k:=zx (by
    rw [jP,wh]; unfold hdT; rw [wh]; rfl)
   simp only [dYT h,dYT h2,oB,nT,cF,qgI m k (by omega) (by omega),l1,cT,e,q7Q,qoD (show m<=99 by omega) (show k<=m by omega)]
   rw [if_pos ⟨h.1,h.2,h2.1,h2.2⟩]; rfl
  ·simp only [dYT h,dYF h2,oB,nT,cF,nF,cT];rw [if_neg fun hh=>h2 ⟨hh.2.2.1,hh.2.2.2⟩]
 ·simp only [dYF h,oB,nF,cT];rw [if_neg fun hh=>h ⟨hh.1,hh.2.1⟩]
theorem ql0 {l:List UInt8} (h:(numR (l,false)).2.2=false):l=vL (numR (l,false)).1++(numR (l,false)).2.1/\(numR (l,false)).1<=1000000000:=by
 refine ⟨?_,qaZ _⟩;unfold numR at h ⊢;cases hv:rvar l with
 | none=>simp only [hv] at h; cases h
 | some p=>
  obtain ⟨n,k⟩:=p;obtain ⟨_,h2,r,h3⟩:=q92.1 hv;simp only [hv,false_eq_true,if_false];rw [h3,h2,jF]
theorem qku (s:BA) {n f:Nat} (hn:n<=99) (hf:f<=n) (e:hdT n f=s):qB (bl s,false)=(72,vL n++vL f,false)/\numR (vL n++vL f,false)=(n,vL f,false)/\numR (vL f,false)=(f,[],false):=by
 have:bl s=72::(vL n++vL f):=by rw [<- e]; rfl
 refine ⟨by rw [this]; rfl,q8z (by omega) _,?_⟩
 have:=q8z (show f<=1000000000 by omega) []
 rwa [append_nil] at this
noncomputable def hoO (n:Nat) (t:BA):Int×Int×Bool:=match (unO t).1 with
 | []=>(0,(0,false))
 | h::_=>match hdOf n h with
  | none=>(0,(0,false))
  | some f=>((f:Int),((qL n f).length:Int),true)
theorem qht {t h:BA} (hh:h∈(unO t).1):frOk h:=by
 unfold unO at hh;split at hh
 ·obtain ⟨r,h1,_⟩:=qdK (bl t);exact h1 h hh
 ·cases hh
theorem qmi {s:BA} {c:qA} {st:RS} (h:RD s c st):∃ c',wG c=some ((!st.2&&decide (st.1=[])),(c',())):=by
 rw [q21,h.bad];cases hb:st.2 with
 | true=>exact ⟨_,rfl⟩
 | false=>
  have hr:=h.rest hb;simp only [nF,cT,Bool.true_and,h.txt];have:(c.2.1==(s.size:Int))=decide (st.1=[]):=by
   rw [Bool.eq_iff_iff,beq_iff_eq,decide_eq_true_eq,<- hr,List.drop_eq_nil_iff,<- yj];have:=h.lo; have:=h.hi; omega
  rw [this];exact ⟨_,rfl⟩
theorem q9I (n:Nat) (hn:n<=99) (t:BA):q2R (n:Int) t=some (hoO n t,()):=by
 rw [qhT,q5e];unfold hoO;simp only [oB];cases hu:(unO t).1 with
 | nil=>rfl
 | cons h r=>
  have hf:frOk h:=qht (by rw [hu]; exact mem_cons_self ..)
  have hs:h.size<=20000:=by have:=hf.2; omega
  have k1:((((h::r).length:Nat):Int)==0)=false:=by
   rw [<- not_eq_true,beq_iff_eq,length_cons]; omega
  have k2:decide ((0:Int) < (((h::r).length:Nat):Int))=true:=dYT (by rw [length_cons]; omega)
  simp only [k1,cF,show decide ((0:Int)<=0)=true from rfl,k2,aS,cT,show List.getD (h::r) (toNat 0) eB=h from rfl]
  obtain ⟨c1,e1,h1⟩:=qdR hs (qb6 h);rw [e1]; simp only [oB];obtain ⟨c2,e2,h2⟩:=qb0 hs h1;rw [e2]; simp only [oB];obtain ⟨c3,e3,h3⟩:=qb0 hs h2;rw [e3]; simp only [oB,qfh];obtain ⟨c4,e4⟩:=qmi h3;rw [e4]; simp only [oB];cases hx:hdOf n h with
  | some f=>
   obtain ⟨q1,q2⟩:=q3l.1 hx;obtain ⟨p1,p2,p3⟩:=qku h hn q1 q2;have hht:htO (n:Int) (f:Int)=(bOf (qL n f),true):=by
    unfold htO;rw [if_pos (by omega)]; rfl
   rw [p1,p2,p3];simp only [hht,qz];have k3:(((n:Nat):Int) != (n:Int))=false:=by simp
   simp only [k3];rfl
  | none=>
   have no:∀ f,f<=n->hdT n f≠h:=fun f hf e=>by rw [q3l.2 ⟨hf,e⟩] at hx; cases hx
   by_cases a1:(qB (bl h,false)).1=72
   ·have k3:(((qB (bl h,false)).1:Int) != 72)=false:=by rw [a1]; rfl
    simp only [k3,cF];by_cases a2:(numR (numR (qB (bl h,false)).2).2).2.2=false/\(numR (numR (qB (bl h,false)).2).2).2.1=[]
    ·simp only [a2.1,a2.2,decide_true,nF,aS,nT,cF];have b1:(numR (qB (bl h,false)).2).2.2=false:=by
      cases hb:(numR (qB (bl h,false)).2).2.2 with
      | false=>rfl
      | true=>have:=a2.1; rw [qbG hb] at this; cases this
     have b0:(qB (bl h,false)).2.2=false:=by
      cases hb:(qB (bl h,false)).2.2 with
      | false=>rfl
      | true=>rw [qbG hb] at b1; cases b1
     have hbl:bl h=72::(qB (bl h,false)).2.1:=by
      unfold qB at a1 b0 ⊢;cases hc:bl h with
      | nil=>simp only [hc] at b0; cases b0
      | cons c q=>
       simp only [hc,false_eq_true,if_false] at a1 ⊢;rw [show c=72 from UInt8.toNat_inj.1 a1]
     generalize hst0:(qB (bl h,false)).2=st0 at *;obtain ⟨l0,g0⟩:=st0;have b0:g0=false:=b0;subst b0;obtain ⟨i1,i2⟩:=ql0 b1;generalize hst1:numR (l0,false)=st1 at *;obtain ⟨m1,l1,g1⟩:=st1;have b1:g1=false:=b1;subst b1;obtain ⟨i3,i4⟩:=ql0 a2.1;have a22:=a2.2;rw [a22,append_nil] at i3;have hh:hdT m1 (numR (l1,false)).1=h:=zx (by
      unfold hdT;rw [wh,<- i3];rw [hbl];congr 1
      exact i1.symm)
     by_cases a3:(m1:Int)<=99/\((numR (l1,false)).1:Int)<=(m1:Int)
     ·have hht:htO (m1:Int) ((numR (l1,false)).1:Int)=(bOf (qL m1 (numR (l1,false)).1),true):=by
       unfold htO;rw [if_pos (by omega)]; rfl
      have hne:m1≠n:=fun e=>no (numR (l1,false)).1 (by omega) (by rw [<- e]; exact hh)
      have k4:((m1:Int) != (n:Int))=true:=by rw [bne_iff_ne]; omega
      simp only [hht,nT,cF,k4,cT]
     ·have hht:htO (m1:Int) ((numR (l1,false)).1:Int)=(eB,false):=by
       unfold htO;rw [if_neg (by omega)]
      simp only [hht,nF,cT]
    ·have:(!(numR (numR (qB (bl h,false)).2).2).2.2&&decide ((numR (numR (qB (bl h,false)).2).2).2.1=[]))=false:=by
      rw [<- not_eq_true,and_eq_true,decide_eq_true_eq,Bool.not_eq_true']; exact a2
     simp only [this,nF,cT]
   ·have k3:(((qB (bl h,false)).1:Int) != 72)=true:=by rw [bne_iff_ne]; omega
    simp only [k3,cT]
theorem qnI (n:Nat) (hn:n<=99) (h:BA) (hs:h.size<=20000):q9h (n:Int) h=some ((match hdOf n h with | none=>((0:Int),false) | some f=>((f:Int),true)),()):=by
 rw [qhh];obtain ⟨t,c1,e1,h1,_⟩:=qfM hs (qb6 h);rw [e1]; simp only [oB];obtain ⟨c2,e2,h2⟩:=q7r hs h1;rw [e2]; simp only [oB];obtain ⟨c3,e3,h3⟩:=q7r hs h2;rw [e3]; simp only [oB,jg,q1u,h3.bad];have hN:=qaZ (numR (qB (bl h,false)).2).2;have v1:=wB (show n<=1000000000 by omega)
 have v2:=wB hN;have l1:limS ((c_H:BA).size+(bOf (vL n)).size)=true:=qX (by rw [qz (vL n)]; show 1+_<=_; omega)
 have l2:limS ((c_H++bOf (vL n)).size+(bOf (vL (numR (numR (qB (bl h,false)).2).2).1)).size)=true:=qX (by rw [size_append,qz (vL n),qz (vL _)]; show 1+_+_<=_; omega)
 simp only [wV (show n<=1000000000000 by omega),wV (show (numR (numR (qB (bl h,false)).2).2).1<=1000000000000 by omega),oB,l1,l2,cT,qiX,y5]
 cases hx:hdOf n h with
 | some f=>
  obtain ⟨q1,q2⟩:=q3l.1 hx;obtain ⟨p1,p2,p3⟩:=qku h hn q1 q2;rw [p1,p2,p3];simp only [cF];have k3:(((n:Nat):Int) != (n:Int))=false:=by simp
  have k4:decide ((0:Int)<=(f:Int)/\(f:Int)<=(n:Int))=true:=dYT (by omega)
  simp only [k3,k4,cF,nT,dYT q2]
 | none=>
  have no:∀ f,f<=n->hdT n f≠h:=fun f hf e=>by rw [q3l.2 ⟨hf,e⟩] at hx; cases hx
  cases (numR (numR (qB (bl h,false)).2).2).2.2 with
  | true=>rfl
  | false=>
   simp only [cF];by_cases a1:(((numR (qB (bl h,false)).2).1:Int) != (n:Int))=true
   ·simp only [a1,cT]
   ·have a1:(((numR (qB (bl h,false)).2).1:Int) != (n:Int))=false:=by simpa using a1
    simp only [a1,cF];by_cases a2:(0:Int)<=((numR (numR (qB (bl h,false)).2).2).1:Int)/\((numR (numR (qB (bl h,false)).2).2).1:Int)<=(n:Int)
    ·simp only [dYT a2,nT,cF,dYF (no (numR (numR (qB (bl h,false)).2).2).1 (by omega)),nF,cT]
    ·simp only [dYF a2,nF,cT]
abbrev dF:Fil:=(eB,(eB,0))
def chkF:Option BA->List Fil->Bool
 | _,[]=>true
 | p,c::r=>q0s c&&(q1B p c.1&&chkF (some c.1) r)
theorem qiI:∀ (l:List Fil) (a:Fil),chkF (some a.1) l=(l.all q0s&&ascB (fun x y=>blt x.1 y.1) (a::l))
 | [],a=>rfl
 | c::l,a=>by
  simp only [chkF,q1B,qiI l c,all_cons,ascB];cases q0s c<;>cases blt a.1 c.1<;>cases l.all q0s<;>rfl
theorem qiH (l:List Fil):chkF none l=(l.all q0s&&ascB (fun x y=>blt x.1 y.1) l):=by
 cases l with
 | nil=>rfl
 | cons c l=>
  simp only [chkF,q1B,qiI l c,all_cons];cases q0s c<;>rfl
theorem qkm (f:Fil):q0s f=(inB (f.1.size:Int) 1 8&&(decide (f.2.1.size<=20000)&&inB f.2.2 0 (f.2.1.size:Int))):=by
 unfold q0s qi1 inB;rw [Bool.eq_iff_iff];simp only [and_eq_true,decide_eq_true_eq];omega
theorem q83 (d:List Fil) (hn:d.length<=1000000000):∀ (r:List Fil) (i:Nat) (p:Option BA),d.drop i=r->i<=d.length->(i=0->p=none)->(0 < i->p=some (d.getD (i - 1) dF).1)->q26 d (d.length:Int) (i:Int) d=some (chkF p r&&decide (d.length<=30),())
 | [],i,p,hd,hi,_,_=>by
  have:=List.drop_eq_nil_iff.1 hd;rw [q82];have k1:decide ((i:Int) < (d.length:Int))=false:=dYF (by omega)
  have k2:decide ((d.length:Int)<=30)=decide (d.length<=30):=decide_eq_decide.2 (by omega)
  simp only [k1,cF,chkF,Bool.true_and,k2]
 | c::r,i,p,hd,hi,h0,hp=>by
  obtain ⟨e1,hlt,e2⟩:=qV dF hd;rw [q82];have k1:decide ((i:Int) < (d.length:Int))=true:=dYT (by omega)
  have k2:decide (0<=(i:Int))=true:=dYT (by omega)
  have k4:w64 ((i:Int)+1)=((i+1:Nat):Int):=ql (by omega)
  have ih:=q83 d hn r (i+1) (some c.1) e2 hlt (fun h=>by omega) (fun _=>by rw [Nat.add_sub_cancel,e1])
  have k5:decide ((c.2.1.size:Int) > 20000)=!decide (c.2.1.size<=20000):=by
   rw [Bool.eq_iff_iff]; simp; omega
  simp only [k1,k2,k4,aS,cT,tN,e1,jB,oB,ih,chkF,qkm,k5];have hord:(bif decide ((i:Int) > 0) then bif (decide (0<=w64 ((i:Int) - 1))&&decide (w64 ((i:Int) - 1) < (d.length:Int))) then bif !(Op.bytesLess (d.getD (w64 ((i:Int) - 1)).toNat dF).1.toList c.1.toList) then some (false,()) else some (chkF (some c.1) r&&decide (d.length<=30),()) else none else some (chkF (some c.1) r&&decide (d.length<=30),()):Option (Bool×Unit))=some (q1B p c.1&&chkF (some c.1) r&&decide (d.length<=30),()):=by
   by_cases hi0:i=0
   ·rw [h0 hi0];have:decide ((i:Int) > 0)=false:=dYF (by omega)
    simp only [this,cF,q1B,Bool.true_and]
   ·have q1:decide ((i:Int) > 0)=true:=dYT (by omega)
    have q2:w64 ((i:Int) - 1)=((i - 1:Nat):Int):=(qo (by omega) (by omega)).trans (by omega)
    have q3:decide (0<=((i - 1:Nat):Int))=true:=dYT (by omega)
    have q4:decide (((i - 1:Nat):Int) < (d.length:Int))=true:=dYT (by omega)
    rw [hp (by omega)]
    simp only [q1,q2,q3,q4,aS,cT,tN,blt_eq,q1B];cases blt (d.getD (i - 1) dF).1 c.1<;>rfl
  rw [hord];cases inB (c.1.size:Int) 1 8<;>cases decide (c.2.1.size<=20000)<;>cases inB c.2.2 0 (c.2.1.size:Int)<;>rfl
theorem zN (d:List Fil) (hn:d.length<=1000000000):yB d=some (dOkB d,()):=by
 rw [qhN];have:=q83 d hn d 0 none rfl (zero_le _) (fun _=>rfl) (fun h=>by omega)
 refine Eq.trans this ?_;rw [qiH];unfold dOkB;cases decide (d.length<=30)<;>cases (d.all q0s&&ascB (fun x y:Fil=>blt x.1 y.1) d)<;>rfl
theorem qgL (k:BA):zk k=some (inB (k.size:Int) 1 8,()):=by
 rw [qhf,jg]; rfl
theorem q89 (d:List Fil) (hn:d.length<=1000000000):∀ (r:List Fil) (i:Nat) (p:Option BA),d.drop i=r->i<=d.length->(i=0->p=none)->(0 < i->p=some (d.getD (i - 1) dF).1)->q0N (i:Int) d=some (chkF p r,())
 | [],i,p,hd,hi,_,_=>by
  have:=List.drop_eq_nil_iff.1 hd;rw [q88];have k1:decide ((i:Int) < (d.length:Int))=false:=dYF (by omega)
  simp only [k1,cF,chkF]
 | c::r,i,p,hd,hi,h0,hp=>by
  obtain ⟨e1,hlt,e2⟩:=qV dF hd;rw [q88];have k1:decide ((i:Int) < (d.length:Int))=true:=dYT (by omega)
  have k2:decide (0<=(i:Int))=true:=dYT (by omega)
  have k4:w64 ((i:Int)+1)=((i+1:Nat):Int):=ql (by omega)
  have ih:=q89 d hn r (i+1) (some c.1) e2 hlt (fun h=>by omega) (fun _=>by rw [Nat.add_sub_cancel,e1])
  have k5:decide ((c.2.1.size:Int) > 20000)=!decide (c.2.1.size<=20000):=by
   rw [Bool.eq_iff_iff]; simp; omega
  simp only [k1,k2,k4,aS,cT,tN,e1,qgL,jg,oB,ih,chkF,qkm,k5];have hord:(bif decide ((i:Int) > 0) then bif (decide (0<=w64 ((i:Int) - 1))&&decide (w64 ((i:Int) - 1) < (d.length:Int))) then bif !(Op.bytesLess (d.getD (w64 ((i:Int) - 1)).toNat dF).1.toList c.1.toList) then some (false,()) else some (chkF (some c.1) r,()) else none else some (chkF (some c.1) r,()):Option (Bool×Unit))=some (q1B p c.1&&chkF (some c.1) r,()):=by
   by_cases hi0:i=0
   ·rw [h0 hi0];have:decide ((i:Int) > 0)=false:=dYF (by omega)
    simp only [this,cF,q1B,Bool.true_and]
   ·have q1:decide ((i:Int) > 0)=true:=dYT (by omega)
    have q2:w64 ((i:Int) - 1)=((i - 1:Nat):Int):=(qo (by omega) (by omega)).trans (by omega)
    have q3:decide (0<=((i - 1:Nat):Int))=true:=dYT (by omega)
    have q4:decide (((i - 1:Nat):Int) < (d.length:Int))=true:=dYT (by omega)
    rw [hp (by omega)]
    simp only [q1,q2,q3,q4,aS,cT,tN,blt_eq,q1B];cases blt (d.getD (i - 1) dF).1 c.1<;>rfl
  rw [hord];cases inB (c.1.size:Int) 1 8<;>cases decide (c.2.1.size<=20000)<;>cases inB c.2.2 0 (c.2.1.size:Int)<;>rfl
theorem jq (d:List Fil) (hn:d.length<=1000000000):qI d=some (dOkB d,()):=by
 rw [qih];have e:q0N 0 d=some (chkF none d,()):=q89 d hn d 0 none rfl (zero_le _) (fun _=>rfl) (fun h=>by omega)
 rw [e,qiH];unfold dOkB;by_cases h:d.length<=30
 ·simp only [dYF (show ¬ (d.length:Int) > 30 by omega),cF,dYT h,Bool.true_and]
 ·simp only [dYT (show (d.length:Int) > 30 by omega),cT,dYF h,Bool.false_and]
theorem qfb {α:Type} (P:α->Bool) (d:α):∀ (l:List α) (i:Nat),(idxI P l i=-1/\l.find? P=none)\/∃ k,k < l.length/\idxI P l i=((i+k:Nat):Int)/\l.find? P=some (l.getD k d)
 | [],i=>.inl ⟨rfl,rfl⟩
 | x::r,i=>by
  unfold idxI;cases h:P x with
  | true=>exact .inr ⟨0,by simp,by simp,by simp [find?_cons,h]⟩
  | false=>
   simp only [cF];rcases qfb P d r (i+1) with ⟨h1,h2⟩ | ⟨k,h1,h2,h3⟩
   ·exact .inl ⟨h1,by simp [find?_cons,h,h2]⟩
   ·exact .inr ⟨k+1,by simp; omega,by rw [h2]; congr 1; omega,by simp [find?_cons,h,h3]⟩
theorem qn3 (d:List Fil) (hn:d.length<=1000000000) (k:BA):q11 d (k,())=some (idxI (fun f=>decide (f.1=k)) d 0,((),())):=by
 rw [q7v];refine q4w (fun i=>wJ d (d.length:Int) i k) (fun f=>decide (f.1=k)) dF d (fun n=>some (n,((),()))) (fun i hi=>?_) ?_
 ·show wJ d (d.length:Int) (i:Int) k=_;rw [q1D];have k1:decide ((i:Int) < (d.length:Int))=true:=dYT (by omega)
  have k2:decide (0<=(i:Int))=true:=dYT (by omega)
  have k4:w64 ((i:Int)+1)=((i+1:Nat):Int):=ql (by omega)
  simp only [k1,k2,k4,aS,cT,tN,qfn,oB,y5]
 ·show wJ d (d.length:Int) (d.length:Int) k=_;rw [q1D];have k1:decide ((d.length:Int) < (d.length:Int))=false:=dYF (by omega)
  simp only [k1,cF]
theorem q4C (d:List Fil) (hn:d.length<=1000000000) (k:BA):jf d k=some (idxI (fun f=>decide (f.1=k)) d 0,()):=by
 rw [qjO];refine q4w (fun i=>q1k k i d) (fun f=>decide (f.1=k)) dF d (fun n=>some (n,())) (fun i hi=>?_) ?_
 ·show q1k k (i:Int) d=_;rw [q9f];have k1:decide ((i:Int) < (d.length:Int))=true:=dYT (by omega)
  have k2:decide (0<=(i:Int))=true:=dYT (by omega)
  have k4:w64 ((i:Int)+1)=((i+1:Nat):Int):=ql (by omega)
  simp only [k1,k2,k4,aS,cT,tN,y5]
 ·show q1k k (d.length:Int) d=_;rw [q9f];have k1:decide ((d.length:Int) < (d.length:Int))=false:=dYF (by omega)
  simp only [k1,cF]
theorem qd1 (d:List Fil) (hn:d.length<=1000000000) (k:BA):q49 d k=some (idxI (fun f=>decide (f.1=k)) d 0,()):=by
 rw [qhS,qn3 d hn]; rfl
theorem q0j (d:List Fil) (k:BA):(idxI (fun f:Fil=>decide (f.1=k)) d 0=-1/\getK k d=none)\/∃ m,m < d.length/\idxI (fun f:Fil=>decide (f.1=k)) d 0=(m:Int)/\getK k d=some (d.getD m dF).2/\(d.getD m dF).1=k:=by
 rcases qfb (fun f:Fil=>decide (f.1=k)) dF d 0 with ⟨h1,h2⟩ | ⟨m,h1,h2,h3⟩
 ·exact .inl ⟨h1,by unfold getK; rw [h2]; rfl⟩
 ·refine .inr ⟨m,h1,by rw [h2,zero_add],by unfold getK; rw [h3]; rfl,?_⟩
  have:=List.find?_some h3;exact of_decide_eq_true this
def faO (d:List Fil) (k:BA):BA×Bool:=match getK k d with
 | some x=>(x.1,true)
 | none=>(eB,false)
theorem q27 (d:List Fil) (hn:d.length<=1000000000) (k:BA):q1L d k=some (faO d k,()):=by
 rw [qhQ,qd1 d hn];unfold faO;rcases q0j d k with ⟨h1,h2⟩ | ⟨m,h1,h2,h3,_⟩
 ·rw [h1,h2]; rfl
 ·rw [h2,h3];simp only [oB,dYF (show ¬ (m:Int) < 0 by omega),cF,dYT (show (0:Int)<=(m:Int) by omega),dYT (show (m:Int) < (d.length:Int) by omega),aS,cT,tN]
theorem q3P (d:List Fil) (hn:d.length<=1000000000) (k:BA):q2S d k=some (faO d k,()):=by
 rw [qij,q4C d hn];unfold faO;rcases q0j d k with ⟨h1,h2⟩ | ⟨m,h1,h2,h3,_⟩
 ·rw [h1,h2]; rfl
 ·rw [h2,h3];simp only [oB,dYF (show ¬ (m:Int) < 0 by omega),cF,dYT (show (0:Int)<=(m:Int) by omega),dYT (show (m:Int) < (d.length:Int) by omega),aS,cT,tN]
theorem qjV (d:List Fil) (hn:d.length<=1000000000):q0p d ()=some (idxI (fun f=>f.2.2 != (f.2.1.size:Int)) d 0,((),())):=by
 rw [q5S];refine q4w (fun i=>wC d (d.length:Int) i) (fun f=>f.2.2 != (f.2.1.size:Int)) dF d (fun n=>some (n,((),()))) (fun i hi=>?_) ?_
 ·show wC d (d.length:Int) (i:Int)=_;rw [q12];have k1:decide ((i:Int) < (d.length:Int))=true:=dYT (by omega)
  have k2:decide (0<=(i:Int))=true:=dYT (by omega)
  have k4:w64 ((i:Int)+1)=((i+1:Nat):Int):=ql (by omega)
  simp only [k1,k2,k4,aS,cT,tN,qek,oB]
 ·show wC d (d.length:Int) (d.length:Int)=_;rw [q12];have k1:decide ((d.length:Int) < (d.length:Int))=false:=dYF (by omega)
  simp only [k1,cF]
theorem qgj (d:List Fil) (hn:d.length<=1000000000):q8L d=some (q2o d,()):=by
 rw [qgi,zN d hn];simp only [oB];unfold q2o;cases dOkB d with
 | false=>rfl
 | true=>
  simp only [cT,wR,qjV d hn,oB,Bool.true_and];congr 2
  rcases q7b (fun f:Fil=>f.2.2 != (f.2.1.size:Int)) d 0 with ⟨h1,h2⟩ | ⟨k,h1,h2,h3,_⟩
  ·rw [h1,dYF (by omega),nF,eq_comm,all_eq_true]
   intro f hf;have:=h2 f hf;simpa using this
  ·rw [h2,dYT (show ((0+k:Nat):Int)>=0 by omega),nT,eq_comm,<- not_eq_true,all_eq_true]
   intro hall;have e:=List.getElem?_eq_getElem h1;have:=h3 _ e;have h5:=hall _ (List.getElem_mem h1);simp at this h5;exact this h5
theorem qgY (d:List Fil) (hn:d.length<=1000000000):q95 d=some (q2o d,()):=by
 rw [qgX,jq d hn];simp only [oB];unfold q2o;cases hok:dOkB d with
 | false=>rfl
 | true=>
  simp only [nT,cF,Bool.true_and];have hf:=(qK.1 hok).2.1;have key:=qdh d dF (fun i=>q38 (i:Int) d) (fun l=>some (l.all (fun f=>!decide (f.2.2 < (f.2.1.size:Int))),())) (by
   rw [q7w];have k1:decide ((d.length:Int) < (d.length:Int))=false:=dYF (by omega)
   simp only [k1,cF,List.all_nil]) (fun i f r hd hi hg ih=>by
   rw [q7w];have k1:decide ((i:Int) < (d.length:Int))=true:=dYT (by omega)
   have k2:decide (0<=(i:Int))=true:=dYT (by omega)
   have k4:w64 ((i:Int)+1)=((i+1:Nat):Int):=ql (by omega)
   simp only [k1,k2,k4,aS,cT,tN,hg,ih,all_cons];cases decide (f.2.2 < (f.2.1.size:Int))<;>rfl)
  refine Eq.trans key ?_;congr 2
  rw [Bool.eq_iff_iff,all_eq_true,all_eq_true];refine forall_congr' fun f=>forall_congr' fun hm=>?_
  have:=q03.1 (hf f hm);simp only [Bool.not_eq_true',decide_eq_false_iff_not,decide_eq_true_eq];omega
theorem qmp {a b:List Fil} {k:BA} (ha:∀ x∈a,blt x.1 k=true) (hb:∀ x∈b,blt k x.1=true):(a.filter fun x=>blt x.1 k)=a/\(b.filter fun x=>blt x.1 k)=[]/\(a.filter fun x=>blt k x.1)=[]/\(b.filter fun x=>blt k x.1)=b:=
 ⟨filter_eq_self.2 ha,List.filter_eq_nil_iff.2 fun x hx=>by rw [q4J (hb x hx)]; simp,List.filter_eq_nil_iff.2 fun x hx=>by rw [q4J (ha x hx)]; simp,filter_eq_self.2 hb⟩
theorem qqe {a b:List Fil} {k:BA} {u v:BA×Int} (ha:∀ x∈a,blt x.1 k=true) (hb:∀ x∈b,blt k x.1=true):putK k v (a++(k,u)::b)=a++(k,v)::b:=by
 obtain ⟨h1,h2,h3,h4⟩:=qmp ha hb;unfold putK;rw [filter_append,filter_append,filter_cons,filter_cons,h1,h2,h3,h4];simp only [q0v,false_eq_true,if_false,append_nil,nil_append]
theorem ql8 {a b:List Fil} {k:BA} {v:BA×Int} (ha:∀ x∈a,blt x.1 k=true) (hb:∀ x∈b,blt k x.1=true):putK k v (a++b)=a++(k,v)::b:=by
 obtain ⟨h1,h2,h3,h4⟩:=qmp ha hb;unfold putK;rw [filter_append,filter_append,h1,h2,h3,h4,append_nil,nil_append]
theorem qpK {a b:List Fil} {k:BA} {u:BA×Int} (ha:∀ x∈a,blt x.1 k=true) (hb:∀ x∈b,blt k x.1=true):delK k (a++(k,u)::b)=a++b:=by
 unfold delK;rw [filter_append,filter_cons];simp only [ne_eq,not_true_eq_false,decide_false,false_eq_true,if_false];rw [filter_eq_self.2 (fun x hx=>by simpa using zI (ha x hx)),filter_eq_self.2 (fun x hx=>by simpa using (zI (hb x hx)).symm)]
theorem qfZ {d:List Fil} (h:AscK d) {m:Nat} (hm:m < d.length):d=d.take m++d.getD m dF::d.drop (m+1)/\(∀ x∈d.take m,blt x.1 (d.getD m dF).1=true)/\(∀ x∈d.drop (m+1),blt (d.getD m dF).1 x.1=true):=by
 have e:d=d.take m++d.getD m dF::d.drop (m+1):=by
  rw [wT hm,<- List.drop_eq_getElem_cons hm,List.take_append_drop]
 refine ⟨e,?_⟩;have h':=h;unfold AscK at h';rw [e,List.pairwise_append] at h';exact ⟨fun x hx=>h'.2.2 x hx _ (mem_cons_self ..),fun x hx=>(List.pairwise_cons.1 h'.2.1).1 x hx⟩
theorem qpk {d:List Fil} (h:AscK d) {m:Nat} (hm:m < d.length) (v:BA×Int):d.set m ((d.getD m dF).1,v)=putK (d.getD m dF).1 v d:=by
 obtain ⟨e,h1,h2⟩:=qfZ h hm;have:=qqe (u:=(d.getD m dF).2) (v:=v) h1 h2;rw [<- e] at this;rw [this,List.set_eq_take_append_cons_drop,if_pos hm]
theorem qs2 {d:List Fil} (h:AscK d) {m:Nat} (hm:m < d.length):d.take m++d.drop (m+1)=delK (d.getD m dF).1 d:=by
 obtain ⟨e,h1,h2⟩:=qfZ h hm;have:=qpK (u:=(d.getD m dF).2) h1 h2;rw [<- e] at this;exact this.symm
theorem qlG (d:List Fil) (hn:d.length<=1000000000) (f:Fil):q0A d (f,())=some (idxI (fun x=>!(blt x.1 f.1||decide (x.1=f.1))) d 0,((),())):=by
 rw [q6J];refine q4w (fun i=>wE d (d.length:Int) i f.1 f.2.1 f.2.2) (fun x=>!(blt x.1 f.1||decide (x.1=f.1))) dF d (fun n=>some (n,((),()))) (fun i hi=>?_) ?_
 ·show wE d (d.length:Int) (i:Int) f.1 f.2.1 f.2.2=_;rw [q1e];have k1:decide ((i:Int) < (d.length:Int))=true:=dYT (by omega)
  have k2:decide (0<=(i:Int))=true:=dYT (by omega)
  have k4:w64 ((i:Int)+1)=((i+1:Nat):Int):=ql (by omega)
  simp only [k1,k2,k4,aS,cT,tN,qet,oB,y5,blt_eq]
 ·show wE d (d.length:Int) (d.length:Int) f.1 f.2.1 f.2.2=_;rw [q1e];have k1:decide ((d.length:Int) < (d.length:Int))=false:=dYF (by omega)
  simp only [k1,cF]
theorem qeI (d:List Fil) (hn:d.length<=2000000) (m:Nat) (hm:m<=d.length) (f:Fil):qU d (m:Int) [f]=some (d.take m++f::d.drop m,()):=by
 rw [ze];unfold insF;have k1:decide (0<=(m:Int))=true:=dYT (by omega)
 have k2:decide ((m:Int)<=(d.length:Int))=true:=dYT (by omega)
 have k3:lim (d.length+[f].length) 40=true:=qW (by simp; omega)
 simp only [k1,k2,k3,show decide (0 < [f].length)=true from rfl,aS,cT,tN,pA,List.singleton_append]
theorem qbM (d:List Fil) (h:AscK d) (hn:d.length<=2000000) (f:Fil):wN d f=some ((),(putK f.1 f.2 d,())):=by
 rw [qgF,qd1 d (by omega)]
 simp only [oB];rcases q0j d f.1 with ⟨h1,h2⟩ | ⟨m,hm,h2,h3,h4⟩
 ·have hno:=zq.1 h2;rw [h1,qlG d (by omega)]
  simp only [show decide ((-1:Int)>=0)=false from rfl,cF,oB]
  rcases q7b (fun x:Fil=>!(blt x.1 f.1||decide (x.1=f.1))) d 0 with ⟨q1,q2⟩ | ⟨k,q1,q2,q3,q4⟩
  ·have hall:∀ x∈d,blt x.1 f.1=true:=fun x hx=>by
    have:=q2 x hx;simpa [hno x hx] using this
   have hp:=ql8 (a:=d) (b:=[]) (v:=f.2) hall (fun x hx=>by cases hx)
   rw [append_nil] at hp;rw [q1,hp];simp only [show decide ((-1:Int) < 0)=true from rfl,cT,qeI d hn d.length (le_refl _),oB,List.take_length,List.drop_length]
  ·rw [q2,zero_add];have hd:d=d.take k++d.drop k:=(List.take_append_drop k d).symm;have ha:∀ x∈d.take k,blt x.1 f.1=true:=fun x hx=>by
    obtain ⟨j,hj,rfl⟩:=List.mem_iff_getElem.1 hx;rw [List.length_take] at hj;rw [List.getElem_take];have hjk:j < k:=by omega
    have:=q4 j _ hjk (List.getElem?_eq_getElem (by omega))
    have hne:=hno _ (List.getElem_mem (show j < d.length by omega))
    simpa [hne] using this
   have hk:blt f.1 (d.getD k dF).1=true:=by
    have:=q3 _ (List.getElem?_eq_getElem q1);rw [<- wT (d:=dF) q1] at this;simp only [Bool.not_eq_true',Bool.or_eq_false_iff,decide_eq_false_iff_not] at this;exact q0D this.2 this.1
   have hb:∀ x∈d.drop k,blt f.1 x.1=true:=fun x hx=>by
    rw [List.drop_eq_getElem_cons q1,<- wT (d:=dF) q1] at hx;rcases List.mem_cons.1 hx with rfl | hx
    ·exact hk
    ·exact q1n hk ((qfZ h q1).2.2 x hx)
   have hp:=ql8 (v:=f.2) ha hb;rw [<- hd] at hp;rw [hp];simp only [dYF (show ¬ (k:Int) < 0 by omega),cF,qeI d hn k (by omega),oB]
 ·rw [h2];simp only [dYT (show (m:Int)>=0 by omega),cT,dYT (show (0:Int)<=(m:Int) by omega),dYT (show (m:Int) < (d.length:Int) by omega),aS,tN]
  have:=qpk h hm f.2;rw [h4] at this;rw [<- this]
end Go.Den.S
