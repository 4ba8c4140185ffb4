/- OwnContents: equations of the functions of this seat as the executor tells them, or plain facts about them. Conditions: none here. -/
import Derived.Test.YthejgmhimclmdaaGreatDoorMidX
set_option linter.all false
open ByteArray (extract size toList)
open Int (tmod toNat toNat_natCast)
open List (drop_eq_nil_iff getD length length_cons length_drop)
open Nat (zero_le)
namespace Go.Den.S
open Go Go.Den Go.Proofs
noncomputable section
def q7t (a0:qp):Option (Bool×Unit):=DF X 3 ((a0,()):(qp)×Unit)
def jR (a0:qp):Option (((List qd)×Bool)×Unit):=DF X 14 ((a0,()):(qp)×Unit)
def q3J (x4:(List qd)) (x5:Int) (b0_0:q8) (b0_1:Int) (b0_2:Int) (b0_3:Int) (b0_4:(List qh)):Option (((List qd)×Bool)×Unit):=qA X 14 0 [] (mkSt 43 [(1,.sv (.ptr 0 0)),(4,.sv (.own 1000004)),(5,.sv (.int .i64 x5))] [(1000004,.live (.row qx x4 0)),(2000000,.gone),(2000004,.gone),(0,.live (.box [(.lst qj b0_0),(.int .i64 b0_1),(.int .i64 b0_2),(.int .i64 b0_3),(.lst qC b0_4)]))])
def q2f (a0:qp):Option (((List qd)×Bool)×Unit):=DF X 16 ((a0,()):(qp)×Unit)
def q3K (x4:(List qd)) (x13:(List qh)) (x14:Int) (x15:Int) (b0_0:q8) (b0_1:Int) (b0_2:Int) (b0_3:Int) (b0_4:(List qh)):Option (((List qd)×Bool)×Unit):=qA X 16 0 [] (mkSt 35 [(1,.sv (.ptr 0 0)),(4,.sv (.own 1000004)),(13,.sv (.lst qC x13)),(14,.sv (.int .i64 x14)),(15,.sv (.int .i64 x15))] [(1000004,.live (.row qx x4 0)),(1000013,.gone),(2000000,.gone),(2000004,.gone),(0,.live (.box [(.lst qj b0_0),(.int .i64 b0_1),(.int .i64 b0_2),(.int .i64 b0_3),(.lst qC b0_4)]))])
def q3S (a0:(List qd)) (a1:Int):Option (Int×Unit):=DF X 21 ((a0,a1,()):((List qd))×(Int)×Unit)
def q29 (x0:(List qd)) (x1:Int) (x5:Int):Option (Int×Unit):=qA X 21 0 [] (mkSt 44 [(0,.sv (.lst qx x0)),(1,.sv (.int .i64 x1)),(5,.sv (.int .i64 x5))] [(1000000,.gone)])
def qbE (a0:q8) (a1:qh):Option ((BA×Bool)×Unit):=DF X 69 ((a0,a1,()):(q8)×(qh)×Unit)
def q2p (x8:Int) (b16_0:BA) (b16_1:Int) (b16_2:Int) (b16_3:Int) (b_j_0:Int) (b_j_1:(List qd)):Option ((BA×Bool)×Unit):=qA X 69 0 [] (mkSt 61 [(3,.sv (.ptr 16 0)),(6,.sv (.ptr 3216 0)),(8,.sv (.int .i64 x8))] [(16,.live (.box [(.str b16_0),(.int .i64 b16_1),(.int .i64 b16_2),(.int .i64 b16_3)])),(2205825,.live (.row qx b_j_1 0)),(3216,.live (.box [(.int .i64 b_j_0),(.own 2205825)]))])
def qbO (a0:q8) (a1:qh):Option ((BA×Bool)×Unit):=DF X 72 ((a0,a1,()):(q8)×(qh)×Unit)
def q2r (x65:(List qd)) (x66:Int) (x67:Int) (b16_0:BA) (b16_1:Int) (b16_2:Int) (b16_3:Int):Option ((BA×Bool)×Unit):=qA X 72 0 [] (mkSt 84 [(3,.sv (.ptr 16 0)),(65,.sv (.own 1000065)),(66,.sv (.int .i64 x66)),(67,.sv (.int .i64 x67))] [(1000065,.live (.row qx x65 0)),(16,.live (.box [(.str b16_0),(.int .i64 b16_1),(.int .i64 b16_2),(.int .i64 b16_3)]))])
def qa0 (a0:q8) (a1:Int) (a2:Int):Option ((qQ×Bool)×Unit):=DF X 148 ((a0,a1,a2,()):(q8)×(Int)×(Int)×Unit)
end
theorem qca (a0:qp):q7t a0=((q15 a0 1048576).bind fun r3=>bif (decide (r3.1 < 0)) then some (true,()) else (yG a0).bind fun r4=>(jR r4.1).bind fun r5=>(yG a0).bind fun r6=>(q2f r6.1).bind fun r7=>(q1G r7.1.1 r5.1.1).bind fun r8=>bif (!r8.1) then some (false,()) else bif (!(r7.1.2==r5.1.2)) then some (false,()) else (yG a0).bind fun r9=>(wu r6.1 r9.1).bind fun r10=>bif (!r10.1) then some (false,()) else (zu r6.1 1).bind fun r11=>bif (decide (r11.1 < 0)) then some (false,()) else (q1G r7.1.1 r5.1.1).bind fun r12=>bif (!r12.1) then some (false,()) else bif (!(r7.1.2==r5.1.2)) then some (false,()) else (q3T r7.1.1 1).bind fun r13=>(q3S r13.2.1 1).bind fun r14=>bif (decide (r14.1 < 0)) then some (false,()) else bif (r14.1 != r13.1) then some (false,()) else (yG a0).bind fun r15=>(q2f r15.1).bind fun r16=>(q1G r16.1.1 r5.1.1).bind fun r17=>bif (!r17.1) then some (false,()) else bif (!(r16.1.2==r5.1.2)) then some (false,()) else (q3S r13.2.1 1).bind fun r18=>bif (decide (r18.1 < 0)) then some (false,()) else bif (r18.1 != r13.1) then some (false,()) else some (true,()):Option (Bool×Unit)):=(qo X rfl _).trans (by kernel_rfl)
theorem qiM (a0:qp):jR a0=((q3V a0).bind fun r3=>bif (!r3.1) then some (([],false),()) else q3J [] 0 a0.1 a0.2.1 a0.2.2.1 a0.2.2.2.1 a0.2.2.2.2:Option (((List qd)×Bool)×Unit)):=(qo X rfl _).trans (by kernel_rfl)
theorem q7Z (x4:(List qd)) (x5:Int) (b0_0:q8) (b0_1:Int) (b0_2:Int) (b0_3:Int) (b0_4:(List qh)):q3J x4 x5 b0_0 b0_1 b0_2 b0_3 b0_4=(bif (decide (x5 < (length b0_4:Int))) then bif ((decide (0<=x5))&&(decide (x5 < (length b0_4:Int)))) then (qbE b0_0 ((getD b0_4 (toNat x5) (eB,(0,(0,0)))).1,(((getD b0_4 (toNat x5) (eB,(0,(0,0)))).2).1,(((getD b0_4 (toNat x5) (eB,(0,(0,0)))).2).2)))).bind fun r9=>bif ((decide (0<=x5))&&(decide (x5 < (length b0_4:Int)))) then bif (lim ((length x4)+1) 40) then q3J (x4++[((getD b0_4 (toNat x5) (eB,(0,(0,0)))).1,(r9.1.1,false))]) (w64 (x5+1)) b0_0 b0_1 b0_2 b0_3 b0_4 else none else none else none else some ((x4,true),()):Option (((List qd)×Bool)×Unit)):=(ql X 14 0 [] _ _ _).trans (by kernel_rfl)
theorem qit (a0:qp):q2f a0=((q0v a0).bind fun r3=>bif (!r3.1) then some (([],false),()) else q3K [] a0.2.2.2.2 (length a0.2.2.2.2:Int) 0 a0.1 a0.2.1 a0.2.2.1 a0.2.2.2.1 a0.2.2.2.2:Option (((List qd)×Bool)×Unit)):=(qo X rfl _).trans (by kernel_rfl)
theorem q7W (x4:(List qd)) (x13:(List qh)) (x14:Int) (x15:Int) (b0_0:q8) (b0_1:Int) (b0_2:Int) (b0_3:Int) (b0_4:(List qh)):q3K x4 x13 x14 x15 b0_0 b0_1 b0_2 b0_3 b0_4=(bif (decide (x15 < x14)) then bif ((decide (0<=x15))&&(decide (x15 < (length x13:Int)))) then (qbO b0_0 ((getD x13 (toNat x15) (eB,(0,(0,0)))).1,(((getD x13 (toNat x15) (eB,(0,(0,0)))).2).1,(((getD x13 (toNat x15) (eB,(0,(0,0)))).2).2)))).bind fun r11=>bif (lim ((length x4)+1) 40) then q3K (x4++[((getD x13 (toNat x15) (eB,(0,(0,0)))).1,(r11.1.1,false))]) x13 x14 (w64 (x15+1)) b0_0 b0_1 b0_2 b0_3 b0_4 else none else none else some ((x4,true),()):Option (((List qd)×Bool)×Unit)):=(ql X 16 0 [] _ _ _).trans (by kernel_rfl)
theorem qfx (a0:(List qd)) (a1:Int):q3S a0 a1=(q29 a0 a1 0:Option (Int×Unit)):=(qo X rfl _).trans (by kernel_rfl)
theorem q5K (x0:(List qd)) (x1:Int) (x5:Int):q29 x0 x1 x5=(bif (decide (x5 < (length x0:Int))) then bif ((decide (0<=x5))&&(decide (x5 < (length x0:Int)))) then (yK x1).bind fun r5=>bif (!((toList ((getD x0 (toNat x5) (eB,(eB,false))).1))==(toList r5.1))) then some ((-1),()) else bif ((decide (0<=x5))&&(decide (x5 < (length x0:Int)))) then (yK (w64 (x1+1))).bind fun r6=>bif (!((toList (((getD x0 (toNat x5) (eB,(eB,false))).2).1))==(toList r6.1))) then some ((-1),()) else bif ((decide (0<=x5))&&(decide (x5 < (length x0:Int)))) then bif (!(((getD x0 (toNat x5) (eB,(eB,false))).2).2==((tmod (w64 ((w64 (x1+1))+1)) 3)==0))) then some ((-1),()) else q29 x0 (w64 ((w64 ((w64 (x1+1))+1))+1)) (w64 (x5+1)) else none else none else none else some (x1,()):Option (Int×Unit)):=(ql X 21 0 [] _ _ _).trans (by kernel_rfl)
theorem qkc (a0:q8) (a1:qh):qbE a0 a1=((qO a0).bind fun r4=>bif (!r4.1) then some ((eB,false),()) else (qa0 a0 a1.2.1 a1.2.2.1).bind fun r5=>bif (!r5.1.2) then some ((eB,false),()) else bif (r5.1.1.1 != a1.2.2.2) then some ((eB,false),()) else q2p 0 a1.1 a1.2.1 a1.2.2.1 a1.2.2.2 r5.1.1.1 r5.1.1.2:Option ((BA×Bool)×Unit)):=(qo X rfl _).trans (by kernel_rfl)
theorem q8Z (x8:Int) (b16_0:BA) (b16_1:Int) (b16_2:Int) (b16_3:Int) (b_j_0:Int) (b_j_1:(List qd)):q2p x8 b16_0 b16_1 b16_2 b16_3 b_j_0 b_j_1=(bif (decide (x8 < (length b_j_1:Int))) then bif ((decide (0<=x8))&&(decide (x8 < (length b_j_1:Int)))) then bif ((toList ((getD b_j_1 (toNat x8) (eB,(eB,false))).1))==(toList b16_0)) then bif ((decide (0<=x8))&&(decide (x8 < (length b_j_1:Int)))) then bif (!((getD b_j_1 (toNat x8) (eB,(eB,false))).2).2) then bif ((decide (0<=x8))&&(decide (x8 < (length b_j_1:Int)))) then some ((((getD b_j_1 (toNat x8) (eB,(eB,false))).2).1,true),()) else none else q2p (w64 (x8+1)) b16_0 b16_1 b16_2 b16_3 b_j_0 b_j_1 else none else q2p (w64 (x8+1)) b16_0 b16_1 b16_2 b16_3 b_j_0 b_j_1 else none else some ((eB,false),()):Option ((BA×Bool)×Unit)):=(ql X 69 0 [] _ _ _).trans (by kernel_rfl)
theorem qjL (a0:q8) (a1:qh):qbO a0 a1=((wI a1.2.1).bind fun r4=>(q0d a0 r4.1).bind fun r5=>(yD a0).bind fun r6=>bif (!r6.1) then some ((eB,false),()) else bif (!r5.1.2) then some ((eB,false),()) else (wL a1.2.2.1 0 (size r5.1.1:Int)).bind fun r7=>bif (!r7.1) then some ((eB,false),()) else bif ((decide (0<=a1.2.2.1))&&((decide (a1.2.2.1<=(size r5.1.1:Int)))&&(decide ((size r5.1.1:Int)<=(size r5.1.1:Int))))) then (q4R (extract r5.1.1 (toNat a1.2.2.1) (toNat (size r5.1.1:Int)))).bind fun r8=>bif ((length r8.1.1:Int)==0) then some ((eB,false),()) else bif ((decide ((0:Int)<=0))&&(decide (0 < (length r8.1.1:Int)))) then (q5u (getD r8.1.1 (toNat 0) eB)).bind fun r9=>bif (!r9.1.2) then some ((eB,false),()) else bif (r9.1.1.1 != a1.2.2.2) then some ((eB,false),()) else q2r r9.1.1.2 (length r9.1.1.2:Int) 0 a1.1 a1.2.1 a1.2.2.1 a1.2.2.2 else none else none:Option ((BA×Bool)×Unit)):=(qo X rfl _).trans (by kernel_rfl)
theorem q9b (x65:(List qd)) (x66:Int) (x67:Int) (b16_0:BA) (b16_1:Int) (b16_2:Int) (b16_3:Int):q2r x65 x66 x67 b16_0 b16_1 b16_2 b16_3=(bif (decide (x67 < x66)) then bif ((decide (0<=x67))&&(decide (x67 < (length x65:Int)))) then bif ((toList ((getD x65 (toNat x67) (eB,(eB,false))).1))==(toList b16_0)) then bif (!((getD x65 (toNat x67) (eB,(eB,false))).2).2) then some ((((getD x65 (toNat x67) (eB,(eB,false))).2).1,true),()) else q2r x65 x66 (w64 (x67+1)) b16_0 b16_1 b16_2 b16_3 else q2r x65 x66 (w64 (x67+1)) b16_0 b16_1 b16_2 b16_3 else none else some ((eB,false),()):Option ((BA×Bool)×Unit)):=(ql X 72 0 [] _ _ _).trans (by kernel_rfl)
theorem qiv (a0:q8) (a1:Int) (a2:Int):qa0 a0 a1 a2=((wR a1).bind fun r5=>(q1t a0 r5.1).bind fun r6=>bif (!r6.1.2) then some (((0,[]),false),()) else (wK a2 0 (size r6.1.1:Int)).bind fun r7=>bif (!r7.1) then some (((0,[]),false),()) else bif ((decide (0<=a2))&&((decide (a2<=(size r6.1.1:Int)))&&(decide ((size r6.1.1:Int)<=(size r6.1.1:Int))))) then (q4I (extract r6.1.1 (toNat a2) (toNat (size r6.1.1:Int)))).bind fun r8=>bif ((length r8.1.1:Int)==0) then some (((0,[]),false),()) else bif ((decide ((0:Int)<=0))&&(decide (0 < (length r8.1.1:Int)))) then (q5a (getD r8.1.1 (toNat 0) eB)).bind fun r9=>some (r9.1,()) else none else none:Option ((qQ×Bool)×Unit)):=(qo X rfl _).trans (by kernel_rfl)
end Go.Den.S
namespace Go.Den.S
open Go Go.Den
noncomputable def valD (d:List Fil) (s:Spt):Option BA:=if s.2.1 < 0 then none else (getK (nmL s.2.1.toNat) d).bind fun x=>
 if s.2.2.1 < 0\/(x.1.size:Int) < s.2.2.1 then none else match (unfr ((bl x.1).drop s.2.2.1.toNat)).1 with
  | []=>none
  | h::_=>(q0b h).bind fun b=>if b.1=s.2.2.2 then (b.2.find? fun c=>decide (c.1=s.1)&&!c.2.2).map (·.2.1) else none
end Go.Den.S
namespace Go.Den.S
open Go Go.Den
set_option maxRecDepth 4000
def qco (k:BA) (l:List Chg):BA×Bool:=match l.find? (fun c=>decide (c.1=k)&&!c.2.2) with
 | some c=>(c.2.1,true)
 | none=>(eB,false)
theorem qjE (k:BA) (c:Chg) (r:List Chg):qco k (c::r)=bif decide (c.1=k) then (bif !c.2.2 then (c.2.1,true) else qco k r) else qco k r:=by
 unfold qco;rw [List.find?_cons];cases decide (c.1=k)<;>cases c.2.2<;>rfl
theorem qf3 (s:Spt) (cs:List Chg) (hn:cs.length<=1000000000):∀ (r:List Chg) (i:Nat),cs.drop i=r->i<=cs.length->
  q2r cs (cs.length:Int) (i:Int) s.1 s.2.1 s.2.2.1 s.2.2.2=some (qco s.1 r,())
 | [],i,hd,hi=>by
  have:=drop_eq_nil_iff.1 hd;rw [q9b];have k1:decide ((i:Int) < (cs.length:Int))=false:=dYF (by omega)
  simp only [k1,cF]; rfl
 | c::r,i,hd,hi=>by
  obtain ⟨e1,hlt,e2⟩:=qK dC hd;rw [q9b];have k1:decide ((i:Int) < (cs.length:Int))=true:=dYT (by omega)
  have k2:decide (0<=(i:Int))=true:=dYT (by omega)
  have k4:w64 ((i:Int)+1)=((i+1:Nat):Int):=qw (by omega)
  rw [k1,k2];simp only [Bool.and_self,cT,k4,toNat_natCast,e1,y8,qf3 s cs hn r (i+1) e2 hlt,qjE];cases decide (c.1=s.1)<;>cases c.2.2<;>rfl
theorem qfj (s:Spt) (q:Int) (cs:List Chg) (hn:cs.length<=1000000000):∀ (r:List Chg) (i:Nat),cs.drop i=r->i<=cs.length->
  q2p (i:Int) s.1 s.2.1 s.2.2.1 s.2.2.2 q cs=some (qco s.1 r,())
 | [],i,hd,hi=>by
  have:=drop_eq_nil_iff.1 hd;rw [q8Z];have k1:decide ((i:Int) < (cs.length:Int))=false:=dYF (by omega)
  simp only [k1,cF]; rfl
 | c::r,i,hd,hi=>by
  obtain ⟨e1,hlt,e2⟩:=qK dC hd;rw [q8Z];have k1:decide ((i:Int) < (cs.length:Int))=true:=dYT (by omega)
  have k2:decide (0<=(i:Int))=true:=dYT (by omega)
  have k4:w64 ((i:Int)+1)=((i+1:Nat):Int):=qw (by omega)
  rw [k1,k2];simp only [Bool.and_self,cT,k4,toNat_natCast,e1,y8,qfj s q cs hn r (i+1) e2 hlt,qjE];cases decide (c.1=s.1)<;>cases c.2.2<;>rfl
noncomputable def q62 (d:List Fil) (n:Nat) (a:Int):Option Bat:=(getK (nmL n) d).bind fun x=>
 if a < 0\/(x.1.size:Int) < a then none else match (unfr ((bl x.1).drop a.toNat)).1 with
  | []=>none
  | h::_=>q0b h
theorem qaZ (d:List Fil) (s:Spt) {n:Nat} (h:s.2.1=(n:Int)):valD d s=(q62 d n s.2.2.1).bind fun b=>if b.1=s.2.2.2 then (b.2.find? fun c=>decide (c.1=s.1)&&!c.2.2).map (·.2.1) else none:=by
 unfold valD q62;rw [h,if_neg (by omega),toNat_natCast]
 cases getK (nmL n) d with
 | none=>rfl
 | some x=>
  simp only [oB];split
  ·rfl
  ·cases (unfr ((bl x.1).drop s.2.2.1.toNat)).1 with
   | nil=>rfl
   | cons h r=>rfl
noncomputable def voO (d:List Fil) (s:Spt):BA×Bool:=match valD d s with
 | some v=>(v,true)
 | none=>(eB,false)
theorem qbm {d:List Fil} {s:Spt} (h:valD d s=none):voO d s=(eB,false):=by unfold voO; rw [h]
theorem qoW {d:List Fil} {s:Spt} {n:Nat} (h:s.2.1=(n:Int)) {b:Bat} (hb:q62 d n s.2.2.1=some b):voO d s=bif (b.1 != s.2.2.2) then (eB,false) else qco s.1 b.2:=by
 unfold voO;rw [qaZ d s h,hb];simp only [oB];by_cases e:b.1=s.2.2.2
 ·have:(b.1 != s.2.2.2)=false:=by rw [e]; simp
  rw [this,if_pos e,cF];unfold qco;cases b.2.find? fun c=>decide (c.1=s.1)&&!c.2.2<;>rfl
 ·have:(b.1 != s.2.2.2)=true:=bne_iff_ne.2 e;rw [this,if_neg e,cT]
theorem qh9 (t:BA) (a:Nat):bl (t.extract a t.size)=(bl t).drop a:=by
 rw [q4M,List.take_of_length_le];rw [length_drop,<- qW]; omega
theorem qn2 {h:BA} {b:Bat} (e:q0b h=some b):b.2.length<=40:=qcD (q2m.1 e).1
noncomputable def baO (d:List Fil) (n:Nat) (a:Int):Bat×Bool:=match q62 d n a with
 | some b=>(b,true)
 | none=>((0,[]),false)
theorem qic (d:List Fil) (hd:dOkB d=true) {n:Nat} (hn:n < 100) (a:Int):qa0 d (n:Int) a=some (baO d n a,()):=by
 have hl:=(qG.1 hd).1;rw [qiv,wH,zl hn];simp only [oB];rw [q1F d (by omega)]
 unfold faO baO q62;cases hg:getK (nmL n) d with
 | none=>rfl
 | some x=>
  have hf:=(yj (qG.1 hd).2.2).1 hg;have hx:x.1.size<=20000:=(jg.1 ((qG.1 hd).2.1 _ hf)).2.2.1;simp only [oB,Bool.not_true,cF,jy,q0V];by_cases ha:0<=a/\a<=(x.1.size:Int)
  ·rw [dYT ha,if_neg (by omega),dYT ha.1,dYT ha.2,dYT (Int.le_refl _),qcB]
   simp only [Bool.not_true,cF,Bool.and_self,cT,oB,toNat_natCast];have hu:(unO (x.1.extract a.toNat x.1.size)).1=(unfr ((bl x.1).drop a.toNat)).1:=by
    unfold unO;rw [if_pos (by rw [qW,qh9,length_drop,<- qW]; omega),qh9]
   have hf:=fun h=>qgt (t:=x.1.extract a.toNat x.1.size) (h:=h)
   rw [hu] at hf ⊢;cases hc:(unfr ((bl x.1).drop a.toNat)).1 with
   | nil=>rfl
   | cons h r=>
    have hh:frOk h:=hf h (by rw [hc]; exact List.mem_cons_self ..)
    have k1:(((h::r).length:Int)==0)=false:=by rw [beq_eq_false_iff_ne,length_cons]; omega
    have k2:decide ((0:Int) < ((h::r).length:Int))=true:=dYT (by rw [length_cons]; omega)
    have k3:decide ((0:Int)<=0)=true:=rfl;have k4:(h::r).getD (toNat 0) eB=h:=rfl;rw [k1,k2,k3,k4,qax h (by have:=hh.2; omega)]
    rfl
  ·rw [dYF ha,if_pos (by omega)]; rfl
theorem qkT (d:List Fil) (hd:dOkB d=true) (s:Spt) {n:Nat} (hn:n < 100) (h:s.2.1=(n:Int)):qbE d s=some (voO d s,()):=by
 have hl:=(qG.1 hd).1;rw [qkc,zO d (by omega),hd,h,qic d hd hn]
 simp only [oB,Bool.not_true,cF];unfold baO;cases hb:q62 d n s.2.2.1 with
 | none=>rw [qbm (by rw [qaZ d s h,hb]; rfl)]; rfl
 | some b=>
  have hb40:b.2.length<=40:=by
   unfold q62 at hb;obtain ⟨x,_,hx⟩:=Option.bind_eq_some_iff.1 hb;split at hx
   ·cases hx
   ·split at hx
    ·cases hx
    ·exact qn2 hx
  rw [qoW h hb];simp only [Bool.not_true,cF];have:=qfj s b.1 b.2 (by omega) b.2 0 rfl (zero_le _)
  rw [h] at this;rw [show ((0:Int))=((0:Nat):Int) from rfl,this]
  cases (b.1 != s.2.2.2)<;>rfl
theorem qkM (d:List Fil) (hd:dOkB d=true) (s:Spt) {n:Nat} (hn:n < 100) (h:s.2.1=(n:Int)):qbO d s=some (voO d s,()):=by
 have hl:=(qG.1 hd).1;rw [qjL,wP,h,zl hn];simp only [oB];rw [q05 d (by omega)]
 simp only [oB];rw [zP d (by omega),hd]
 unfold faO;cases hg:getK (nmL n) d with
 | none=>rw [qbm (by rw [qaZ d s h]; unfold q62; rw [hg]; rfl)]; rfl
 | some x=>
  have hf:=(yj (qG.1 hd).2.2).1 hg;have hx:x.1.size<=20000:=(jg.1 ((qG.1 hd).2.1 _ hf)).2.2.1;simp only [oB,Bool.not_true,cF,q00,q0V];by_cases ha:0<=s.2.2.1/\s.2.2.1<=(x.1.size:Int)
  ·rw [dYT ha,dYT ha.1,dYT ha.2,dYT (Int.le_refl _),q7e];simp only [Bool.not_true,cF,Bool.and_self,cT,oB,toNat_natCast];have hu:(unO (x.1.extract s.2.2.1.toNat x.1.size)).1=(unfr ((bl x.1).drop s.2.2.1.toNat)).1:=by
    unfold unO;rw [if_pos (by rw [qW,qh9,length_drop,<- qW]; omega),qh9]
   have hf:=fun h=>qgt (t:=x.1.extract s.2.2.1.toNat x.1.size) (h:=h)
   have hba:q62 d n s.2.2.1=match (unfr ((bl x.1).drop s.2.2.1.toNat)).1 with | []=>none | h::_=>q0b h:=by
    unfold q62;rw [hg,oB,if_neg (by omega)]
   rw [hu] at hf ⊢;cases hc:(unfr ((bl x.1).drop s.2.2.1.toNat)).1 with
   | nil=>rw [hc] at hba; rw [qbm (by rw [qaZ d s h,hba]; rfl)]; rfl
   | cons t r=>
    have hh:frOk t:=hf t (by rw [hc]; exact List.mem_cons_self ..)
    have k1:(((t::r).length:Int)==0)=false:=by rw [beq_eq_false_iff_ne,length_cons]; omega
    have k2:decide ((0:Int) < ((t::r).length:Int))=true:=dYT (by rw [length_cons]; omega)
    have k3:decide ((0:Int)<=0)=true:=rfl;have k4:(t::r).getD (toNat 0) eB=t:=rfl;rw [k1,k2,k3,k4,qai t (by have:=hh.2; omega)]
    rw [hc] at hba;have hba:q62 d n s.2.2.1=q0b t:=hba;simp only [cF,Bool.and_self,cT,oB];cases hb:q0b t with
    | none=>rw [qi0 hb,qbm (by rw [qaZ d s h,hba,hb]; rfl)]; rfl
    | some b=>
     have hb40:=qn2 hb;rw [qiI hb,qoW h (hba.trans hb)];simp only [Bool.not_true,cF];have:=qf3 s b.2 (by omega) b.2 0 rfl (zero_le _)
     rw [h] at this;rw [show ((0:Int))=((0:Nat):Int) from rfl,this]
     cases (b.1 != s.2.2.2)<;>rfl
  ·rw [dYF ha,qbm (by
    rw [qaZ d s h]; unfold q62; rw [hg,oB,if_pos (by omega)]; rfl)]; rfl
end Go.Den.S
namespace Go.Den.S
open Go Go.Den
open Classical
set_option maxRecDepth 4000
noncomputable def conS (d:List Fil) (l:List Spt):List Chg:=l.map fun s=>(s.1,((voO d s).1,false))
theorem qdP (e:Eng) (hd:dOkB e.1=true) (l:List Spt) (hl:l.length<=1000000000) (hs:∀ s∈l,∃ n:Nat,n < 100/\s.2.1=(n:Int)):∀ (r:List Spt) (i:Nat) (acc:List Chg),l.drop i=r->i<=l.length->acc.length<=i->
  q3K acc l (l.length:Int) (i:Int) e.1 e.2.1 e.2.2.1 e.2.2.2.1 e.2.2.2.2=some ((acc++conS e.1 r,true),())
 | [],i,acc,hd',hi,ha=>by
  have:=drop_eq_nil_iff.1 hd';rw [q7W];have k1:decide ((i:Int) < (l.length:Int))=false:=dYF (by omega)
  simp only [k1,cF];show _=some ((acc++[],true),());rw [List.append_nil]
 | s::r,i,acc,hd',hi,ha=>by
  obtain ⟨e1,hlt,e2⟩:=qK dS hd';obtain ⟨n,hn,h⟩:=hs s (yL hd');rw [q7W];have k1:decide ((i:Int) < (l.length:Int))=true:=dYT (by omega)
  have k2:decide (0<=(i:Int))=true:=dYT (by omega)
  have k4:w64 ((i:Int)+1)=((i+1:Nat):Int):=qw (by omega)
  have kl:lim (acc.length+1) 40=true:=qJ (by omega)
  rw [k1,k2];simp only [Bool.and_self,cT,k4,toNat_natCast,e1,pmk];rw [qkM e.1 hd s hn h];simp only [oB];rw [kl,cT,qdP e hd l hl hs r (i+1) _ e2 hlt (by rw [List.length_append,List.length_singleton]; omega),List.append_assoc]
  rfl
theorem qdU (e:Eng) (hd:dOkB e.1=true) (hl:e.2.2.2.2.length<=1000000000) (hs:∀ s∈e.2.2.2.2,∃ n:Nat,n < 100/\s.2.1=(n:Int)):∀ (r:List Spt) (i:Nat) (acc:List Chg),e.2.2.2.2.drop i=r->i<=e.2.2.2.2.length->acc.length<=i->
  q3J acc (i:Int) e.1 e.2.1 e.2.2.1 e.2.2.2.1 e.2.2.2.2=some ((acc++conS e.1 r,true),())
 | [],i,acc,hd',hi,ha=>by
  have:=drop_eq_nil_iff.1 hd';rw [q7Z];have k1:decide ((i:Int) < (e.2.2.2.2.length:Int))=false:=dYF (by omega)
  simp only [k1,cF];show _=some ((acc++[],true),());rw [List.append_nil]
 | s::r,i,acc,hd',hi,ha=>by
  obtain ⟨e1,hlt,e2⟩:=qK dS hd';obtain ⟨n,hn,h⟩:=hs s (yL hd');rw [q7Z];have k1:decide ((i:Int) < (e.2.2.2.2.length:Int))=true:=dYT (by omega)
  have k2:decide (0<=(i:Int))=true:=dYT (by omega)
  have k4:w64 ((i:Int)+1)=((i+1:Nat):Int):=qw (by omega)
  have kl:lim (acc.length+1) 40=true:=qJ (by omega)
  rw [k1,k2];simp only [Bool.and_self,cT,k4,toNat_natCast,e1,pmk];rw [qkT e.1 hd s hn h];simp only [oB];rw [kl,cT,qdU e hd hl hs r (i+1) _ e2 hlt (by rw [List.length_append,List.length_singleton]; omega),List.append_assoc]
  rfl
noncomputable def coO (e:Eng):List Chg×Bool:=if eOkP e then (conS e.1 e.2.2.2.2,true) else ([],false)
theorem q6o (e:Eng) (hd:e.1.length<=2000000):q2f e=some (coO e,()):=by
 rw [qit,q0H e hd];unfold coO;by_cases h:eOkP e
 ·obtain ⟨f1,f2,f3⟩:=q6w h;rw [dYT h,if_pos h];exact qdP e f1 e.2.2.2.2 (by omega) f3 e.2.2.2.2 0 [] rfl (zero_le _) (Nat.le_refl _)
 ·rw [dYF h,if_neg h]; rfl
theorem jS (e:Eng) (hd:e.1.length<=2000000):jR e=some (coO e,()):=by
 rw [qiM,q6k e hd];unfold coO;by_cases h:eOkP e
 ·obtain ⟨f1,f2,f3⟩:=q6w h;rw [dYT h,if_pos h];exact qdU e f1 (by omega) f3 e.2.2.2.2 0 [] rfl (zero_le _) (Nat.le_refl _)
 ·rw [dYF h,if_neg h]; rfl
end Go.Den.S
namespace Go.Den.S
open Go Go.Den
set_option maxRecDepth 4000
theorem qls (n:Nat) (k:Int) (h0:0<=k) (hl:n<=200000000) (hk:k<=1000000000):q3S (zQ k n) k=some (k+3 * (n:Int),()):=by
 rw [qfx];have key:∀ (n:Nat) (pre:List Chg) (k:Int),0<=k->k+3 * (n:Int)<=2000000000->pre.length+n<=200000000->q29 (pre++zQ k n) k (pre.length:Int)=some (k+3 * (n:Int),()):=by
  intro n;induction n with
  | zero=>
   intro pre k h0 hk hp;rw [q5K];have k1:decide ((pre.length:Int) < ((pre++zQ k 0).length:Int))=false:=dYF (by simp [zQ])
   simp only [k1,cF];simp
  | succ n ih=>
   intro pre k h0 hk hp;rw [q5K];have k1:decide ((pre.length:Int) < ((pre++zQ k (n+1)).length:Int))=true:=dYT (by simp [zQ]; omega)
   have k2:decide (0<=(pre.length:Int))=true:=dYT (by omega)
   have k3:w64 ((pre.length:Int)+1)=((pre.length+1:Nat):Int):=qw (by omega)
   have hg:(pre++zQ k (n+1)).getD pre.length (eB,(eB,false))=q49 k:=by simp [List.getD_eq_getElem?_getD,zQ]
   have w1:w64 (k+1)=k+1:=(qg (by omega) (by omega)).trans (by omega)
   have w2:w64 (k+1+1)=k+2:=(qg (by omega) (by omega)).trans (by omega)
   have w3:w64 (k+2+1)=k+3:=(qg (by omega) (by omega)).trans (by omega)
   simp only [k1,k2,k3,w1,w2,w3,Bool.and_self,cT,toNat_natCast,hg,show (q49 k).1=mkT k from rfl,show (q49 k).2.1=mkT (k+1) from rfl,show (q49 k).2.2=(tmod (k+2) 3==0) from rfl,wW k (by omega),wW (k+1) (by omega),oB,y8,decide_true,Bool.not_true,cF,bne_self_eq_false,beq_self_eq_true]
   have e':pre++zQ k (n+1)=(pre++[q49 k])++zQ (k+3) n:=by simp [zQ]
   rw [e'];have:=ih (pre++[q49 k]) (k+3) (by omega) (by omega) (by simp only [List.length_append,List.length_singleton]; omega)
   rw [show (pre++[q49 k]).length=pre.length+1 by simp] at this
   refine this.trans ?_;rw [show k+3+3 * (n:Int)=k+3 * ((n+1:Nat):Int) by omega]
 have:=key n [] k h0 (by omega) (by simpa using hl)
 simpa using this
end Go.Den.S
namespace Go.Den.S
open Go Go.Den
open Classical
set_option maxRecDepth 4000
theorem quN (d:List Fil) (l:List Spt):(conS d l).length=l.length:=by unfold conS; rw [List.length_map]
theorem qvM (e:Eng):(coO e).1.length<=80000000:=by
 unfold coO;split
 ·rename_i h;rw [quN]; exact (q6w h).2.1
 ·exact zero_le _
theorem qp6 (e:Eng) (hw:Wf qP e):q7t e=some (true,()):=by
 rw [qca,q5F e 1048576 (by omega) (by omega) (qgD hw),oB]
 by_cases hn:szv (wEng e) 1048576 < 0
 ·simp only [dYT hn,cT]
 ·obtain ⟨k5,k6⟩:=q5p hn;obtain ⟨l1,l2⟩:=qkI (e:=e) (n:=1048576) (by omega)
  have l3:=qvM e;simp only [dYF hn,cF];simp only [q5L e (by omega) (by omega),jS e (by omega),q6o e (by omega),oB,qg5 (coO e).1 (coO e).1 (by omega),decide_true,Bool.not_true,Bool.not_false,beq_self_eq_true,bne_self_eq_false,cT,cF,q1u e e (by omega) (by omega),
   q0x e 1 (by omega) (by omega) (by omega) (by omega),dYF (show ¬ (1:Int)+3 * (e.1.length:Int)+4 * (e.2.2.2.2.length:Int) < 0 by omega),
   qdq (coO e).1 1 (by omega) (by omega) (by omega),qls (coO e).1.length 1 (by omega) (by omega) (by omega),dYF (show ¬ (1:Int)+3 * ((coO e).1.length:Int) < 0 by omega)]
end Go.Den.S
