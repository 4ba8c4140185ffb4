/- OwnMerge: equations of the functions of this seat as the executor tells them, or plain facts about them. Conditions: none here. -/
import Derived.Test.YthejgmhimclmdaaGreatDoorMidX
set_option linter.all false
open Int (toNat)
open List (getD length length_append mem_cons mem_flatMap mem_map)
open Nat (zero_le)
namespace Go.Den.S
open Go Go.Den Go.Proofs
noncomputable section
def qad (a0:qp):Option (Bool×Unit):=DF X 9 ((a0,()):(qp)×Unit)
def q5e (a0:qp):Option ((qp×(List qz)×Bool)×Unit):=DF X 30 ((a0,()):(qp)×Unit)
def q5Z (x26:Int) (x27:Int) (b0_0:q8) (b0_1:Int) (b0_2:Int) (b0_3:Int) (b0_4:(List qh)) (b16_0:q8) (b16_1:Int) (b16_2:Int) (b16_3:Int) (b16_4:(List qh)) (r_d:(List qz)) (b_e_0:q8):Option ((qp×(List qz)×Bool)×Unit):=qA X 30 0 [] (mkSt 62 [(1,.sv (.ptr 0 0)),(2,.sv (.ptr 16 0)),(5,.sv (.own 1040)),(7,.sv (.ptr 4128 0)),(25,.sv (.own 1040)),(26,.sv (.int .i64 x26)),(27,.sv (.int .i64 x27))] [(2000000,.gone),(2000004,.gone),(0,.live (.box [(.lst qj b0_0),(.int .i64 b0_1),(.int .i64 b0_2),(.int .i64 b0_3),(.lst qC b0_4)])),(2001024,.live (.row qj b16_0 0)),(2001028,.live (.row qC b16_4 0)),(16,.live (.box [(.own 2001024),(.int .i64 b16_1),(.int .i64 b16_2),(.int .i64 b16_3),(.own 2001028)])),(1040,.live (.row qY r_d 0)),(2264192,.gone),(4128,.live (.box [(.lst qj b_e_0)]))])
def q3C (a0:qp):Option ((qp×(List qz)×Bool)×Unit):=DF X 41 ((a0,()):(qp)×Unit)
def q65 (x5:(List qz)) (x8:Int) (b0_0:q8) (b0_1:Int) (b0_2:Int) (b0_3:Int) (b0_4:(List qh)) (b16_0:q8) (b16_1:Int) (b16_2:Int) (b16_3:Int) (b16_4:(List qh)) (b_e_0:q8):Option ((qp×(List qz)×Bool)×Unit):=qA X 41 0 [] (mkSt 66 [(1,.sv (.ptr 0 0)),(2,.sv (.ptr 16 0)),(5,.sv (.own 1000005)),(7,.sv (.ptr 4128 0)),(8,.sv (.int .i64 x8))] [(1000005,.live (.row qY x5 0)),(2000000,.gone),(2000004,.gone),(0,.live (.box [(.lst qj b0_0),(.int .i64 b0_1),(.int .i64 b0_2),(.int .i64 b0_3),(.lst qC b0_4)])),(2001024,.live (.row qj b16_0 0)),(2001028,.live (.row qC b16_4 0)),(16,.live (.box [(.own 2001024),(.int .i64 b16_1),(.int .i64 b16_2),(.int .i64 b16_3),(.own 2001028)])),(2264192,.gone),(4128,.live (.box [(.lst qj b_e_0)]))])
end
theorem qev (a0:qp):qad a0=((q15 a0 1048576).bind fun r3=>bif (decide (r3.1 < 0)) then some (true,()) else (yG a0).bind fun r4=>(q3C r4.1).bind fun r5=>(yG a0).bind fun r6=>(q5e r6.1).bind fun r7=>(wu r7.1.1 r5.1.1).bind fun r8=>bif (!r8.1) then some (false,()) else (jf r7.1.2.1 r5.1.2.1).bind fun r9=>bif (!r9.1) then some (false,()) else bif (!(r7.1.2.2==r5.1.2.2)) then some (false,()) else (yG a0).bind fun r10=>(wu r6.1 r10.1).bind fun r11=>bif (!r11.1) then some (false,()) else (zu r6.1 1).bind fun r12=>bif (decide (r12.1 < 0)) then some (false,()) else (wu r7.1.1 r5.1.1).bind fun r13=>bif (!r13.1) then some (false,()) else (jf r7.1.2.1 r5.1.2.1).bind fun r14=>bif (!r14.1) then some (false,()) else bif (!(r7.1.2.2==r5.1.2.2)) then some (false,()) else (zu r7.1.1 1).bind fun r15=>(q2i r7.1.2.1 r15.1).bind fun r16=>(zX (r15.2.1.1,(r7.1.1.2.1,(r7.1.1.2.2.1,(r7.1.1.2.2.2.1,r15.2.1.2.2.2.2)))) 1).bind fun r17=>bif (decide (r17.1 < 0)) then some (false,()) else (q0y r16.2.1 r17.1).bind fun r18=>bif (decide (r18.1 < 0)) then some (false,()) else bif (r18.1 != r16.1) then some (false,()) else (yG a0).bind fun r19=>(q5e r19.1).bind fun r20=>(wu r20.1.1 r5.1.1).bind fun r21=>bif (!r21.1) then some (false,()) else (jf r20.1.2.1 r5.1.2.1).bind fun r22=>bif (!r22.1) then some (false,()) else bif (!(r20.1.2.2==r5.1.2.2)) then some (false,()) else (zX (r15.2.1.1,(r7.1.1.2.1,(r7.1.1.2.2.1,(r7.1.1.2.2.2.1,r15.2.1.2.2.2.2)))) 1).bind fun r23=>bif (decide (r23.1 < 0)) then some (false,()) else (q0y r16.2.1 r23.1).bind fun r24=>bif (decide (r24.1 < 0)) then some (false,()) else bif (r24.1 != r16.1) then some (false,()) else some (true,()):Option (Bool×Unit)):=(qo X rfl _).trans (by kernel_rfl)
theorem qnn (a0:qp):q5e a0=((q1E a0).bind fun r3=>bif (!r3.1.2) then some ((([],(0,(0,(0,[])))),([],false)),()) else q5Z (length r3.1.1:Int) 0 a0.1 a0.2.1 a0.2.2.1 a0.2.2.2.1 a0.2.2.2.2 [] 0 0 0 [] r3.1.1 a0.1:Option ((qp×(List qz)×Bool)×Unit)):=(qo X rfl _).trans (by kernel_rfl)
theorem qbu (x26:Int) (x27:Int) (b0_0:q8) (b0_1:Int) (b0_2:Int) (b0_3:Int) (b0_4:(List qh)) (b16_0:q8) (b16_1:Int) (b16_2:Int) (b16_3:Int) (b16_4:(List qh)) (r_d:(List qz)) (b_e_0:q8):q5Z x26 x27 b0_0 b0_1 b0_2 b0_3 b0_4 b16_0 b16_1 b16_2 b16_3 b16_4 r_d b_e_0=(bif (decide (x27 < x26)) then bif ((decide (0<=x27))&&(decide (x27 < (length r_d:Int)))) then (qaC b_e_0 ((getD r_d (toNat x27) (0,(eB,(eB,eB)))).1,(((getD r_d (toNat x27) (0,(eB,(eB,eB)))).2).1,(((getD r_d (toNat x27) (0,(eB,(eB,eB)))).2).2)))).bind fun r16=>bif (!r16.1.2) then some ((([],(0,(0,(0,[])))),([],false)),()) else (q4L r16.1.1).bind fun r17=>bif (decide (r17.1 > b0_1)) then some ((([],(0,(0,(0,[])))),([],false)),()) else q5Z x26 (w64 (x27+1)) b0_0 b0_1 b0_2 b0_3 b0_4 b16_0 b16_1 b16_2 b16_3 b16_4 r_d r16.1.1 else none else (jG b_e_0 b0_1).bind fun r16=>bif (!r16.1.2.2) then some ((([],(0,(0,(0,[])))),([],false)),()) else some ((r16.1.1,(r_d,true)),()):Option ((qp×(List qz)×Bool)×Unit)):=(ql X 30 0 [] _ _ _).trans (by kernel_rfl)
theorem qnv (a0:qp):q3C a0=((q3b a0).bind fun r3=>bif (!r3.1.2) then some ((([],(0,(0,(0,[])))),([],false)),()) else q65 r3.1.1 0 a0.1 a0.2.1 a0.2.2.1 a0.2.2.2.1 a0.2.2.2.2 [] 0 0 0 [] a0.1:Option ((qp×(List qz)×Bool)×Unit)):=(qo X rfl _).trans (by kernel_rfl)
theorem qbh (x5:(List qz)) (x8:Int) (b0_0:q8) (b0_1:Int) (b0_2:Int) (b0_3:Int) (b0_4:(List qh)) (b16_0:q8) (b16_1:Int) (b16_2:Int) (b16_3:Int) (b16_4:(List qh)) (b_e_0:q8):q65 x5 x8 b0_0 b0_1 b0_2 b0_3 b0_4 b16_0 b16_1 b16_2 b16_3 b16_4 b_e_0=(bif (decide (x8 < (length x5:Int))) then bif ((decide (0<=x8))&&(decide (x8 < (length x5:Int)))) then (qaU b_e_0 ((getD x5 (toNat x8) (0,(eB,(eB,eB)))).1,(((getD x5 (toNat x8) (0,(eB,(eB,eB)))).2).1,(((getD x5 (toNat x8) (0,(eB,(eB,eB)))).2).2)))).bind fun r15=>bif (!r15.1.2) then some ((([],(0,(0,(0,[])))),([],false)),()) else (q0S r15.1.1).bind fun r16=>bif (decide (r16.1 > b0_1)) then some ((([],(0,(0,(0,[])))),([],false)),()) else q65 x5 (w64 (x8+1)) b0_0 b0_1 b0_2 b0_3 b0_4 b16_0 b16_1 b16_2 b16_3 b16_4 r15.1.1 else none else (zw b_e_0 b0_1).bind fun r15=>bif (!r15.1.2.2) then some ((([],(0,(0,(0,[])))),([],false)),()) else some ((r15.1.1,(x5,true)),()):Option ((qp×(List qz)×Bool)×Unit)):=(ql X 41 0 [] _ _ _).trans (by kernel_rfl)
end Go.Den.S
namespace Go.Den.S
open Go Go.Den
open Classical
noncomputable section
theorem qpf {d:List Fil} {dir:List Spt} {old:List Nat} (h:∀ b∈allB d old,batT b=true):∀ b∈yM d dir old,batT b=true:=fun b hb=>by
 unfold yM at hb;obtain ⟨n,hn,hb⟩:=mem_flatMap.1 hb;unfold q3A at hb;obtain ⟨p,hp,hb⟩:=List.mem_filterMap.1 hb;refine (qex (h _ ?_) hb).1;unfold allB;refine mem_flatMap.2 ⟨n,hn,?_⟩;rw [<- q6p (batD d n) (wo d n)];exact mem_map.2 ⟨p,hp,rfl⟩
end
end Go.Den.S
namespace Go.Den.S
open Go Go.Den
open Classical
set_option maxRecDepth 4000
noncomputable def goM (room:Int):List Fil->List Act->Option (List Fil)
 | d,[]=>some d
 | d,a::r=>match actB d a with
  | none=>none
  | some d'=>bif decide ((yR d':Int) > room) then none else goM room d' r
noncomputable def meO (e:Eng):Eng×List Act×Bool:=bif (maO e).2 then (match goM e.2.1 e.1 (maO e).1 with
 | none=>(noE,([],false))
 | some d=>bif (opO d e.2.1).2.2 then ((opO d e.2.1).1,((maO e).1,true)) else (noE,([],false))) else (noE,([],false))
noncomputable def finM (room:Int) (xs:List Act) (o:Option (List Fil)):Eng×List Act×Bool:=match o with
 | none=>(noE,([],false))
 | some d=>bif (opO d room).2.2 then ((opO d room).1,(xs,true)) else (noE,([],false))
theorem qnh (room:Int) (xs:List Act) (d:List Fil):finM room xs (some d)=bif (opO d room).2.2 then ((opO d room).1,(xs,true)) else (noE,([],false)):=rfl
theorem qf0 (e:Eng) (xs:List Act) (hs:aSz xs):∀ (r:List Act) (i:Nat) (d:List Fil),xs.drop i=r->i<=xs.length->d.length<=2000000->
  q5Z (xs.length:Int) (i:Int) e.1 e.2.1 e.2.2.1 e.2.2.2.1 e.2.2.2.2 [] 0 0 0 [] xs d=some (finM e.2.1 xs (goM e.2.1 d r),())
 | [],i,d,hd,hi,hl=>by
  have:=List.drop_eq_nil_iff.1 hd;rw [qbu];have k1:decide ((i:Int) < (xs.length:Int))=false:=dYF (by omega)
  simp only [k1,cF];rw [q04 d hl];simp only [oB];show _=some (finM e.2.1 xs (some d),());rw [qnh];cases (opO d e.2.1).2.2<;>rfl
 | a::r,i,d,hd,hi,hl=>by
  obtain ⟨e1,hlt,e2⟩:=qK dA hd;have hsz:=hs.2 a (yL hd);rw [qbu];have hs1:=hs.1;have k1:decide ((i:Int) < (xs.length:Int))=true:=dYT (by omega)
  have k2:decide (0<=(i:Int))=true:=dYT (by omega)
  have k4:w64 ((i:Int)+1)=((i+1:Nat):Int):=qw (by omega)
  rw [k1,k2];simp only [Bool.and_self,cT,k4,Int.toNat_natCast,e1,pmk];rw [qf7 d hl a hsz];simp only [oB];rcases qcy d a with ⟨h1,h2⟩ | ⟨d',h1,h2⟩
  ·rw [h2];have:goM e.2.1 d (a::r)=none:=by simp only [goM,h1]
   rw [this]; rfl
  ·rw [h2];have ho:=(qh6 h1).2.1;have:goM e.2.1 d (a::r)=bif decide ((yR d':Int) > e.2.1) then none else goM e.2.1 d' r:=by simp only [goM,h1]
   rw [this];simp only [Bool.not_true,cF];rw [qeq ho];simp only [oB];rw [qf0 e xs hs r (i+1) d' e2 hlt (qaW h1)];cases decide ((yR d':Int) > e.2.1)<;>rfl
theorem qfe (e:Eng) (xs:List Act) (hs:aSz xs):∀ (r:List Act) (i:Nat) (d:List Fil),xs.drop i=r->i<=xs.length->d.length<=2000000->
  q65 xs (i:Int) e.1 e.2.1 e.2.2.1 e.2.2.2.1 e.2.2.2.2 [] 0 0 0 [] d=some (finM e.2.1 xs (goM e.2.1 d r),())
 | [],i,d,hd,hi,hl=>by
  have:=List.drop_eq_nil_iff.1 hd;rw [qbh];have k1:decide ((i:Int) < (xs.length:Int))=false:=dYF (by omega)
  simp only [k1,cF];rw [q2n d hl];simp only [oB];show _=some (finM e.2.1 xs (some d),());rw [qnh];cases (opO d e.2.1).2.2<;>rfl
 | a::r,i,d,hd,hi,hl=>by
  obtain ⟨e1,hlt,e2⟩:=qK dA hd;have hsz:=hs.2 a (yL hd);rw [qbh];have hs1:=hs.1;have k1:decide ((i:Int) < (xs.length:Int))=true:=dYT (by omega)
  have k2:decide (0<=(i:Int))=true:=dYT (by omega)
  have k4:w64 ((i:Int)+1)=((i+1:Nat):Int):=qw (by omega)
  rw [k1,k2];simp only [Bool.and_self,cT,k4,Int.toNat_natCast,e1,pmk];rw [qf4 d hl a hsz];simp only [oB];rcases qcy d a with ⟨h1,h2⟩ | ⟨d',h1,h2⟩
  ·rw [h2];have:goM e.2.1 d (a::r)=none:=by simp only [goM,h1]
   rw [this]; rfl
  ·rw [h2];have ho:=(qh6 h1).2.1;have:goM e.2.1 d (a::r)=bif decide ((yR d':Int) > e.2.1) then none else goM e.2.1 d' r:=by simp only [goM,h1]
   rw [this];simp only [Bool.not_true,cF];rw [qjl ho];simp only [oB];rw [qfe e xs hs r (i+1) d' e2 hlt (qaW h1)];cases decide ((yR d':Int) > e.2.1)<;>rfl
theorem qmJ {d:List Fil} {l ini:List Nat} {top act:Nat} (C:Clean d l) (hl:l=(ini++[top])++[act]):aSz (jd d l ini top):=by
 obtain ⟨p1,_,_,p4,_⟩:=C.parts hl;have htop:=(C.mem.1 p1).1;have hlen:=jU C.segs;have hls:l.length=ini.length+2:=by rw [hl,length_append,length_append,List.length_singleton,List.length_singleton]
 have hold:∀ n∈ini++[top],n∈l:=fun n hn=>by rw [hl]; exact List.mem_append_left _ hn
 have hkl:=qgH (d:=d) (dir:=dirD d l) (old:=ini++[top]) fun n hn=>(C.mem.1 (hold n hn)).1
 have hkb:∀ b∈yM d (dirD d l) (ini++[top]),batT b=true:=qpf fun b hb=>by
  unfold allB at hb;obtain ⟨n,hn,hb⟩:=mem_flatMap.1 hb;exact q4f b hb
 rw [length_append,List.length_singleton] at hkl;unfold jd;refine ⟨by simp only [length_append,List.length_cons,List.length_map]; omega,fun a ha=>?_⟩
 rcases List.mem_append.1 ha with ha | ha
 ·rcases mem_cons.1 ha with rfl | ha
  ·show (bOf (qU top top)).size<=_;rw [qD,q1v htop htop]; omega
  ·obtain ⟨b,hb,rfl⟩:=mem_map.1 ha;show (bOf (batL b)).size<=_;have:=q8C (hkb b hb);rw [qD]; omega
 ·rcases mem_cons.1 ha with rfl | ha
  ·exact zero_le _
  ·rcases mem_cons.1 ha with rfl | ha
   ·exact zero_le _
   ·obtain ⟨n,hn,rfl⟩:=mem_map.1 ha;exact zero_le _
theorem qsQ (e:Eng):aSz (maO e).1:=by
 by_cases h:eOkP e/\2<=(segN e.1).length
 ·obtain ⟨_,_,C,_⟩:=jJ h.1;obtain ⟨ini,top,act,hl⟩:=qdj h.2;rw [q6A h.1 hl];rw [hl] at C;exact qmJ C rfl
 ·rw [q9i h];exact ⟨zero_le _,fun a ha=>by cases ha⟩
theorem qac (e:Eng) (hn:e.1.length<=2000000):q5e e=some (meO e,()):=by
 rw [qnn,q5w e hn];simp only [oB];unfold meO;cases (maO e).2 with
 | false=>rfl
 | true=>
  simp only [Bool.not_true,cF,cT];exact qf0 e (maO e).1 (qsQ e) (maO e).1 0 e.1 rfl (zero_le _) hn
theorem qa1 (e:Eng) (hn:e.1.length<=2000000):q3C e=some (meO e,()):=by
 rw [qnv,q5x e hn];simp only [oB];unfold meO;cases (maO e).2 with
 | false=>rfl
 | true=>
  simp only [Bool.not_true,cF,cT];exact qfe e (maO e).1 (qsQ e) (maO e).1 0 e.1 rfl (zero_le _) hn
theorem qqu {room:Int}:∀ {xs:List Act} {d x:List Fil},d.length<=2000000->goM room d xs=some x->x.length<=2000000
 | [],d,x,h,e=>by
  have:d=x:=Option.some.inj e;rw [<- this]; exact h
 | a::r,d,x,h,e=>by
  simp only [goM] at e;split at e
  ·cases e
  ·rename_i d' h';cases hc:decide ((yR d':Int) > room) with
   | true=>rw [hc] at e; cases e
   | false=>rw [hc] at e; exact qqu (qaW h') e
theorem qtU (e:Eng) (h:e.1.length<=2000000):SmE (meO e).1/\(meO e).2.1.length<=3000000:=by
 unfold meO;have hl:=qqq e;cases (maO e).2 with
 | false=>exact ⟨q8Y,zero_le _⟩
 | true=>
  rw [cT];cases hg:goM e.2.1 e.1 (maO e).1 with
  | none=>exact ⟨q8Y,zero_le _⟩
  | some d=>
   show SmE (bif _ then _ else _:Eng×List Act×Bool).1/\(bif _ then _ else _:Eng×List Act×Bool).2.1.length<=3000000
   cases (opO d e.2.1).2.2 with
   | false=>exact ⟨q8Y,zero_le _⟩
   | true=>exact ⟨qoV d (qqu h hg) _,hl⟩
theorem qtD (e:Eng) (hw:Wf qP e):qad e=some (true,()):=by
 rw [qev,q5F e 1048576 (by omega) (by omega) (qgD hw),oB]
 by_cases hn:szv (wEng e) 1048576 < 0
 ·simp only [dYT hn,cT]
 ·obtain ⟨k5,k6⟩:=q5p hn;obtain ⟨l1,l2⟩:=qkI (e:=e) (n:=1048576) (by omega)
  obtain ⟨hs,l5⟩:=qtU e (by omega)
  have l3:=hs.f;have l4:=hs.s;simp only [dYF hn,cF];simp only [q5L e (by omega) (by omega),qa1 e (by omega),qac e (by omega),oB,q1u (meO e).1 (meO e).1 (by omega) (by omega),qcN (meO e).2.1 (meO e).2.1 (by omega),decide_true,Bool.not_true,Bool.not_false,beq_self_eq_true,bne_self_eq_false,cT,cF,q1u e e (by omega) (by omega),
   q0x e 1 (by omega) (by omega) (by omega) (by omega),dYF (show ¬ (1:Int)+3 * (e.1.length:Int)+4 * (e.2.2.2.2.length:Int) < 0 by omega),
   q0x (meO e).1 1 (by omega) (by omega) (by omega) (by omega),qiY _ hs,dYF (show ¬ (1:Int)+3 * ((meO e).1.1.length:Int)+4 * ((meO e).1.2.2.2.2.length:Int) < 0 by omega),
   q8R (meO e).2.1 (1+3 * ((meO e).1.1.length:Int)+4 * ((meO e).1.2.2.2.2.length:Int)) (by omega) (by omega) (by omega),qd9 (meO e).2.1.length (1+3 * ((meO e).1.1.length:Int)+4 * ((meO e).1.2.2.2.2.length:Int)) (by omega) (by omega) (by omega),dYF (show ¬ (1:Int)+3 * ((meO e).1.1.length:Int)+4 * ((meO e).1.2.2.2.2.length:Int)+4 * ((meO e).2.1.length:Int) < 0 by omega)]
end Go.Den.S
