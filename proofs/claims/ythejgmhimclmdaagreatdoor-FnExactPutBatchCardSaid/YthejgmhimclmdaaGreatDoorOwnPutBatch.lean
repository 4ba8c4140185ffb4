/- OwnPutBatch: equations of the functions of this seat as the executor tells them, or plain facts about them. Conditions: none here. -/
import Derived.Test.YthejgmhimclmdaaGreatDoorMidX
set_option linter.all false
open ByteArray (size)
open Int (toNat toNat_natCast)
open List (getD length mem_append mem_cons mem_singleton)
open Nat (zero_le)
namespace Go.Den.S
open Go Go.Den Go.Proofs
noncomputable section
def q74 (a0:qp) (a1:(List qd)):Option (Bool×Unit):=DF X 10 ((a0,a1,()):(qp)×((List qd))×Unit)
def q2g (a0:qp) (a1:(List qd)):Option ((qp×(List qz)×Int)×Unit):=DF X 34 ((a0,a1,()):(qp)×((List qd))×Unit)
def q2d (a0:qp) (a1:(List qd)):Option ((qp×(List qz)×Int)×Unit):=DF X 35 ((a0,a1,()):(qp)×((List qd))×Unit)
def q8q (a0:(List qd)) (a1:Int):Option (Int×Unit):=DF X 53 ((a0,a1,()):((List qd))×(Int)×Unit)
def q34 (x0:(List qd)) (x1:Int) (x5:Int):Option (Int×Unit):=qA X 53 0 [] (mkSt 27 [(0,.sv (.lst qx x0)),(1,.sv (.int .i64 x1)),(5,.sv (.int .i64 x5))] [(1000000,.gone)])
def q1B (a0:(List qd)):Option ((List qd)×Unit):=DF X 54 ((a0,()):((List qd))×Unit)
def q0t (x0:(List qd)) (x3:(List qd)) (x4:Int):Option ((List qd)×Unit):=qA X 54 0 [] (mkSt 23 [(0,.sv (.lst qx x0)),(3,.sv (.own 1000003)),(4,.sv (.int .i64 x4))] [(1000000,.gone),(1000003,.live (.row qx x3 0))])
def q6d (a0:qp) (a1:BA):Option (((List qz)×Bool)×Unit):=DF X 105 ((a0,a1,()):(qp)×(BA)×Unit)
def qa9 (a0:qd) (a1:Int):Option (Int×Unit):=DF X 126 ((a0,a1,()):(qd)×(Int)×Unit)
def qff (a0:qd):Option (qd×Unit):=DF X 127 ((a0,()):(qd)×Unit)
end
theorem qc9 (a0:qp) (a1:(List qd)):q74 a0 a1=((q15 a0 1048576).bind fun r4=>bif (decide (r4.1 < 0)) then some (true,()) else (q8q a1 r4.1).bind fun r5=>bif (decide (r5.1 < 0)) then some (true,()) else (yG a0).bind fun r6=>(q1B a1).bind fun r7=>(q2d r6.1 r7.1).bind fun r8=>(yG a0).bind fun r9=>(q1B a1).bind fun r10=>(q2g r9.1 r10.1).bind fun r11=>(wu r11.1.1 r8.1.1).bind fun r12=>bif (!r12.1) then some (false,()) else (jf r11.1.2.1 r8.1.2.1).bind fun r13=>bif (!r13.1) then some (false,()) else bif (r11.1.2.2 != r8.1.2.2) then some (false,()) else (yG a0).bind fun r14=>(wu r9.1 r14.1).bind fun r15=>bif (!r15.1) then some (false,()) else (q1B a1).bind fun r16=>(q1G r10.1 r16.1).bind fun r17=>bif (!r17.1) then some (false,()) else (zu r9.1 1).bind fun r18=>(q3T r10.1 r18.1).bind fun r19=>bif (decide (r19.1 < 0)) then some (false,()) else (wu r11.1.1 r8.1.1).bind fun r20=>bif (!r20.1) then some (false,()) else (jf r11.1.2.1 r8.1.2.1).bind fun r21=>bif (!r21.1) then some (false,()) else bif (r11.1.2.2 != r8.1.2.2) then some (false,()) else (zu r11.1.1 1).bind fun r22=>(q2i r11.1.2.1 r22.1).bind fun r23=>(zX (r22.2.1.1,(r11.1.1.2.1,(r11.1.1.2.2.1,(r11.1.1.2.2.2.1,r22.2.1.2.2.2.2)))) 1).bind fun r24=>bif (decide (r24.1 < 0)) then some (false,()) else (q0y r23.2.1 r24.1).bind fun r25=>bif (decide (r25.1 < 0)) then some (false,()) else bif (r25.1 != r23.1) then some (false,()) else (yG a0).bind fun r26=>(q1B a1).bind fun r27=>(q2g r26.1 r27.1).bind fun r28=>(wu r28.1.1 r8.1.1).bind fun r29=>bif (!r29.1) then some (false,()) else (jf r28.1.2.1 r8.1.2.1).bind fun r30=>bif (!r30.1) then some (false,()) else bif (r28.1.2.2 != r8.1.2.2) then some (false,()) else (zX (r22.2.1.1,(r11.1.1.2.1,(r11.1.1.2.2.1,(r11.1.1.2.2.2.1,r22.2.1.2.2.2.2)))) 1).bind fun r31=>bif (decide (r31.1 < 0)) then some (false,()) else (q0y r23.2.1 r31.1).bind fun r32=>bif (decide (r32.1 < 0)) then some (false,()) else bif (r32.1 != r23.1) then some (false,()) else some (true,()):Option (Bool×Unit)):=(qo X rfl _).trans (by kernel_rfl)
theorem qio (a0:qp) (a1:(List qd)):q2g a0 a1=((q3j ((w64 (a0.2.2.2.1+1)),a1)).bind fun r4=>(q0v a0).bind fun r5=>bif (!r5.1) then some ((([],(0,(0,(0,[])))),([],1)),()) else bif (!r4.1.2) then some ((([],(0,(0,(0,[])))),([],1)),()) else (q2F r4.1.1).bind fun r6=>(q6d a0 r6.1.1).bind fun r7=>bif (!r7.1.2) then some ((([],(0,(0,(0,[])))),([],2)),()) else (q5C a0.1 r7.1.1).bind fun r8=>bif (decide (r8.1.2 < (length r7.1.1:Int))) then some ((([],(0,(0,(0,[])))),([],2)),()) else (q4L r8.1.1).bind fun r9=>bif (decide (r9.1 > a0.2.1)) then some ((([],(0,(0,(0,[])))),([],2)),()) else (jG r8.1.1 a0.2.1).bind fun r10=>some ((r10.1.1,(r7.1.1,0)),()):Option ((qp×(List qz)×Int)×Unit)):=(qo X rfl _).trans (by kernel_rfl)
theorem qhY (a0:qp) (a1:(List qd)):q2d a0 a1=((jk ((w64 (a0.2.2.2.1+1)),a1)).bind fun r4=>(q3V a0).bind fun r5=>bif (!r5.1) then some ((([],(0,(0,(0,[])))),([],1)),()) else bif (!r4.1.2) then some ((([],(0,(0,(0,[])))),([],1)),()) else (q0Q r4.1.1).bind fun r6=>(wR a0.2.2.1).bind fun r7=>(q1t a0.1 r7.1).bind fun r8=>bif (decide ((size r8.1.1:Int)>=300)) then (q0w a0.1).bind fun r9=>(wR (w64 (a0.2.2.1+1))).bind fun r10=>bif ((decide ((0:Int)<=0))&&(decide (0 < (length r9.1.1:Int)))) then (q19 (w64 (a0.2.2.1+1)) (getD r9.1.1 (toNat 0) 0)).bind fun r11=>bif (!r11.1.2) then some ((([],(0,(0,(0,[])))),([],2)),()) else bif (limS ((size r11.1.1)+(size r6.1.1))) then (jN a0.1 r10.1).bind fun r12=>bif (decide (r12.1 < 0)) then (q0c a0.1 ([(1,(qF,((r11.1.1++r6.1.1),eB))),(2,(qF,(eB,eB))),(3,(qF,(eB,r10.1)))])).bind fun r13=>bif (decide (r13.1.2 < ((3:Nat):Int))) then some ((([],(0,(0,(0,[])))),([],2)),()) else (q0S r13.1.1).bind fun r14=>bif (decide (r14.1 > a0.2.1)) then some ((([],(0,(0,(0,[])))),([],2)),()) else (zw r13.1.1 a0.2.1).bind fun r15=>bif (!r15.1.2.2) then some ((([],(0,(0,(0,[])))),([],2)),()) else some ((r15.1.1,([(1,(qF,((r11.1.1++r6.1.1),eB))),(2,(qF,(eB,eB))),(3,(qF,(eB,r10.1)))],0)),()) else (q0c a0.1 ([(1,(r10.1,((r11.1.1++r6.1.1),eB))),(2,(r10.1,(eB,eB)))])).bind fun r13=>bif (decide (r13.1.2 < ((2:Nat):Int))) then some ((([],(0,(0,(0,[])))),([],2)),()) else (q0S r13.1.1).bind fun r14=>bif (decide (r14.1 > a0.2.1)) then some ((([],(0,(0,(0,[])))),([],2)),()) else (zw r13.1.1 a0.2.1).bind fun r15=>bif (!r15.1.2.2) then some ((([],(0,(0,(0,[])))),([],2)),()) else some ((r15.1.1,([(1,(r10.1,((r11.1.1++r6.1.1),eB))),(2,(r10.1,(eB,eB)))],0)),()) else none else none else (jN a0.1 r7.1).bind fun r9=>bif (decide (r9.1 < 0)) then (q0c a0.1 ([(1,(qF,(r6.1.1,eB))),(2,(qF,(eB,eB))),(3,(qF,(eB,r7.1)))])).bind fun r10=>bif (decide (r10.1.2 < ((3:Nat):Int))) then some ((([],(0,(0,(0,[])))),([],2)),()) else (q0S r10.1.1).bind fun r11=>bif (decide (r11.1 > a0.2.1)) then some ((([],(0,(0,(0,[])))),([],2)),()) else (zw r10.1.1 a0.2.1).bind fun r12=>bif (!r12.1.2.2) then some ((([],(0,(0,(0,[])))),([],2)),()) else some ((r12.1.1,([(1,(qF,(r6.1.1,eB))),(2,(qF,(eB,eB))),(3,(qF,(eB,r7.1)))],0)),()) else (q0c a0.1 ([(1,(r7.1,(r6.1.1,eB))),(2,(r7.1,(eB,eB)))])).bind fun r10=>bif (decide (r10.1.2 < ((2:Nat):Int))) then some ((([],(0,(0,(0,[])))),([],2)),()) else (q0S r10.1.1).bind fun r11=>bif (decide (r11.1 > a0.2.1)) then some ((([],(0,(0,(0,[])))),([],2)),()) else (zw r10.1.1 a0.2.1).bind fun r12=>bif (!r12.1.2.2) then some ((([],(0,(0,(0,[])))),([],2)),()) else some ((r12.1.1,([(1,(r7.1,(r6.1.1,eB))),(2,(r7.1,(eB,eB)))],0)),()):Option ((qp×(List qz)×Int)×Unit)):=(qo X rfl _).trans (by kernel_rfl)
theorem qhv (a0:(List qd)) (a1:Int):q8q a0 a1=(bif (decide ((w64 (a1 - (length a0:Int))) < 0)) then some ((-1),()) else q34 a0 (w64 (a1 - (length a0:Int))) 0:Option (Int×Unit)):=(qo X rfl _).trans (by kernel_rfl)
theorem q7l (x0:(List qd)) (x1:Int) (x5:Int):q34 x0 x1 x5=(bif (decide (x5 < (length x0:Int))) then bif ((decide (0<=x5))&&(decide (x5 < (length x0:Int)))) then (qa9 ((getD x0 (toNat x5) (eB,(eB,false))).1,((getD x0 (toNat x5) (eB,(eB,false))).2)) x1).bind fun r5=>bif (decide (r5.1 < 0)) then some ((-1),()) else q34 x0 r5.1 (w64 (x5+1)) else none else some (x1,()):Option (Int×Unit)):=(ql X 53 0 [] _ _ _).trans (by kernel_rfl)
theorem qhn (a0:(List qd)):q1B a0=(bif ((decide (0<=(length a0:Int)))&&((decide ((length a0:Int)<=(length a0:Int)))&&(lim (toNat (length a0:Int)) 40))) then q0t a0 (List.replicate (toNat (length a0:Int)) (eB,(eB,false))) 0 else none:Option ((List qd)×Unit)):=(qo X rfl _).trans (by kernel_rfl)
theorem q75 (x0:(List qd)) (x3:(List qd)) (x4:Int):q0t x0 x3 x4=(bif (decide (x4 < (length x0:Int))) then bif ((decide (0<=x4))&&(decide (x4 < (length x0:Int)))) then (qff ((getD x0 (toNat x4) (eB,(eB,false))).1,((getD x0 (toNat x4) (eB,(eB,false))).2))).bind fun r5=>bif ((decide (0<=x4))&&(decide (x4 < (length x3:Int)))) then q0t x0 (List.set x3 (toNat x4) (r5.1.1,(r5.1.2.1,r5.1.2.2))) (w64 (x4+1)) else none else none else some (x3,()):Option ((List qd)×Unit)):=(ql X 54 0 [] _ _ _).trans (by kernel_rfl)
theorem qfA (a0:qp) (a1:BA):q6d a0 a1=((wI a0.2.2.1).bind fun r4=>(q0d a0.1 r4.1).bind fun r5=>bif (decide ((size r5.1.1:Int) < 300)) then some (([(1,(r4.1,(a1,eB))),(2,(r4.1,(eB,eB)))],true),()) else (q0u a0.1).bind fun r6=>bif ((decide ((0:Int)<=0))&&(decide (0 < (length r6.1.1:Int)))) then (q3Y (w64 (a0.2.2.1+1)) (getD r6.1.1 (toNat 0) 0)).bind fun r7=>bif (!r7.1.2) then some (([],false),()) else bif (limS ((size r7.1.1)+(size a1))) then (wI (w64 (a0.2.2.1+1))).bind fun r8=>some (([(1,(qF,((r7.1.1++a1),eB))),(2,(qF,(eB,eB))),(3,(qF,(eB,r8.1)))],true),()) else none else none:Option (((List qz)×Bool)×Unit)):=(qo X rfl _).trans (by kernel_rfl)
theorem qi9 (a0:qd) (a1:Int):qa9 a0 a1=(bif (decide ((w64 (a1 - (size a0.1:Int))) < 0)) then some ((-1),()) else bif (decide ((w64 ((w64 (a1 - (size a0.1:Int))) - (size a0.2.1:Int))) < 0)) then some ((-1),()) else some ((w64 ((w64 (a1 - (size a0.1:Int))) - (size a0.2.1:Int))),()):Option (Int×Unit)):=(qo X rfl _).trans (by kernel_rfl)
theorem qiH (a0:qd):qff a0=(some (a0,()):Option (qd×Unit)):=(qo X rfl _).trans (by kernel_rfl)
end Go.Den.S
namespace Go.Den.S
open Go Go.Den
theorem qqR (a b:List UInt8):bOf (a++b)=bOf a++bOf b:=q4Z (q0D (bOf a) (bOf b)).symm
end Go.Den.S
namespace Go.Den.S
open Go Go.Den
open Classical
set_option maxRecDepth 4000
theorem head_mem {l:List Nat} (h:l≠[]):l.headD 0∈l:=by
 cases l with
 | nil=>exact absurd rfl h
 | cons a l=>exact List.mem_cons_self ..
theorem ql0 {d:List Fil} {l:List Nat} (C:Clean d l) {b:Bat} (hb:batT b=true) {xs:List Act} (ha:putA d l b=some xs):aSz xs:=by
 have hbl:=q8C hb;unfold putA at ha;split at ha
 ·rw [<- Option.some.inj ha];refine ⟨by simp,fun a h=>?_⟩
  rcases mem_cons.1 h with rfl | h
  ·show (bOf (batL b)).size<=_;rw [qD]; omega
  ·rw [mem_singleton.1 h]; exact zero_le _
 ·split at ha
  ·rename_i hm;rw [<- Option.some.inj ha];refine ⟨by simp,fun a h=>?_⟩
   rcases mem_cons.1 h with rfl | h
   ·show (bOf (_++batL b)).size<=_;rw [qD,List.length_append,q1v hm (C.mem.1 (head_mem C.ne)).1]; omega
   ·rcases mem_cons.1 h with rfl | h
    ·exact zero_le _
    ·rw [mem_singleton.1 h]; exact zero_le _
  ·cases ha
theorem qea {bs:List Bat} (h:∀ b∈bs,batT b=true):0<=zN bs/\zN bs<=1000000000:=by
 unfold zN;cases hl:bs.getLast? with
 | none=>exact ⟨Int.le_refl _,by decide⟩
 | some b=>exact qdr (h b (List.mem_of_getLast? hl))
theorem qs0 {e:Eng} (h:eOkP e) {b:Bat} (hb:batT b=true):q6d e (bOf (batL b))=some ((match putA e.1 (segN e.1) b with | some xs=>(xs,true) | none=>([],false)),()):=by
 obtain ⟨r1,r2,C,ha,hq,hd,_⟩:=jJ h;generalize segN e.1=l at *;have hlm:=qbt C.ne;have h100:=(C.mem.1 hlm).1;obtain ⟨t1,t2⟩:=C.txt hlm;have hl30:=C.len;rw [qfA,wP,ha,zl h100];simp only [oB];rw [q05 e.1 (by omega)]
 have hfa:faO e.1 (nmL (l.getLastD 0))=(txtD e.1 (l.getLastD 0),true):=by unfold faO; rw [t1]
 rw [hfa];simp only [oB];unfold putA;by_cases hs:(txtD e.1 (l.getLastD 0)).size < 300
 ·rw [dYT (show ((txtD e.1 (l.getLastD 0)).size:Int) < 300 by omega),if_pos hs]; rfl
 ·rw [dYF (show ¬ ((txtD e.1 (l.getLastD 0)).size:Int) < 300 by omega),if_neg hs,cF,q0L e.1 (by omega)]
  have hsg:sgO e.1=(natI l,true):=by unfold sgO; rw [C.segs]
  have hlen:=jU C.segs;have hll:(natI l).length=l.length:=List.length_map ..;have hpos:0 < l.length:=List.length_pos_iff.2 C.ne;have hh:(natI l).getD (toNat 0) 0=((l.headD 0:Nat):Int):=by
   have:=zh (l:=l) (i:=0) hpos;refine this.trans ?_;cases l with
   | nil=>exact absurd rfl C.ne
   | cons a l=>rfl
  have w1:w64 (((l.getLastD 0:Nat):Int)+1)=((l.getLastD 0+1:Nat):Int):=qw (by omega)
  have hhd:=C.mem.1 (head_mem C.ne);have hle:l.headD 0<=l.getLastD 0:=by
   obtain ⟨i,hi,hlt⟩:=q6S C.ascN C.ne;have hm:=head_mem C.ne;rw [hi] at hm;rcases mem_append.1 hm with hm | hm
   ·have:=hlt _ hm;rw [<- hi] at this; omega
   ·have:=mem_singleton.1 hm;rw [<- hi] at this; omega
  rw [hsg];simp only [oB,hh,w1,hll];rw [show decide ((0:Int)<=0)=true from rfl,dYT (show (0:Int) < (l.length:Int) by omega),q6j]
  simp only [Bool.and_self,cT,oB];unfold htO;by_cases hm:l.getLastD 0+1 < 100
  ·rw [if_pos (by omega),if_pos hm]
   have e1:=q1v hm hhd.1;have e2:=q8C hb;simp only [toNat_natCast,Bool.not_true,cF];rw [yA (by rw [qD,qD]; omega),cT,wP,zl hm,<- qqR]
   rfl
  ·rw [if_neg (by omega),if_neg hm]; rfl
theorem qqv {e:Eng} (h:eOkP e) {cs:List Chg} (hb:batT (e.2.2.2.1+1,cs)=true) {xs:List Act} (ha:putA e.1 (segN e.1) (e.2.2.2.1+1,cs)=some xs) (hx:allA e.1 xs (qR e.1 xs).1):(opO (qR e.1 xs).1 e.2.1).2.2=true/\dOkB (qR e.1 xs).1=true:=by
 obtain ⟨r1,r2,C,_,hq,_⟩:=jJ h;obtain ⟨l',C',_⟩:=qoy C hb (by rw [hq]; show _ < zN _+1; omega) ha hx
 rw [qaE C' r1 r2];exact ⟨rfl,C'.ok⟩
theorem q6e (e:Eng) (hn:e.1.length<=2000000) (cs:List Chg) (hc:cs.length<=1000000000):q2g e cs=some (puO e cs,()):=by
 rw [qio,q5y _ hc,q0H e hn];simp only [oB];unfold puO;by_cases h:eOkP e
 ·obtain ⟨r1,r2,C,_,hq,_⟩:=jJ h;have hqb:=qea C.bt;have w1:w64 (e.2.2.2.1+1)=e.2.2.2.1+1:=qg (by omega) (by omega)
  rw [dYT h,w1];unfold btO;by_cases hb:batT (e.2.2.2.1+1,cs)=true
  ·rw [if_pos hb,dif_pos ⟨h,hb⟩];simp only [Bool.not_true,cF];have hfr:frO (bOf (bTL (e.2.2.2.1+1,cs)))=(bOf (batL (e.2.2.2.1+1,cs)),true):=q9C (q6R hb);rw [q44,hfr];simp only [oB];rw [qs0 h hb];cases hp:putA e.1 (segN e.1) (e.2.2.2.1+1,cs) with
   | none=>rfl
   | some xs=>
    have hsz:=ql0 C hb hp;simp only [oB,Bool.not_true,cF];rw [q8A e.1 hn xs hsz];simp only [oB];have hle:=q6i xs e.1;rw [q6v];by_cases hall:(qR e.1 xs).2=xs.length
    ·obtain ⟨g1,g2⟩:=qqv h hb hp (qij.2 hall);have hlen:=(qG.1 g2).1;rw [dYF (show ¬ ((qR e.1 xs).2:Int) < (xs.length:Int) by omega),dYF (show ¬ (qR e.1 xs).2 < xs.length by omega),cF,qeq g2,Bool.false_or]
     simp only [oB];rw [q04 _ (by omega)]
     cases decide ((yR (qR e.1 xs).1:Int) > e.2.1)<;>rfl
    ·rw [dYT (show ((qR e.1 xs).2:Int) < (xs.length:Int) by omega),dYT (show (qR e.1 xs).2 < xs.length by omega)]
     rfl
  ·rw [if_neg hb,dif_neg (fun c=>hb c.2)]; rfl
 ·rw [dYF h,dif_neg (fun c=>h c.1)]; rfl
theorem qub {e:Eng} (h:eOkP e) (hn:e.1.length<=2000000) {cs:List Chg} (hb:batT (e.2.2.2.1+1,cs)=true) {xs:List Act} (ha:putA e.1 (segN e.1) (e.2.2.2.1+1,cs)=some xs) :
  ((q0c e.1 xs).bind fun r13=>bif decide (r13.1.2 < (xs.length:Int)) then some ((noE,(([]:List Act),(2:Int))),()) else
   (q0S r13.1.1).bind fun r14=>bif decide (r14.1 > e.2.1) then some ((noE,(([]:List Act),(2:Int))),()) else
    (zw r13.1.1 e.2.1).bind fun r15=>bif !r15.1.2.2 then some ((noE,(([]:List Act),(2:Int))),()) else some ((r15.1.1,(xs,(0:Int))),()))=some (runO e.1 e.2.1 (some xs),()):=by
 obtain ⟨r1,r2,C,_,hq,_⟩:=jJ h;have hsz:=ql0 C hb ha;rw [q3e e.1 hn xs hsz];simp only [oB];have hle:=q6i xs e.1;rw [q6v];by_cases hall:(qR e.1 xs).2=xs.length
 ·obtain ⟨g1,g2⟩:=qqv h hb ha (qij.2 hall);have hlen:=(qG.1 g2).1;rw [dYF (show ¬ ((qR e.1 xs).2:Int) < (xs.length:Int) by omega),dYF (show ¬ (qR e.1 xs).2 < xs.length by omega),cF,qjl g2,Bool.false_or]
  simp only [oB];rw [q2n _ (by omega)]
  simp only [oB,g1];cases decide ((yR (qR e.1 xs).1:Int) > e.2.1)<;>rfl
 ·rw [dYT (show ((qR e.1 xs).2:Int) < (xs.length:Int) by omega),dYT (show (qR e.1 xs).2 < xs.length by omega)]
  rfl
theorem q6n (e:Eng) (hn:e.1.length<=2000000) (cs:List Chg) (hc:cs.length<=1000000000):q2d e cs=some (puO e cs,()):=by
 rw [qhY,q38 _ hc,q6k e hn];simp only [oB];unfold puO;by_cases h:eOkP e
 ·obtain ⟨r1,r2,C,hact,hq,_⟩:=jJ h;have hqb:=qea C.bt;have w1:w64 (e.2.2.2.1+1)=e.2.2.2.1+1:=qg (by omega) (by omega)
  rw [dYT h,w1];unfold btO;by_cases hb:batT (e.2.2.2.1+1,cs)=true
  ·rw [if_pos hb,dif_pos ⟨h,hb⟩];simp only [Bool.not_true,cF];have hfr:frO (bOf (bTL (e.2.2.2.1+1,cs)))=(bOf (batL (e.2.2.2.1+1,cs)),true):=q9C (q6R hb);rw [q18,hfr];simp only [oB];have fin:=fun xs=>qub h hn hb (xs:=xs)
   have hpa:putA e.1 (segN e.1) (e.2.2.2.1+1,cs)=putA e.1 (segN e.1) (e.2.2.2.1+1,cs):=rfl;rw [wH,hact];generalize hl:segN e.1=l at *;have hlm:=qbt C.ne;have h100:=(C.mem.1 hlm).1;obtain ⟨t1,t2⟩:=C.txt hlm;have hl30:=C.len;rw [zl h100];simp only [oB];have hfa:faO e.1 (nmL (l.getLastD 0))=(txtD e.1 (l.getLastD 0),true):=by unfold faO; rw [t1]
   rw [q1F e.1 (by omega),hfa]
   simp only [oB];unfold putA at hpa fin ⊢;by_cases hs:(txtD e.1 (l.getLastD 0)).size < 300
   ·rw [dYF (show ¬ ((txtD e.1 (l.getLastD 0)).size:Int)>=300 by omega),if_pos hs,cF,q6l e.1 (by omega)]
    rcases q1c e.1 (nmL (l.getLastD 0)) with ⟨_,i2⟩ | ⟨m,_,i2,_⟩
    ·rw [t1] at i2; cases i2
    ·rw [i2];simp only [oB];rw [dYF (show ¬ (m:Int) < 0 by omega),cF]
     rw [if_pos hs] at fin;exact fin _ rfl
   ·rw [dYT (show ((txtD e.1 (l.getLastD 0)).size:Int)>=300 by omega),if_neg hs,cT,q0F e.1 (by omega)]
    rw [if_neg hs] at fin;have hsg:sgO e.1=(natI l,true):=by unfold sgO; rw [C.segs]
    have hlen:=jU C.segs;have hll:(natI l).length=l.length:=List.length_map ..;have hpos:0 < l.length:=List.length_pos_iff.2 C.ne;have hh:(natI l).getD (toNat 0) 0=((l.headD 0:Nat):Int):=by
     have:=zh (l:=l) (i:=0) hpos;refine this.trans ?_;cases l with
     | nil=>exact absurd rfl C.ne
     | cons a l=>rfl
    have w2:w64 (((l.getLastD 0:Nat):Int)+1)=((l.getLastD 0+1:Nat):Int):=qw (by omega)
    have hhd:=C.mem.1 (head_mem C.ne);have hle:l.headD 0<=l.getLastD 0:=by
     obtain ⟨i,hi,hlt⟩:=q6S C.ascN C.ne;have hm:=head_mem C.ne;rw [hi] at hm;rcases mem_append.1 hm with hm | hm
     ·have:=hlt _ hm;rw [<- hi] at this; omega
     ·have:=mem_singleton.1 hm;rw [<- hi] at this; omega
    rw [hsg];simp only [oB,hh,w2,hll];rw [wH];simp only [oB];rw [show decide ((0:Int)<=0)=true from rfl,dYT (show (0:Int) < (l.length:Int) by omega),q1V]
    simp only [Bool.and_self,cT,oB];unfold htO;by_cases hm:l.getLastD 0+1 < 100
    ·rw [if_pos (by omega),if_pos hm]
     rw [if_pos hm] at fin;have e1:=q1v hm hhd.1;have e2:=q8C hb;simp only [toNat_natCast,Bool.not_true,cF];rw [yA (by rw [qD,qD]; omega),cT,zl hm,<- qqR,q6l e.1 (by omega)]
     rcases q1c e.1 (nmL (l.getLastD 0+1)) with ⟨i1,_⟩ | ⟨m,_,_,i2,_⟩
     ·rw [i1];simp only [oB];rw [show decide ((-1:Int) < 0)=true from rfl,cT]
      exact fin _ rfl
     ·exfalso
      have hh:hasN e.1 (l.getLastD 0+1)=true:=by unfold hasN; rw [i2]; rfl
      have hin:=(C.has hm).1 hh;obtain ⟨i,hi,hlt⟩:=q6S C.ascN C.ne;rw [hi] at hin;rcases mem_append.1 hin with hin | hin
      ·have:=hlt _ hin;rw [<- hi] at this; omega
      ·have:=mem_singleton.1 hin;rw [<- hi] at this; omega
    ·rw [if_neg (by omega),if_neg hm]; rfl
  ·rw [if_neg hb,dif_neg (fun c=>hb c.2)]; rfl
 ·rw [dYF h,dif_neg (fun c=>h c.1)]; rfl
end Go.Den.S
namespace Go.Den.S
open Go Go.Den
set_option maxRecDepth 4000
def q4a (x:Chg):Nat:=x.1.size+x.2.1.size
theorem qq3 (x:Chg) (left:Int) (h0:0<=left) (h1:left<=2097152) (hs:x.1.size<=9223372036854775807/\x.2.1.size<=9223372036854775807):qa9 x left=some (szv (q4a x) left,()):=by
 have ew:q4a x=x.1.size+x.2.1.size:=rfl;obtain ⟨s0,s1⟩:=hs;rw [qi9];rw [show w64 (left - (x.1.size:Int))=left - (x.1.size:Int) from qg (by omega) (by omega)]
 by_cases h2:left - (x.1.size:Int) < 0
 ·rw [q0j (by omega)]
  simp only [dYT h2,cT]
 simp only [dYF h2,cF];rw [show w64 (left - (x.1.size:Int) - (x.2.1.size:Int))=left - (x.1.size:Int) - (x.2.1.size:Int) from qg (by omega) (by omega)]
 by_cases h3:left - (x.1.size:Int) - (x.2.1.size:Int) < 0
 ·rw [q0j (by omega)]
  simp only [dYT h3,cT]
 simp only [dYF h3,cF];rw [q7j (by omega)]
 congr 2; omega
theorem qoB (a:List Chg) (left:Int) (h0:0<=left) (h1:left<=2097152) (hl:a.length<=9223372036854775807) (hs:∀ x∈a,x.1.size<=9223372036854775807/\x.2.1.size<=9223372036854775807) :
  q8q a left=some (szv (wl q4a a) left,()):=by
 rw [qhv];have e:w64 (left - (a.length:Int))=left - (a.length:Int):=qg (by omega) (by omega)
 rw [e];rw [show wl q4a a=a.length+(a.map q4a).sum from rfl]
 by_cases h:left - (a.length:Int) < 0
 ·simp only [dYT h,cT];unfold szv;rw [if_neg (by omega)]
 ·simp only [dYF h,cF];have key:=q8L a ((eB,(eB,false)):Chg) (fun i r=>∀ left:Int,0<=left->left<=2097152->q34 a left (i:Int)=some (szv ((r.map q4a).sum) left,())) (fun left h0 h1=>by
   rw [q7l];simp [szv,h0]) (fun i x r hi hx hm ih left h0 h1=>by
   rw [q7l];have k1:decide ((i:Int) < (a.length:Int))=true:=dYT (by omega)
   have k2:decide (0<=(i:Int))=true:=dYT (by omega)
   have k4:w64 ((i:Int)+1)=((i+1:Nat):Int):=qw (by omega)
   simp only [k1,k2,Bool.and_self,cT,toNat_natCast,hx,k4,List.map_cons,List.sum_cons,pmk];rw [qq3 x left h0 h1 (hs x hm),oB];by_cases hn:(q4a x:Int)<=left
   ·rw [q7j hn];simp only [dYF (show ¬ left - (q4a x:Int) < 0 by omega),cF]
    rw [ih _ (by omega) (by omega)]
    unfold szv;split<;>split<;>first | rfl | omega | (congr 2; omega)
   ·rw [q0j (by omega),q0j (by omega)]
    rfl)
  refine (key _ (by omega) (by omega)).trans ?_
  unfold szv;split<;>split<;>first | rfl | omega | (congr 2; omega)
theorem qoi (a:List Chg) (ha:a.length<=2097152):q1B a=some (a,()):=by
 rw [qhn];have e:lim a.length 40=true:=qJ (by omega)
 simp only [Int.le_refl,decide_true,Int.natCast_nonneg,toNat_natCast,e,Bool.and_self,cT];refine (q9D (fun out i=>q0t a out i) a ((eB,(eB,false)):Chg) (List.replicate a.length (eB,(eB,false))) (by simp) fun out i hi' hl=>?_).trans ?_
 ·show q0t a out i=_;rw [q75];have e:w64 ((i:Int)+1)=(i:Int)+1:=qg (by omega) (by omega)
  have h1:decide ((i:Int) < (a.length:Int))=true:=dYT (by omega)
  have h2:decide ((i:Int) < (out.length:Int))=true:=dYT (by omega)
  have h3:decide (0<=(i:Int))=true:=dYT (by omega)
  simp only [h1,h2,h3,e,Bool.and_self,cT,toNat_natCast,qiH,oB,pmk]
 ·show q0t a a (a.length:Int)=_;rw [q75];simp
end Go.Den.S
namespace Go.Den.S
open Go Go.Den
open Classical
set_option maxRecDepth 4000
theorem qoY (e:Eng) (he:e.1.length<=2000000) (cs:List Chg):SmE (puO e cs).1/\(puO e cs).2.1.length<=3:=by
 unfold puO;split
 ·cases hp:putA e.1 (segN e.1) (e.2.2.2.1+1,cs) with
  | none=>exact ⟨q8Y,zero_le _⟩
  | some xs=>
   have hl3:xs.length<=3:=by
    unfold putA at hp;split at hp
    ·rw [<- Option.some.inj hp]; simp
    ·split at hp
     ·rw [<- Option.some.inj hp]; simp
     ·cases hp
   rw [q6v];cases (decide ((qR e.1 xs).2 < xs.length)||decide ((yR (qR e.1 xs).1:Int) > e.2.1)) with
   | true=>exact ⟨q8Y,zero_le _⟩
   | false=>exact ⟨qoV _ (qbK xs e.1 he) _,hl3⟩
 ·exact ⟨q8Y,zero_le _⟩
theorem qqX {cs:List Chg} (h:Wf (.sl qx) cs):cs.length<=9223372036854775807/\∀ x∈cs,x.1.size<=9223372036854775807/\x.2.1.size<=9223372036854775807:=⟨h.1,fun x hx=>⟨(h.2 x hx).1,(h.2 x hx).2.1⟩⟩
theorem qpg (e:Eng) (cs:List Chg) (hw:Wf qP e) (hc:Wf (.sl qx) cs):q74 e cs=some (true,()):=by
 rw [qc9,q5F e 1048576 (by omega) (by omega) (qgD hw),oB]
 by_cases hn:szv (wEng e) 1048576 < 0
 ·simp only [dYT hn,cT]
 ·obtain ⟨k5,k6⟩:=q5p hn;obtain ⟨l1,l2⟩:=qkI (e:=e) (n:=1048576) (by omega)
  simp only [dYF hn,cF];rw [k6,qoB cs _ (by omega) (by omega) (qqX hc).1 (qqX hc).2,oB]
  by_cases hn2:szv (wl q4a cs) (1048576 - (wEng e:Int)) < 0
  ·simp only [dYT hn2,cT]
  ·obtain ⟨k7,_⟩:=q5p hn2;simp only [dYF hn2,cF];have hcl:cs.length<=1048576:=qfE (f:=q4a) (by omega)
   obtain ⟨hs,l5⟩:=qoY e (by omega) cs
   have l3:=hs.f;have l4:=hs.s;simp only [q5L e (by omega) (by omega),qoi cs (by omega),q6n e (by omega) cs (by omega),q6e e (by omega) cs (by omega),oB,q1u (puO e cs).1 (puO e cs).1 (by omega) (by omega),qcN (puO e cs).2.1 (puO e cs).2.1 (by omega),decide_true,Bool.not_true,Bool.not_false,beq_self_eq_true,bne_self_eq_false,cT,cF,q1u e e (by omega) (by omega),qg5 cs cs (by omega),
    q0x e 1 (by omega) (by omega) (by omega) (by omega),qdq cs (1+3 * (e.1.length:Int)+4 * (e.2.2.2.2.length:Int)) (by omega) (by omega) (by omega),dYF (show ¬ (1:Int)+3 * (e.1.length:Int)+4 * (e.2.2.2.2.length:Int)+3 * (cs.length:Int) < 0 by omega),
    q0x (puO e cs).1 1 (by omega) (by omega) (by omega) (by omega),qiY _ hs,dYF (show ¬ (1:Int)+3 * ((puO e cs).1.1.length:Int)+4 * ((puO e cs).1.2.2.2.2.length:Int) < 0 by omega),
    q8R (puO e cs).2.1 (1+3 * ((puO e cs).1.1.length:Int)+4 * ((puO e cs).1.2.2.2.2.length:Int)) (by omega) (by omega) (by omega),qd9 (puO e cs).2.1.length (1+3 * ((puO e cs).1.1.length:Int)+4 * ((puO e cs).1.2.2.2.2.length:Int)) (by omega) (by omega) (by omega),dYF (show ¬ (1:Int)+3 * ((puO e cs).1.1.length:Int)+4 * ((puO e cs).1.2.2.2.2.length:Int)+4 * ((puO e cs).2.1.length:Int) < 0 by omega)]
end Go.Den.S
