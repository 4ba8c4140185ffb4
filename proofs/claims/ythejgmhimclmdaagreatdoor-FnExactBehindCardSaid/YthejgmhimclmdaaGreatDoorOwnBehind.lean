/- OwnBehind: equations of the functions of this seat as the executor tells them, or plain facts about them. Conditions: none here. -/
import Derived.Test.YthejgmhimclmdaaGreatDoorMidX
set_option linter.all false
open ByteArray (extract size)
open Int (le_refl toNat toNat_natCast)
open List (append_assoc drop getD length length_append length_cons replicate take)
namespace Go.Den.S
open Go Go.Den Go.Proofs
noncomputable section
def q94 (a0:qp) (a1:(List qz)) (a2:Int) (a3:(List Int)):Option (Bool×Unit):=DF X 8 ((a0,a1,a2,a3,()):(qp)×((List qz))×(Int)×((List Int))×Unit)
def q5R (a0:qp) (a1:(List qz)) (a2:Int) (a3:(List Int)):Option ((qp×Bool)×Unit):=DF X 27 ((a0,a1,a2,a3,()):(qp)×((List qz))×(Int)×((List Int))×Unit)
def q72 (a0:q8) (a1:(List qz)) (a2:Int) (a3:(List Int)):Option ((q8×Bool)×Unit):=DF X 36 ((a0,a1,a2,a3,()):(q8)×((List qz))×(Int)×((List Int))×Unit)
def qcR (a0:(List qz)) (a1:Int):Option (Int×Unit):=DF X 46 ((a0,a1,()):((List qz))×(Int)×Unit)
def q5s (x0:(List qz)) (x1:Int) (x5:Int):Option (Int×Unit):=qA X 46 0 [] (mkSt 27 [(0,.sv (.lst qY x0)),(1,.sv (.int .i64 x1)),(5,.sv (.int .i64 x5))] [(1000000,.gone)])
def qcU (a0:qp) (a1:(List qz)) (a2:Int) (a3:(List Int)):Option ((qp×Bool)×Unit):=DF X 47 ((a0,a1,a2,a3,()):(qp)×((List qz))×(Int)×((List Int))×Unit)
def q48 (a0:(List qz)):Option ((List qz)×Unit):=DF X 48 ((a0,()):((List qz))×Unit)
def q1L (x0:(List qz)) (x3:(List qz)) (x4:Int):Option ((List qz)×Unit):=qA X 48 0 [] (mkSt 23 [(0,.sv (.lst qY x0)),(3,.sv (.own 1000003)),(4,.sv (.int .i64 x4))] [(1000000,.gone),(1000003,.live (.row qY x3 0))])
def q4b (a0:(List Int)):Option ((List Int)×Unit):=DF X 49 ((a0,()):((List Int))×Unit)
def q1H (x0:(List Int)) (x3:(List Int)) (x4:Int):Option ((List Int)×Unit):=qA X 49 0 [] (mkSt 22 [(0,.sv (.lst I x0)),(3,.sv (.own 1000003)),(4,.sv (.int .i64 x4))] [(1000000,.gone),(1000003,.live (.row I x3 0))])
def qcY (a0:(List Int)) (a1:(List Int)):Option (Bool×Unit):=DF X 50 ((a0,a1,()):((List Int))×((List Int))×Unit)
def q5d (x0:(List Int)) (x1:(List Int)) (x5:Int):Option (Bool×Unit):=qA X 50 0 [] (mkSt 26 [(0,.sv (.lst I x0)),(1,.sv (.lst I x1)),(5,.sv (.int .i64 x5))] [(1000000,.gone),(1000001,.gone)])
def qa6 (a0:(List Int)) (a1:Int):Option (Int×((List Int)×Unit)):=DF X 51 ((a0,a1,()):((List Int))×(Int)×Unit)
def q3B (x1:Int) (x5:Int) (r_a:(List Int)):Option (Int×((List Int)×Unit)):=qA X 51 0 [] (mkSt 19 [(0,.sv (.own 3000000)),(1,.sv (.int .i64 x1)),(5,.sv (.int .i64 x5))] [(3000000,.live (.row I r_a 0))])
def qbD (a0:q8) (a1:(List qz)) (a2:Int) (a3:(List Int)):Option ((q8×Bool)×Unit):=DF X 101 ((a0,a1,a2,a3,()):(q8)×((List qz))×(Int)×((List Int))×Unit)
def qa2 (a0:q8) (a1:(List Int)):Option ((q8×Bool)×Unit):=DF X 111 ((a0,a1,()):(q8)×((List Int))×Unit)
def zi (x1:(List Int)) (x7:Int) (b0_0:q8) (b16_0:q8) (b_p_0:q8):Option ((q8×Bool)×Unit):=qA X 111 0 [] (mkSt 63 [(1,.sv (.lst I x1)),(2,.sv (.ptr 0 0)),(4,.sv (.ptr 16 0)),(6,.sv (.ptr 3088 0)),(7,.sv (.int .i64 x7))] [(1000001,.gone),(2000000,.gone),(0,.live (.box [(.lst qj b0_0)])),(2001024,.live (.row qj b16_0 0)),(16,.live (.box [(.own 2001024)])),(2197632,.live (.row qj b_p_0 0)),(3088,.live (.box [(.own 2197632)]))])
def qeN (a0:qz) (a1:Int):Option (Int×Unit):=DF X 121 ((a0,a1,()):(qz)×(Int)×Unit)
def qbI (a0:qp):Option (qp×Unit):=DF X 122 ((a0,()):(qp)×Unit)
def qjd (a0:qz):Option (qz×Unit):=DF X 123 ((a0,()):(qz)×Unit)
def qa8 (a0:q8) (a1:(List Int)):Option ((q8×Bool)×Unit):=DF X 184 ((a0,a1,()):(q8)×((List Int))×Unit)
def q0N (x1:(List Int)) (x18:Int) (x19:Int) (b16_0:q8) (r_u:q8):Option ((q8×Bool)×Unit):=qA X 184 0 [] (mkSt 57 [(1,.sv (.lst I x1)),(4,.sv (.ptr 16 0)),(6,.sv (.ptr 3104 0)),(17,.sv (.own 3088)),(18,.sv (.int .i64 x18)),(19,.sv (.int .i64 x19))] [(1000001,.gone),(2001024,.live (.row qj b16_0 0)),(16,.live (.box [(.own 2001024)])),(3104,.live (.box [(.own 3088)])),(3088,.live (.row qj r_u 0))])
end
theorem qdh (a0:qp) (a1:(List qz)) (a2:Int) (a3:(List Int)):q94 a0 a1 a2 a3=(bif (decide ((length a3:Int) > 1048576)) then some (true,()) else (q15 a0 1048576).bind fun r6=>bif (decide (r6.1 < 0)) then some (true,()) else (qcR a1 r6.1).bind fun r7=>bif (decide (r7.1 < 0)) then some (true,()) else (yG a0).bind fun r8=>(q48 a1).bind fun r9=>(q4b a3).bind fun r10=>(qcU r8.1 r9.1 a2 r10.1).bind fun r11=>(yG a0).bind fun r12=>(q48 a1).bind fun r13=>(q4b a3).bind fun r14=>(q5R r12.1 r13.1 a2 r14.1).bind fun r15=>(wu r15.1.1 r11.1.1).bind fun r16=>bif (!r16.1) then some (false,()) else bif (!(r15.1.2==r11.1.2)) then some (false,()) else (yG a0).bind fun r17=>(wu r12.1 r17.1).bind fun r18=>bif (!r18.1) then some (false,()) else (q48 a1).bind fun r19=>(jf r13.1 r19.1).bind fun r20=>bif (!r20.1) then some (false,()) else (q4b a3).bind fun r21=>(qcY r14.1 r21.1).bind fun r22=>bif (!r22.1) then some (false,()) else (zu r12.1 1).bind fun r23=>(q2i r13.1 r23.1).bind fun r24=>(qa6 r14.1 r24.1).bind fun r25=>bif (decide (r25.1 < 0)) then some (false,()) else (wu r15.1.1 r11.1.1).bind fun r26=>bif (!r26.1) then some (false,()) else bif (!(r15.1.2==r11.1.2)) then some (false,()) else (zu r15.1.1 1).bind fun r27=>(zX (r27.2.1.1,(r15.1.1.2.1,(r15.1.1.2.2.1,(r15.1.1.2.2.2.1,r27.2.1.2.2.2.2)))) 1).bind fun r28=>bif (decide (r28.1 < 0)) then some (false,()) else bif (r28.1 != r27.1) then some (false,()) else (yG a0).bind fun r29=>(q48 a1).bind fun r30=>(q4b a3).bind fun r31=>(q5R r29.1 r30.1 a2 r31.1).bind fun r32=>(wu r32.1.1 r11.1.1).bind fun r33=>bif (!r33.1) then some (false,()) else bif (!(r32.1.2==r11.1.2)) then some (false,()) else (zX (r27.2.1.1,(r15.1.1.2.1,(r15.1.1.2.2.1,(r15.1.1.2.2.2.1,r27.2.1.2.2.2.2)))) 1).bind fun r34=>bif (decide (r34.1 < 0)) then some (false,()) else bif (r34.1 != r27.1) then some (false,()) else some (true,()):Option (Bool×Unit)):=(qo X rfl _).trans (by kernel_rfl)
theorem ql9 (a0:qp) (a1:(List qz)) (a2:Int) (a3:(List Int)):q5R a0 a1 a2 a3=((qbD a0.1 a1 a2 a3).bind fun r6=>(jG r6.1.1 a0.2.1).bind fun r7=>bif (!r6.1.2) then some ((([],(0,(0,(0,[])))),false),()) else bif (!r7.1.2.2) then some ((([],(0,(0,(0,[])))),false),()) else some ((r7.1.1,true),()):Option ((qp×Bool)×Unit)):=(qo X rfl _).trans (by kernel_rfl)
theorem qkC (a0:q8) (a1:(List qz)) (a2:Int) (a3:(List Int)):q72 a0 a1 a2 a3=((wK a2 0 (length a1:Int)).bind fun r6=>bif (!r6.1) then some (([],false),()) else bif ((decide ((0:Int)<=0))&&((decide (0<=a2))&&(decide (a2<=(length a1:Int))))) then (q0c a0 (take ((toNat a2) - (toNat 0)) (drop (toNat 0) a1))).bind fun r7=>bif (decide (r7.1.2 < a2)) then some (([],false),()) else (qa2 r7.1.1 a3).bind fun r8=>some (r8.1,()) else none:Option ((q8×Bool)×Unit)):=(qo X rfl _).trans (by kernel_rfl)
theorem ql4 (a0:(List qz)) (a1:Int):qcR a0 a1=(bif (decide ((w64 (a1 - (length a0:Int))) < 0)) then some ((-1),()) else q5s a0 (w64 (a1 - (length a0:Int))) 0:Option (Int×Unit)):=(qo X rfl _).trans (by kernel_rfl)
theorem qaj (x0:(List qz)) (x1:Int) (x5:Int):q5s x0 x1 x5=(bif (decide (x5 < (length x0:Int))) then bif ((decide (0<=x5))&&(decide (x5 < (length x0:Int)))) then (qeN ((getD x0 (toNat x5) (0,(eB,(eB,eB)))).1,(((getD x0 (toNat x5) (0,(eB,(eB,eB)))).2).1,(((getD x0 (toNat x5) (0,(eB,(eB,eB)))).2).2))) x1).bind fun r5=>bif (decide (r5.1 < 0)) then some ((-1),()) else q5s x0 r5.1 (w64 (x5+1)) else none else some (x1,()):Option (Int×Unit)):=(ql X 46 0 [] _ _ _).trans (by kernel_rfl)
theorem qlY (a0:qp) (a1:(List qz)) (a2:Int) (a3:(List Int)):qcU a0 a1 a2 a3=((q72 a0.1 a1 a2 a3).bind fun r6=>bif (!r6.1.2) then some ((([],(0,(0,(0,[])))),false),()) else (zw r6.1.1 a0.2.1).bind fun r7=>bif (!r7.1.2.2) then some ((([],(0,(0,(0,[])))),false),()) else (qbI r7.1.1).bind fun r8=>some ((r8.1,true),()):Option ((qp×Bool)×Unit)):=(qo X rfl _).trans (by kernel_rfl)
theorem qm5 (a0:(List qz)):q48 a0=(bif ((decide (0<=(length a0:Int)))&&((decide ((length a0:Int)<=(length a0:Int)))&&(lim (toNat (length a0:Int)) 56))) then q1L a0 (replicate (toNat (length a0:Int)) (0,(eB,(eB,eB)))) 0 else none:Option ((List qz)×Unit)):=(qo X rfl _).trans (by kernel_rfl)
theorem qav (x0:(List qz)) (x3:(List qz)) (x4:Int):q1L x0 x3 x4=(bif (decide (x4 < (length x0:Int))) then bif ((decide (0<=x4))&&(decide (x4 < (length x0:Int)))) then (qjd ((getD x0 (toNat x4) (0,(eB,(eB,eB)))).1,(((getD x0 (toNat x4) (0,(eB,(eB,eB)))).2).1,(((getD x0 (toNat x4) (0,(eB,(eB,eB)))).2).2)))).bind fun r5=>bif ((decide (0<=x4))&&(decide (x4 < (length x3:Int)))) then q1L x0 (List.set x3 (toNat x4) (r5.1.1,(r5.1.2.1,(r5.1.2.2.1,r5.1.2.2.2)))) (w64 (x4+1)) else none else none else some (x3,()):Option ((List qz)×Unit)):=(ql X 48 0 [] _ _ _).trans (by kernel_rfl)
theorem qlX (a0:(List Int)):q4b a0=(bif ((decide (0<=(length a0:Int)))&&((decide ((length a0:Int)<=(length a0:Int)))&&(lim (toNat (length a0:Int)) 8))) then q1H a0 (replicate (toNat (length a0:Int)) 0) 0 else none:Option ((List Int)×Unit)):=(qo X rfl _).trans (by kernel_rfl)
theorem qaz (x0:(List Int)) (x3:(List Int)) (x4:Int):q1H x0 x3 x4=(bif (decide (x4 < (length x0:Int))) then bif ((decide (0<=x4))&&(decide (x4 < (length x0:Int)))) then bif ((decide (0<=x4))&&(decide (x4 < (length x3:Int)))) then q1H x0 (List.set x3 (toNat x4) (getD x0 (toNat x4) 0)) (w64 (x4+1)) else none else none else some (x3,()):Option ((List Int)×Unit)):=(ql X 49 0 [] _ _ _).trans (by kernel_rfl)
theorem qly (a0:(List Int)) (a1:(List Int)):qcY a0 a1=(bif ((length a0:Int) != (length a1:Int)) then some (false,()) else q5d a0 a1 0:Option (Bool×Unit)):=(qo X rfl _).trans (by kernel_rfl)
theorem qan (x0:(List Int)) (x1:(List Int)) (x5:Int):q5d x0 x1 x5=(bif (decide (x5 < (length x0:Int))) then bif ((decide (0<=x5))&&(decide (x5 < (length x0:Int)))) then bif ((decide (0<=x5))&&(decide (x5 < (length x1:Int)))) then bif ((getD x0 (toNat x5) 0) != (getD x1 (toNat x5) 0)) then some (false,()) else q5d x0 x1 (w64 (x5+1)) else none else none else some (true,()):Option (Bool×Unit)):=(ql X 50 0 [] _ _ _).trans (by kernel_rfl)
theorem qih (a0:(List Int)) (a1:Int):qa6 a0 a1=(q3B a1 0 a0:Option (Int×((List Int)×Unit))):=(qo X rfl _).trans (by kernel_rfl)
theorem q7R (x1:Int) (x5:Int) (r_a:(List Int)):q3B x1 x5 r_a=(bif (decide (x5 < (length r_a:Int))) then bif ((decide (0<=x5))&&(decide (x5 < (length r_a:Int)))) then q3B (w64 (x1+1)) (w64 (x5+1)) (List.set r_a (toNat x5) x1) else none else some (x1,(r_a,())):Option (Int×((List Int)×Unit))):=(ql X 51 0 [] _ _ _).trans (by kernel_rfl)
theorem qjR (a0:q8) (a1:(List qz)) (a2:Int) (a3:(List Int)):qbD a0 a1 a2 a3=((wL a2 0 (length a1:Int)).bind fun r6=>bif (!r6.1) then some (([],false),()) else bif ((decide ((0:Int)<=0))&&((decide (0<=a2))&&(decide (a2<=(length a1:Int))))) then (q5C a0 (take ((toNat a2) - (toNat 0)) (drop (toNat 0) a1))).bind fun r7=>bif (decide (r7.1.2 < a2)) then some (([],false),()) else (qa8 r7.1.1 a3).bind fun r8=>some (r8.1,()) else none:Option ((q8×Bool)×Unit)):=(qo X rfl _).trans (by kernel_rfl)
theorem qiV (a0:q8) (a1:(List Int)):qa2 a0 a1=((qO a0).bind fun r4=>bif (!r4.1) then some (([],false),()) else zi a1 0 a0 [] []:Option ((q8×Bool)×Unit)):=(qo X rfl _).trans (by kernel_rfl)
theorem q86 (x1:(List Int)) (x7:Int) (b0_0:q8) (b16_0:q8) (b_p_0:q8):zi x1 x7 b0_0 b16_0 b_p_0=(bif (decide (x7 < (length b0_0:Int))) then bif ((decide (0<=x7))&&(decide (x7 < (length b0_0:Int)))) then bif (decide (x7 < (length x1:Int))) then bif ((decide (0<=x7))&&(decide (x7 < (length x1:Int)))) then bif (decide ((getD x1 (toNat x7) 0) > (size (((getD b0_0 (toNat x7) (eB,(eB,0))).2).1):Int))) then bif (decide ((size (((getD b0_0 (toNat x7) (eB,(eB,0))).2).1):Int) < ((getD b0_0 (toNat x7) (eB,(eB,0))).2).2)) then bif ((decide ((0:Int)<=0))&&((decide (0<=((getD b0_0 (toNat x7) (eB,(eB,0))).2).2))&&(decide (((getD b0_0 (toNat x7) (eB,(eB,0))).2).2<=(size (((getD b0_0 (toNat x7) (eB,(eB,0))).2).1):Int))))) then bif (lim ((length b_p_0)+1) 40) then zi x1 (w64 (x7+1)) b0_0 b16_0 (b_p_0++[((getD b0_0 (toNat x7) (eB,(eB,0))).1,((extract (((getD b0_0 (toNat x7) (eB,(eB,0))).2).1) (toNat 0) (toNat (((getD b0_0 (toNat x7) (eB,(eB,0))).2).2))),((getD b0_0 (toNat x7) (eB,(eB,0))).2).2))]) else none else none else bif ((decide ((0:Int)<=0))&&((decide (0<=(size (((getD b0_0 (toNat x7) (eB,(eB,0))).2).1):Int)))&&(decide ((size (((getD b0_0 (toNat x7) (eB,(eB,0))).2).1):Int)<=(size (((getD b0_0 (toNat x7) (eB,(eB,0))).2).1):Int))))) then bif (lim ((length b_p_0)+1) 40) then zi x1 (w64 (x7+1)) b0_0 b16_0 (b_p_0++[((getD b0_0 (toNat x7) (eB,(eB,0))).1,((extract (((getD b0_0 (toNat x7) (eB,(eB,0))).2).1) (toNat 0) (toNat (size (((getD b0_0 (toNat x7) (eB,(eB,0))).2).1):Int))),(size (((getD b0_0 (toNat x7) (eB,(eB,0))).2).1):Int)))]) else none else none else bif (decide ((getD x1 (toNat x7) 0) < ((getD b0_0 (toNat x7) (eB,(eB,0))).2).2)) then bif ((decide ((0:Int)<=0))&&((decide (0<=((getD b0_0 (toNat x7) (eB,(eB,0))).2).2))&&(decide (((getD b0_0 (toNat x7) (eB,(eB,0))).2).2<=(size (((getD b0_0 (toNat x7) (eB,(eB,0))).2).1):Int))))) then bif (lim ((length b_p_0)+1) 40) then zi x1 (w64 (x7+1)) b0_0 b16_0 (b_p_0++[((getD b0_0 (toNat x7) (eB,(eB,0))).1,((extract (((getD b0_0 (toNat x7) (eB,(eB,0))).2).1) (toNat 0) (toNat (((getD b0_0 (toNat x7) (eB,(eB,0))).2).2))),((getD b0_0 (toNat x7) (eB,(eB,0))).2).2))]) else none else none else bif ((decide ((0:Int)<=0))&&((decide (0<=(getD x1 (toNat x7) 0)))&&(decide ((getD x1 (toNat x7) 0)<=(size (((getD b0_0 (toNat x7) (eB,(eB,0))).2).1):Int))))) then bif (lim ((length b_p_0)+1) 40) then zi x1 (w64 (x7+1)) b0_0 b16_0 (b_p_0++[((getD b0_0 (toNat x7) (eB,(eB,0))).1,((extract (((getD b0_0 (toNat x7) (eB,(eB,0))).2).1) (toNat 0) (toNat (getD x1 (toNat x7) 0))),(getD x1 (toNat x7) 0)))]) else none else none else none else bif (decide (0 < ((getD b0_0 (toNat x7) (eB,(eB,0))).2).2)) then bif ((decide ((0:Int)<=0))&&((decide (0<=((getD b0_0 (toNat x7) (eB,(eB,0))).2).2))&&(decide (((getD b0_0 (toNat x7) (eB,(eB,0))).2).2<=(size (((getD b0_0 (toNat x7) (eB,(eB,0))).2).1):Int))))) then bif (lim ((length b_p_0)+1) 40) then zi x1 (w64 (x7+1)) b0_0 b16_0 (b_p_0++[((getD b0_0 (toNat x7) (eB,(eB,0))).1,((extract (((getD b0_0 (toNat x7) (eB,(eB,0))).2).1) (toNat 0) (toNat (((getD b0_0 (toNat x7) (eB,(eB,0))).2).2))),((getD b0_0 (toNat x7) (eB,(eB,0))).2).2))]) else none else none else bif (lim ((length b_p_0)+1) 40) then zi x1 (w64 (x7+1)) b0_0 b16_0 (b_p_0++[((getD b0_0 (toNat x7) (eB,(eB,0))).1,((extract (((getD b0_0 (toNat x7) (eB,(eB,0))).2).1) (toNat 0) (toNat 0)),0))]) else none else none else some ((b_p_0,true),()):Option ((q8×Bool)×Unit)):=(ql X 111 0 [] _ _ _).trans (by kernel_rfl)
theorem qnL (a0:qz) (a1:Int):qeN a0 a1=(bif (decide ((w64 (a1 - (size a0.2.1:Int))) < 0)) then some ((-1),()) else bif (decide ((w64 ((w64 (a1 - (size a0.2.1:Int))) - (size a0.2.2.1:Int))) < 0)) then some ((-1),()) else bif (decide ((w64 ((w64 ((w64 (a1 - (size a0.2.1:Int))) - (size a0.2.2.1:Int))) - (size a0.2.2.2:Int))) < 0)) then some ((-1),()) else some ((w64 ((w64 ((w64 (a1 - (size a0.2.1:Int))) - (size a0.2.2.1:Int))) - (size a0.2.2.2:Int))),()):Option (Int×Unit)):=(qo X rfl _).trans (by kernel_rfl)
theorem qje (a0:qp):qbI a0=(bif (lim (0+(length a0.1)) 40) then bif (lim (0+(length a0.2.2.2.2)) 40) then some ((([]++a0.1),(a0.2.1,(a0.2.2.1,(a0.2.2.2.1,([]++a0.2.2.2.2))))),()) else none else none:Option (qp×Unit)):=(qo X rfl _).trans (by kernel_rfl)
theorem qnu (a0:qz):qjd a0=(some (a0,()):Option (qz×Unit)):=(qo X rfl _).trans (by kernel_rfl)
theorem qiL (a0:q8) (a1:(List Int)):qa8 a0 a1=((yD a0).bind fun r4=>bif (!r4.1) then some (([],false),()) else (q0B a0).bind fun r5=>q0N a1 (length r5.1:Int) 0 [] r5.1:Option ((q8×Bool)×Unit)):=(qo X rfl _).trans (by kernel_rfl)
theorem q82 (x1:(List Int)) (x18:Int) (x19:Int) (b16_0:q8) (r_u:q8):q0N x1 x18 x19 b16_0 r_u=(bif (decide (x19 < x18)) then bif ((decide (0<=x19))&&(decide (x19 < (length r_u:Int)))) then bif (decide (x19 < (length x1:Int))) then bif ((decide (0<=x19))&&(decide (x19 < (length x1:Int)))) then bif ((decide ((0:Int)<=0))&&((decide (0<=(bif (decide ((bif (decide ((size (((getD r_u (toNat x19) (eB,(eB,0))).2).1):Int) < (getD x1 (toNat x19) 0))) then (size (((getD r_u (toNat x19) (eB,(eB,0))).2).1):Int) else (getD x1 (toNat x19) 0)) > ((getD r_u (toNat x19) (eB,(eB,0))).2).2)) then (bif (decide ((size (((getD r_u (toNat x19) (eB,(eB,0))).2).1):Int) < (getD x1 (toNat x19) 0))) then (size (((getD r_u (toNat x19) (eB,(eB,0))).2).1):Int) else (getD x1 (toNat x19) 0)) else ((getD r_u (toNat x19) (eB,(eB,0))).2).2)))&&(decide ((bif (decide ((bif (decide ((size (((getD r_u (toNat x19) (eB,(eB,0))).2).1):Int) < (getD x1 (toNat x19) 0))) then (size (((getD r_u (toNat x19) (eB,(eB,0))).2).1):Int) else (getD x1 (toNat x19) 0)) > ((getD r_u (toNat x19) (eB,(eB,0))).2).2)) then (bif (decide ((size (((getD r_u (toNat x19) (eB,(eB,0))).2).1):Int) < (getD x1 (toNat x19) 0))) then (size (((getD r_u (toNat x19) (eB,(eB,0))).2).1):Int) else (getD x1 (toNat x19) 0)) else ((getD r_u (toNat x19) (eB,(eB,0))).2).2)<=(size (((getD r_u (toNat x19) (eB,(eB,0))).2).1):Int))))) then bif ((decide (0<=x19))&&(decide (x19 < (length r_u:Int)))) then bif ((decide (0<=x19))&&(decide (x19 < (length (List.set r_u (toNat x19) ((getD r_u (toNat x19) (eB,(eB,0))).1,((extract (((getD r_u (toNat x19) (eB,(eB,0))).2).1) (toNat 0) (toNat (bif (decide ((bif (decide ((size (((getD r_u (toNat x19) (eB,(eB,0))).2).1):Int) < (getD x1 (toNat x19) 0))) then (size (((getD r_u (toNat x19) (eB,(eB,0))).2).1):Int) else (getD x1 (toNat x19) 0)) > ((getD r_u (toNat x19) (eB,(eB,0))).2).2)) then (bif (decide ((size (((getD r_u (toNat x19) (eB,(eB,0))).2).1):Int) < (getD x1 (toNat x19) 0))) then (size (((getD r_u (toNat x19) (eB,(eB,0))).2).1):Int) else (getD x1 (toNat x19) 0)) else ((getD r_u (toNat x19) (eB,(eB,0))).2).2))),((getD r_u (toNat x19) (eB,(eB,0))).2).2))):Int)))) then q0N x1 x18 (w64 (x19+1)) b16_0 (List.set (List.set r_u (toNat x19) ((getD r_u (toNat x19) (eB,(eB,0))).1,((extract (((getD r_u (toNat x19) (eB,(eB,0))).2).1) (toNat 0) (toNat (bif (decide ((bif (decide ((size (((getD r_u (toNat x19) (eB,(eB,0))).2).1):Int) < (getD x1 (toNat x19) 0))) then (size (((getD r_u (toNat x19) (eB,(eB,0))).2).1):Int) else (getD x1 (toNat x19) 0)) > ((getD r_u (toNat x19) (eB,(eB,0))).2).2)) then (bif (decide ((size (((getD r_u (toNat x19) (eB,(eB,0))).2).1):Int) < (getD x1 (toNat x19) 0))) then (size (((getD r_u (toNat x19) (eB,(eB,0))).2).1):Int) else (getD x1 (toNat x19) 0)) else ((getD r_u (toNat x19) (eB,(eB,0))).2).2))),((getD r_u (toNat x19) (eB,(eB,0))).2).2))) (toNat x19) ((getD (List.set r_u (toNat x19) ((getD r_u (toNat x19) (eB,(eB,0))).1,((extract (((getD r_u (toNat x19) (eB,(eB,0))).2).1) (toNat 0) (toNat (bif (decide ((bif (decide ((size (((getD r_u (toNat x19) (eB,(eB,0))).2).1):Int) < (getD x1 (toNat x19) 0))) then (size (((getD r_u (toNat x19) (eB,(eB,0))).2).1):Int) else (getD x1 (toNat x19) 0)) > ((getD r_u (toNat x19) (eB,(eB,0))).2).2)) then (bif (decide ((size (((getD r_u (toNat x19) (eB,(eB,0))).2).1):Int) < (getD x1 (toNat x19) 0))) then (size (((getD r_u (toNat x19) (eB,(eB,0))).2).1):Int) else (getD x1 (toNat x19) 0)) else ((getD r_u (toNat x19) (eB,(eB,0))).2).2))),((getD r_u (toNat x19) (eB,(eB,0))).2).2))) (toNat x19) (eB,(eB,0))).1,(((getD (List.set r_u (toNat x19) ((getD r_u (toNat x19) (eB,(eB,0))).1,((extract (((getD r_u (toNat x19) (eB,(eB,0))).2).1) (toNat 0) (toNat (bif (decide ((bif (decide ((size (((getD r_u (toNat x19) (eB,(eB,0))).2).1):Int) < (getD x1 (toNat x19) 0))) then (size (((getD r_u (toNat x19) (eB,(eB,0))).2).1):Int) else (getD x1 (toNat x19) 0)) > ((getD r_u (toNat x19) (eB,(eB,0))).2).2)) then (bif (decide ((size (((getD r_u (toNat x19) (eB,(eB,0))).2).1):Int) < (getD x1 (toNat x19) 0))) then (size (((getD r_u (toNat x19) (eB,(eB,0))).2).1):Int) else (getD x1 (toNat x19) 0)) else ((getD r_u (toNat x19) (eB,(eB,0))).2).2))),((getD r_u (toNat x19) (eB,(eB,0))).2).2))) (toNat x19) (eB,(eB,0))).2).1,(bif (decide ((bif (decide ((size (((getD r_u (toNat x19) (eB,(eB,0))).2).1):Int) < (getD x1 (toNat x19) 0))) then (size (((getD r_u (toNat x19) (eB,(eB,0))).2).1):Int) else (getD x1 (toNat x19) 0)) > ((getD r_u (toNat x19) (eB,(eB,0))).2).2)) then (bif (decide ((size (((getD r_u (toNat x19) (eB,(eB,0))).2).1):Int) < (getD x1 (toNat x19) 0))) then (size (((getD r_u (toNat x19) (eB,(eB,0))).2).1):Int) else (getD x1 (toNat x19) 0)) else ((getD r_u (toNat x19) (eB,(eB,0))).2).2)))) else none else none else none else none else bif ((decide ((0:Int)<=0))&&((decide (0<=(bif (decide ((bif (decide ((size (((getD r_u (toNat x19) (eB,(eB,0))).2).1):Int) < 0)) then (size (((getD r_u (toNat x19) (eB,(eB,0))).2).1):Int) else 0) > ((getD r_u (toNat x19) (eB,(eB,0))).2).2)) then (bif (decide ((size (((getD r_u (toNat x19) (eB,(eB,0))).2).1):Int) < 0)) then (size (((getD r_u (toNat x19) (eB,(eB,0))).2).1):Int) else 0) else ((getD r_u (toNat x19) (eB,(eB,0))).2).2)))&&(decide ((bif (decide ((bif (decide ((size (((getD r_u (toNat x19) (eB,(eB,0))).2).1):Int) < 0)) then (size (((getD r_u (toNat x19) (eB,(eB,0))).2).1):Int) else 0) > ((getD r_u (toNat x19) (eB,(eB,0))).2).2)) then (bif (decide ((size (((getD r_u (toNat x19) (eB,(eB,0))).2).1):Int) < 0)) then (size (((getD r_u (toNat x19) (eB,(eB,0))).2).1):Int) else 0) else ((getD r_u (toNat x19) (eB,(eB,0))).2).2)<=(size (((getD r_u (toNat x19) (eB,(eB,0))).2).1):Int))))) then bif ((decide (0<=x19))&&(decide (x19 < (length r_u:Int)))) then bif ((decide (0<=x19))&&(decide (x19 < (length (List.set r_u (toNat x19) ((getD r_u (toNat x19) (eB,(eB,0))).1,((extract (((getD r_u (toNat x19) (eB,(eB,0))).2).1) (toNat 0) (toNat (bif (decide ((bif (decide ((size (((getD r_u (toNat x19) (eB,(eB,0))).2).1):Int) < 0)) then (size (((getD r_u (toNat x19) (eB,(eB,0))).2).1):Int) else 0) > ((getD r_u (toNat x19) (eB,(eB,0))).2).2)) then (bif (decide ((size (((getD r_u (toNat x19) (eB,(eB,0))).2).1):Int) < 0)) then (size (((getD r_u (toNat x19) (eB,(eB,0))).2).1):Int) else 0) else ((getD r_u (toNat x19) (eB,(eB,0))).2).2))),((getD r_u (toNat x19) (eB,(eB,0))).2).2))):Int)))) then q0N x1 x18 (w64 (x19+1)) b16_0 (List.set (List.set r_u (toNat x19) ((getD r_u (toNat x19) (eB,(eB,0))).1,((extract (((getD r_u (toNat x19) (eB,(eB,0))).2).1) (toNat 0) (toNat (bif (decide ((bif (decide ((size (((getD r_u (toNat x19) (eB,(eB,0))).2).1):Int) < 0)) then (size (((getD r_u (toNat x19) (eB,(eB,0))).2).1):Int) else 0) > ((getD r_u (toNat x19) (eB,(eB,0))).2).2)) then (bif (decide ((size (((getD r_u (toNat x19) (eB,(eB,0))).2).1):Int) < 0)) then (size (((getD r_u (toNat x19) (eB,(eB,0))).2).1):Int) else 0) else ((getD r_u (toNat x19) (eB,(eB,0))).2).2))),((getD r_u (toNat x19) (eB,(eB,0))).2).2))) (toNat x19) ((getD (List.set r_u (toNat x19) ((getD r_u (toNat x19) (eB,(eB,0))).1,((extract (((getD r_u (toNat x19) (eB,(eB,0))).2).1) (toNat 0) (toNat (bif (decide ((bif (decide ((size (((getD r_u (toNat x19) (eB,(eB,0))).2).1):Int) < 0)) then (size (((getD r_u (toNat x19) (eB,(eB,0))).2).1):Int) else 0) > ((getD r_u (toNat x19) (eB,(eB,0))).2).2)) then (bif (decide ((size (((getD r_u (toNat x19) (eB,(eB,0))).2).1):Int) < 0)) then (size (((getD r_u (toNat x19) (eB,(eB,0))).2).1):Int) else 0) else ((getD r_u (toNat x19) (eB,(eB,0))).2).2))),((getD r_u (toNat x19) (eB,(eB,0))).2).2))) (toNat x19) (eB,(eB,0))).1,(((getD (List.set r_u (toNat x19) ((getD r_u (toNat x19) (eB,(eB,0))).1,((extract (((getD r_u (toNat x19) (eB,(eB,0))).2).1) (toNat 0) (toNat (bif (decide ((bif (decide ((size (((getD r_u (toNat x19) (eB,(eB,0))).2).1):Int) < 0)) then (size (((getD r_u (toNat x19) (eB,(eB,0))).2).1):Int) else 0) > ((getD r_u (toNat x19) (eB,(eB,0))).2).2)) then (bif (decide ((size (((getD r_u (toNat x19) (eB,(eB,0))).2).1):Int) < 0)) then (size (((getD r_u (toNat x19) (eB,(eB,0))).2).1):Int) else 0) else ((getD r_u (toNat x19) (eB,(eB,0))).2).2))),((getD r_u (toNat x19) (eB,(eB,0))).2).2))) (toNat x19) (eB,(eB,0))).2).1,(bif (decide ((bif (decide ((size (((getD r_u (toNat x19) (eB,(eB,0))).2).1):Int) < 0)) then (size (((getD r_u (toNat x19) (eB,(eB,0))).2).1):Int) else 0) > ((getD r_u (toNat x19) (eB,(eB,0))).2).2)) then (bif (decide ((size (((getD r_u (toNat x19) (eB,(eB,0))).2).1):Int) < 0)) then (size (((getD r_u (toNat x19) (eB,(eB,0))).2).1):Int) else 0) else ((getD r_u (toNat x19) (eB,(eB,0))).2).2)))) else none else none else none else none else some ((r_u,true),()):Option ((q8×Bool)×Unit)):=(ql X 184 0 [] _ _ _).trans (by kernel_rfl)
end Go.Den.S
namespace Go.Den
open Go
theorem qrg {α:Type} (f:α->Nat):∀ {xs:List α} {x:α},x∈xs->f x<=(xs.map f).sum
 | y::ys,x,h=>by
  simp only [List.map_cons,List.sum_cons];rcases List.mem_cons.1 h with rfl | h
  ·omega
  ·have:=qrg f h; omega
theorem qwr {α:Type} {f:α->Nat} {xs:List α} {n:Nat} (h:wl f xs<=n) {x:α} (hx:x∈xs):f x<=n:=by
 unfold wl at h;have:=qrg f hx;omega
end Go.Den
namespace Go.Den.S
open Go Go.Den
def q1m:List Fil->List Int->List Fil
 | [],_=>[]
 | f::d,ls=>(f.1,(f.2.1.extract 0 (max f.2.2 (min (ls.headD 0) (f.2.1.size:Int))).toNat,max f.2.2 (min (ls.headD 0) (f.2.1.size:Int))))::q1m d ls.tail
end Go.Den.S
namespace Go.Den.S
open Go Go.Den
open Classical
def cutB (d:List Fil) (asq:List Act) (w:Int) (ls:List Int):Option (List Fil):=
 if 0<=w/\w<=(asq.length:Int)/\(qR d (asq.take w.toNat)).2=w.toNat/\dOkB (qR d (asq.take w.toNat)).1=true then some (q1m (qR d (asq.take w.toNat)).1 ls) else none
end Go.Den.S
namespace Go.Den.S
open Go Go.Den
open Classical
set_option maxRecDepth 4000
theorem mn (s x:Int):(bif decide (s < x) then s else x)=min x s:=by
 by_cases h:s < x
 ·rw [dYT h,cT]; omega
 ·rw [dYF h,cF]; omega
def lost (f:Fil) (x:Int):Fil:=(f.1,(f.2.1.extract 0 (max f.2.2 (min x (f.2.1.size:Int))).toNat,max f.2.2 (min x (f.2.1.size:Int))))
theorem qfR (f:Fil) (d:List Fil) (ls:List Int):q1m (f::d) ls=lost f (ls.headD 0)::q1m d ls.tail:=rfl
theorem qqQ (ls:List Int) (i:Nat):(ls.drop i).tail=ls.drop (i+1):=by rw [List.tail_drop]
theorem qv9 {ls:List Int} {i:Nat} (h:i < ls.length):(ls.drop i).headD 0=ls.getD i 0:=by
 rw [List.headD_eq_head?_getD,List.head?_drop,List.getD_eq_getElem?_getD]
theorem qts {ls:List Int} {i:Nat} (h:¬ i < ls.length):(ls.drop i).headD 0=0:=by
 rw [List.drop_eq_nil_iff.2 (by omega)]; rfl
theorem qcn (ls:List Int) (hls:ls.length<=1000000000) (d:List Fil) (hd:dOkB d=true):∀ (r:List Fil) (i:Nat) (acc:List Fil),d.drop i=r->i<=d.length->acc.length<=i->
  zi ls (i:Int) d [] acc=some ((acc++q1m r (ls.drop i),true),())
 | [],i,acc,hd',hi,ha=>by
  have:=List.drop_eq_nil_iff.1 hd';rw [q86];have k1:decide ((i:Int) < (d.length:Int))=false:=dYF (by omega)
  simp only [k1,cF];show _=some ((acc++[],true),());rw [List.append_nil]
 | f::r,i,acc,hd',hi,ha=>by
  have h30:=(qG.1 hd).1;obtain ⟨e1,hlt,e2⟩:=qK dF hd';obtain ⟨_,_,_,f4,f5⟩:=jg.1 ((qG.1 hd).2.1 f (yL hd'));have ih:=fun a h=>qcn ls hls d hd r (i+1) (acc++[a]) e2 hlt h
  have kl:lim (acc.length+1) 40=true:=qJ (by omega)
  have hacc:∀ a:Fil,(acc++[a]).length<=i+1:=fun a=>by rw [length_append,List.length_singleton]; omega
  have k1:decide ((i:Int) < (d.length:Int))=true:=dYT (by omega)
  have k2:decide (0<=(i:Int))=true:=dYT (by omega)
  have k4:w64 ((i:Int)+1)=((i+1:Nat):Int):=qw (by omega)
  have k5:decide ((0:Int)<=0)=true:=rfl;have fin:∀ n:Int,max f.2.2 (min ((ls.drop i).headD 0) (f.2.1.size:Int))=n->zi ls ((i+1:Nat):Int) d [] (acc++[(f.1,(f.2.1.extract 0 n.toNat,n))])=some ((acc++q1m (f::r) (ls.drop i),true),()):=fun n hn=>by
   rw [ih _ (hacc _),qfR,qqQ];unfold lost;rw [hn,append_assoc]; rfl
  rw [q86,k1,k2];simp only [Bool.and_self,cT,k4,toNat_natCast,e1,k5,Bool.true_and];rw [kl];simp only [cT];by_cases hx:i < ls.length
  ·rw [qv9 hx] at fin;rw [dYT (show (i:Int) < (ls.length:Int) by omega),cT,cT]
   obtain ⟨x,hx'⟩:∃ x,ls.getD i 0=x:=⟨_,rfl⟩
   simp only [hx'] at fin ⊢;by_cases c1:x > (f.2.1.size:Int)
   ·rw [dYT c1,cT,dYF (show ¬ (f.2.1.size:Int) < f.2.2 by omega),cF,dYT (show (0:Int)<=(f.2.1.size:Int) by omega),dYT (le_refl _)]
    simp only [Bool.and_self,cT];exact fin (f.2.1.size:Int) (by omega)
   ·rw [dYF c1,cF];by_cases c2:x < f.2.2
    ·rw [dYT c2,cT,dYT f4,dYT f5];simp only [Bool.and_self,cT];exact fin f.2.2 (by omega)
    ·rw [dYF c2,cF,dYT (show (0:Int)<=x by omega),dYT (show x<=(f.2.1.size:Int) by omega)]
     simp only [Bool.and_self,cT];exact fin x (by omega)
  ·rw [qts hx] at fin;rw [dYF (show ¬ (i:Int) < (ls.length:Int) by omega),cF]
   by_cases c2:0 < f.2.2
   ·rw [dYT c2,cT,dYT f4,dYT f5];simp only [Bool.and_self,cT];exact fin f.2.2 (by omega)
   ·rw [dYF c2,cF];exact fin 0 (by omega)
def loO (d:List Fil) (ls:List Int):List Fil×Bool:=bif dOkB d then (q1m d ls,true) else ([],false)
theorem qi4 (d:List Fil) (hn:d.length<=1000000000) (ls:List Int) (hls:ls.length<=1000000000):qa2 d ls=some (loO d ls,()):=by
 rw [qiV,zO d hn];unfold loO;cases hd:dOkB d with
 | false=>rfl
 | true=>exact qcn ls hls d hd d 0 [] rfl (Nat.zero_le _) (Nat.le_refl _)
theorem qvq {α:Type} (acc r:List α) (f g:α) {i:Nat} (h:acc.length=i):(acc++f::r).set i g=acc++g::r:=by
 subst h; simp
theorem qcL (ls:List Int) (hls:ls.length<=1000000000):∀ (r:List Fil) (i:Nat) (acc:List Fil),(∀ f∈r,q0W f=true)->acc.length=i->i+r.length<=1000000000->
  q0N ls ((i+r.length:Nat):Int) (i:Int) [] (acc++r)=some ((acc++q1m r (ls.drop i),true),())
 | [],i,acc,hd',hi,ha=>by
  rw [q82];have k1:decide ((i:Int) < ((i+([]:List Fil).length:Nat):Int))=false:=dYF (by rw [List.length_nil]; omega)
  simp only [k1,cF];rfl
 | f::r,i,acc,hd',hi,ha=>by
  rw [length_cons] at ha;obtain ⟨_,_,_,f4,f5⟩:=jg.1 (hd' f (List.mem_cons_self ..));have ih:=qcL ls hls r (i+1) (acc++[lost f ((ls.drop i).headD 0)]) (fun g hg=>hd' g (List.mem_cons_of_mem _ hg)) (by rw [length_append,List.length_singleton]; omega) (by omega)
  have eL:i+1+r.length=i+(f::r).length:=by rw [length_cons]; omega
  have ea:acc++[lost f ((ls.drop i).headD 0)]++r=acc++lost f ((ls.drop i).headD 0)::r:=by rw [append_assoc]; rfl
  rw [eL,ea] at ih;have k1:decide ((i:Int) < ((i+(f::r).length:Nat):Int))=true:=dYT (by rw [length_cons]; omega)
  have k2:decide (0<=(i:Int))=true:=dYT (by omega)
  have k3:∀ g:Fil,decide ((i:Int) < ((acc++g::r).length:Int))=true:=fun g=>dYT (by rw [length_append,length_cons]; omega)
  have k4:w64 ((i:Int)+1)=((i+1:Nat):Int):=qw (by omega)
  have k5:decide ((0:Int)<=0)=true:=rfl;have g1:∀ g:Fil,(acc++g::r).getD i (eB,(eB,0))=g:=fun g=>qdo acc r g _ hi
  have g2:∀ g h:Fil,(acc++g::r).set i h=acc++h::r:=fun g h=>qvq acc r g h hi
  have fin:∀ x:Int,(ls.drop i).headD 0=x->q0N ls ((i+(f::r).length:Nat):Int) ((i+1:Nat):Int) [] (acc++(f.1,(f.2.1.extract 0 (max f.2.2 (min x (f.2.1.size:Int))).toNat,max f.2.2 (min x (f.2.1.size:Int))))::r)=some ((acc++q1m (f::r) (ls.drop i),true),()):=fun x hx=>by
   rw [hx] at ih;refine ih.trans ?_;rw [qfR,qqQ,hx,append_assoc]; rfl
  have m1:∀ x:Int,decide (0<=max f.2.2 (min x (f.2.1.size:Int)))=true:=fun x=>dYT (by omega)
  have m2:∀ x:Int,decide (max f.2.2 (min x (f.2.1.size:Int))<=(f.2.1.size:Int))=true:=fun x=>dYT (by omega)
  rw [q82,k1,k2];simp only [cT,toNat_natCast,k3,g1,g2,mn,mx,k4,k5,m1,m2,Bool.and_self];by_cases hx:i < ls.length
  ·rw [dYT (show (i:Int) < (ls.length:Int) by omega),cT]
   exact fin _ (qv9 hx)
  ·rw [dYF (show ¬ (i:Int) < (ls.length:Int) by omega),cF]
   exact fin _ (qts hx)
theorem qj8 (d:List Fil) (hn:d.length<=1000000000) (ls:List Int) (hls:ls.length<=1000000000):qa8 d ls=some (loO d ls,()):=by
 rw [qiL,zP d hn,qd6 d hn];unfold loO;cases hd:dOkB d with
 | false=>rfl
 | true=>
  have:=qcL ls hls d 0 [] (qG.1 hd).2.1 rfl (by omega)
  rw [Nat.zero_add] at this;exact this
noncomputable def cuO (d:List Fil) (xs:List Act) (w:Int) (ls:List Int):List Fil×Bool:=match cutB d xs w ls with
 | some x=>(x,true)
 | none=>([],false)
theorem qoa {xs:List Act} (h:aSz xs) (n:Nat):aSz (xs.take n):=⟨Nat.le_trans (by rw [List.length_take]; omega) h.1,fun a ha=>h.2 a (List.mem_of_mem_take ha)⟩
theorem qtW (d:List Fil) (xs:List Act) (w:Int) (ls:List Int) (hw:0<=w/\w<=(xs.length:Int)):cuO d xs w ls=bif decide (((qR d (xs.take w.toNat)).2:Int) < w) then ([],false) else loO (qR d (xs.take w.toNat)).1 ls:=by
 have hle:=q6i (xs.take w.toNat) d;rw [List.length_take] at hle;unfold cuO cutB loO;by_cases h:((qR d (xs.take w.toNat)).2:Int) < w
 ·rw [dYT h,if_neg (by omega)]; rfl
 ·rw [dYF h];cases ho:dOkB (qR d (xs.take w.toNat)).1 with
  | false=>rw [if_neg (fun c=>by cases c.2.2.2)]; rfl
  | true=>rw [if_pos ⟨hw.1,hw.2,by omega,rfl⟩]; rfl
theorem qtZ (d:List Fil) (xs:List Act) (w:Int) (ls:List Int) (hw:¬ (0<=w/\w<=(xs.length:Int))):cuO d xs w ls=([],false):=by
 unfold cuO cutB;rw [if_neg (fun c=>hw ⟨c.1,c.2.1⟩)]
theorem qcI (d:List Fil) (hn:d.length<=2000000) (xs:List Act) (hs:aSz xs) (w:Int) (ls:List Int) (hls:ls.length<=1000000000):q72 d xs w ls=some (cuO d xs w ls,()):=by
 rw [qkC,jy,q0V];simp only [oB];by_cases hw:0<=w/\w<=(xs.length:Int)
 ·rw [qtW d xs w ls hw,dYT hw,dYT hw.1,dYT hw.2,show decide ((0:Int)<=0)=true from rfl]
  simp only [Bool.not_true,cF,Bool.and_self,cT];rw [show take (w.toNat - toNat 0) (drop (toNat 0) xs)=xs.take w.toNat from rfl,q3e d hn _ (qoa hs _)]
  simp only [oB];have:=qbK (xs.take w.toNat) d hn;rw [qi4 _ (by omega) ls hls]
  cases decide (((qR d (xs.take w.toNat)).2:Int) < w)<;>rfl
 ·rw [qtZ d xs w ls hw,dYF hw]; rfl
theorem qkf (d:List Fil) (hn:d.length<=2000000) (xs:List Act) (hs:aSz xs) (w:Int) (ls:List Int) (hls:ls.length<=1000000000):qbD d xs w ls=some (cuO d xs w ls,()):=by
 rw [qjR,q00,q0V];simp only [oB];by_cases hw:0<=w/\w<=(xs.length:Int)
 ·rw [qtW d xs w ls hw,dYT hw,dYT hw.1,dYT hw.2,show decide ((0:Int)<=0)=true from rfl]
  simp only [Bool.not_true,cF,Bool.and_self,cT];rw [show take (w.toNat - toNat 0) (drop (toNat 0) xs)=xs.take w.toNat from rfl,q8A d hn _ (qoa hs _)]
  simp only [oB];have:=qbK (xs.take w.toNat) d hn;rw [qj8 _ (by omega) ls hls]
  cases decide (((qR d (xs.take w.toNat)).2:Int) < w)<;>rfl
 ·rw [qtZ d xs w ls hw,dYF hw]; rfl
theorem qmU:∀ (d:List Fil) (ls:List Int),(q1m d ls).length=d.length
 | [],_=>rfl
 | f::d,ls=>by rw [qfR,length_cons,length_cons,qmU d]
theorem qh3 (d:List Fil) (xs:List Act) (w:Int) (ls:List Int):(cuO d xs w ls).1.length<=30:=by
 unfold cuO cutB;split
 ·rename_i x hx;split at hx
  ·rename_i h;rw [<- Option.some.inj hx,qmU];exact (qG.1 h.2.2.2).1
  ·cases hx
 ·exact Nat.zero_le _
noncomputable def beO (e:Eng) (xs:List Act) (w:Int) (ls:List Int):Eng×Bool:=bif (cuO e.1 xs w ls).2 then (bif (opO (cuO e.1 xs w ls).1 e.2.1).2.2 then ((opO (cuO e.1 xs w ls).1 e.2.1).1,true) else (noE,false)) else (noE,false)
theorem qug (e:Eng) (h1:e.1.length<=1000000000) (h2:e.2.2.2.2.length<=1000000000):qbI e=some (e,()):=by
 rw [qje,qJ (show (0+e.1.length) * 40<=140737488355328 by omega),qJ (show (0+e.2.2.2.2.length) * 40<=140737488355328 by omega)]
 rfl
theorem qdi (e:Eng) (hn:e.1.length<=2000000) (xs:List Act) (hs:aSz xs) (w:Int) (ls:List Int) (hls:ls.length<=1000000000):q5R e xs w ls=some (beO e xs w ls,()):=by
 rw [ql9,qkf e.1 hn xs hs w ls hls];simp only [oB];have hl:=qh3 e.1 xs w ls;rw [q04 _ (by omega)]
 unfold beO;simp only [oB];cases (cuO e.1 xs w ls).2<;>cases (opO (cuO e.1 xs w ls).1 e.2.1).2.2<;>rfl
theorem qm9 (e:Eng) (hn:e.1.length<=2000000) (xs:List Act) (hs:aSz xs) (w:Int) (ls:List Int) (hls:ls.length<=1000000000):qcU e xs w ls=some (beO e xs w ls,()):=by
 rw [qlY,qcI e.1 hn xs hs w ls hls];simp only [oB];have hl:=qh3 e.1 xs w ls;rw [q2n _ (by omega)]
 obtain ⟨o1,o2,_⟩:=qm4 (cuO e.1 xs w ls).1 (by omega) e.2.1
 simp only [oB];rw [qug _ (by omega) (by omega)]
 unfold beO;cases (cuO e.1 xs w ls).2<;>cases (opO (cuO e.1 xs w ls).1 e.2.1).2.2<;>rfl
end Go.Den.S
namespace Go.Den.S
open Go Go.Den
set_option maxRecDepth 4000
def wAct (x:Act):Nat:=x.2.1.size+x.2.2.1.size+x.2.2.2.size
theorem quJ (x:Act) (left:Int) (h0:0<=left) (h1:left<=2097152) (hs:x.2.1.size<=9223372036854775807/\x.2.2.1.size<=9223372036854775807/\x.2.2.2.size<=9223372036854775807):qeN x left=some (szv (wAct x) left,()):=by
 have ew:wAct x=x.2.1.size+x.2.2.1.size+x.2.2.2.size:=rfl;obtain ⟨s0,s1,s2⟩:=hs;rw [qnL];rw [show w64 (left - (x.2.1.size:Int))=left - (x.2.1.size:Int) from qg (by omega) (by omega)]
 by_cases h2:left - (x.2.1.size:Int) < 0
 ·rw [q0j (by omega)]
  simp only [dYT h2,cT]
 simp only [dYF h2,cF];rw [show w64 (left - (x.2.1.size:Int) - (x.2.2.1.size:Int))=left - (x.2.1.size:Int) - (x.2.2.1.size:Int) from qg (by omega) (by omega)]
 by_cases h3:left - (x.2.1.size:Int) - (x.2.2.1.size:Int) < 0
 ·rw [q0j (by omega)]
  simp only [dYT h3,cT]
 simp only [dYF h3,cF];rw [show w64 (left - (x.2.1.size:Int) - (x.2.2.1.size:Int) - (x.2.2.2.size:Int))=left - (x.2.1.size:Int) - (x.2.2.1.size:Int) - (x.2.2.2.size:Int) from qg (by omega) (by omega)]
 by_cases h4:left - (x.2.1.size:Int) - (x.2.2.1.size:Int) - (x.2.2.2.size:Int) < 0
 ·rw [q0j (by omega)]
  simp only [dYT h4,cT]
 simp only [dYF h4,cF];rw [q7j (by omega)]
 congr 2; omega
theorem qsE (a:List Act) (left:Int) (h0:0<=left) (h1:left<=2097152) (hl:a.length<=9223372036854775807) (hs:∀ x∈a,x.2.1.size<=9223372036854775807/\x.2.2.1.size<=9223372036854775807/\x.2.2.2.size<=9223372036854775807) :
  qcR a left=some (szv (wl wAct a) left,()):=by
 rw [ql4];have e:w64 (left - (a.length:Int))=left - (a.length:Int):=qg (by omega) (by omega)
 rw [e];rw [show wl wAct a=a.length+(a.map wAct).sum from rfl]
 by_cases h:left - (a.length:Int) < 0
 ·simp only [dYT h,cT];unfold szv;rw [if_neg (by omega)]
 ·simp only [dYF h,cF];have key:=q8L a ((0,(eB,(eB,eB))):Act) (fun i r=>∀ left:Int,0<=left->left<=2097152->q5s a left (i:Int)=some (szv ((r.map wAct).sum) left,())) (fun left h0 h1=>by
   rw [qaj];simp [szv,h0]) (fun i x r hi hx hm ih left h0 h1=>by
   rw [qaj];have k1:decide ((i:Int) < (a.length:Int))=true:=dYT (by omega)
   have k2:decide (0<=(i:Int))=true:=dYT (by omega)
   have k4:w64 ((i:Int)+1)=((i+1:Nat):Int):=qw (by omega)
   simp only [k1,k2,Bool.and_self,cT,toNat_natCast,hx,k4,List.map_cons,List.sum_cons,pmk];rw [quJ x left h0 h1 (hs x hm),oB];by_cases hn:(wAct x:Int)<=left
   ·rw [q7j hn];simp only [dYF (show ¬ left - (wAct x:Int) < 0 by omega),cF]
    rw [ih _ (by omega) (by omega)]
    unfold szv;split<;>split<;>first | rfl | omega | (congr 2; omega)
   ·rw [q0j (by omega),q0j (by omega)]
    rfl)
  refine (key _ (by omega) (by omega)).trans ?_
  unfold szv;split<;>split<;>first | rfl | omega | (congr 2; omega)
theorem qt0 (a:List Act) (ha:a.length<=2097152):q48 a=some (a,()):=by
 rw [qm5];have e:lim a.length 56=true:=qJ (by omega)
 simp only [le_refl,decide_true,Int.natCast_nonneg,toNat_natCast,e,Bool.and_self,cT];refine (q9D (fun out i=>q1L a out i) a ((0,(eB,(eB,eB))):Act) (replicate a.length (0,(eB,(eB,eB)))) (by simp) fun out i hi' hl=>?_).trans ?_
 ·show q1L a out i=_;rw [qav];have e:w64 ((i:Int)+1)=(i:Int)+1:=qg (by omega) (by omega)
  have h1:decide ((i:Int) < (a.length:Int))=true:=dYT (by omega)
  have h2:decide ((i:Int) < (out.length:Int))=true:=dYT (by omega)
  have h3:decide (0<=(i:Int))=true:=dYT (by omega)
  simp only [h1,h2,h3,e,Bool.and_self,cT,toNat_natCast,qnu,oB,pmk]
 ·show q1L a a (a.length:Int)=_;rw [qav];simp
end Go.Den.S
namespace Go.Den.S
open Go Go.Den
open Classical
set_option maxRecDepth 4000
theorem qu0 (a:List Int) (ha:a.length<=2097152):q4b a=some (a,()):=by
 rw [qlX];have e:lim a.length 8=true:=qJ (by omega)
 simp only [le_refl,decide_true,Int.natCast_nonneg,toNat_natCast,e,Bool.and_self,cT];refine (q9D (fun out i=>q1H a out i) a (0:Int) (replicate a.length 0) (by simp) fun out i hi' hl=>?_).trans ?_
 ·show q1H a out i=_;rw [qaz];have e:w64 ((i:Int)+1)=(i:Int)+1:=qg (by omega) (by omega)
  have h1:decide ((i:Int) < (a.length:Int))=true:=dYT (by omega)
  have h2:decide ((i:Int) < (out.length:Int))=true:=dYT (by omega)
  have h3:decide (0<=(i:Int))=true:=dYT (by omega)
  simp only [h1,h2,h3,e,Bool.and_self,cT,toNat_natCast]
 ·show q1H a a (a.length:Int)=_;rw [qaz];simp
theorem qtp (a b:List Int) (ha:a.length<=200000000):qcY a b=some (decide (a=b),()):=by
 rw [qly];by_cases hl:a.length=b.length
 ·have e:((a.length:Int) != (b.length:Int))=false:=by simp [hl]
  simp only [e,cF];refine q8v (fun i=>q5d a b i) a b (0:Int) hl (fun i hi'=>?_) ?_
  ·rw [qan];have e:w64 ((i:Int)+1)=(i:Int)+1:=qg (by omega) (by omega)
   have h1:decide ((i:Int) < (a.length:Int))=true:=dYT (by omega)
   have h2:decide ((i:Int) < (b.length:Int))=true:=dYT (by omega)
   have h3:decide (0<=(i:Int))=true:=dYT (by omega)
   simp only [h1,h2,h3,e,Bool.and_self,cT,toNat_natCast,q8m];by_cases h:a.getD i 0=b.getD i 0
   ·rw [dYT h,if_pos h,Bool.not_true,cF]
   ·rw [dYF h,if_neg h,Bool.not_false,cT]
  ·rw [qan];simp
 ·have e:((a.length:Int) != (b.length:Int))=true:=by simp; omega
  simp only [e,cT];rw [dYF fun h=>hl (by rw [h])]
noncomputable def qfJ (k:Int):Nat->List Int
 | 0=>[]
 | n+1=>k::qfJ (k+1) n
theorem qq4 (a:List Int) (k:Int) (h0:0<=k) (hl:a.length<=200000000) (hk:k<=1000000000):qa6 a k=some (k+(a.length:Int),qfJ k a.length,()):=by
 rw [qih];have key:∀ (r pre:List Int) (k:Int),0<=k->k+(r.length:Int)<=2000000000->pre.length+r.length<=200000000->q3B k (pre.length:Int) (pre++r)=some (k+(r.length:Int),pre++qfJ k r.length,()):=by
  intro r;induction r with
  | nil=>
   intro pre k h0 hk hp;rw [q7R];have k1:decide ((pre.length:Int) < ((pre++([]:List Int)).length:Int))=false:=dYF (by simp)
   simp only [k1,cF];simp [qfJ]
  | cons x r ih=>
   intro pre k h0 hk hp;simp only [length_cons] at hp hk;have hset:∀ x y:Int,(pre++x::r).set pre.length y=pre++y::r:=fun x y=>by simp
   have hlt:∀ x:Int,decide ((pre.length:Int) < ((pre++x::r).length:Int))=true:=fun x=>dYT (by simp; omega)
   have k2:decide (0<=(pre.length:Int))=true:=dYT (by omega)
   have k3:w64 ((pre.length:Int)+1)=((pre.length+1:Nat):Int):=qw (by omega)
   have w1:w64 (k+1)=k+1:=qg (by omega) (by omega)
   rw [q7R];simp only [hlt,k2,k3,w1,Bool.and_self,cT,toNat_natCast,hset];have:=ih (pre++[k]) (k+1) (by omega) (by omega) (by simp only [length_append,List.length_singleton]; omega)
   rw [show (pre++[k]).length=pre.length+1 by simp,append_assoc,List.singleton_append] at this
   refine this.trans ?_;rw [length_cons,qfJ,append_assoc,List.singleton_append];rw [show k+1+(r.length:Int)=k+((r.length+1:Nat):Int) by omega]
 have:=key a [] k h0 (by omega) (by simpa using hl)
 simpa using this
theorem qwi (e:Eng) (xs:List Act) (w:Int) (ls:List Int):SmE (beO e xs w ls).1:=by
 unfold beO;have hl:=qh3 e.1 xs w ls;cases (cuO e.1 xs w ls).2 with
 | false=>exact q8Y
 | true=>
  rw [cT];cases (opO (cuO e.1 xs w ls).1 e.2.1).2.2 with
  | false=>exact q8Y
  | true=>exact qoV _ (by omega) _
theorem qwh {xs:List Act} {n:Nat} (h:wl wAct xs<=n) (hn:n<=2000000):aSz xs:=by
 have h1:=qfE h;refine ⟨by omega,fun a ha=>?_⟩
 have h2:=qwr h ha;unfold wAct at h2;omega
theorem qra {xs:List Act} (h:Wf (.sl qY) xs):xs.length<=9223372036854775807/\∀ x∈xs,x.2.1.size<=9223372036854775807/\x.2.2.1.size<=9223372036854775807/\x.2.2.2.size<=9223372036854775807:=⟨h.1,fun x hx=>⟨(h.2 x hx).2.1,(h.2 x hx).2.2.1,(h.2 x hx).2.2.2⟩⟩
theorem qrG (e:Eng) (xs:List Act) (w:Int) (ls:List Int) (hw:Wf qP e) (hA:Wf (.sl qY) xs):q94 e xs w ls=some (true,()):=by
 rw [qdh];by_cases hL:(ls.length:Int) > 1048576
 ·simp only [dYT hL,cT]
 rw [dYF hL,cF,q5F e 1048576 (by omega) (by omega) (qgD hw),oB]
 by_cases hn:szv (wEng e) 1048576 < 0
 ·simp only [dYT hn,cT]
 ·obtain ⟨k5,k6⟩:=q5p hn;obtain ⟨l1,l2⟩:=qkI (e:=e) (n:=1048576) (by omega)
  simp only [dYF hn,cF];rw [k6,qsE xs _ (by omega) (by omega) (qra hA).1 (qra hA).2,oB]
  by_cases hn2:szv (wl wAct xs) (1048576 - (wEng e:Int)) < 0
  ·simp only [dYT hn2,cT]
  ·obtain ⟨k7,_⟩:=q5p hn2;simp only [dYF hn2,cF];have hsz:aSz xs:=qwh (n:=1048576) (by omega) (by omega)
   have hal:xs.length<=1048576:=qfE (f:=wAct) (by omega)
   have hs:=qwi e xs w ls;have l3:=hs.f;have l4:=hs.s;simp only [q5L e (by omega) (by omega),qt0 xs (by omega),qu0 ls (by omega),qm9 e (by omega) xs hsz w ls (by omega),qdi e (by omega) xs hsz w ls (by omega),oB,q1u (beO e xs w ls).1 (beO e xs w ls).1 (by omega) (by omega),decide_true,Bool.not_true,Bool.not_false,beq_self_eq_true,bne_self_eq_false,cT,cF,q1u e e (by omega) (by omega),qcN xs xs (by omega),qtp ls ls (by omega),
    q0x e 1 (by omega) (by omega) (by omega) (by omega),q8R xs (1+3 * (e.1.length:Int)+4 * (e.2.2.2.2.length:Int)) (by omega) (by omega) (by omega),qq4 ls (1+3 * (e.1.length:Int)+4 * (e.2.2.2.2.length:Int)+4 * (xs.length:Int)) (by omega) (by omega) (by omega),dYF (show ¬ (1:Int)+3 * (e.1.length:Int)+4 * (e.2.2.2.2.length:Int)+4 * (xs.length:Int)+(ls.length:Int) < 0 by omega),
    q0x (beO e xs w ls).1 1 (by omega) (by omega) (by omega) (by omega),qiY _ hs,dYF (show ¬ (1:Int)+3 * ((beO e xs w ls).1.1.length:Int)+4 * ((beO e xs w ls).1.2.2.2.2.length:Int) < 0 by omega)]
end Go.Den.S
