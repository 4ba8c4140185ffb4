/- OwnPutsCut: equations of the functions of this seat as the executor tells them, or plain facts about them. Conditions: none here. -/
import Derived.Test.YthejgmhimclmdaaGreatDoorMidD
set_option linter.all false
open Bool (and_eq_true not_eq_true')
open ByteArray (extract size toList)
open Int (le_refl tmod toNat toNat_natCast)
open List (append_assoc append_nil drop drop_eq_nil_iff filter_append getD length length_append length_cons length_singleton length_take mem_append mem_cons_of_mem mem_cons_self mem_filter mem_map mem_singleton nil_append take)
open Nat (zero_le)
namespace Go.Den.S
open Go Go.Den Go.Proofs
noncomputable section
def qdt (a0:(List Int)):Option (Bool×Unit):=DF X 6 ((a0,()):((List Int))×Unit)
def q2f (a0:qp):Option (((List qd)×Bool)×Unit):=DF X 16 ((a0,()):(qp)×Unit)
def q3K (x4:(List qd)) (x13:(List qh)) (x14:Int) (x15:Int) (b0_0:q8) (b0_1:Int) (b0_2:Int) (b0_3:Int) (b0_4:(List qh)):Option (((List qd)×Bool)×Unit):=qA X 16 0 [] (mkSt 35 [(1,.sv (.ptr 0 0)),(4,.sv (.own 1000004)),(13,.sv (.lst qC x13)),(14,.sv (.int .i64 x14)),(15,.sv (.int .i64 x15))] [(1000004,.live (.row qx x4 0)),(1000013,.gone),(2000000,.gone),(2000004,.gone),(0,.live (.box [(.lst qj b0_0),(.int .i64 b0_1),(.int .i64 b0_2),(.int .i64 b0_3),(.lst qC b0_4)]))])
def q4u (a0:(List Int)):Option ((List Int)×Unit):=DF X 26 ((a0,()):((List Int))×Unit)
def q2E (x4:(List Int)) (x5:Int) (b_c_0:(List Int)) (b_c_1:Int) (b_c_2:Int):Option ((List Int)×Unit):=qA X 26 0 [] (mkSt 21 [(3,.sv (.ptr 1040 0)),(4,.sv (.own 1000004)),(5,.sv (.int .i64 x5))] [(1000004,.live (.row I x4 0)),(2066560,.gone),(1040,.live (.box [(.lst (.int .u8) b_c_0),(.int .i64 b_c_1),(.int .i64 b_c_2)]))])
def qaV (a0:(List Int)):Option ((List Int)×Unit):=DF X 28 ((a0,()):((List Int))×Unit)
def q5W (x0:(List Int)) (x3:(List Int)) (x4:Int):Option ((List Int)×Unit):=qA X 28 0 [] (mkSt 19 [(0,.sv (.lst I x0)),(3,.sv (.own 1000003)),(4,.sv (.int .i64 x4))] [(1000000,.gone),(1000003,.live (.row I x3 0))])
def q2g (a0:qp) (a1:(List qd)):Option ((qp×(List qz)×Int)×Unit):=DF X 34 ((a0,a1,()):(qp)×((List qd))×Unit)
def q72 (a0:q8) (a1:(List qz)) (a2:Int) (a3:(List Int)):Option ((q8×Bool)×Unit):=DF X 36 ((a0,a1,a2,a3,()):(q8)×((List qz))×(Int)×((List Int))×Unit)
def qa5 (a0:q8) (a1:q8):Option (Bool×Unit):=DF X 39 ((a0,a1,()):(q8)×(q8)×Unit)
def q3M (x5:Int) (b0_0:q8) (b16_0:q8):Option (Bool×Unit):=qA X 39 0 [] (mkSt 31 [(2,.sv (.ptr 0 0)),(3,.sv (.ptr 16 0)),(5,.sv (.int .i64 x5))] [(2000000,.gone),(0,.live (.box [(.lst qj b0_0)])),(2001024,.gone),(16,.live (.box [(.lst qj b16_0)]))])
def qej (a0:(List qd)) (a1:(List qd)):Option ((List qd)×Unit):=DF X 40 ((a0,a1,()):((List qd))×((List qd))×Unit)
def wV (x0:(List qd)) (x1:(List qd)) (x5:(List qd)) (x6:Int):Option ((List qd)×Unit):=qA X 40 0 [] (mkSt 63 [(0,.sv (.lst qx x0)),(1,.sv (.lst qx x1)),(5,.sv (.own 1000005)),(6,.sv (.int .i64 x6))] [(1000000,.gone),(1000001,.gone),(1000005,.live (.row qx x5 0))])
def q8V (x0:(List qd)) (x1:(List qd)) (x5:(List qd)) (x6:Int) (b_h_0:BA) (b_h_1:BA) (b_h_2:Bool):Option ((List qd)×Unit):=qA X 40 2 [0] (mkSt 63 [(0,.sv (.lst qx x0)),(1,.sv (.lst qx x1)),(5,.sv (.own 1000005)),(6,.sv (.int .i64 x6)),(7,.sv (.ptr 5184 0))] [(1000000,.gone),(1000001,.gone),(1000005,.live (.row qx x5 0)),(5184,.live (.box [(.str b_h_0),(.str b_h_1),(.bool b_h_2)]))])
def qbO (a0:q8) (a1:qh):Option ((BA×Bool)×Unit):=DF X 72 ((a0,a1,()):(q8)×(qh)×Unit)
def q2r (x65:(List qd)) (x66:Int) (x67:Int) (b16_0:BA) (b16_1:Int) (b16_2:Int) (b16_3:Int):Option ((BA×Bool)×Unit):=qA X 72 0 [] (mkSt 84 [(3,.sv (.ptr 16 0)),(65,.sv (.own 1000065)),(66,.sv (.int .i64 x66)),(67,.sv (.int .i64 x67))] [(1000065,.live (.row qx x65 0)),(16,.live (.box [(.str b16_0),(.int .i64 b16_1),(.int .i64 b16_2),(.int .i64 b16_3)]))])
def q6d (a0:qp) (a1:BA):Option (((List qz)×Bool)×Unit):=DF X 105 ((a0,a1,()):(qp)×(BA)×Unit)
def qa2 (a0:q8) (a1:(List Int)):Option ((q8×Bool)×Unit):=DF X 111 ((a0,a1,()):(q8)×((List Int))×Unit)
def zi (x1:(List Int)) (x7:Int) (b0_0:q8) (b16_0:q8) (b_p_0:q8):Option ((q8×Bool)×Unit):=qA X 111 0 [] (mkSt 63 [(1,.sv (.lst I x1)),(2,.sv (.ptr 0 0)),(4,.sv (.ptr 16 0)),(6,.sv (.ptr 3088 0)),(7,.sv (.int .i64 x7))] [(1000001,.gone),(2000000,.gone),(0,.live (.box [(.lst qj b0_0)])),(2001024,.live (.row qj b16_0 0)),(16,.live (.box [(.own 2001024)])),(2197632,.live (.row qj b_p_0 0)),(3088,.live (.box [(.own 2197632)]))])
end
theorem qhf (a0:(List Int)):qdt a0=((qbW a0).bind fun r3=>bif r3.1 then some (true,()) else (q0e a0).bind fun r4=>(jR r4.1.1).bind fun r5=>(q2g r4.1.1 r4.1.2).bind fun r6=>(q2d r4.1.1 r4.1.2).bind fun r7=>bif (r6.1.2.2 != r7.1.2.2) then some (false,()) else bif (r6.1.2.2 != 0) then some (((length r6.1.2.1:Int)==0),()) else (q4u a0).bind fun r8=>bif ((decide ((0:Int)<=11))&&(decide (11 < (length r8.1:Int)))) then bif ((w64 ((length r6.1.2.1:Int)+1)) != 0) then (qaV r8.1).bind fun r9=>(q72 r4.1.1.1 r6.1.2.1 (tmod (getD r8.1 (toNat 11) 0) (w64 ((length r6.1.2.1:Int)+1))) r9.1).bind fun r10=>(jG r10.1.1 r4.1.1.2.1).bind fun r11=>(q0c r10.1.1 r11.1.2.1).bind fun r12=>(jG r12.1.1 r4.1.1.2.1).bind fun r13=>bif (!r10.1.2) then some (false,()) else bif (!r11.1.2.2) then some (false,()) else bif (!r13.1.2.2) then some (false,()) else bif (r12.1.2 != (length r11.1.2.1:Int)) then some (false,()) else bif ((length r13.1.2.1:Int) != 0) then some (false,()) else (qa5 r12.1.1 r11.1.1.1).bind fun r14=>bif (!r14.1) then some (false,()) else bif (r13.1.1.2.2.2.1 != r11.1.1.2.2.2.1) then some (false,()) else (q2f r11.1.1).bind fun r15=>bif r15.1.2 then (zD r15.1.1 r5.1.1).bind fun r16=>bif r16.1 then some (true,()) else (qej r5.1.1 r4.1.2).bind fun r17=>(zD r15.1.1 r17.1).bind fun r18=>some (r18.1,()) else some (false,()) else none else none:Option (Bool×Unit)):=(qo X rfl _).trans (by kernel_rfl)
theorem qit (a0:qp):q2f a0=((q0v a0).bind fun r3=>bif (!r3.1) then some (([],false),()) else q3K [] a0.2.2.2.2 (length a0.2.2.2.2:Int) 0 a0.1 a0.2.1 a0.2.2.1 a0.2.2.2.1 a0.2.2.2.2:Option (((List qd)×Bool)×Unit)):=(qo X rfl _).trans (by kernel_rfl)
theorem q7W (x4:(List qd)) (x13:(List qh)) (x14:Int) (x15:Int) (b0_0:q8) (b0_1:Int) (b0_2:Int) (b0_3:Int) (b0_4:(List qh)):q3K x4 x13 x14 x15 b0_0 b0_1 b0_2 b0_3 b0_4=(bif (decide (x15 < x14)) then bif ((decide (0<=x15))&&(decide (x15 < (length x13:Int)))) then (qbO b0_0 ((getD x13 (toNat x15) (eB,(0,(0,0)))).1,(((getD x13 (toNat x15) (eB,(0,(0,0)))).2).1,(((getD x13 (toNat x15) (eB,(0,(0,0)))).2).2)))).bind fun r11=>bif (lim ((length x4)+1) 40) then q3K (x4++[((getD x13 (toNat x15) (eB,(0,(0,0)))).1,(r11.1.1,false))]) x13 x14 (w64 (x15+1)) b0_0 b0_1 b0_2 b0_3 b0_4 else none else none else some ((x4,true),()):Option (((List qd)×Bool)×Unit)):=(ql X 16 0 [] _ _ _).trans (by kernel_rfl)
theorem qga (a0:(List Int)):q4u a0=((q8T a0).bind fun r3=>(jK r3.1).bind fun r4=>q2E [] 0 r4.2.1.1 r4.2.1.2.1 r4.2.1.2.2:Option ((List Int)×Unit)):=(qo X rfl _).trans (by kernel_rfl)
theorem q6E (x4:(List Int)) (x5:Int) (b_c_0:(List Int)) (b_c_1:Int) (b_c_2:Int):q2E x4 x5 b_c_0 b_c_1 b_c_2=(bif (decide (x5 < 12)) then (q0A (b_c_0,(b_c_1,b_c_2)) 10000).bind fun r7=>bif (lim ((length x4)+1) 8) then q2E (x4++[r7.1]) (w64 (x5+1)) r7.2.1.1 r7.2.1.2.1 r7.2.1.2.2 else none else some (x4,()):Option ((List Int)×Unit)):=(ql X 26 0 [] _ _ _).trans (by kernel_rfl)
theorem qnM (a0:(List Int)):qaV a0=(q5W a0 [] 0:Option ((List Int)×Unit)):=(qo X rfl _).trans (by kernel_rfl)
theorem qbP (x0:(List Int)) (x3:(List Int)) (x4:Int):q5W x0 x3 x4=(bif (decide (x4 < 6)) then bif ((decide (0<=x4))&&(decide (x4 < (length x0:Int)))) then bif (lim ((length x3)+1) 8) then q5W x0 (x3++[(tmod (getD x0 (toNat x4) 0) 400)]) (w64 (x4+1)) else none else none else some (x3,()):Option ((List Int)×Unit)):=(ql X 28 0 [] _ _ _).trans (by kernel_rfl)
theorem qio (a0:qp) (a1:(List qd)):q2g a0 a1=((q3j ((w64 (a0.2.2.2.1+1)),a1)).bind fun r4=>(q0v a0).bind fun r5=>bif (!r5.1) then some ((([],(0,(0,(0,[])))),([],1)),()) else bif (!r4.1.2) then some ((([],(0,(0,(0,[])))),([],1)),()) else (q2F r4.1.1).bind fun r6=>(q6d a0 r6.1.1).bind fun r7=>bif (!r7.1.2) then some ((([],(0,(0,(0,[])))),([],2)),()) else (q5C a0.1 r7.1.1).bind fun r8=>bif (decide (r8.1.2 < (length r7.1.1:Int))) then some ((([],(0,(0,(0,[])))),([],2)),()) else (q4L r8.1.1).bind fun r9=>bif (decide (r9.1 > a0.2.1)) then some ((([],(0,(0,(0,[])))),([],2)),()) else (jG r8.1.1 a0.2.1).bind fun r10=>some ((r10.1.1,(r7.1.1,0)),()):Option ((qp×(List qz)×Int)×Unit)):=(qo X rfl _).trans (by kernel_rfl)
theorem qkC (a0:q8) (a1:(List qz)) (a2:Int) (a3:(List Int)):q72 a0 a1 a2 a3=((wK a2 0 (length a1:Int)).bind fun r6=>bif (!r6.1) then some (([],false),()) else bif ((decide ((0:Int)<=0))&&((decide (0<=a2))&&(decide (a2<=(length a1:Int))))) then (q0c a0 (take ((toNat a2) - (toNat 0)) (drop (toNat 0) a1))).bind fun r7=>bif (decide (r7.1.2 < a2)) then some (([],false),()) else (qa2 r7.1.1 a3).bind fun r8=>some (r8.1,()) else none:Option ((q8×Bool)×Unit)):=(qo X rfl _).trans (by kernel_rfl)
theorem qif (a0:q8) (a1:q8):qa5 a0 a1=(bif ((length a0:Int) != (length a1:Int)) then some (false,()) else q3M 0 a0 a1:Option (Bool×Unit)):=(qo X rfl _).trans (by kernel_rfl)
theorem q89 (x5:Int) (b0_0:q8) (b16_0:q8):q3M x5 b0_0 b16_0=(bif (decide (x5 < (length b0_0:Int))) then bif ((decide (0<=x5))&&(decide (x5 < (length b0_0:Int)))) then bif ((decide (0<=x5))&&(decide (x5 < (length b16_0:Int)))) then bif (!(((toList ((getD b0_0 (toNat x5) (eB,(eB,0))).1))==(toList ((getD b16_0 (toNat x5) (eB,(eB,0))).1)))&&(((toList (((getD b0_0 (toNat x5) (eB,(eB,0))).2).1))==(toList (((getD b16_0 (toNat x5) (eB,(eB,0))).2).1)))&&((((getD b0_0 (toNat x5) (eB,(eB,0))).2).2==((getD b16_0 (toNat x5) (eB,(eB,0))).2).2)&&true)))) then some (false,()) else q3M (w64 (x5+1)) b0_0 b16_0 else none else none else some (true,()):Option (Bool×Unit)):=(ql X 39 0 [] _ _ _).trans (by kernel_rfl)
theorem qpW (a0:(List qd)) (a1:(List qd)):qej a0 a1=(wV a0 a1 [] 0:Option ((List qd)×Unit)):=(qo X rfl _).trans (by kernel_rfl)
theorem qdT (x0:(List qd)) (x1:(List qd)) (x5:(List qd)) (x6:Int):wV x0 x1 x5 x6=(bif (decide (x6 < (length x1:Int))) then bif ((decide (0<=x6))&&(decide (x6 < (length x1:Int)))) then q8V x0 x1 x5 x6 ((getD x1 (toNat x6) (eB,(eB,false))).1) (((getD x1 (toNat x6) (eB,(eB,false))).2).1) (((getD x1 (toNat x6) (eB,(eB,false))).2).2) else none else bif (lim ((length x5)+(length x0)) 40) then some ((x5++x0),()) else none:Option ((List qd)×Unit)):=(ql X 40 0 [] _ _ _).trans (by kernel_rfl)
theorem qdR (x0:(List qd)) (x1:(List qd)) (x5:(List qd)) (x6:Int) (b_h_0:BA) (b_h_1:BA) (b_h_2:Bool):q8V x0 x1 x5 x6 b_h_0 b_h_1 b_h_2=(bif (decide ((length x0:Int) > 0)) then bif ((decide ((0:Int)<=0))&&(decide (0 < (length x0:Int)))) then bif (Op.bytesLess (toList ((getD x0 (toNat 0) (eB,(eB,false))).1)) (toList b_h_0)) then bif ((decide ((0:Int)<=0))&&(decide (0 < (length x0:Int)))) then bif (lim ((length x5)+1) 40) then bif ((decide ((0:Int)<=1))&&((decide (1<=(length x0:Int)))&&(decide ((length x0:Int)<=(length x0:Int))))) then q8V (take ((toNat (length x0:Int)) - (toNat 1)) (drop (toNat 1) x0)) x1 (x5++[((getD x0 (toNat 0) (eB,(eB,false))).1,(((getD x0 (toNat 0) (eB,(eB,false))).2).1,((getD x0 (toNat 0) (eB,(eB,false))).2).2))]) x6 b_h_0 b_h_1 b_h_2 else none else none else none else bif (decide ((length x0:Int) > 0)) then bif ((decide ((0:Int)<=0))&&(decide (0 < (length x0:Int)))) then bif ((toList ((getD x0 (toNat 0) (eB,(eB,false))).1))==(toList b_h_0)) then bif ((decide ((0:Int)<=1))&&((decide (1<=(length x0:Int)))&&(decide ((length x0:Int)<=(length x0:Int))))) then bif (!b_h_2) then bif (lim ((length x5)+1) 40) then wV (take ((toNat (length x0:Int)) - (toNat 1)) (drop (toNat 1) x0)) x1 (x5++[(b_h_0,(b_h_1,b_h_2))]) (w64 (x6+1)) else none else wV (take ((toNat (length x0:Int)) - (toNat 1)) (drop (toNat 1) x0)) x1 x5 (w64 (x6+1)) else none else bif (!b_h_2) then bif (lim ((length x5)+1) 40) then wV x0 x1 (x5++[(b_h_0,(b_h_1,b_h_2))]) (w64 (x6+1)) else none else wV x0 x1 x5 (w64 (x6+1)) else none else bif (!b_h_2) then bif (lim ((length x5)+1) 40) then wV x0 x1 (x5++[(b_h_0,(b_h_1,b_h_2))]) (w64 (x6+1)) else none else wV x0 x1 x5 (w64 (x6+1)) else none else bif (decide ((length x0:Int) > 0)) then bif ((decide ((0:Int)<=0))&&(decide (0 < (length x0:Int)))) then bif ((toList ((getD x0 (toNat 0) (eB,(eB,false))).1))==(toList b_h_0)) then bif ((decide ((0:Int)<=1))&&((decide (1<=(length x0:Int)))&&(decide ((length x0:Int)<=(length x0:Int))))) then bif (!b_h_2) then bif (lim ((length x5)+1) 40) then wV (take ((toNat (length x0:Int)) - (toNat 1)) (drop (toNat 1) x0)) x1 (x5++[(b_h_0,(b_h_1,b_h_2))]) (w64 (x6+1)) else none else wV (take ((toNat (length x0:Int)) - (toNat 1)) (drop (toNat 1) x0)) x1 x5 (w64 (x6+1)) else none else bif (!b_h_2) then bif (lim ((length x5)+1) 40) then wV x0 x1 (x5++[(b_h_0,(b_h_1,b_h_2))]) (w64 (x6+1)) else none else wV x0 x1 x5 (w64 (x6+1)) else none else bif (!b_h_2) then bif (lim ((length x5)+1) 40) then wV x0 x1 (x5++[(b_h_0,(b_h_1,b_h_2))]) (w64 (x6+1)) else none else wV x0 x1 x5 (w64 (x6+1)):Option ((List qd)×Unit)):=(ql X 40 2 [0] _ _ _).trans (by kernel_rfl)
theorem qjL (a0:q8) (a1:qh):qbO a0 a1=((wI a1.2.1).bind fun r4=>(q0d a0 r4.1).bind fun r5=>(yD a0).bind fun r6=>bif (!r6.1) then some ((eB,false),()) else bif (!r5.1.2) then some ((eB,false),()) else (wL a1.2.2.1 0 (size r5.1.1:Int)).bind fun r7=>bif (!r7.1) then some ((eB,false),()) else bif ((decide (0<=a1.2.2.1))&&((decide (a1.2.2.1<=(size r5.1.1:Int)))&&(decide ((size r5.1.1:Int)<=(size r5.1.1:Int))))) then (q4R (extract r5.1.1 (toNat a1.2.2.1) (toNat (size r5.1.1:Int)))).bind fun r8=>bif ((length r8.1.1:Int)==0) then some ((eB,false),()) else bif ((decide ((0:Int)<=0))&&(decide (0 < (length r8.1.1:Int)))) then (q5u (getD r8.1.1 (toNat 0) eB)).bind fun r9=>bif (!r9.1.2) then some ((eB,false),()) else bif (r9.1.1.1 != a1.2.2.2) then some ((eB,false),()) else q2r r9.1.1.2 (length r9.1.1.2:Int) 0 a1.1 a1.2.1 a1.2.2.1 a1.2.2.2 else none else none:Option ((BA×Bool)×Unit)):=(qo X rfl _).trans (by kernel_rfl)
theorem q9b (x65:(List qd)) (x66:Int) (x67:Int) (b16_0:BA) (b16_1:Int) (b16_2:Int) (b16_3:Int):q2r x65 x66 x67 b16_0 b16_1 b16_2 b16_3=(bif (decide (x67 < x66)) then bif ((decide (0<=x67))&&(decide (x67 < (length x65:Int)))) then bif ((toList ((getD x65 (toNat x67) (eB,(eB,false))).1))==(toList b16_0)) then bif (!((getD x65 (toNat x67) (eB,(eB,false))).2).2) then some ((((getD x65 (toNat x67) (eB,(eB,false))).2).1,true),()) else q2r x65 x66 (w64 (x67+1)) b16_0 b16_1 b16_2 b16_3 else q2r x65 x66 (w64 (x67+1)) b16_0 b16_1 b16_2 b16_3 else none else some ((eB,false),()):Option ((BA×Bool)×Unit)):=(ql X 72 0 [] _ _ _).trans (by kernel_rfl)
theorem qfA (a0:qp) (a1:BA):q6d a0 a1=((wI a0.2.2.1).bind fun r4=>(q0d a0.1 r4.1).bind fun r5=>bif (decide ((size r5.1.1:Int) < 300)) then some (([(1,(r4.1,(a1,eB))),(2,(r4.1,(eB,eB)))],true),()) else (q0u a0.1).bind fun r6=>bif ((decide ((0:Int)<=0))&&(decide (0 < (length r6.1.1:Int)))) then (q3Y (w64 (a0.2.2.1+1)) (getD r6.1.1 (toNat 0) 0)).bind fun r7=>bif (!r7.1.2) then some (([],false),()) else bif (limS ((size r7.1.1)+(size a1))) then (wI (w64 (a0.2.2.1+1))).bind fun r8=>some (([(1,(qF,((r7.1.1++a1),eB))),(2,(qF,(eB,eB))),(3,(qF,(eB,r8.1)))],true),()) else none else none:Option (((List qz)×Bool)×Unit)):=(qo X rfl _).trans (by kernel_rfl)
theorem qiV (a0:q8) (a1:(List Int)):qa2 a0 a1=((qO a0).bind fun r4=>bif (!r4.1) then some (([],false),()) else zi a1 0 a0 [] []:Option ((q8×Bool)×Unit)):=(qo X rfl _).trans (by kernel_rfl)
theorem q86 (x1:(List Int)) (x7:Int) (b0_0:q8) (b16_0:q8) (b_p_0:q8):zi x1 x7 b0_0 b16_0 b_p_0=(bif (decide (x7 < (length b0_0:Int))) then bif ((decide (0<=x7))&&(decide (x7 < (length b0_0:Int)))) then bif (decide (x7 < (length x1:Int))) then bif ((decide (0<=x7))&&(decide (x7 < (length x1:Int)))) then bif (decide ((getD x1 (toNat x7) 0) > (size (((getD b0_0 (toNat x7) (eB,(eB,0))).2).1):Int))) then bif (decide ((size (((getD b0_0 (toNat x7) (eB,(eB,0))).2).1):Int) < ((getD b0_0 (toNat x7) (eB,(eB,0))).2).2)) then bif ((decide ((0:Int)<=0))&&((decide (0<=((getD b0_0 (toNat x7) (eB,(eB,0))).2).2))&&(decide (((getD b0_0 (toNat x7) (eB,(eB,0))).2).2<=(size (((getD b0_0 (toNat x7) (eB,(eB,0))).2).1):Int))))) then bif (lim ((length b_p_0)+1) 40) then zi x1 (w64 (x7+1)) b0_0 b16_0 (b_p_0++[((getD b0_0 (toNat x7) (eB,(eB,0))).1,((extract (((getD b0_0 (toNat x7) (eB,(eB,0))).2).1) (toNat 0) (toNat (((getD b0_0 (toNat x7) (eB,(eB,0))).2).2))),((getD b0_0 (toNat x7) (eB,(eB,0))).2).2))]) else none else none else bif ((decide ((0:Int)<=0))&&((decide (0<=(size (((getD b0_0 (toNat x7) (eB,(eB,0))).2).1):Int)))&&(decide ((size (((getD b0_0 (toNat x7) (eB,(eB,0))).2).1):Int)<=(size (((getD b0_0 (toNat x7) (eB,(eB,0))).2).1):Int))))) then bif (lim ((length b_p_0)+1) 40) then zi x1 (w64 (x7+1)) b0_0 b16_0 (b_p_0++[((getD b0_0 (toNat x7) (eB,(eB,0))).1,((extract (((getD b0_0 (toNat x7) (eB,(eB,0))).2).1) (toNat 0) (toNat (size (((getD b0_0 (toNat x7) (eB,(eB,0))).2).1):Int))),(size (((getD b0_0 (toNat x7) (eB,(eB,0))).2).1):Int)))]) else none else none else bif (decide ((getD x1 (toNat x7) 0) < ((getD b0_0 (toNat x7) (eB,(eB,0))).2).2)) then bif ((decide ((0:Int)<=0))&&((decide (0<=((getD b0_0 (toNat x7) (eB,(eB,0))).2).2))&&(decide (((getD b0_0 (toNat x7) (eB,(eB,0))).2).2<=(size (((getD b0_0 (toNat x7) (eB,(eB,0))).2).1):Int))))) then bif (lim ((length b_p_0)+1) 40) then zi x1 (w64 (x7+1)) b0_0 b16_0 (b_p_0++[((getD b0_0 (toNat x7) (eB,(eB,0))).1,((extract (((getD b0_0 (toNat x7) (eB,(eB,0))).2).1) (toNat 0) (toNat (((getD b0_0 (toNat x7) (eB,(eB,0))).2).2))),((getD b0_0 (toNat x7) (eB,(eB,0))).2).2))]) else none else none else bif ((decide ((0:Int)<=0))&&((decide (0<=(getD x1 (toNat x7) 0)))&&(decide ((getD x1 (toNat x7) 0)<=(size (((getD b0_0 (toNat x7) (eB,(eB,0))).2).1):Int))))) then bif (lim ((length b_p_0)+1) 40) then zi x1 (w64 (x7+1)) b0_0 b16_0 (b_p_0++[((getD b0_0 (toNat x7) (eB,(eB,0))).1,((extract (((getD b0_0 (toNat x7) (eB,(eB,0))).2).1) (toNat 0) (toNat (getD x1 (toNat x7) 0))),(getD x1 (toNat x7) 0)))]) else none else none else none else bif (decide (0 < ((getD b0_0 (toNat x7) (eB,(eB,0))).2).2)) then bif ((decide ((0:Int)<=0))&&((decide (0<=((getD b0_0 (toNat x7) (eB,(eB,0))).2).2))&&(decide (((getD b0_0 (toNat x7) (eB,(eB,0))).2).2<=(size (((getD b0_0 (toNat x7) (eB,(eB,0))).2).1):Int))))) then bif (lim ((length b_p_0)+1) 40) then zi x1 (w64 (x7+1)) b0_0 b16_0 (b_p_0++[((getD b0_0 (toNat x7) (eB,(eB,0))).1,((extract (((getD b0_0 (toNat x7) (eB,(eB,0))).2).1) (toNat 0) (toNat (((getD b0_0 (toNat x7) (eB,(eB,0))).2).2))),((getD b0_0 (toNat x7) (eB,(eB,0))).2).2))]) else none else none else bif (lim ((length b_p_0)+1) 40) then zi x1 (w64 (x7+1)) b0_0 b16_0 (b_p_0++[((getD b0_0 (toNat x7) (eB,(eB,0))).1,((extract (((getD b0_0 (toNat x7) (eB,(eB,0))).2).1) (toNat 0) (toNat 0)),0))]) else none else none else some ((b_p_0,true),()):Option ((q8×Bool)×Unit)):=(ql X 111 0 [] _ _ _).trans (by kernel_rfl)
end Go.Den.S
namespace Go.Den.S
open Go Go.Den
theorem qvZ {a b:BA} {r s:List UInt8} (h:frL a++r=frL b++s):a=b/\r=s:=by
 simp only [frL,append_assoc] at h;obtain ⟨h1,h2⟩:=qsW h;obtain ⟨_,h3⟩:=List.append_inj h2 (by rw [q3m,q3m])
 obtain ⟨h4,h5⟩:=List.append_inj h3 (by rw [<- qW,<- qW,h1])
 exact ⟨zU h4,h5⟩
theorem qvd {t:BA} {p q:List UInt8} (h:frL t=p++q) (hq:q≠[]):fr1 p=none:=by
 cases hp:fr1 p with
 | none=>rfl
 | some x=>
  obtain ⟨_,_,r,e⟩:=qey (t:=x.1) (m:=x.2) hp;have:frL x.1++(r++q)=frL t++[]:=by rw [append_nil,h,e,append_assoc]
  have:=(qvZ this).2;exact absurd (List.append_eq_nil_iff.1 this).2 hq
def q1m:List Fil->List Int->List Fil
 | [],_=>[]
 | f::d,ls=>(f.1,(f.2.1.extract 0 (max f.2.2 (min (ls.headD 0) (f.2.1.size:Int))).toNat,max f.2.2 (min (ls.headD 0) (f.2.1.size:Int))))::q1m d ls.tail
section
variable {β γ:Type}
theorem qu5 (a b:List (BA×Option β)):runK (a++b)=b.foldl wY (runK a):=by simp [runK,List.foldl_append]
end
theorem quS {d:List Fil} (h:AscK d) (k:BA) (v:BA×Int) (n:Nat):segD (putK k v d) n=if nmL n=k then segR n v.1 else segD d n:=by
 unfold segD;rw [wQ h];split<;>rfl
end Go.Den.S
namespace Go.Den.S
open Go Go.Den
open Classical
section
variable {β:Type}
theorem qn4 {l:List (BA×β)} (h:AscK l) {k:BA} {v:β} (hg:getK k l=some v):putK k v l=l:=
 q3N (jT h k v) h fun x=>by
  rw [jV];have hm:=(yj h).1 hg;constructor
  ·rintro (h | h)
   ·rw [h]; exact hm
   ·exact h.1
  ·intro hx;by_cases e:x.1=k
   ·exact .inl (q6D h hx hm e)
   ·exact .inr ⟨hx,e⟩
theorem qpZ {l:List (BA×β)} (h:AscK l):(l.map (·.1)).Nodup:=by
 unfold List.Nodup;rw [List.pairwise_map];exact h.imp fun h=>q1T h
end
def cleaned (x:List Fil) (l:List Nat):List Fil:=x.filter fun f=>decide (f.1≠qB)&&!zY l f
theorem qt7:numOf qB=none:=by
 cases h:numOf qB with
 | none=>rfl
 | some n=>exact absurd (q1y.1 h).2 (q47 n)
theorem qer {x:List Fil} (h:dOkB x=true) (l:List Nat):allA x (wG x l) (cleaned x l):=by
 have hasc:=(qG.1 h).2.2
 let ks:=(if (getK qB x).isSome then [qB] else [])++(x.filter (zY l)).map (·.1)
 have e1:wG x l=ks.map drA:=by
  show _=List.map drA (_++_);unfold wG;rw [List.map_append,List.map_map];congr 1
  split<;>rfl
 have hnot:qB∉(x.filter (zY l)).map (·.1):=fun hm=>by
  obtain ⟨f,hf,e⟩:=mem_map.1 hm;have:=(mem_filter.1 hf).2;unfold zY at this;rw [e,qt7] at this; cases this
 have hnd:ks.Nodup:=by
  refine List.nodup_append.2 ⟨by split<;>simp,(qpZ hasc).sublist ((List.filter_sublist).map _),fun a ha b hb e=>?_⟩
  split at ha
  ·rw [mem_singleton.1 ha] at e;exact hnot (e▸hb)
  ·cases ha
 have hpres:∀ k∈ks,getK k x≠none:=fun k hk=>by
  rcases mem_append.1 hk with hk | hk
  ·split at hk
   ·rename_i hs;rw [mem_singleton.1 hk];exact Option.ne_none_iff_isSome.2 hs
   ·cases hk
  ·obtain ⟨f,hf,e⟩:=mem_map.1 hk;rw [<- e,(yj hasc).2 (show (f.1,f.2)∈x from (mem_filter.1 hf).1)]
   simp
 rw [e1];have:=drops ks h hnd hpres;have e2:(x.filter fun f=>decide (f.1∉ks))=cleaned x l:=by
  unfold cleaned;refine List.filter_congr fun f hf=>?_
  rw [Bool.eq_iff_iff];simp only [decide_eq_true_eq,and_eq_true,not_eq_true',ks,mem_append,not_or,mem_map,mem_filter,not_exists,not_and,and_imp];constructor
  ·rintro ⟨h1,h2⟩
   refine ⟨fun e=>h1 ?_,?_⟩
   ·rw [if_pos (by rw [<- e,(yj hasc).2 (show (f.1,f.2)∈x from hf)]; rfl),e]; simp
   ·cases hs:zY l f with
    | false=>rfl
    | true=>exact absurd rfl (h2 f hf hs)
  ·rintro ⟨h1,h2⟩
   refine ⟨fun hm=>?_,fun g hg hs e=>?_⟩
   ·split at hm
    ·exact h1 (mem_singleton.1 hm)
    ·cases hm
   ·have:=q6D hasc hg hf e;subst this;rw [h2] at hs; cases hs
 rw [e2] at this;exact this
theorem qpp {x y:List Fil} {l:List Nat} (h:∀ n∈l,segD x n=segD y n):allB x l=allB y l/\dirD x l=dirD y l/\conD x l=conD y l:=by
 have h1:∀ n∈l,batD x n=batD y n:=fun n hn=>by unfold batD; rw [h n hn]
 have h2:∀ n∈l,zo x n=zo y n:=fun n hn=>by
  unfold zo wo hdD batD;rw [h n hn]
 have h3:jO x l=jO y l:=by
  unfold jO;clear h h1;induction l with
  | nil=>rfl
  | cons a l ih=>rw [List.flatMap_cons,List.flatMap_cons,h2 a (mem_cons_self ..),ih fun n hn=>h2 n (mem_cons_of_mem _ hn)]
 refine ⟨q7G h1,?_,?_⟩
 ·unfold dirD rowD; rw [h3]
 ·unfold conD rowD; rw [h3]
theorem qrS {x:List Fil} {m:Nat} {l:List Nat} (h:∀ n∈l,endD x n=(txtD x n).size):wX x m l=some []:=qaJ.2 h
theorem qkS {x:List Fil} {l:List Nat} {F:Nat->Nat×List Bat} (S:Says x l F) (hk:q12 x=true) {room:Int} (h1:100<=room) (h2:room<=20000) :
  q1r x room=some (mkE x (cleaned x l) room l,wG x l)/\Clean (cleaned x l) l/\mkE x (cleaned x l) room l=mkE (cleaned x l) (cleaned x l) room l/\allB (cleaned x l) l=(l.flatMap fun n=>(F n).2)/\conD x l=conD (cleaned x l) l:=by
 have ho:=(q0U.1 hk).1;have hasc:=(qG.1 ho).2.2;have B:=S.base ho;have hact:=qer ho l;have hget:∀ n∈l,getK (nmL n) (cleaned x l)=getK (nmL n) x:=fun n hn=>by
  obtain ⟨t,h1,_⟩:=S.file n hn;rw [h1];refine (get_filter hasc _ _).2 ⟨h1,?_⟩;simp only [and_eq_true,decide_eq_true_eq,not_eq_true'];refine ⟨q47 n,?_⟩;unfold zY;rw [q9M (S.lt n hn)];simp [hn]
 have hhas:∀ n,n < 100->hasN (cleaned x l) n=true->n∈l:=fun n hn h=>by
  obtain ⟨v,hv⟩:=Option.isSome_iff_exists.1 h;obtain ⟨_,hp⟩:=(get_filter hasc _ _).1 hv;simp only [and_eq_true,decide_eq_true_eq,not_eq_true'] at hp;have:=hp.2;unfold zY at this;rw [q9M hn] at this;simpa using this
 have S':Says (cleaned x l) l F:={
  lt:=S.lt,asc:=S.asc,ne:=S.ne
  has:=fun n hn h=>.inl (hhas n hn h)
  file:=fun n hn=>by rw [hget n hn]; exact S.file n hn
  hd:=S.hd,bt:=S.bt,up:=S.up }
 have hnew:getK qB (cleaned x l)=none:=by
  cases hg:getK qB (cleaned x l) with
  | none=>rfl
  | some v=>
   have:=((get_filter hasc _ _).1 hg).2;simp at this
 obtain ⟨C,_,hall⟩:=S'.clean (q8U hk _) hhas hnew;have hsame:=qpp (x:=x) (y:=cleaned x l) (l:=l) fun n hn=>by unfold segD; rw [hget n hn]
 refine ⟨?_,C,by unfold mkE; rw [hsame.1,hsame.2.1],hall,hsame.2.2⟩
 unfold q1r;rw [if_pos ⟨h1,h2,hk,B.rise⟩,B.segs];simp only [qrS B.full,append_nil];unfold allA at hact;rw [hact];simp
theorem qjz {x:List Fil} {m:Nat}:∀ {i:List Nat},(∀ n∈i,endD x n=(txtD x n).size)->endD x m≠(txtD x m).size->wX x m (i++[m])=some [adA qB (bOf ((bl (txtD x m)).take (endD x m))),kpA qB,mvA qB (nmL m)]
 | [],_,h=>by
  show wX x m [m]=_;unfold wX;rw [if_neg h,if_pos rfl];rfl
 | n::i,hi,h=>by
  show wX x m (n::(i++[m]))=_;unfold wX;rw [if_pos (hi n (mem_cons_self ..))];exact qjz (fun k hk=>hi k (mem_cons_of_mem _ hk)) h
theorem qtl {d:List Fil} {l:List Nat} (C:Clean d l) (hlen:d.length<=29) {t:BA} (ht:getK (nmL (l.getLastD 0)) d=some (t,(t.size:Int))) {p:List UInt8} (hp:p≠[]) (hf:fr1 p=none) (hsz:t.size+p.length<=20000) {room:Int} (h1:100<=room) (h2:room<=20000) :
  q1r (putK (nmL (l.getLastD 0)) (bOf (bl t++p),((bOf (bl t++p)).size:Int)) d) room=some (mkE d d room l,[adA qB t,kpA qB,mvA qB (nmL (l.getLastD 0))]) /\
  allA (putK (nmL (l.getLastD 0)) (bOf (bl t++p),((bOf (bl t++p)).size:Int)) d) [adA qB t,kpA qB,mvA qB (nmL (l.getLastD 0))] d:=by
 obtain ⟨i,hi,hlt⟩:=q6S C.ascN C.ne;generalize hm:l.getLastD 0=m at *;have hml:m∈l:=by rw [hi]; simp
 have S:=C.says;have hm100:=S.lt m hml;obtain ⟨t',k1,k2,k3,k4,k5,k6,k7,k8⟩:=C.file hml;have:t'=t:=by rw [ht] at k1; exact (Prod.mk.inj (Option.some.inj k1)).1.symm
 subst this;have hnm:=qei m;have hdm:(delK (nmL m) d).length+1<=d.length:=qlJ ((yj C.asc).1 ht);have hps:(bOf (bl t'++p)).size=t'.size+p.length:=by rw [qD,length_append,<- qW]
 generalize hx:putK (nmL m) (bOf (bl t'++p),((bOf (bl t'++p)).size:Int)) d=x;have hxo:dOkB x=true:=by
  rw [<- hx];exact q7I C.ok (by omega) (q2R hnm.1 (by omega) (by omega) (by omega) (le_refl _))
 have hxasc:=(qG.1 hxo).2.2;have hxk:q12 x=true:=by rw [<- hx] at hxo ⊢; exact q4Y C.kept hxo
 have hseg:∀ n,n < 100->segD x n=segD d n:=fun n hn=>by
  rw [<- hx,quS C.asc];split
  ·rename_i e;have:=jY hn hm100 e;subst this;have e2:segD d n=some (hdD d n,batD d n):=by unfold segD; rw [ht]; exact k2
   rw [e2];refine qqF (show (bOf (bl t'++p)).size<=20000 by omega) k5 k6 k7 k8 (r:=p) ?_ hf
   rw [yX,k3,append_assoc]
  ·rfl
 have hD:∀ n,n < 100->hdD x n=hdD d n:=fun n hn=>by unfold hdD; rw [hseg n hn]
 have hN:∀ n,n < 100->hasN x n=hasN d n:=fun n hn=>by
  rw [<- hx,qlc C.asc];split
  ·rename_i e;rw [jY hn hm100 e];exact ((C.has hm100).2 hml).symm
  ·rfl
 have hl:least x=least d:=qpS (fun n hn=>by rw [hD n hn]; exact least_le d hn) ((qhZ d).imp id fun ⟨n,hn,h⟩=>⟨n,hn,by rw [hD n hn]; exact h⟩)
 have hsN:segN x=l:=by
  rw [(zR.1 C.segs).2.1];refine qiZ (q3H _) (q3H _) fun n=>?_
  rw [q0i,q0i,hl];constructor<;>rintro ⟨q1,q2,q3⟩
  ·exact ⟨q1,by rw [<- hN n q1]; exact q2,q3⟩
  ·exact ⟨q1,by rw [hN n q1]; exact q2,q3⟩
 have hsl:∀ n∈l,segD x n=segD d n:=fun n hn=>hseg n (S.lt n hn)
 have hsame:=qpp hsl;have hsegs:segs x=some l:=zR.2 ⟨hxo,hsN.symm,C.ne,fun n hn=>by rw [hsl n hn]; exact C.seg hn⟩
 have hrise:rise x=true:=by unfold rise; rw [hsegs]; simp only [hsame.1]; exact C.up
 have hnew:getK qB x=none:=by rw [<- hx,wQ C.asc,if_neg fun h=>q47 m h.symm]; exact C.new
 have hst:wG x l=[]:=qd4.2 ⟨hnew,fun f hff n hn=>by
  rw [<- hx] at hff;rcases jV.1 hff with rfl | hff
  ·obtain ⟨q1,q2⟩:=q1y.1 hn;rw [jY q1 hm100 q2]; exact hml
  ·exact C.stale f hff.1 n hn⟩
 have htx:txtD x m=bOf (bl t'++p):=by
  unfold txtD;rw [<- hx,wQ C.asc,if_pos rfl]; rfl
 have hem:endD x m=t'.size:=by
  have:=C.full m hml;have e:txtD d m=t':=by unfold txtD; rw [ht]; rfl
  rw [e] at this;rw [<- this];unfold endD batD hdD;rw [hseg m hm100]
 have hne:endD x m≠(txtD x m).size:=by
  rw [hem,htx,hps];have:0 < p.length:=List.length_pos_iff.2 hp;omega
 have htorn:wX x m l=some [adA qB t',kpA qB,mvA qB (nmL m)]:=by
  rw [hi,qjz (fun n hn=>?_) hne]
  ·rw [hem,htx,yX,qW,q4C,q9G]
  ·have hnl:n∈l:=by rw [hi]; exact List.mem_append_left _ hn
   have:=C.full n hnl;have e:txtD x n=txtD d n:=by
    unfold txtD;rw [<- hx,wQ C.asc,if_neg fun h=>by have:=jY (S.lt n hnl) hm100 h; have:=hlt n hn; omega]
   rw [e,<- this];unfold endD batD hdD;rw [hsl n hnl]
 have hxl:x.length<=29:=by
  rw [<- hx,q8n]; omega
 have hns:qB.size=2:=rfl;have hdn:∀ v,(delK qB (putK qB v x)).length+1<=30:=fun v=>by rw [qi2 hxasc hnew]; omega
 have hall:allA x [adA qB t',kpA qB,mvA qB (nmL m)] d:=by
  have o1:dOkB (putK qB (t',0) x)=true:=q7I hxo (by have:=q2N qB x; omega) (q2R (by omega) (by omega) k4 (le_refl _) (by omega))
  have o2:dOkB (putK qB (t',(t'.size:Int)) x)=true:=q7I hxo (by have:=q2N qB x; omega) (q2R (by omega) (by omega) k4 (by omega) (le_refl _))
  refine yx (q5M hxo (.inr q0f) (.inl rfl) (q6F hnew) o1) ?_;refine yx (d1:=putK qB (t',(t'.size:Int)) x) (q5M o1 (.inr q0f) (.inr q0f) ?_ o2) ?_
  ·rw [qsn (u:=t') (kp:=0) (by rw [wQ hxasc,if_pos rfl]),q8c hxasc]
  ·refine yx (d1:=d) (q5M o2 (.inl rfl) (.inr q0f) ?_ C.ok) (je d);rw [qv8 (u:=t') (by rw [wQ hxasc,if_pos rfl]) (q47 m),qi2 hxasc hnew,<- hx,q8c C.asc,qn4 C.asc ht]
 refine ⟨?_,hall⟩;unfold q1r;rw [if_pos ⟨h1,h2,hxk,hrise⟩,hsegs];simp only [hm,htorn,hst,nil_append];unfold allA at hall;rw [hall];unfold mkE;rw [hsame.1,hsame.2.1];simp
theorem qu9 (t:BA):bOf ((bl t).take t.size)=t:=by rw [qW,List.take_length,q9G]
theorem q3Q:∀ {l:List Fil} (ls:List Int),(∀ f∈l,f.2.2=(f.2.1.size:Int))->q1m l ls=l
 | [],_,_=>rfl
 | (k,t,kp)::l,ls,h=>by
  have e:kp=(t.size:Int):=h _ (mem_cons_self ..);subst e;have e2:max (t.size:Int) (min (ls.headD 0) (t.size:Int))=(t.size:Int):=by omega
  simp only [q1m,e2,toNat_natCast,qll,qu9,q3Q ls.tail fun f hf=>h f (mem_cons_of_mem _ hf)]
theorem qpa {f:Fil} {b:List Fil} (hb:∀ f∈b,f.2.2=(f.2.1.size:Int)) (h0:0<=f.2.2) (h1:f.2.2<=(f.2.1.size:Int)):∀ {a:List Fil} (ls:List Int),(∀ f∈a,f.2.2=(f.2.1.size:Int))->
  ∃ n:Nat,f.2.2<=(n:Int)/\n<=f.2.1.size/\q1m (a++f::b) ls=a++(f.1,(bOf ((bl f.2.1).take n),(n:Int)))::b
 | [],ls,_=>by
  refine ⟨(max f.2.2 (min (ls.headD 0) (f.2.1.size:Int))).toNat,by omega,by omega,?_⟩
  have e:(((max f.2.2 (min (ls.headD 0) (f.2.1.size:Int))).toNat:Nat):Int)=max f.2.2 (min (ls.headD 0) (f.2.1.size:Int)):=by omega
  rw [e];simp only [nil_append,q1m,qll,q3Q ls.tail hb]
 | g::a,ls,ha=>by
  obtain ⟨n,h2,h3,h4⟩:=qpa hb h0 h1 (a:=a) ls.tail fun f hf=>ha f (mem_cons_of_mem _ hf)
  refine ⟨n,h2,h3,?_⟩;have hg:=q3Q (l:=[g]) ls fun f hf=>ha f (by rw [mem_singleton.1 hf]; exact mem_cons_self ..)
  simp only [q1m,List.cons.injEq,and_true] at hg;simp only [List.cons_append,q1m,h4,hg]
theorem qoE {d:List Fil} (hk:∀ f∈d,f.2.2=(f.2.1.size:Int)) (k t:BA) (kp:Int) (h0:0<=kp) (h1:kp<=(t.size:Int)) (ls:List Int):∃ n:Nat,kp<=(n:Int)/\n<=t.size/\q1m (putK k (t,kp) d) ls=putK k (bOf ((bl t).take n),(n:Int)) d:=by
 unfold putK;exact qpa (f:=(k,t,kp)) (fun f hf=>hk f (mem_filter.1 hf).1) h0 h1 ls fun f hf=>hk f (mem_filter.1 hf).1
def cutB (d:List Fil) (asq:List Act) (w:Int) (ls:List Int):Option (List Fil):=
 if 0<=w/\w<=(asq.length:Int)/\(qR d (asq.take w.toNat)).2=w.toNat/\dOkB (qR d (asq.take w.toNat)).1=true then some (q1m (qR d (asq.take w.toNat)).1 ls) else none
theorem q3i {d x:List Fil} {asq:List Act} {k:Nat} (h:k<=asq.length) (ha:allA d (asq.take k) x) (ho:dOkB x=true) (ls:List Int):cutB d asq (k:Int) ls=some (q1m x ls):=by
 unfold allA at ha;unfold cutB;simp only [toNat_natCast,ha,length_take];rw [if_pos ⟨by omega,by omega,by omega,ho⟩]
def Comes (x:List Fil) (room:Int) (P:List Fil->List Nat->Prop):Prop:=∃ more x' l',q1r x room=some (mkE x' x' room l',more)/\allA x more x'/\Clean x' l'/\P x' l'
theorem q2M {d:List Fil} {l:List Nat} (C:Clean d l) {room:Int} (h1:100<=room) (h2:room<=20000) {P:List Fil->List Nat->Prop} (hP:P d l):Comes d room P:=
 ⟨[],d,l,q8Q.2 ⟨h1,h2,l,C,rfl⟩,je d,C,hP⟩
theorem Clean.qeJ {d:List Fil} {l:List Nat} (C:Clean d l):∀ f∈d,f.2.2=(f.2.1.size:Int):=(q0U.1 C.kept).2
theorem qtj {d:List Fil} {l:List Nat} (C:Clean d l) (hlen:d.length<=29) {t:BA} (ht:t.size<=20000) {room:Int} (h1:100<=room) (h2:room<=20000) {P:List Fil->List Nat->Prop} (hP:P d l):Comes (putK qB (t,(t.size:Int)) d) room P:=by
 have hns:qB.size=2:=rfl;have ho:dOkB (putK qB (t,(t.size:Int)) d)=true:=q7I C.ok (by have:=q2N qB d; omega) (q2R (by omega) (by omega) ht (by omega) (le_refl _))
 have hk:=q4Y C.kept ho;have S:=C.says;have hg:∀ n,getK (nmL n) (putK qB (t,(t.size:Int)) d)=getK (nmL n) d:=fun n=>by rw [wQ C.asc,if_neg (q47 n)]
 have S':Says (putK qB (t,(t.size:Int)) d) l fun n=>(hdD d n,batD d n):={
  lt:=S.lt,asc:=S.asc,ne:=S.ne
  has:=fun n hn h=>by
   unfold hasN at h;rw [hg] at h;exact S.has n hn h
  file:=fun n hn=>by rw [hg]; exact S.file n hn
  hd:=S.hd,bt:=S.bt,up:=S.up }
 obtain ⟨k1,k2,k3,_⟩:=qkS S' hk h1 h2;have e:cleaned (putK qB (t,(t.size:Int)) d) l=d:=by
  refine q3N ((jT C.asc _ _).filter _) C.asc fun x=>?_
  unfold cleaned;rw [mem_filter,jV];simp only [and_eq_true,decide_eq_true_eq,not_eq_true'];constructor
  ·rintro ⟨h | h,h3,_⟩
   ·rw [h] at h3; exact absurd rfl h3
   ·exact h.1
  ·intro hx;have hne:x.1≠qB:=jC.1 C.new x hx;refine ⟨.inr ⟨hx,hne⟩,hne,?_⟩;unfold zY;split
   ·rename_i n hn;have:=C.stale x hx n hn;simp [this]
   ·rfl
 rw [e] at k1 k3;refine ⟨_,d,l,by rw [k1,k3],?_,C,hP⟩
 have:=qer ho l;rw [e] at this;exact this
theorem qaI {d:List Fil} {l:List Nat} (C:Clean d l) (hlen:d.length<=29) {t:BA} (ht:t.size<=20000) {kp:Int} (h0:0<=kp) (hkp:kp<=(t.size:Int)) (ls:List Int) {room:Int} (h1:100<=room) (h2:room<=20000) {P:List Fil->List Nat->Prop} (hP:P d l):Comes (q1m (putK qB (t,kp) d) ls) room P:=by
 obtain ⟨n,k1,k2,k3⟩:=qoE C.qeJ qB t kp h0 hkp ls;rw [k3];have hn:(bOf ((bl t).take n)).size=n:=by rw [qD,length_take,<- qW]; omega
 have:=qtj C hlen (t:=bOf ((bl t).take n)) (by omega) h1 h2 hP
 rw [hn] at this;exact this
def qpq (d:List Fil) (l:List Nat) (b:Bat) (x:List Fil) (l':List Nat):Prop:=allB x l'=allB d l\/allB x l'=allB d l++[b]
theorem quM {d:List Fil} {l:List Nat} (C:Clean d l) (hlen:d.length<=29) {b:Bat} (hb:batT b=true) (hq:zN (allB d l) < b.1) {t:BA} (ht:getK (nmL (l.getLastD 0)) d=some (t,(t.size:Int))) (hsz:t.size+(batL b).length<=20000) {k:Nat} (hk:k<=2) (ls:List Int) {room:Int} (h1:100<=room) (h2:room<=20000) :
  ∃ x,cutB d [adA (nmL (l.getLastD 0)) (bOf (batL b)),kpA (nmL (l.getLastD 0))] (k:Int) ls=some x/\Comes x room (qpq d l b):=by
 obtain ⟨o1,o2,a1,a2⟩:=qgn C (b:=b) ht hsz
 match k,hk with
 | 0,_=>exact ⟨_,q3i (zero_le _) (je d) C.ok ls,by rw [q3Q ls C.qeJ]; exact q2M C h1 h2 (.inl rfl)⟩
 | 2,_=>
  obtain ⟨C',e⟩:=C.put hb hq ht o2;exact ⟨_,q3i (by simp) (yx a1 (yx a2 (je _))) o2 ls,by rw [q3Q ls C'.qeJ]; exact q2M C' h1 h2 (.inr e)⟩
 | 1,_=>
  refine ⟨_,q3i (by simp) (yx a1 (je _)) o1 ls,?_⟩
  have hs:(bOf (bl t++batL b)).size=t.size+(batL b).length:=by rw [qD,length_append,<- qW]
  obtain ⟨n,k1,k2,k3⟩:=qoE C.qeJ (nmL (l.getLastD 0)) (bOf (bl t++batL b)) (t.size:Int) (by omega) (by omega) ls
  rw [k3];obtain ⟨j,hj⟩:∃ j,n=t.size+j:=⟨n - t.size,by omega⟩
  have htk:(bl (bOf (bl t++batL b))).take n=bl t++(batL b).take j:=by
   rw [yX,hj,qW,List.take_length_add_append]
  have hns:(n:Int)=((bOf (bl t++(batL b).take j)).size:Int):=by
   rw [qD,length_append,<- qW,length_take]; omega
  rw [htk,hns];by_cases hj0:j=0
  ·subst hj0;rw [List.take_zero,append_nil,q9G,qn4 C.asc ht];exact q2M C h1 h2 (.inl rfl)
  ·by_cases hjl:j=(batL b).length
   ·rw [hjl,List.take_length];obtain ⟨C',e⟩:=C.put hb hq ht o2;exact q2M C' h1 h2 (.inr e)
   ·have hp:(batL b).take j≠[]:=by
     intro h;have:min j (batL b).length=0:=by rw [<- length_take,h]; rfl
     omega
    have hf:fr1 ((batL b).take j)=none:=qvd (t:=bTx b) (q:=(batL b).drop j) (List.take_append_drop j (batL b)).symm (by
     intro h;have:(batL b).length - j=0:=by rw [<- List.length_drop,h]; rfl
     omega)
    obtain ⟨q1,q2⟩:=qtl C hlen ht hp hf (by rw [length_take]; omega) h1 h2
    exact ⟨_,d,l,q1,q2,C,.inl rfl⟩
 | k+3,h=>omega
theorem quz {d:List Fil} {l:List Nat} (C:Clean d l) (hlen:d.length<=29) {b:Bat} (hb:batT b=true) (hq:zN (allB d l) < b.1) (hm:l.getLastD 0+1 < 100) (hsz:(qU (l.getLastD 0+1) (l.headD 0)++batL b).length<=20000) {k:Nat} (hk:k<=3) (ls:List Int) {room:Int} (h1:100<=room) (h2:room<=20000) :
  ∃ x,cutB d [adA qB (bOf (qU (l.getLastD 0+1) (l.headD 0)++batL b)),kpA qB,mvA qB (nmL (l.getLastD 0+1))] (k:Int) ls=some x/\Comes x room (qpq d l b):=by
 obtain ⟨o1,o2,o3,a1,a2,a3⟩:=q3q C hlen hsz (l.getLastD 0+1);have hs:(bOf (qU (l.getLastD 0+1) (l.headD 0)++batL b)).size<=20000:=by rw [qD]; exact hsz
 match k,hk with
 | 0,_=>exact ⟨_,q3i (zero_le _) (je d) C.ok ls,by rw [q3Q ls C.qeJ]; exact q2M C h1 h2 (.inl rfl)⟩
 | 1,_=>exact ⟨_,q3i (by simp) (yx a1 (je _)) o1 ls,qaI C hlen hs (le_refl _) (by omega) ls h1 h2 (.inl rfl)⟩
 | 2,_=>exact ⟨_,q3i (by simp) (yx a1 (yx a2 (je _))) o2 ls,qaI C hlen hs (by omega) (le_refl _) ls h1 h2 (.inl rfl)⟩
 | 3,_=>
  obtain ⟨C',e⟩:=C.next hb hq hm o3;exact ⟨_,q3i (by simp) (yx a1 (yx a2 (yx a3 (je _)))) o3 ls,by rw [q3Q ls C'.qeJ]; exact q2M C' h1 h2 (.inr e)⟩
 | k+4,h=>omega
end Go.Den.S
namespace Go.Den.S
open Go Go.Den
set_option maxRecDepth 4000
theorem qf3 (s:Spt) (cs:List Chg) (hn:cs.length<=1000000000):∀ (r:List Chg) (i:Nat),cs.drop i=r->i<=cs.length->
  q2r cs (cs.length:Int) (i:Int) s.1 s.2.1 s.2.2.1 s.2.2.2=some (qco s.1 r,())
 | [],i,hd,hi=>by
  have:=drop_eq_nil_iff.1 hd;rw [q9b];have k1:decide ((i:Int) < (cs.length:Int))=false:=dYF (by omega)
  simp only [k1,cF]; rfl
 | c::r,i,hd,hi=>by
  obtain ⟨e1,hlt,e2⟩:=qK dC hd;rw [q9b];have k1:decide ((i:Int) < (cs.length:Int))=true:=dYT (by omega)
  have k2:decide (0<=(i:Int))=true:=dYT (by omega)
  have k4:w64 ((i:Int)+1)=((i+1:Nat):Int):=qw (by omega)
  rw [k1,k2];simp only [Bool.and_self,cT,k4,toNat_natCast,e1,y8,qf3 s cs hn r (i+1) e2 hlt,qjE];cases decide (c.1=s.1)<;>cases c.2.2<;>rfl
theorem qkM (d:List Fil) (hd:dOkB d=true) (s:Spt) {n:Nat} (hn:n < 100) (h:s.2.1=(n:Int)):qbO d s=some (voO d s,()):=by
 have hl:=(qG.1 hd).1;rw [qjL,wP,h,zl hn];simp only [oB];rw [q05 d (by omega)]
 simp only [oB];rw [zP d (by omega),hd]
 unfold faO;cases hg:getK (nmL n) d with
 | none=>rw [qbm (by rw [qaZ d s h]; unfold q62; rw [hg]; rfl)]; rfl
 | some x=>
  have hf:=(yj (qG.1 hd).2.2).1 hg;have hx:x.1.size<=20000:=(jg.1 ((qG.1 hd).2.1 _ hf)).2.2.1;simp only [oB,Bool.not_true,cF,q00,q0V];by_cases ha:0<=s.2.2.1/\s.2.2.1<=(x.1.size:Int)
  ·rw [dYT ha,dYT ha.1,dYT ha.2,dYT (le_refl _),q7e];simp only [Bool.not_true,cF,Bool.and_self,cT,oB,toNat_natCast];have hu:(unO (x.1.extract s.2.2.1.toNat x.1.size)).1=(unfr ((bl x.1).drop s.2.2.1.toNat)).1:=by
    unfold unO;rw [if_pos (by rw [qW,qh9,List.length_drop,<- qW]; omega),qh9]
   have hf:=fun h=>qgt (t:=x.1.extract s.2.2.1.toNat x.1.size) (h:=h)
   have hba:q62 d n s.2.2.1=match (unfr ((bl x.1).drop s.2.2.1.toNat)).1 with | []=>none | h::_=>q0b h:=by
    unfold q62;rw [hg,oB,if_neg (by omega)];all_goals rfl
   rw [hu] at hf ⊢;cases hc:(unfr ((bl x.1).drop s.2.2.1.toNat)).1 with
   | nil=>rw [hc] at hba; rw [qbm (by rw [qaZ d s h,hba]; rfl)]; rfl
   | cons t r=>
    have hh:frOk t:=hf t (by rw [hc]; exact mem_cons_self ..)
    have k1:(((t::r).length:Int)==0)=false:=by rw [beq_eq_false_iff_ne,length_cons]; omega
    have k2:decide ((0:Int) < ((t::r).length:Int))=true:=dYT (by rw [length_cons]; omega)
    have k3:decide ((0:Int)<=0)=true:=rfl;have k4:(t::r).getD (toNat 0) eB=t:=rfl;rw [k1,k2,k3,k4,qai t (by have:=hh.2; omega)]
    rw [hc] at hba;have hba:q62 d n s.2.2.1=q0b t:=hba;simp only [cF,Bool.and_self,cT,oB];cases hb:q0b t with
    | none=>rw [qi0 hb,qbm (by rw [qaZ d s h,hba,hb]; rfl)]; rfl
    | some b=>
     have hb40:=qn2 hb;rw [qiI hb,qoW h (hba.trans hb)];simp only [Bool.not_true,cF];have:=qf3 s b.2 (by omega) b.2 0 rfl (zero_le _)
     rw [h] at this;rw [show ((0:Int))=((0:Nat):Int) from rfl,this]
     cases (b.1 != s.2.2.2)<;>rfl
  ·rw [dYF ha,qbm (by
    rw [qaZ d s h]; unfold q62; rw [hg,oB,if_pos (by omega)]; rfl)]; rfl
end Go.Den.S
namespace Go.Den.S
open Go Go.Den
open Classical
set_option maxRecDepth 4000
theorem qdP (e:Eng) (hd:dOkB e.1=true) (l:List Spt) (hl:l.length<=1000000000) (hs:∀ s∈l,∃ n:Nat,n < 100/\s.2.1=(n:Int)):∀ (r:List Spt) (i:Nat) (acc:List Chg),l.drop i=r->i<=l.length->acc.length<=i->
  q3K acc l (l.length:Int) (i:Int) e.1 e.2.1 e.2.2.1 e.2.2.2.1 e.2.2.2.2=some ((acc++conS e.1 r,true),())
 | [],i,acc,hd',hi,ha=>by
  have:=drop_eq_nil_iff.1 hd';rw [q7W];have k1:decide ((i:Int) < (l.length:Int))=false:=dYF (by omega)
  simp only [k1,cF];show _=some ((acc++[],true),());rw [append_nil]
 | s::r,i,acc,hd',hi,ha=>by
  obtain ⟨e1,hlt,e2⟩:=qK dS hd';obtain ⟨n,hn,h⟩:=hs s (yL hd');rw [q7W];have k1:decide ((i:Int) < (l.length:Int))=true:=dYT (by omega)
  have k2:decide (0<=(i:Int))=true:=dYT (by omega)
  have k4:w64 ((i:Int)+1)=((i+1:Nat):Int):=qw (by omega)
  have kl:lim (acc.length+1) 40=true:=qJ (by omega)
  rw [k1,k2];simp only [Bool.and_self,cT,k4,toNat_natCast,e1,pmk];rw [qkM e.1 hd s hn h];simp only [oB];rw [kl,cT,qdP e hd l hl hs r (i+1) _ e2 hlt (by rw [length_append,length_singleton]; omega),append_assoc]
  rfl
theorem q6o (e:Eng) (hd:e.1.length<=2000000):q2f e=some (coO e,()):=by
 rw [qit,q0H e hd];unfold coO;by_cases h:eOkP e
 ·obtain ⟨f1,f2,f3⟩:=q6w h;rw [dYT h,if_pos h];exact qdP e f1 e.2.2.2.2 (by omega) f3 e.2.2.2.2 0 [] rfl (zero_le _) (Nat.le_refl _)
 ·rw [dYF h,if_neg h]; rfl
def lost (f:Fil) (x:Int):Fil:=(f.1,(f.2.1.extract 0 (max f.2.2 (min x (f.2.1.size:Int))).toNat,max f.2.2 (min x (f.2.1.size:Int))))
theorem qfR (f:Fil) (d:List Fil) (ls:List Int):q1m (f::d) ls=lost f (ls.headD 0)::q1m d ls.tail:=rfl
theorem qqQ (ls:List Int) (i:Nat):(ls.drop i).tail=ls.drop (i+1):=by rw [List.tail_drop]
theorem qv9 {ls:List Int} {i:Nat} (h:i < ls.length):(ls.drop i).headD 0=ls.getD i 0:=by
 rw [List.headD_eq_head?_getD,List.head?_drop,List.getD_eq_getElem?_getD]
theorem qts {ls:List Int} {i:Nat} (h:¬ i < ls.length):(ls.drop i).headD 0=0:=by
 rw [drop_eq_nil_iff.2 (by omega)]; rfl
theorem qcn (ls:List Int) (hls:ls.length<=1000000000) (d:List Fil) (hd:dOkB d=true):∀ (r:List Fil) (i:Nat) (acc:List Fil),d.drop i=r->i<=d.length->acc.length<=i->
  zi ls (i:Int) d [] acc=some ((acc++q1m r (ls.drop i),true),())
 | [],i,acc,hd',hi,ha=>by
  have:=drop_eq_nil_iff.1 hd';rw [q86];have k1:decide ((i:Int) < (d.length:Int))=false:=dYF (by omega)
  simp only [k1,cF];show _=some ((acc++[],true),());rw [append_nil]
 | f::r,i,acc,hd',hi,ha=>by
  have h30:=(qG.1 hd).1;obtain ⟨e1,hlt,e2⟩:=qK dF hd';obtain ⟨_,_,_,f4,f5⟩:=jg.1 ((qG.1 hd).2.1 f (yL hd'));have ih:=fun a h=>qcn ls hls d hd r (i+1) (acc++[a]) e2 hlt h
  have kl:lim (acc.length+1) 40=true:=qJ (by omega)
  have hacc:∀ a:Fil,(acc++[a]).length<=i+1:=fun a=>by rw [length_append,length_singleton]; omega
  have k1:decide ((i:Int) < (d.length:Int))=true:=dYT (by omega)
  have k2:decide (0<=(i:Int))=true:=dYT (by omega)
  have k4:w64 ((i:Int)+1)=((i+1:Nat):Int):=qw (by omega)
  have k5:decide ((0:Int)<=0)=true:=rfl;have fin:∀ n:Int,max f.2.2 (min ((ls.drop i).headD 0) (f.2.1.size:Int))=n->zi ls ((i+1:Nat):Int) d [] (acc++[(f.1,(f.2.1.extract 0 n.toNat,n))])=some ((acc++q1m (f::r) (ls.drop i),true),()):=fun n hn=>by
   rw [ih _ (hacc _),qfR,qqQ];unfold lost;rw [hn,append_assoc]; rfl
  rw [q86,k1,k2];simp only [Bool.and_self,cT,k4,toNat_natCast,e1,k5,Bool.true_and];rw [kl];simp only [cT];by_cases hx:i < ls.length
  ·rw [qv9 hx] at fin;rw [dYT (show (i:Int) < (ls.length:Int) by omega),cT,cT]
   obtain ⟨x,hx'⟩:∃ x,ls.getD i 0=x:=⟨_,rfl⟩
   simp only [hx'] at fin ⊢;by_cases c1:x > (f.2.1.size:Int)
   ·rw [dYT c1,cT,dYF (show ¬ (f.2.1.size:Int) < f.2.2 by omega),cF,dYT (show (0:Int)<=(f.2.1.size:Int) by omega),dYT (le_refl _)]
    simp only [Bool.and_self,cT];exact fin (f.2.1.size:Int) (by omega)
   ·rw [dYF c1,cF];by_cases c2:x < f.2.2
    ·rw [dYT c2,cT,dYT f4,dYT f5];simp only [Bool.and_self,cT];exact fin f.2.2 (by omega)
    ·rw [dYF c2,cF,dYT (show (0:Int)<=x by omega),dYT (show x<=(f.2.1.size:Int) by omega)]
     simp only [Bool.and_self,cT];exact fin x (by omega)
  ·rw [qts hx] at fin;rw [dYF (show ¬ (i:Int) < (ls.length:Int) by omega),cF]
   by_cases c2:0 < f.2.2
   ·rw [dYT c2,cT,dYT f4,dYT f5];simp only [Bool.and_self,cT];exact fin f.2.2 (by omega)
   ·rw [dYF c2,cF];exact fin 0 (by omega)
def loO (d:List Fil) (ls:List Int):List Fil×Bool:=bif dOkB d then (q1m d ls,true) else ([],false)
theorem qi4 (d:List Fil) (hn:d.length<=1000000000) (ls:List Int) (hls:ls.length<=1000000000):qa2 d ls=some (loO d ls,()):=by
 rw [qiV,zO d hn];unfold loO;cases hd:dOkB d with
 | false=>rfl
 | true=>exact qcn ls hls d hd d 0 [] rfl (zero_le _) (Nat.le_refl _)
noncomputable def cuO (d:List Fil) (xs:List Act) (w:Int) (ls:List Int):List Fil×Bool:=match cutB d xs w ls with
 | some x=>(x,true)
 | none=>([],false)
theorem qoa {xs:List Act} (h:aSz xs) (n:Nat):aSz (xs.take n):=⟨Nat.le_trans (by rw [length_take]; omega) h.1,fun a ha=>h.2 a (List.mem_of_mem_take ha)⟩
theorem qtW (d:List Fil) (xs:List Act) (w:Int) (ls:List Int) (hw:0<=w/\w<=(xs.length:Int)):cuO d xs w ls=bif decide (((qR d (xs.take w.toNat)).2:Int) < w) then ([],false) else loO (qR d (xs.take w.toNat)).1 ls:=by
 have hle:=q6i (xs.take w.toNat) d;rw [length_take] at hle;unfold cuO cutB loO;by_cases h:((qR d (xs.take w.toNat)).2:Int) < w
 ·rw [dYT h,if_neg (by omega)]; rfl
 ·rw [dYF h];cases ho:dOkB (qR d (xs.take w.toNat)).1 with
  | false=>rw [if_neg (fun c=>by cases c.2.2.2)]; rfl
  | true=>rw [if_pos ⟨hw.1,hw.2,by omega,rfl⟩]; rfl
theorem qtZ (d:List Fil) (xs:List Act) (w:Int) (ls:List Int) (hw:¬ (0<=w/\w<=(xs.length:Int))):cuO d xs w ls=([],false):=by
 unfold cuO cutB;rw [if_neg (fun c=>hw ⟨c.1,c.2.1⟩)]
theorem qcI (d:List Fil) (hn:d.length<=2000000) (xs:List Act) (hs:aSz xs) (w:Int) (ls:List Int) (hls:ls.length<=1000000000):q72 d xs w ls=some (cuO d xs w ls,()):=by
 rw [qkC,jy,q0V];simp only [oB];by_cases hw:0<=w/\w<=(xs.length:Int)
 ·rw [qtW d xs w ls hw,dYT hw,dYT hw.1,dYT hw.2,show decide ((0:Int)<=0)=true from rfl]
  simp only [Bool.not_true,cF,Bool.and_self,cT];rw [show take (w.toNat - toNat 0) (drop (toNat 0) xs)=xs.take w.toNat from rfl,q3e d hn _ (qoa hs _)]
  simp only [oB];have:=qbK (xs.take w.toNat) d hn;rw [qi4 _ (by omega) ls hls]
  cases decide (((qR d (xs.take w.toNat)).2:Int) < w)<;>rfl
 ·rw [qtZ d xs w ls hw,dYF hw]; rfl
theorem qmU:∀ (d:List Fil) (ls:List Int),(q1m d ls).length=d.length
 | [],_=>rfl
 | f::d,ls=>by rw [qfR,length_cons,length_cons,qmU d]
theorem qh3 (d:List Fil) (xs:List Act) (w:Int) (ls:List Int):(cuO d xs w ls).1.length<=30:=by
 unfold cuO cutB;split
 ·rename_i x hx;split at hx
  ·rename_i h;rw [<- Option.some.inj hx,qmU];exact (qG.1 h.2.2.2).1
  ·cases hx
 ·exact zero_le _
theorem qs0 {e:Eng} (h:eOkP e) {b:Bat} (hb:batT b=true):q6d e (bOf (batL b))=some ((match putA e.1 (segN e.1) b with | some xs=>(xs,true) | none=>([],false)),()):=by
 obtain ⟨r1,r2,C,ha,hq,hd,_⟩:=jJ h;generalize segN e.1=l at *;have hlm:=qbt C.ne;have h100:=(C.mem.1 hlm).1;obtain ⟨t1,t2⟩:=C.txt hlm;have hl30:=C.len;rw [qfA,wP,ha,zl h100];simp only [oB];rw [q05 e.1 (by omega)]
 have hfa:faO e.1 (nmL (l.getLastD 0))=(txtD e.1 (l.getLastD 0),true):=by unfold faO; rw [t1]
 rw [hfa];simp only [oB];unfold putA;by_cases hs:(txtD e.1 (l.getLastD 0)).size < 300
 ·rw [dYT (show ((txtD e.1 (l.getLastD 0)).size:Int) < 300 by omega),if_pos hs]; rfl
 ·rw [dYF (show ¬ ((txtD e.1 (l.getLastD 0)).size:Int) < 300 by omega),if_neg hs,cF,q0L e.1 (by omega)]
  have hsg:sgO e.1=(natI l,true):=by unfold sgO; rw [C.segs]
  have hlen:=jU C.segs;have hll:(natI l).length=l.length:=List.length_map ..;have hpos:0 < l.length:=List.length_pos_iff.2 C.ne;have hh:(natI l).getD (toNat 0) 0=((l.headD 0:Nat):Int):=by
   have:=zh (l:=l) (i:=0) hpos;refine this.trans ?_;cases l with
   | nil=>exact absurd rfl C.ne
   | cons a l=>rfl
  have w1:w64 (((l.getLastD 0:Nat):Int)+1)=((l.getLastD 0+1:Nat):Int):=qw (by omega)
  have hhd:=C.mem.1 (head_mem C.ne);have hle:l.headD 0<=l.getLastD 0:=by
   obtain ⟨i,hi,hlt⟩:=q6S C.ascN C.ne;have hm:=head_mem C.ne;rw [hi] at hm;rcases mem_append.1 hm with hm | hm
   ·have:=hlt _ hm;rw [<- hi] at this; omega
   ·have:=mem_singleton.1 hm;rw [<- hi] at this; omega
  rw [hsg];simp only [oB,hh,w1,hll];rw [show decide ((0:Int)<=0)=true from rfl,dYT (show (0:Int) < (l.length:Int) by omega),q6j]
  simp only [Bool.and_self,cT,oB];unfold htO;by_cases hm:l.getLastD 0+1 < 100
  ·rw [if_pos (by omega),if_pos hm]
   have e1:=q1v hm hhd.1;have e2:=q8C hb;simp only [toNat_natCast,Bool.not_true,cF];rw [yA (by rw [qD,qD]; omega),cT,wP,zl hm,<- qqR]
   rfl
  ·rw [if_neg (by omega),if_neg hm]; rfl
theorem q6e (e:Eng) (hn:e.1.length<=2000000) (cs:List Chg) (hc:cs.length<=1000000000):q2g e cs=some (puO e cs,()):=by
 rw [qio,q5y _ hc,q0H e hn];simp only [oB];unfold puO;by_cases h:eOkP e
 ·obtain ⟨r1,r2,C,_,hq,_⟩:=jJ h;have hqb:=qea C.bt;have w1:w64 (e.2.2.2.1+1)=e.2.2.2.1+1:=qg (by omega) (by omega)
  rw [dYT h,w1];unfold btO;by_cases hb:batT (e.2.2.2.1+1,cs)=true
  ·rw [if_pos hb,dif_pos ⟨h,hb⟩];simp only [Bool.not_true,cF];have hfr:frO (bOf (bTL (e.2.2.2.1+1,cs)))=(bOf (batL (e.2.2.2.1+1,cs)),true):=q9C (q6R hb);rw [q44,hfr];simp only [oB];rw [qs0 h hb];cases hp:putA e.1 (segN e.1) (e.2.2.2.1+1,cs) with
   | none=>rfl
   | some xs=>
    have hsz:=ql0 C hb hp;simp only [oB,Bool.not_true,cF];rw [q8A e.1 hn xs hsz];simp only [oB];have hle:=q6i xs e.1;rw [q6v];by_cases hall:(qR e.1 xs).2=xs.length
    ·obtain ⟨g1,g2⟩:=qqv h hb hp (qij.2 hall);have hlen:=(qG.1 g2).1;rw [dYF (show ¬ ((qR e.1 xs).2:Int) < (xs.length:Int) by omega),dYF (show ¬ (qR e.1 xs).2 < xs.length by omega),cF,qeq g2,Bool.false_or]
     simp only [oB];rw [q04 _ (by omega)]
     cases decide ((yR (qR e.1 xs).1:Int) > e.2.1)<;>rfl
    ·rw [dYT (show ((qR e.1 xs).2:Int) < (xs.length:Int) by omega),dYT (show (qR e.1 xs).2 < xs.length by omega)]
     rfl
  ·rw [if_neg hb,dif_neg (fun c=>hb c.2)]; rfl
 ·rw [dYF h,dif_neg (fun c=>h c.1)]; rfl
theorem qoY (e:Eng) (he:e.1.length<=2000000) (cs:List Chg):SmE (puO e cs).1/\(puO e cs).2.1.length<=3:=by
 unfold puO;split
 ·cases hp:putA e.1 (segN e.1) (e.2.2.2.1+1,cs) with
  | none=>exact ⟨q8Y,zero_le _⟩
  | some xs=>
   have hl3:xs.length<=3:=by
    unfold putA at hp;split at hp
    ·rw [<- Option.some.inj hp]; simp
    ·split at hp
     ·rw [<- Option.some.inj hp]; simp
     ·cases hp
   rw [q6v];cases (decide ((qR e.1 xs).2 < xs.length)||decide ((yR (qR e.1 xs).1:Int) > e.2.1)) with
   | true=>exact ⟨q8Y,zero_le _⟩
   | false=>exact ⟨qoV _ (qbK xs e.1 he) _,hl3⟩
 ·exact ⟨q8Y,zero_le _⟩
end Go.Den.S
namespace Go.Den.S
open Go Go.Den
set_option maxRecDepth 4000
theorem qhI:∀ (m i:Nat) (p:List Int) (c:Cur),m+i=12->p.length=i->(∀ x∈p,0<=x/\x<=9999)->Cu c->∃ q,q2E p (i:Int) c.1 c.2.1 c.2.2=some (q,())/\q.length=12/\∀ x∈q,0<=x/\x<=9999
 | 0,i,p,c,hm,hp,ha,hc=>by
  rw [q6E];simp only [dYF (show ¬ (i:Int) < 12 by omega),cF]
  exact ⟨p,rfl,by omega,ha⟩
 | m+1,i,p,c,hm,hp,ha,hc=>by
  obtain ⟨x,c1,e1,a1,b1,k1⟩:=qbB hc 10000 (by omega) (by omega)
  have e1:q0A (c.1,(c.2.1,c.2.2)) 10000=some (x,(c1,())):=e1;rw [q6E];simp only [dYT (show (i:Int) < 12 by omega),cT,e1,oB,qJ (show (p.length+1) * 8<=140737488355328 by omega),show w64 ((i:Int)+1)=((i+1:Nat):Int) from qw (by omega)]
  exact qhI m (i+1) _ c1 (by omega) (by simp [hp]) (fun y hy=>by
   rcases mem_append.1 hy with hy | hy
   ·exact ha y hy
   ·rw [mem_singleton] at hy; subst hy; omega) k1
theorem qf5 (code:List Int) (hl:code.length<=1048576):∃ p:List Int,q4u code=some (p,())/\p.length=12/\∀ x∈p,0<=x/\x<=9999:=by
 obtain ⟨c,e,k⟩:=qsR code hl;obtain ⟨x,c1,e1,_,_,k1⟩:=q6c k;rw [qga,e];simp only [oB,e1];exact qhI 12 0 [] c1 rfl rfl (fun x h=>by cases h) k1
end Go.Den.S
namespace Go.Den.S
open Go Go.Den
open Classical
set_option maxRecDepth 4000
theorem qqc (a b:List Fil) (ha:a.length<=1000000000):qa5 a b=some (decide (a=b),()):=by
 rw [qif];by_cases hl:a.length=b.length
 ·have e:((a.length:Int) != (b.length:Int))=false:=by simp [hl]
  simp only [e,cF];refine q8v (fun i=>q3M i a b) a b dF hl (fun i hi'=>?_) ?_
  ·rw [q89];have e:w64 ((i:Int)+1)=(i:Int)+1:=qg (by omega) (by omega)
   have h1:decide ((i:Int) < (a.length:Int))=true:=dYT (by omega)
   have h2:decide ((i:Int) < (b.length:Int))=true:=dYT (by omega)
   have h3:decide (0<=(i:Int))=true:=dYT (by omega)
   simp only [h1,h2,h3,e,Bool.and_self,cT,toNat_natCast,y8,qtf];by_cases h:a.getD i dF=b.getD i dF
   ·rw [dYT h,if_pos h,Bool.not_true,cF]
   ·rw [dYF h,if_neg h,Bool.not_false,cT]
  ·rw [q89];simp
 ·have e:((a.length:Int) != (b.length:Int))=true:=by simp; omega
  simp only [e,cT];rw [dYF fun h=>hl (by rw [h])]
theorem qks (p:List Int) (hp:p.length=12):∀ (m i:Nat) (l:List Int),m+i=6->l.length=i->∃ ls,q5W p l (i:Int)=some (ls,())/\ls.length=6
 | 0,i,l,hm,hl=>by
  rw [qbP];simp only [dYF (show ¬ (i:Int) < 6 by omega),cF]
  exact ⟨l,rfl,by omega⟩
 | m+1,i,l,hm,hl=>by
  rw [qbP];simp only [dYT (show (i:Int) < 6 by omega),cT,hp,dYT (show (0:Int)<=(i:Int) by omega),dYT (show (i:Int) < ((12:Nat):Int) by omega),Bool.and_self,qJ (show (l.length+1) * 8<=140737488355328 by omega),show w64 ((i:Int)+1)=((i+1:Nat):Int) from qw (by omega)]
  exact qks p hp m (i+1) _ (by omega) (by rw [length_append,length_singleton]; omega)
theorem qo5 (p:List Int) (hp:p.length=12):∃ ls,qaV p=some (ls,())/\ls.length=6:=by
 rw [qnM];exact qks p hp 6 0 [] rfl rfl
theorem qia (a b:List (BA×BA)):chgs (a++b)=chgs a++chgs b:=by unfold chgs; rw [List.map_append]
theorem qvz (c:Chg) (r:List Chg):take ((((c::r).length:Int)).toNat - toNat 1) (drop (toNat 1) (c::r))=r:=by
 show take ((((c::r).length:Int)).toNat - 1) r=r;rw [toNat_natCast,length_cons,Nat.add_sub_cancel,List.take_length]
theorem qp7 {l:List (BA×BA)} {k:BA} (h:∀ x∈l,blt k x.1=true):(l.filter fun x=>blt x.1 k)=[]/\(l.filter fun x=>blt k x.1)=l:=by
 constructor
 ·rw [List.filter_eq_nil_iff];intro x hx hk;have:=q3n (h x hx);rw [this] at hk; cases hk
 ·rw [List.filter_eq_self]; exact h
theorem qnd (more:List Chg) (hm:more.length<=1000000000) (i:Nat) (hi:i < more.length) (k v:BA) (g:Bool):∀ (p o:List (BA×BA)),AscK p->o.length+p.length+i<=3000000000->
  q8V (chgs p) more (chgs o) (i:Int) k v g=wV (chgs (p.filter fun x=>blt k x.1)) more (chgs (o++p.filter fun x=>blt x.1 k)++(bif g then [] else [(k,(v,g))])) ((i+1:Nat):Int)
 | [],o,hp,hl=>by
  rw [qdR];have z:decide (((chgs []).length:Int) > 0)=false:=rfl;have w:w64 ((i:Int)+1)=((i+1:Nat):Int):=qw (by omega)
  have kl:lim ((chgs o).length+1) 40=true:=qJ (by rw [q17]; omega)
  rw [z,kl];simp only [cF,cT,w,List.filter_nil,append_nil];cases g with
  | true=>simp only [Bool.not_true,cF,cT,append_nil]
  | false=>simp only [Bool.not_false,cT,cF]
 | (a,b)::r,o,hp,hl=>by
  have hp':=List.pairwise_cons.1 hp;rw [length_cons] at hl;have z:decide (((chgs ((a,b)::r)).length:Int) > 0)=true:=dYT (by rw [q17,length_cons]; omega)
  have z2:decide (0 < ((chgs ((a,b)::r)).length:Int))=true:=z;have z3:decide (1<=((chgs ((a,b)::r)).length:Int))=true:=dYT (by rw [q17,length_cons]; omega)
  have z4:decide (((chgs ((a,b)::r)).length:Int)<=((chgs ((a,b)::r)).length:Int))=true:=dYT (le_refl _);have z5:decide ((0:Int)<=0)=true:=rfl;have z6:decide ((0:Int)<=1)=true:=rfl;have gz:(chgs ((a,b)::r)).getD (toNat 0) (eB,(eB,false))=(a,(b,false)):=rfl;have w:w64 ((i:Int)+1)=((i+1:Nat):Int):=qw (by omega)
  have kl:lim ((chgs o).length+1) 40=true:=qJ (by rw [q17]; omega)
  have tl:take ((((chgs ((a,b)::r)).length:Int)).toNat - toNat 1) (drop (toNat 1) (chgs ((a,b)::r)))=chgs r:=qvz _ _;rw [qdR,z,z3,z4,z5,z6,gz,tl,kl];simp only [Bool.and_self,cT,w,y8];have hb:Op.bytesLess (toList a) (toList k)=blt a k:=blt_eq a k;rw [hb];cases h1:blt a k with
  | true=>
   simp only [cT];have e1:chgs o++[(a,(b,false))]=chgs (o++[(a,b)]):=by rw [qia]; rfl
   have h2:=q3n h1;rw [e1,qnd more hm i hi k v g r (o++[(a,b)]) hp'.2 (by rw [length_append,length_singleton]; omega)]
   simp only [List.filter_cons,h1,h2,if_true,Bool.false_eq_true,if_false];rw [append_assoc,List.singleton_append]
  | false=>
   simp only [cF];by_cases h2:a=k
   ·subst h2;rw [dYT rfl];simp only [cT];obtain ⟨f1,f2⟩:=qp7 (l:=r) (k:=a) fun x hx=>hp'.1 x hx
    have h3:=q5m a;simp only [List.filter_cons,h3,Bool.false_eq_true,if_false];rw [f1,f2,append_nil];cases g with
    | true=>simp only [Bool.not_true,cF,cT,append_nil]
    | false=>simp only [Bool.not_false,cT,cF]
   ·rw [dYF h2];simp only [cF];have h3:blt k a=true:=q6x h2 h1;obtain ⟨f1,f2⟩:=qp7 (l:=(a,b)::r) (k:=k) fun x hx=>by
     rcases List.mem_cons.1 hx with rfl | hx
     ·exact h3
     ·exact q4G h3 (hp'.1 x hx)
    rw [f1,f2,append_nil];cases g with
    | true=>simp only [Bool.not_true,cF,cT,append_nil]
    | false=>simp only [Bool.not_false,cT,cF]
theorem qkL (more:List Chg) (hm:more.length<=1000000000):∀ (r:List Chg) (i:Nat) (o p:List (BA×BA)),more.drop i=r->i<=more.length->AscK (o++p)->AscK r->(∀ x∈o,∀ c∈r,blt x.1 c.1=true)->o.length+p.length+i+2 * r.length<=3000000000->
  wV (chgs p) more (chgs o) (i:Int)=some (chgs ((r.map opsC).foldl wY (o++p)),())
 | [],i,o,p,hd,hi,ha,hr,hx,hl=>by
  have:=drop_eq_nil_iff.1 hd;rw [qdT];have kl:lim ((chgs o).length+(chgs p).length) 40=true:=qJ (by rw [q17,q17]; omega)
  rw [dYF (show ¬ (i:Int) < (more.length:Int) by omega),cF,kl,cT,<- qia]; rfl
 | c::r,i,o,p,hd,hi,ha,hr,hx,hl=>by
  obtain ⟨e1,hlt,e2⟩:=qK dC hd;have hr':=List.pairwise_cons.1 hr;rw [length_cons] at hl;have e1:more.getD i (eB,(eB,false))=c:=e1;rw [qdT,dYT (show (i:Int) < (more.length:Int) by omega),dYT (show (0:Int)<=(i:Int) by omega)]
  simp only [Bool.and_self,cT,toNat_natCast,e1];have ha':=List.pairwise_append.1 ha;rw [qnd more hm i hlt c.1 c.2.1 c.2.2 p o ha'.2.1 (by omega)]
  have f1:=List.length_filter_le (fun x:BA×BA=>blt x.1 c.1) p
  have f2:=List.length_filter_le (fun x:BA×BA=>blt c.1 x.1) p
  obtain ⟨g1,g2⟩:(o.filter fun x=>blt x.1 c.1)=o/\(o.filter fun x=>blt c.1 x.1)=[]:=by
   constructor
   ·rw [List.filter_eq_self]; exact fun x h=>hx x h c (mem_cons_self ..)
   ·rw [List.filter_eq_nil_iff];intro x h hk;rw [q3n (hx x h c (mem_cons_self ..))] at hk; cases hk
  have hstep:∃ o':List (BA×BA),chgs (o++p.filter fun x=>blt x.1 c.1)++(bif c.2.2 then [] else [(c.1,(c.2.1,c.2.2))])=chgs o'/\wY (o++p) (opsC c)=o'++p.filter (fun x=>blt c.1 x.1)/\(∀ x∈o',x.1=c.1\/x∈o\/blt x.1 c.1=true)/\o'.length<=o.length+(p.filter fun x=>blt x.1 c.1).length+1:=by
   cases hg:c.2.2 with
   | true=>
    refine ⟨o++p.filter fun x=>blt x.1 c.1,by rw [cT,append_nil],?_,fun x h=>?_,by rw [length_append]; omega⟩
    ·unfold wY opsC;rw [hg];show delK c.1 (o++p)=_;rw [<- qmL ha,filter_append,filter_append,g1,g2,nil_append]
    ·rcases mem_append.1 h with h | h
     ·exact .inr (.inl h)
     ·exact .inr (.inr (mem_filter.1 h).2)
   | false=>
    refine ⟨(o++p.filter fun x=>blt x.1 c.1)++[(c.1,c.2.1)],by rw [cF]; exact (qia (o++p.filter fun x=>blt x.1 c.1) [(c.1,c.2.1)]).symm,?_,fun x h=>?_,by rw [length_append,length_append,length_singleton]; omega⟩
    ·unfold wY opsC;rw [hg];show putK c.1 c.2.1 (o++p)=_;unfold putK;rw [filter_append,filter_append,g1,g2,nil_append,append_assoc,append_assoc,append_assoc]; rfl
    ·rcases mem_append.1 h with h | h
     ·rcases mem_append.1 h with h | h
      ·exact .inr (.inl h)
      ·exact .inr (.inr (mem_filter.1 h).2)
     ·rw [mem_singleton.1 h]; exact .inl rfl
  obtain ⟨o',q1,q2,q3,q4⟩:=hstep;rw [q1];rw [qkL more hm r (i+1) o' (p.filter fun x=>blt c.1 x.1) e2 hlt (by rw [<- q2]; exact q6M ha _) hr'.2 (fun x h y hy=>by
   have hcy:=hr'.1 y hy;rcases q3 x h with h | h | h
   ·rw [h]; exact hcy
   ·exact hx x h y (mem_cons_of_mem _ hy)
   ·exact q4G h hcy) (by
    have fl:=qeR c.1 p;have dl:=q2N c.1 p;unfold delK at dl;omega),List.map_cons,List.foldl_cons,q2]
theorem qsT (m:List (BA×BA)) (more:List Chg) (ha:AscK m) (hr:AscK more) (h1:m.length<=1000000000) (h2:more.length<=1000):qej (chgs m) more=some (chgs ((more.map opsC).foldl wY m),()):=by
 rw [qpW];exact qkL more (by omega) more 0 [] m rfl (zero_le _) ha hr (fun x h=>by cases h) (by rw [List.length_nil]; omega)
theorem qw8 {d:List Fil} {room:Int} {x:Eng×List Act} (h:q1r d room=some x):aSz x.2:=by
 unfold q1r at h;split at h
 ·split at h
  ·cases h
  ·rename_i l hl;split at h
   ·cases h
   ·rename_i t ht;split at h
    ·rw [<- Option.some.inj h];exact (qmd (zR.1 hl).1 (jU hl) ht).1
    ·cases h
 ·cases h
theorem qwg {e:Eng} {cs:List Chg} (h:(puO e cs).2.2≠0):(puO e cs).2.1=[]:=by
 unfold puO at h ⊢;split
 ·rename_i hc;rw [dif_pos hc] at h;cases hp:putA e.1 (segN e.1) (e.2.2.2.1+1,cs) with
  | none=>rfl
  | some xs=>
   rw [hp] at h;rw [q6v] at h ⊢;cases hg:(decide ((qR e.1 xs).2 < xs.length)||decide ((yR (qR e.1 xs).1:Int) > e.2.1)) with
   | true=>rfl
   | false=>rw [hg] at h; exact absurd rfl h
 ·rfl
theorem qwa {d:List Fil} {l:List Nat} (C:Clean d l) (hlen:d.length<=29) {b:Bat} (hb:batT b=true) (hq:zN (allB d l) < b.1) {xs:List Act} (ha:putA d l b=some xs) {x:List Fil} (hx:allA d xs x) {k:Nat} (hk:k<=xs.length) (ls:List Int) {room:Int} (h1:100<=room) (h2:room<=20000) :
  ∃ y,cutB d xs (k:Int) ls=some y/\Comes y room (qpq d l b):=by
 unfold putA at ha;split at ha
 ·have ha:=(Option.some.inj ha).symm;rw [ha] at hx hk ⊢;obtain ⟨t1,t2⟩:=C.txt (qbt C.ne);obtain ⟨d1,a1,_⟩:=q2L hx;obtain ⟨_,o1⟩:=q9p a1 (q6y t1);have hs:=q6g C.asc o1;rw [q8z,qD,length_append,<- qW] at hs;exact quM C hlen hb hq t1 hs hk ls h1 h2
 ·split at ha
  ·rename_i hm;have ha:=(Option.some.inj ha).symm;rw [ha] at hx hk ⊢;obtain ⟨d1,a1,_⟩:=q2L hx;obtain ⟨_,o1⟩:=q9p a1 (q6F C.new);have hs:=q6g C.asc o1;rw [qD] at hs;exact quz C hlen hb hq hm hs hk ls h1 h2
  ·cases ha
theorem qvo {d y:List Fil} {xs:List Act} {w:Int} {ls:List Int} (h:cutB d xs w ls=some y):y.length<=30:=by
 have:=qh3 d xs w ls;unfold cuO at this;rw [h] at this;exact this
theorem qoX {p:List Int} (hp:p.length=12) (hr:∀ x∈p,0<=x/\x<=9999) (n:Nat) (hn:n<=1000000000):(decide ((0:Int)<=11)&&decide (11 < (p.length:Int)))=true/\(w64 ((n:Int)+1) != 0)=true/\∃ k:Nat,k<=n/\tmod (p.getD (toNat 11) 0) (w64 ((n:Int)+1))=(k:Int):=by
 have w:w64 ((n:Int)+1)=((n+1:Nat):Int):=qw (by omega)
 have hm:p.getD (toNat 11) 0∈p:=q8g (by rw [hp]; decide)
 obtain ⟨a1,a2⟩:=hr _ hm;obtain ⟨t1,t2⟩:=qdn (x:=p.getD (toNat 11) 0) (n:=((n+1:Nat):Int)) a1 (by omega)
 rw [w,hp];exact ⟨rfl,bneZ (by omega),(tmod (p.getD (toNat 11) 0) ((n+1:Nat):Int)).toNat,by omega,by omega⟩
theorem qoL (d:List Fil) (l:List Nat):AscK (conD d l):=by rw [q6t]; exact q6f _
theorem qr6 {d x:List Fil} {l l':List Nat} {b:Bat} (h:allB x l'=allB d l++[b]):conD x l'=(b.2.map opsC).foldl wY (conD d l):=by
 rw [q6t,q6t,h,q68,qu5];simp [opsB]
theorem quD {d x:List Fil} {l l':List Nat} (h:allB x l'=allB d l):conD x l'=conD d l:=by
 rw [q6t,q6t,h]
theorem qq0 (code:List Int):qdt code=some (true,()):=by
 rw [qhf,qod,oB];by_cases hL:(code.length:Int) > 1048576
 ·simp only [dYT hL,cT]
 simp only [dYF hL,cF];obtain ⟨e,cs,hdr,R,G⟩:=qbJ code (by omega)
 obtain ⟨r1,r2,C,_,hq,_,he⟩:=jJ R.ok;have hn:=R.len2 (by omega)
 have hc6:=G.l6;rw [hdr];simp only [oB];rw [jS e hn,qlH R.ok];simp only [oB];rw [q6e e hn cs (by omega)]
 simp only [oB];rw [q6n e hn cs (by omega)]
 simp only [oB,bne_self_eq_false,cF];by_cases h0:(puO e cs).2.2=0
 ·obtain ⟨xs,x,l',hb,hp,hx,hs,C',ha,hpe⟩:=ql1 R.ok h0;have hl3:=(qoY e hn cs).2;rw [hpe] at hl3 ⊢;have hl3:xs.length<=3:=hl3;obtain ⟨p,hpl,hp12,hpr⟩:=qf5 code (by omega)
  obtain ⟨ls,hls,hl6⟩:=qo5 p hp12;obtain ⟨g1,g2,k,hk,g3⟩:=qoX hp12 hpr xs.length (by omega)
  rw [hpl];simp only [oB,g1,g2,g3,hls,cT,show ((0:Int) != 0)=false from rfl,cF]
  have hsz:=ql0 C hb hp;obtain ⟨y,hy,more,x',l'',o1,o2,o3,o4⟩:=qwa C (by have:=R.len; omega) hb (by rw [hq]; show _ < zN _+1; omega) hp hx hk ls r1 r2
  have hcu:cuO e.1 xs (k:Int) ls=(y,true):=by unfold cuO; rw [hy]
  have hop:opO y e.2.1=(mkE x' x' e.2.1 l'',(more,true)):=by unfold opO; rw [o1]
  have hyl:=qvo hy;rw [qcI e.1 hn xs hsz _ ls (by omega),hcu]
  simp only [oB];rw [q04 y (by omega),hop]
  simp only [oB];rw [q3e y (by omega) more (qw8 o1)]
  have o2:qR y more=(x',more.length):=o2;have hxl:=o3.len;rw [o2];simp only [oB];rw [q04 x' (by omega),qaE o3 r1 r2]
  have hxe:(mkE x' x' e.2.1 l'').1=x':=rfl;simp only [oB,Bool.not_true,cF,bne_self_eq_false,List.length_nil,hxe];rw [show (((0:Nat):Int) != 0)=false from rfl,cF,qqc x' x' (by omega)]
  simp only [oB,decide_true,Bool.not_true,cF];rw [q6o _ (by show x'.length<=_; omega),qdy o3 r1 r2]
  simp only [oB,cT];have hcl:=qbi o3;have hcl0:=qbi C;rw [q1A _ _ (by rw [q17]; omega)]
  simp only [oB];rw [qsT _ cs (qoL _ _) G.asc (by omega) (by omega)]
  simp only [oB];rw [q1A _ _ (by rw [q17]; omega)]
  simp only [oB];rcases o4 with o4 | o4
  ·rw [quD o4,dYT rfl]; rfl
  ·rw [qr6 o4];rw [dYT (show chgs ((((e.2.2.2.1+1,cs):Bat).2.map opsC).foldl wY (conD e.1 (segN e.1)))=chgs ((cs.map opsC).foldl wY (conD e.1 (segN e.1))) from rfl)]
   cases decide (chgs ((((e.2.2.2.1+1,cs):Bat).2.map opsC).foldl wY (conD e.1 (segN e.1)))=chgs (conD e.1 (segN e.1)))<;>rfl
 ·have:((puO e cs).2.2 != 0)=true:=bne_iff_ne.2 h0;rw [this,cT,qwg h0]; rfl
end Go.Den.S
