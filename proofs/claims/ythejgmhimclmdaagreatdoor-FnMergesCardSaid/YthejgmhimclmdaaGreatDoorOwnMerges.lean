/- OwnMerges: equations of the functions of this seat as the executor tells them, or plain facts about them. Conditions: none here. -/
import Derived.Test.YthejgmhimclmdaaGreatDoorMidD
set_option linter.all false
open ByteArray (size toList)
open Int (toNat toNat_natCast)
open List (append_assoc append_nil drop drop_eq_nil_iff filterMap_cons filter_append filter_cons filter_eq_self getD length length_append length_cons length_map length_singleton map_append map_cons mem_append mem_cons_of_mem mem_cons_self mem_filter mem_map pairwise_cons sum_cons take)
open Nat (le_refl zero_add zero_le)
namespace Go.Den.S
open Go Go.Den Go.Proofs
noncomputable section
def qfc (a0:(List Int)):Option (Bool×Unit):=DF X 7 ((a0,()):((List Int))×Unit)
def q2f (a0:qp):Option (((List qd)×Bool)×Unit):=DF X 16 ((a0,()):(qp)×Unit)
def q3K (x4:(List qd)) (x13:(List qh)) (x14:Int) (x15:Int) (b0_0:q8) (b0_1:Int) (b0_2:Int) (b0_3:Int) (b0_4:(List qh)):Option (((List qd)×Bool)×Unit):=qA X 16 0 [] (mkSt 35 [(1,.sv (.ptr 0 0)),(4,.sv (.own 1000004)),(13,.sv (.lst qC x13)),(14,.sv (.int .i64 x14)),(15,.sv (.int .i64 x15))] [(1000004,.live (.row qx x4 0)),(1000013,.gone),(2000000,.gone),(2000004,.gone),(0,.live (.box [(.lst qj b0_0),(.int .i64 b0_1),(.int .i64 b0_2),(.int .i64 b0_3),(.lst qC b0_4)]))])
def q1E (a0:qp):Option (((List qz)×Bool)×Unit):=DF X 24 ((a0,()):(qp)×Unit)
def q0p (x6:Nat) (x6h:Nat) (x7:Int) (x10:(List qz)) (x61:Nat) (x61h:Nat) (x62:Int) (x63:Int) (b0_0:q8) (b0_1:Int) (b0_2:Int) (b0_3:Int) (b0_4:(List qh)) (r_b:(List Int)):Option (((List qz)×Bool)×Unit):=qA X 24 0 [] (mkSt 141 [(1,.sv (.ptr 0 0)),(6,.sv (.sub 1056 x6 x6h)),(7,.sv (.int .i64 x7)),(10,.sv (.own 1000010)),(61,.sv (.sub 1056 x61 x61h)),(62,.sv (.int .i64 x62)),(63,.sv (.int .i64 x63))] [(1000010,.live (.row qY x10 0)),(2000000,.gone),(2000004,.gone),(0,.live (.box [(.lst qj b0_0),(.int .i64 b0_1),(.int .i64 b0_2),(.int .i64 b0_3),(.lst qC b0_4)])),(1056,.live (.row I r_b 0))])
def q1h (x6:Nat) (x6h:Nat) (x7:Int) (x10:(List qz)) (x12:Int) (x61:Nat) (x61h:Nat) (x62:Int) (x63:Int) (x82:(List zf)) (x83:Int) (x84:Int) (b0_0:q8) (b0_1:Int) (b0_2:Int) (b0_3:Int) (b0_4:(List qh)) (r_b:(List Int)):Option (((List qz)×Bool)×Unit):=qA X 24 2 [0] (mkSt 141 [(1,.sv (.ptr 0 0)),(6,.sv (.sub 1056 x6 x6h)),(7,.sv (.int .i64 x7)),(10,.sv (.own 1000010)),(12,.sv (.int .i64 x12)),(61,.sv (.sub 1056 x61 x61h)),(62,.sv (.int .i64 x62)),(63,.sv (.int .i64 x63)),(82,.sv (.lst jv x82)),(83,.sv (.int .i64 x83)),(84,.sv (.int .i64 x84))] [(1000010,.live (.row qY x10 0)),(1000082,.gone),(2000000,.gone),(2000004,.gone),(0,.live (.box [(.lst qj b0_0),(.int .i64 b0_1),(.int .i64 b0_2),(.int .i64 b0_3),(.lst qC b0_4)])),(1056,.live (.row I r_b 0))])
def q2Y (x10:(List qz)) (x127:(List Int)) (x128:Int) (x129:Int):Option (((List qz)×Bool)×Unit):=qA X 24 4 [] (mkSt 141 [(10,.sv (.own 1000010)),(127,.sv (.own 1000127)),(128,.sv (.int .i64 x128)),(129,.sv (.int .i64 x129))] [(1000010,.live (.row qY x10 0)),(1000127,.live (.row I x127 0))])
def q5e (a0:qp):Option ((qp×(List qz)×Bool)×Unit):=DF X 30 ((a0,()):(qp)×Unit)
def q5Z (x26:Int) (x27:Int) (b0_0:q8) (b0_1:Int) (b0_2:Int) (b0_3:Int) (b0_4:(List qh)) (b16_0:q8) (b16_1:Int) (b16_2:Int) (b16_3:Int) (b16_4:(List qh)) (r_d:(List qz)) (b_e_0:q8):Option ((qp×(List qz)×Bool)×Unit):=qA X 30 0 [] (mkSt 62 [(1,.sv (.ptr 0 0)),(2,.sv (.ptr 16 0)),(5,.sv (.own 1040)),(7,.sv (.ptr 4128 0)),(25,.sv (.own 1040)),(26,.sv (.int .i64 x26)),(27,.sv (.int .i64 x27))] [(2000000,.gone),(2000004,.gone),(0,.live (.box [(.lst qj b0_0),(.int .i64 b0_1),(.int .i64 b0_2),(.int .i64 b0_3),(.lst qC b0_4)])),(2001024,.live (.row qj b16_0 0)),(2001028,.live (.row qC b16_4 0)),(16,.live (.box [(.own 2001024),(.int .i64 b16_1),(.int .i64 b16_2),(.int .i64 b16_3),(.own 2001028)])),(1040,.live (.row qY r_d 0)),(2264192,.gone),(4128,.live (.box [(.lst qj b_e_0)]))])
def q2g (a0:qp) (a1:(List qd)):Option ((qp×(List qz)×Int)×Unit):=DF X 34 ((a0,a1,()):(qp)×((List qd))×Unit)
def qej (a0:(List qd)) (a1:(List qd)):Option ((List qd)×Unit):=DF X 40 ((a0,a1,()):((List qd))×((List qd))×Unit)
def wV (x0:(List qd)) (x1:(List qd)) (x5:(List qd)) (x6:Int):Option ((List qd)×Unit):=qA X 40 0 [] (mkSt 63 [(0,.sv (.lst qx x0)),(1,.sv (.lst qx x1)),(5,.sv (.own 1000005)),(6,.sv (.int .i64 x6))] [(1000000,.gone),(1000001,.gone),(1000005,.live (.row qx x5 0))])
def q8V (x0:(List qd)) (x1:(List qd)) (x5:(List qd)) (x6:Int) (b_h_0:BA) (b_h_1:BA) (b_h_2:Bool):Option ((List qd)×Unit):=qA X 40 2 [0] (mkSt 63 [(0,.sv (.lst qx x0)),(1,.sv (.lst qx x1)),(5,.sv (.own 1000005)),(6,.sv (.int .i64 x6)),(7,.sv (.ptr 5184 0))] [(1000000,.gone),(1000001,.gone),(1000005,.live (.row qx x5 0)),(5184,.live (.box [(.str b_h_0),(.str b_h_1),(.bool b_h_2)]))])
def q5n (a0:qp):Option (Int×Unit):=DF X 44 ((a0,()):(qp)×Unit)
def q1l (x3:Int) (x24:(List Int)) (x25:Int) (x26:Int) (b0_0:q8) (b0_1:Int) (b0_2:Int) (b0_3:Int) (b0_4:(List qh)):Option (Int×Unit):=qA X 44 0 [] (mkSt 64 [(1,.sv (.ptr 0 0)),(3,.sv (.int .i64 x3)),(24,.sv (.own 1000024)),(25,.sv (.int .i64 x25)),(26,.sv (.int .i64 x26))] [(1000024,.live (.row I x24 0)),(2000000,.gone),(2000004,.gone),(0,.live (.box [(.lst qj b0_0),(.int .i64 b0_1),(.int .i64 b0_2),(.int .i64 b0_3),(.lst qC b0_4)]))])
def q1g (x3:Int) (x7:Int) (x24:(List Int)) (x25:Int) (x26:Int) (x45:(List zf)) (x46:Int) (x47:Int) (b0_0:q8) (b0_1:Int) (b0_2:Int) (b0_3:Int) (b0_4:(List qh)):Option (Int×Unit):=qA X 44 2 [0] (mkSt 64 [(1,.sv (.ptr 0 0)),(3,.sv (.int .i64 x3)),(7,.sv (.int .i64 x7)),(24,.sv (.own 1000024)),(25,.sv (.int .i64 x25)),(26,.sv (.int .i64 x26)),(45,.sv (.lst jv x45)),(46,.sv (.int .i64 x46)),(47,.sv (.int .i64 x47))] [(1000024,.live (.row I x24 0)),(1000045,.gone),(2000000,.gone),(2000004,.gone),(0,.live (.box [(.lst qj b0_0),(.int .i64 b0_1),(.int .i64 b0_2),(.int .i64 b0_3),(.lst qC b0_4)]))])
def qcq (a0:qp):Option (Int×Unit):=DF X 45 ((a0,()):(qp)×Unit)
def qbO (a0:q8) (a1:qh):Option ((BA×Bool)×Unit):=DF X 72 ((a0,a1,()):(q8)×(qh)×Unit)
def q2r (x65:(List qd)) (x66:Int) (x67:Int) (b16_0:BA) (b16_1:Int) (b16_2:Int) (b16_3:Int):Option ((BA×Bool)×Unit):=qA X 72 0 [] (mkSt 84 [(3,.sv (.ptr 16 0)),(65,.sv (.own 1000065)),(66,.sv (.int .i64 x66)),(67,.sv (.int .i64 x67))] [(1000065,.live (.row qx x65 0)),(16,.live (.box [(.str b16_0),(.int .i64 b16_1),(.int .i64 b16_2),(.int .i64 b16_3)]))])
def q4c (a0:qp) (a1:Int) (a2:zf):Option ((List qd)×Unit):=DF X 87 ((a0,a1,a2,()):(qp)×(Int)×(zf)×Unit)
def q1C (x1:Int) (x7:(List qd)) (x12:(List qd)) (x13:Int) (x14:Int) (b0_0:q8) (b0_1:Int) (b0_2:Int) (b0_3:Int) (b0_4:(List qh)) (b16_0:Int) (b16_1:(List qd)) (b16_2:Int) (b16_3:Int):Option ((List qd)×Unit):=qA X 87 0 [] (mkSt 41 [(1,.sv (.int .i64 x1)),(3,.sv (.ptr 0 0)),(5,.sv (.ptr 16 0)),(7,.sv (.own 1000007)),(12,.sv (.lst qx x12)),(13,.sv (.int .i64 x13)),(14,.sv (.int .i64 x14))] [(1000007,.live (.row qx x7 0)),(1000012,.gone),(2000000,.gone),(2000004,.gone),(0,.live (.box [(.lst qj b0_0),(.int .i64 b0_1),(.int .i64 b0_2),(.int .i64 b0_3),(.lst qC b0_4)])),(2001025,.gone),(16,.live (.box [(.int .i64 b16_0),(.lst qx b16_1),(.int .i64 b16_2),(.int .i64 b16_3)]))])
def q6d (a0:qp) (a1:BA):Option (((List qz)×Bool)×Unit):=DF X 105 ((a0,a1,()):(qp)×(BA)×Unit)
def yC (a0:(List qh)) (a1:qh):Option (Bool×Unit):=DF X 168 ((a0,a1,()):((List qh))×(qh)×Unit)
def w9 (a0:(List qh)) (a1:qh):Option (Int×Unit):=DF X 238 ((a0,a1,()):((List qh))×(qh)×Unit)
def qL (x0:(List qh)) (x7:Int) (x8:Int) (b0_0:BA) (b0_1:Int) (b0_2:Int) (b0_3:Int):Option (Int×Unit):=qA X 238 0 [] (mkSt 19 [(0,.sv (.lst qC x0)),(3,.sv (.ptr 0 0)),(7,.sv (.int .i64 x7)),(8,.sv (.int .i64 x8))] [(1000000,.gone),(0,.live (.box [(.str b0_0),(.int .i64 b0_1),(.int .i64 b0_2),(.int .i64 b0_3)]))])
end
theorem qiA (a0:(List Int)):qfc a0=((qbW a0).bind fun r3=>bif r3.1 then some (true,()) else (q0e a0).bind fun r4=>(q5e r4.1.1).bind fun r5=>(q3C r4.1.1).bind fun r6=>bif (!(r5.1.2.2==r6.1.2.2)) then some (false,()) else bif (!r5.1.2.2) then some (((length r5.1.2.1:Int)==0),()) else (jR r4.1.1).bind fun r7=>(q2f r5.1.1).bind fun r8=>(q0w r5.1.1.1).bind fun r9=>bif (!r8.1.2) then some (false,()) else (zD r7.1.1 r8.1.1).bind fun r10=>bif (!r10.1) then some (false,()) else bif ((length r9.1.1:Int) != 2) then some (false,()) else (q0v r5.1.1).bind fun r11=>bif (!r11.1) then some (false,()) else (q5n r5.1.1).bind fun r12=>(q5n r4.1.1).bind fun r13=>bif (decide (r12.1 > r13.1)) then some (false,()) else (qcq r5.1.1).bind fun r14=>(qcq r4.1.1).bind fun r15=>bif (decide (r14.1 > r15.1)) then some (false,()) else (q2g r5.1.1 r4.1.2).bind fun r16=>(jR r16.1.1).bind fun r17=>bif (r16.1.2.2==2) then some (true,()) else bif (r16.1.2.2==0) then bif r17.1.2 then (qej r7.1.1 r4.1.2).bind fun r18=>(zD r17.1.1 r18.1).bind fun r19=>some (r19.1,()) else some (false,()) else some (false,()):Option (Bool×Unit)):=(qo X rfl _).trans (by kernel_rfl)
theorem qit (a0:qp):q2f a0=((q0v a0).bind fun r3=>bif (!r3.1) then some (([],false),()) else q3K [] a0.2.2.2.2 (length a0.2.2.2.2:Int) 0 a0.1 a0.2.1 a0.2.2.1 a0.2.2.2.1 a0.2.2.2.2:Option (((List qd)×Bool)×Unit)):=(qo X rfl _).trans (by kernel_rfl)
theorem q7W (x4:(List qd)) (x13:(List qh)) (x14:Int) (x15:Int) (b0_0:q8) (b0_1:Int) (b0_2:Int) (b0_3:Int) (b0_4:(List qh)):q3K x4 x13 x14 x15 b0_0 b0_1 b0_2 b0_3 b0_4=(bif (decide (x15 < x14)) then bif ((decide (0<=x15))&&(decide (x15 < (length x13:Int)))) then (qbO b0_0 ((getD x13 (toNat x15) (eB,(0,(0,0)))).1,(((getD x13 (toNat x15) (eB,(0,(0,0)))).2).1,(((getD x13 (toNat x15) (eB,(0,(0,0)))).2).2)))).bind fun r11=>bif (lim ((length x4)+1) 40) then q3K (x4++[((getD x13 (toNat x15) (eB,(0,(0,0)))).1,(r11.1.1,false))]) x13 x14 (w64 (x15+1)) b0_0 b0_1 b0_2 b0_3 b0_4 else none else none else some ((x4,true),()):Option (((List qd)×Bool)×Unit)):=(ql X 16 0 [] _ _ _).trans (by kernel_rfl)
theorem qhr (a0:qp):q1E a0=((q0u a0.1).bind fun r3=>(q0v a0).bind fun r4=>bif (!r4.1) then some (([],false),()) else bif (decide ((length r3.1.1:Int) < 2)) then some (([],false),()) else bif ((decide ((0:Int)<=0))&&((decide (0<=(w64 ((length r3.1.1:Int) - 1))))&&(decide ((w64 ((length r3.1.1:Int) - 1))<=(length r3.1.1:Int))))) then bif ((decide (0<=(w64 (((((toNat (w64 ((length r3.1.1:Int) - 1))) - (toNat 0)):Nat):Int) - 1))))&&(decide ((w64 (((((toNat (w64 ((length r3.1.1:Int) - 1))) - (toNat 0)):Nat):Int) - 1)) < ((((toNat (w64 ((length r3.1.1:Int) - 1))) - (toNat 0)):Nat):Int)))) then (q3Y (getD r3.1.1 ((toNat 0)+(toNat (w64 (((((toNat (w64 ((length r3.1.1:Int) - 1))) - (toNat 0)):Nat):Int) - 1)))) 0) (getD r3.1.1 ((toNat 0)+(toNat (w64 (((((toNat (w64 ((length r3.1.1:Int) - 1))) - (toNat 0)):Nat):Int) - 1)))) 0)).bind fun r5=>q0p (toNat 0) (toNat (w64 ((length r3.1.1:Int) - 1))) (getD r3.1.1 ((toNat 0)+(toNat (w64 (((((toNat (w64 ((length r3.1.1:Int) - 1))) - (toNat 0)):Nat):Int) - 1)))) 0) ([(1,(qF,(r5.1.1,eB)))]) (toNat 0) (toNat (w64 ((length r3.1.1:Int) - 1))) ((((toNat (w64 ((length r3.1.1:Int) - 1))) - (toNat 0)):Nat):Int) 0 a0.1 a0.2.1 a0.2.2.1 a0.2.2.2.1 a0.2.2.2.2 r3.1.1 else none else none:Option (((List qz)×Bool)×Unit)):=(qo X rfl _).trans (by kernel_rfl)
theorem q7i (x6:Nat) (x6h:Nat) (x7:Int) (x10:(List qz)) (x61:Nat) (x61h:Nat) (x62:Int) (x63:Int) (b0_0:q8) (b0_1:Int) (b0_2:Int) (b0_3:Int) (b0_4:(List qh)) (r_b:(List Int)):q0p x6 x6h x7 x10 x61 x61h x62 x63 b0_0 b0_1 b0_2 b0_3 b0_4 r_b=(bif (decide (x63 < x62)) then bif ((decide (0<=x63))&&(decide (x63 < (((x61h - x61):Nat):Int)))) then (wI (getD r_b (x61+(toNat x63)) 0)).bind fun r16=>(q0d b0_0 r16.1).bind fun r17=>(q1a (getD r_b (x61+(toNat x63)) 0) r17.1.1).bind fun r18=>q1h x6 x6h x7 x10 (getD r_b (x61+(toNat x63)) 0) x61 x61h x62 x63 r18.1.2.1 (length r18.1.2.1:Int) 0 b0_0 b0_1 b0_2 b0_3 b0_4 r_b else none else (wI x7).bind fun r16=>bif (lim ((length x10)+2) 56) then bif ((decide ((0:Int)<=0))&&((decide (0<=(w64 ((((x6h - x6):Nat):Int) - 1))))&&(decide ((w64 ((((x6h - x6):Nat):Int) - 1))<=(((x6h - x6):Nat):Int))))) then q2Y (x10++[(2,(qF,(eB,eB))),(3,(qF,(eB,r16.1)))]) (take ((x6+(toNat (w64 ((((x6h - x6):Nat):Int) - 1)))) - (x6+(toNat 0))) (drop (x6+(toNat 0)) r_b)) ((((x6+(toNat (w64 ((((x6h - x6):Nat):Int) - 1)))) - (x6+(toNat 0))):Nat):Int) 0 else none else none:Option (((List qz)×Bool)×Unit)):=(ql X 24 0 [] _ _ _).trans (by kernel_rfl)
theorem q6W (x6:Nat) (x6h:Nat) (x7:Int) (x10:(List qz)) (x12:Int) (x61:Nat) (x61h:Nat) (x62:Int) (x63:Int) (x82:(List zf)) (x83:Int) (x84:Int) (b0_0:q8) (b0_1:Int) (b0_2:Int) (b0_3:Int) (b0_4:(List qh)) (r_b:(List Int)):q1h x6 x6h x7 x10 x12 x61 x61h x62 x63 x82 x83 x84 b0_0 b0_1 b0_2 b0_3 b0_4 r_b=(bif (decide (x84 < x83)) then bif ((decide (0<=x84))&&(decide (x84 < (length x82:Int)))) then (q4c (b0_0,(b0_1,(b0_2,(b0_3,b0_4)))) x12 (((getD x82 (toNat x84) ((0,[]),(0,0))).1),((getD x82 (toNat x84) ((0,[]),(0,0))).2))).bind fun r20=>bif ((length r20.1:Int)==0) then q1h x6 x6h x7 x10 x12 x61 x61h x62 x63 x82 x83 (w64 (x84+1)) b0_0 b0_1 b0_2 b0_3 b0_4 r_b else (q3j (((getD x82 (toNat x84) ((0,[]),(0,0))).1).1,r20.1)).bind fun r21=>(q2F r21.1.1).bind fun r22=>bif (lim ((length x10)+1) 56) then q1h x6 x6h x7 (x10++[(1,(qF,(r22.1.1,eB)))]) x12 x61 x61h x62 x63 x82 x83 (w64 (x84+1)) b0_0 b0_1 b0_2 b0_3 b0_4 r_b else none else none else q0p x6 x6h x7 x10 x61 x61h x62 (w64 (x63+1)) b0_0 b0_1 b0_2 b0_3 b0_4 r_b:Option (((List qz)×Bool)×Unit)):=(ql X 24 2 [0] _ _ _).trans (by kernel_rfl)
theorem q7q (x10:(List qz)) (x127:(List Int)) (x128:Int) (x129:Int):q2Y x10 x127 x128 x129=(bif (decide (x129 < x128)) then bif ((decide (0<=x129))&&(decide (x129 < (length x127:Int)))) then (wI (getD x127 (toNat x129) 0)).bind fun r6=>bif (lim ((length x10)+1) 56) then q2Y (x10++[(4,(r6.1,(eB,eB)))]) x127 x128 (w64 (x129+1)) else none else none else some ((x10,true),()):Option (((List qz)×Bool)×Unit)):=(ql X 24 4 [] _ _ _).trans (by kernel_rfl)
theorem qnn (a0:qp):q5e a0=((q1E a0).bind fun r3=>bif (!r3.1.2) then some ((([],(0,(0,(0,[])))),([],false)),()) else q5Z (length r3.1.1:Int) 0 a0.1 a0.2.1 a0.2.2.1 a0.2.2.2.1 a0.2.2.2.2 [] 0 0 0 [] r3.1.1 a0.1:Option ((qp×(List qz)×Bool)×Unit)):=(qo X rfl _).trans (by kernel_rfl)
theorem qbu (x26:Int) (x27:Int) (b0_0:q8) (b0_1:Int) (b0_2:Int) (b0_3:Int) (b0_4:(List qh)) (b16_0:q8) (b16_1:Int) (b16_2:Int) (b16_3:Int) (b16_4:(List qh)) (r_d:(List qz)) (b_e_0:q8):q5Z x26 x27 b0_0 b0_1 b0_2 b0_3 b0_4 b16_0 b16_1 b16_2 b16_3 b16_4 r_d b_e_0=(bif (decide (x27 < x26)) then bif ((decide (0<=x27))&&(decide (x27 < (length r_d:Int)))) then (qaC b_e_0 ((getD r_d (toNat x27) (0,(eB,(eB,eB)))).1,(((getD r_d (toNat x27) (0,(eB,(eB,eB)))).2).1,(((getD r_d (toNat x27) (0,(eB,(eB,eB)))).2).2)))).bind fun r16=>bif (!r16.1.2) then some ((([],(0,(0,(0,[])))),([],false)),()) else (q4L r16.1.1).bind fun r17=>bif (decide (r17.1 > b0_1)) then some ((([],(0,(0,(0,[])))),([],false)),()) else q5Z x26 (w64 (x27+1)) b0_0 b0_1 b0_2 b0_3 b0_4 b16_0 b16_1 b16_2 b16_3 b16_4 r_d r16.1.1 else none else (jG b_e_0 b0_1).bind fun r16=>bif (!r16.1.2.2) then some ((([],(0,(0,(0,[])))),([],false)),()) else some ((r16.1.1,(r_d,true)),()):Option ((qp×(List qz)×Bool)×Unit)):=(ql X 30 0 [] _ _ _).trans (by kernel_rfl)
theorem qio (a0:qp) (a1:(List qd)):q2g a0 a1=((q3j ((w64 (a0.2.2.2.1+1)),a1)).bind fun r4=>(q0v a0).bind fun r5=>bif (!r5.1) then some ((([],(0,(0,(0,[])))),([],1)),()) else bif (!r4.1.2) then some ((([],(0,(0,(0,[])))),([],1)),()) else (q2F r4.1.1).bind fun r6=>(q6d a0 r6.1.1).bind fun r7=>bif (!r7.1.2) then some ((([],(0,(0,(0,[])))),([],2)),()) else (q5C a0.1 r7.1.1).bind fun r8=>bif (decide (r8.1.2 < (length r7.1.1:Int))) then some ((([],(0,(0,(0,[])))),([],2)),()) else (q4L r8.1.1).bind fun r9=>bif (decide (r9.1 > a0.2.1)) then some ((([],(0,(0,(0,[])))),([],2)),()) else (jG r8.1.1 a0.2.1).bind fun r10=>some ((r10.1.1,(r7.1.1,0)),()):Option ((qp×(List qz)×Int)×Unit)):=(qo X rfl _).trans (by kernel_rfl)
theorem qpW (a0:(List qd)) (a1:(List qd)):qej a0 a1=(wV a0 a1 [] 0:Option ((List qd)×Unit)):=(qo X rfl _).trans (by kernel_rfl)
theorem qdT (x0:(List qd)) (x1:(List qd)) (x5:(List qd)) (x6:Int):wV x0 x1 x5 x6=(bif (decide (x6 < (length x1:Int))) then bif ((decide (0<=x6))&&(decide (x6 < (length x1:Int)))) then q8V x0 x1 x5 x6 ((getD x1 (toNat x6) (eB,(eB,false))).1) (((getD x1 (toNat x6) (eB,(eB,false))).2).1) (((getD x1 (toNat x6) (eB,(eB,false))).2).2) else none else bif (lim ((length x5)+(length x0)) 40) then some ((x5++x0),()) else none:Option ((List qd)×Unit)):=(ql X 40 0 [] _ _ _).trans (by kernel_rfl)
theorem qdR (x0:(List qd)) (x1:(List qd)) (x5:(List qd)) (x6:Int) (b_h_0:BA) (b_h_1:BA) (b_h_2:Bool):q8V x0 x1 x5 x6 b_h_0 b_h_1 b_h_2=(bif (decide ((length x0:Int) > 0)) then bif ((decide ((0:Int)<=0))&&(decide (0 < (length x0:Int)))) then bif (Op.bytesLess (toList ((getD x0 (toNat 0) (eB,(eB,false))).1)) (toList b_h_0)) then bif ((decide ((0:Int)<=0))&&(decide (0 < (length x0:Int)))) then bif (lim ((length x5)+1) 40) then bif ((decide ((0:Int)<=1))&&((decide (1<=(length x0:Int)))&&(decide ((length x0:Int)<=(length x0:Int))))) then q8V (take ((toNat (length x0:Int)) - (toNat 1)) (drop (toNat 1) x0)) x1 (x5++[((getD x0 (toNat 0) (eB,(eB,false))).1,(((getD x0 (toNat 0) (eB,(eB,false))).2).1,((getD x0 (toNat 0) (eB,(eB,false))).2).2))]) x6 b_h_0 b_h_1 b_h_2 else none else none else none else bif (decide ((length x0:Int) > 0)) then bif ((decide ((0:Int)<=0))&&(decide (0 < (length x0:Int)))) then bif ((toList ((getD x0 (toNat 0) (eB,(eB,false))).1))==(toList b_h_0)) then bif ((decide ((0:Int)<=1))&&((decide (1<=(length x0:Int)))&&(decide ((length x0:Int)<=(length x0:Int))))) then bif (!b_h_2) then bif (lim ((length x5)+1) 40) then wV (take ((toNat (length x0:Int)) - (toNat 1)) (drop (toNat 1) x0)) x1 (x5++[(b_h_0,(b_h_1,b_h_2))]) (w64 (x6+1)) else none else wV (take ((toNat (length x0:Int)) - (toNat 1)) (drop (toNat 1) x0)) x1 x5 (w64 (x6+1)) else none else bif (!b_h_2) then bif (lim ((length x5)+1) 40) then wV x0 x1 (x5++[(b_h_0,(b_h_1,b_h_2))]) (w64 (x6+1)) else none else wV x0 x1 x5 (w64 (x6+1)) else none else bif (!b_h_2) then bif (lim ((length x5)+1) 40) then wV x0 x1 (x5++[(b_h_0,(b_h_1,b_h_2))]) (w64 (x6+1)) else none else wV x0 x1 x5 (w64 (x6+1)) else none else bif (decide ((length x0:Int) > 0)) then bif ((decide ((0:Int)<=0))&&(decide (0 < (length x0:Int)))) then bif ((toList ((getD x0 (toNat 0) (eB,(eB,false))).1))==(toList b_h_0)) then bif ((decide ((0:Int)<=1))&&((decide (1<=(length x0:Int)))&&(decide ((length x0:Int)<=(length x0:Int))))) then bif (!b_h_2) then bif (lim ((length x5)+1) 40) then wV (take ((toNat (length x0:Int)) - (toNat 1)) (drop (toNat 1) x0)) x1 (x5++[(b_h_0,(b_h_1,b_h_2))]) (w64 (x6+1)) else none else wV (take ((toNat (length x0:Int)) - (toNat 1)) (drop (toNat 1) x0)) x1 x5 (w64 (x6+1)) else none else bif (!b_h_2) then bif (lim ((length x5)+1) 40) then wV x0 x1 (x5++[(b_h_0,(b_h_1,b_h_2))]) (w64 (x6+1)) else none else wV x0 x1 x5 (w64 (x6+1)) else none else bif (!b_h_2) then bif (lim ((length x5)+1) 40) then wV x0 x1 (x5++[(b_h_0,(b_h_1,b_h_2))]) (w64 (x6+1)) else none else wV x0 x1 x5 (w64 (x6+1)):Option ((List qd)×Unit)):=(ql X 40 2 [0] _ _ _).trans (by kernel_rfl)
theorem qhp (a0:qp):q5n a0=((q0v a0).bind fun r3=>bif (!r3.1) then some (0,()) else (q0u a0.1).bind fun r4=>q1l 0 r4.1.1 (length r4.1.1:Int) 0 a0.1 a0.2.1 a0.2.2.1 a0.2.2.2.1 a0.2.2.2.2:Option (Int×Unit)):=(qo X rfl _).trans (by kernel_rfl)
theorem q6X (x3:Int) (x24:(List Int)) (x25:Int) (x26:Int) (b0_0:q8) (b0_1:Int) (b0_2:Int) (b0_3:Int) (b0_4:(List qh)):q1l x3 x24 x25 x26 b0_0 b0_1 b0_2 b0_3 b0_4=(bif (decide (x26 < x25)) then bif ((decide (0<=x26))&&(decide (x26 < (length x24:Int)))) then (wI (getD x24 (toNat x26) 0)).bind fun r11=>(q0d b0_0 r11.1).bind fun r12=>(q1a (getD x24 (toNat x26) 0) r12.1.1).bind fun r13=>q1g x3 (getD x24 (toNat x26) 0) x24 x25 x26 r13.1.2.1 (length r13.1.2.1:Int) 0 b0_0 b0_1 b0_2 b0_3 b0_4 else none else some (x3,()):Option (Int×Unit)):=(ql X 44 0 [] _ _ _).trans (by kernel_rfl)
theorem q78 (x3:Int) (x7:Int) (x24:(List Int)) (x25:Int) (x26:Int) (x45:(List zf)) (x46:Int) (x47:Int) (b0_0:q8) (b0_1:Int) (b0_2:Int) (b0_3:Int) (b0_4:(List qh)):q1g x3 x7 x24 x25 x26 x45 x46 x47 b0_0 b0_1 b0_2 b0_3 b0_4=(bif (decide (x47 < x46)) then bif ((decide (0<=x47))&&(decide (x47 < (length x45:Int)))) then (q4c (b0_0,(b0_1,(b0_2,(b0_3,b0_4)))) x7 (((getD x45 (toNat x47) ((0,[]),(0,0))).1),((getD x45 (toNat x47) ((0,[]),(0,0))).2))).bind fun r15=>bif (decide ((length r15.1:Int) > 0)) then q1g (w64 (x3+((getD x45 (toNat x47) ((0,[]),(0,0))).2).2)) x7 x24 x25 x26 x45 x46 (w64 (x47+1)) b0_0 b0_1 b0_2 b0_3 b0_4 else q1g x3 x7 x24 x25 x26 x45 x46 (w64 (x47+1)) b0_0 b0_1 b0_2 b0_3 b0_4 else none else q1l x3 x24 x25 (w64 (x26+1)) b0_0 b0_1 b0_2 b0_3 b0_4:Option (Int×Unit)):=(ql X 44 2 [0] _ _ _).trans (by kernel_rfl)
theorem qo1 (a0:qp):qcq a0=((q0v a0).bind fun r3=>bif (!r3.1) then some (0,()) else (q4L a0.1).bind fun r4=>some (r4.1,()):Option (Int×Unit)):=(qo X rfl _).trans (by kernel_rfl)
theorem qjL (a0:q8) (a1:qh):qbO a0 a1=((wI a1.2.1).bind fun r4=>(q0d a0 r4.1).bind fun r5=>(yD a0).bind fun r6=>bif (!r6.1) then some ((eB,false),()) else bif (!r5.1.2) then some ((eB,false),()) else (wL a1.2.2.1 0 (size r5.1.1:Int)).bind fun r7=>bif (!r7.1) then some ((eB,false),()) else bif ((decide (0<=a1.2.2.1))&&((decide (a1.2.2.1<=(size r5.1.1:Int)))&&(decide ((size r5.1.1:Int)<=(size r5.1.1:Int))))) then (q4R (ByteArray.extract r5.1.1 (toNat a1.2.2.1) (toNat (size r5.1.1:Int)))).bind fun r8=>bif ((length r8.1.1:Int)==0) then some ((eB,false),()) else bif ((decide ((0:Int)<=0))&&(decide (0 < (length r8.1.1:Int)))) then (q5u (getD r8.1.1 (toNat 0) eB)).bind fun r9=>bif (!r9.1.2) then some ((eB,false),()) else bif (r9.1.1.1 != a1.2.2.2) then some ((eB,false),()) else q2r r9.1.1.2 (length r9.1.1.2:Int) 0 a1.1 a1.2.1 a1.2.2.1 a1.2.2.2 else none else none:Option ((BA×Bool)×Unit)):=(qo X rfl _).trans (by kernel_rfl)
theorem q9b (x65:(List qd)) (x66:Int) (x67:Int) (b16_0:BA) (b16_1:Int) (b16_2:Int) (b16_3:Int):q2r x65 x66 x67 b16_0 b16_1 b16_2 b16_3=(bif (decide (x67 < x66)) then bif ((decide (0<=x67))&&(decide (x67 < (length x65:Int)))) then bif ((toList ((getD x65 (toNat x67) (eB,(eB,false))).1))==(toList b16_0)) then bif (!((getD x65 (toNat x67) (eB,(eB,false))).2).2) then some ((((getD x65 (toNat x67) (eB,(eB,false))).2).1,true),()) else q2r x65 x66 (w64 (x67+1)) b16_0 b16_1 b16_2 b16_3 else q2r x65 x66 (w64 (x67+1)) b16_0 b16_1 b16_2 b16_3 else none else some ((eB,false),()):Option ((BA×Bool)×Unit)):=(ql X 72 0 [] _ _ _).trans (by kernel_rfl)
theorem qmh (a0:qp) (a1:Int) (a2:zf):q4c a0 a1 a2=(q1C a1 [] a2.1.2 (length a2.1.2:Int) 0 a0.1 a0.2.1 a0.2.2.1 a0.2.2.2.1 a0.2.2.2.2 a2.1.1 a2.1.2 a2.2.1 a2.2.2:Option ((List qd)×Unit)):=(qo X rfl _).trans (by kernel_rfl)
theorem qas (x1:Int) (x7:(List qd)) (x12:(List qd)) (x13:Int) (x14:Int) (b0_0:q8) (b0_1:Int) (b0_2:Int) (b0_3:Int) (b0_4:(List qh)) (b16_0:Int) (b16_1:(List qd)) (b16_2:Int) (b16_3:Int):q1C x1 x7 x12 x13 x14 b0_0 b0_1 b0_2 b0_3 b0_4 b16_0 b16_1 b16_2 b16_3=(bif (decide (x14 < x13)) then bif ((decide (0<=x14))&&(decide (x14 < (length x12:Int)))) then bif (!((getD x12 (toNat x14) (eB,(eB,false))).2).2) then (yC b0_4 ((getD x12 (toNat x14) (eB,(eB,false))).1,(x1,(b16_2,b16_0)))).bind fun r16=>bif r16.1 then bif (lim ((length x7)+1) 40) then q1C x1 (x7++[((getD x12 (toNat x14) (eB,(eB,false))).1,(((getD x12 (toNat x14) (eB,(eB,false))).2).1,((getD x12 (toNat x14) (eB,(eB,false))).2).2))]) x12 x13 (w64 (x14+1)) b0_0 b0_1 b0_2 b0_3 b0_4 b16_0 b16_1 b16_2 b16_3 else none else q1C x1 x7 x12 x13 (w64 (x14+1)) b0_0 b0_1 b0_2 b0_3 b0_4 b16_0 b16_1 b16_2 b16_3 else q1C x1 x7 x12 x13 (w64 (x14+1)) b0_0 b0_1 b0_2 b0_3 b0_4 b16_0 b16_1 b16_2 b16_3 else none else some (x7,()):Option ((List qd)×Unit)):=(ql X 87 0 [] _ _ _).trans (by kernel_rfl)
theorem qfA (a0:qp) (a1:BA):q6d a0 a1=((wI a0.2.2.1).bind fun r4=>(q0d a0.1 r4.1).bind fun r5=>bif (decide ((size r5.1.1:Int) < 300)) then some (([(1,(r4.1,(a1,eB))),(2,(r4.1,(eB,eB)))],true),()) else (q0u a0.1).bind fun r6=>bif ((decide ((0:Int)<=0))&&(decide (0 < (length r6.1.1:Int)))) then (q3Y (w64 (a0.2.2.1+1)) (getD r6.1.1 (toNat 0) 0)).bind fun r7=>bif (!r7.1.2) then some (([],false),()) else bif (limS ((size r7.1.1)+(size a1))) then (wI (w64 (a0.2.2.1+1))).bind fun r8=>some (([(1,(qF,((r7.1.1++a1),eB))),(2,(qF,(eB,eB))),(3,(qF,(eB,r8.1)))],true),()) else none else none:Option (((List qz)×Bool)×Unit)):=(qo X rfl _).trans (by kernel_rfl)
theorem zA (a0:(List qh)) (a1:qh):yC a0 a1=((w9 a0 a1).bind fun r4=>some ((decide (r4.1>=0)),()):Option (Bool×Unit)):=(qo X rfl _).trans (by kernel_rfl)
theorem zL (a0:(List qh)) (a1:qh):w9 a0 a1=(qL a0 (length a0:Int) 0 a1.1 a1.2.1 a1.2.2.1 a1.2.2.2:Option (Int×Unit)):=(qo X rfl _).trans (by kernel_rfl)
theorem yU (x0:(List qh)) (x7:Int) (x8:Int) (b0_0:BA) (b0_1:Int) (b0_2:Int) (b0_3:Int):qL x0 x7 x8 b0_0 b0_1 b0_2 b0_3=(bif (decide (x8 < x7)) then bif ((decide (0<=x8))&&(decide (x8 < (length x0:Int)))) then bif (((toList b0_0)==(toList ((getD x0 (toNat x8) (eB,(0,(0,0)))).1)))&&((b0_1==((getD x0 (toNat x8) (eB,(0,(0,0)))).2).1)&&((b0_2==(((getD x0 (toNat x8) (eB,(0,(0,0)))).2).2).1)&&((b0_3==(((getD x0 (toNat x8) (eB,(0,(0,0)))).2).2).2)&&true)))) then some (x8,()) else qL x0 x7 (w64 (x8+1)) b0_0 b0_1 b0_2 b0_3 else none else some ((-1),()):Option (Int×Unit)):=(ql X 238 0 [] _ _ _).trans (by kernel_rfl)
end Go.Den.S
namespace Go.Den.S
open Go Go.Den
section
variable {β γ:Type}
theorem qu5 (a b:List (BA×Option β)):runK (a++b)=b.foldl wY (runK a):=by simp [runK,List.foldl_append]
end
end Go.Den.S
namespace Go.Den.S
open Go Go.Den
open Classical
noncomputable section
theorem qw0:∀ (b a:Nat),a<=b->(vL a).length<=(vL b).length:=by
 intro b;induction b using Nat.strongRecOn with
 | ind b ih=>
  intro a h;by_cases ha:a < 128
  ·rw [qdz ha]; exact qpI b
  ·rw [qeG ha,qeG (show ¬ b < 128 by omega),length_cons,length_cons]
   have:=ih (b / 128) (by omega) (a / 128) (by omega)
   omega
theorem qn7 {a b:Bat} (h:(bTL a).length<=(bTL b).length):(batL a).length<=(batL b).length:=by
 unfold batL bTx;rw [qb4,qb4,qD,qD];have:=qw0 _ _ h;omega
theorem qmS {d:List Fil} {dir:List Spt} {n:Nat} (h:∀ b∈batD d n,batT b=true):(bats (q3A d dir n)).length<=(bats (batD d n)).length:=by
 have:∀ ps:List (Bat×Nat),(∀ p∈ps,batT p.1=true)->(bats (ps.filterMap (j5 dir n))).length<=(bats (ps.map (·.1))).length:=fun ps=>by
  induction ps with
  | nil=>intro _; exact le_refl _
  | cons p ps ih=>
   intro h;have ih:=ih fun x hx=>h x (mem_cons_of_mem _ hx)
   rw [map_cons,q09,length_append,filterMap_cons];cases hk:j5 dir n p with
   | none=>simp only; omega
   | some b=>
    have:=qn7 (qex (h p (mem_cons_self ..)) hk).2;simp only [q09,length_append];omega
 have e:(zo d n).map (·.1)=batD d n:=q6p _ _;have h2:=this (zo d n) fun p hp=>h _ (by rw [<- e]; exact mem_map.2 ⟨p,hp,rfl⟩)
 rw [e] at h2;exact h2
end
section
variable {d:List Fil} {l i:List Nat} {top act:Nat}
theorem qcp:∀ {d:List Fil} {k:BA} {v:BA×Int},AscK d->(k,v)∈d->yR (delK k d)+v.1.size=yR d
 | f::d,k,v,h,hm=>by
  obtain ⟨h1,h2⟩:=pairwise_cons.1 h;rcases List.mem_cons.1 hm with e | hm
  ·subst e;have:delK k ((k,v)::d)=d:=by
    unfold delK;rw [filter_cons];simp only [ne_eq,not_true_eq_false,decide_false,Bool.false_eq_true,if_false];exact filter_eq_self.2 fun x hx=>by simpa using (q1T (h1 x hx)).symm
   rw [this];simp only [yR,map_cons,sum_cons]; omega
  ·have hne:f.1≠k:=q1T (h1 _ hm);have:delK k (f::d)=f::delK k d:=by
    unfold delK;rw [filter_cons];simp [hne]
   rw [this];have:=qcp h2 hm;unfold yR at this ⊢;rw [map_cons,sum_cons,map_cons,sum_cons]; omega
end
end Go.Den.S
namespace Go.Den.S
open Go Go.Den
set_option maxRecDepth 4000
theorem qf3 (s:Spt) (cs:List Chg) (hn:cs.length<=1000000000):∀ (r:List Chg) (i:Nat),cs.drop i=r->i<=cs.length->
  q2r cs (cs.length:Int) (i:Int) s.1 s.2.1 s.2.2.1 s.2.2.2=some (qco s.1 r,())
 | [],i,hd,hi=>by
  have:=drop_eq_nil_iff.1 hd;rw [q9b];have k1:decide ((i:Int) < (cs.length:Int))=false:=dYF (by omega)
  simp only [k1,cF]; rfl
 | c::r,i,hd,hi=>by
  obtain ⟨e1,hlt,e2⟩:=qK dC hd;rw [q9b];have k1:decide ((i:Int) < (cs.length:Int))=true:=dYT (by omega)
  have k2:decide (0<=(i:Int))=true:=dYT (by omega)
  have k4:w64 ((i:Int)+1)=((i+1:Nat):Int):=qw (by omega)
  rw [k1,k2];simp only [Bool.and_self,cT,k4,toNat_natCast,e1,y8,qf3 s cs hn r (i+1) e2 hlt,qjE];cases decide (c.1=s.1)<;>cases c.2.2<;>rfl
theorem qkM (d:List Fil) (hd:dOkB d=true) (s:Spt) {n:Nat} (hn:n < 100) (h:s.2.1=(n:Int)):qbO d s=some (voO d s,()):=by
 have hl:=(qG.1 hd).1;rw [qjL,wP,h,zl hn];simp only [oB];rw [q05 d (by omega)]
 simp only [oB];rw [zP d (by omega),hd]
 unfold faO;cases hg:getK (nmL n) d with
 | none=>rw [qbm (by rw [qaZ d s h]; unfold q62; rw [hg]; rfl)]; rfl
 | some x=>
  have hf:=(yj (qG.1 hd).2.2).1 hg;have hx:x.1.size<=20000:=(jg.1 ((qG.1 hd).2.1 _ hf)).2.2.1;simp only [oB,Bool.not_true,cF,q00,q0V];by_cases ha:0<=s.2.2.1/\s.2.2.1<=(x.1.size:Int)
  ·rw [dYT ha,dYT ha.1,dYT ha.2,dYT (Int.le_refl _),q7e];simp only [Bool.not_true,cF,Bool.and_self,cT,oB,toNat_natCast];have hu:(unO (x.1.extract s.2.2.1.toNat x.1.size)).1=(unfr ((bl x.1).drop s.2.2.1.toNat)).1:=by
    unfold unO;rw [if_pos (by rw [qW,qh9,List.length_drop,<- qW]; omega),qh9]
   have hf:=fun h=>qgt (t:=x.1.extract s.2.2.1.toNat x.1.size) (h:=h)
   have hba:q62 d n s.2.2.1=match (unfr ((bl x.1).drop s.2.2.1.toNat)).1 with | []=>none | h::_=>q0b h:=by
    unfold q62;rw [hg,oB,if_neg (by omega)];all_goals rfl
   rw [hu] at hf ⊢;cases hc:(unfr ((bl x.1).drop s.2.2.1.toNat)).1 with
   | nil=>rw [hc] at hba; rw [qbm (by rw [qaZ d s h,hba]; rfl)]; rfl
   | cons t r=>
    have hh:frOk t:=hf t (by rw [hc]; exact mem_cons_self ..)
    have k1:(((t::r).length:Int)==0)=false:=by rw [beq_eq_false_iff_ne,length_cons]; omega
    have k2:decide ((0:Int) < ((t::r).length:Int))=true:=dYT (by rw [length_cons]; omega)
    have k3:decide ((0:Int)<=0)=true:=rfl;have k4:(t::r).getD (toNat 0) eB=t:=rfl;rw [k1,k2,k3,k4,qai t (by have:=hh.2; omega)]
    rw [hc] at hba;have hba:q62 d n s.2.2.1=q0b t:=hba;simp only [cF,Bool.and_self,cT,oB];cases hb:q0b t with
    | none=>rw [qi0 hb,qbm (by rw [qaZ d s h,hba,hb]; rfl)]; rfl
    | some b=>
     have hb40:=qn2 hb;rw [qiI hb,qoW h (hba.trans hb)];simp only [Bool.not_true,cF];have:=qf3 s b.2 (by omega) b.2 0 rfl (zero_le _)
     rw [h] at this;rw [show ((0:Int))=((0:Nat):Int) from rfl,this]
     cases (b.1 != s.2.2.2)<;>rfl
  ·rw [dYF ha,qbm (by
    rw [qaZ d s h]; unfold q62; rw [hg,oB,if_pos (by omega)]; rfl)]; rfl
end Go.Den.S
namespace Go.Den.S
open Go Go.Den
open Classical
set_option maxRecDepth 4000
theorem qdP (e:Eng) (hd:dOkB e.1=true) (l:List Spt) (hl:l.length<=1000000000) (hs:∀ s∈l,∃ n:Nat,n < 100/\s.2.1=(n:Int)):∀ (r:List Spt) (i:Nat) (acc:List Chg),l.drop i=r->i<=l.length->acc.length<=i->
  q3K acc l (l.length:Int) (i:Int) e.1 e.2.1 e.2.2.1 e.2.2.2.1 e.2.2.2.2=some ((acc++conS e.1 r,true),())
 | [],i,acc,hd',hi,ha=>by
  have:=drop_eq_nil_iff.1 hd';rw [q7W];have k1:decide ((i:Int) < (l.length:Int))=false:=dYF (by omega)
  simp only [k1,cF];show _=some ((acc++[],true),());rw [append_nil]
 | s::r,i,acc,hd',hi,ha=>by
  obtain ⟨e1,hlt,e2⟩:=qK dS hd';obtain ⟨n,hn,h⟩:=hs s (yL hd');rw [q7W];have k1:decide ((i:Int) < (l.length:Int))=true:=dYT (by omega)
  have k2:decide (0<=(i:Int))=true:=dYT (by omega)
  have k4:w64 ((i:Int)+1)=((i+1:Nat):Int):=qw (by omega)
  have kl:lim (acc.length+1) 40=true:=qJ (by omega)
  rw [k1,k2];simp only [Bool.and_self,cT,k4,toNat_natCast,e1,pmk];rw [qkM e.1 hd s hn h];simp only [oB];rw [kl,cT,qdP e hd l hl hs r (i+1) _ e2 hlt (by rw [length_append,length_singleton]; omega),append_assoc]
  rfl
theorem q6o (e:Eng) (hd:e.1.length<=2000000):q2f e=some (coO e,()):=by
 rw [qit,q0H e hd];unfold coO;by_cases h:eOkP e
 ·obtain ⟨f1,f2,f3⟩:=q6w h;rw [dYT h,if_pos h];exact qdP e f1 e.2.2.2.2 (by omega) f3 e.2.2.2.2 0 [] rfl (zero_le _) (le_refl _)
 ·rw [dYF h,if_neg h]; rfl
theorem qs0 {e:Eng} (h:eOkP e) {b:Bat} (hb:batT b=true):q6d e (bOf (batL b))=some ((match putA e.1 (segN e.1) b with | some xs=>(xs,true) | none=>([],false)),()):=by
 obtain ⟨r1,r2,C,ha,hq,hd,_⟩:=jJ h;generalize segN e.1=l at *;have hlm:=qbt C.ne;have h100:=(C.mem.1 hlm).1;obtain ⟨t1,t2⟩:=C.txt hlm;have hl30:=C.len;rw [qfA,wP,ha,zl h100];simp only [oB];rw [q05 e.1 (by omega)]
 have hfa:faO e.1 (nmL (l.getLastD 0))=(txtD e.1 (l.getLastD 0),true):=by unfold faO; rw [t1]
 rw [hfa];simp only [oB];unfold putA;by_cases hs:(txtD e.1 (l.getLastD 0)).size < 300
 ·rw [dYT (show ((txtD e.1 (l.getLastD 0)).size:Int) < 300 by omega),if_pos hs]; rfl
 ·rw [dYF (show ¬ ((txtD e.1 (l.getLastD 0)).size:Int) < 300 by omega),if_neg hs,cF,q0L e.1 (by omega)]
  have hsg:sgO e.1=(natI l,true):=by unfold sgO; rw [C.segs]
  have hlen:=jU C.segs;have hll:(natI l).length=l.length:=length_map ..;have hpos:0 < l.length:=List.length_pos_iff.2 C.ne;have hh:(natI l).getD (toNat 0) 0=((l.headD 0:Nat):Int):=by
   have:=zh (l:=l) (i:=0) hpos;refine this.trans ?_;cases l with
   | nil=>exact absurd rfl C.ne
   | cons a l=>rfl
  have w1:w64 (((l.getLastD 0:Nat):Int)+1)=((l.getLastD 0+1:Nat):Int):=qw (by omega)
  have hhd:=C.mem.1 (head_mem C.ne);have hle:l.headD 0<=l.getLastD 0:=by
   obtain ⟨i,hi,hlt⟩:=q6S C.ascN C.ne;have hm:=head_mem C.ne;rw [hi] at hm;rcases mem_append.1 hm with hm | hm
   ·have:=hlt _ hm;rw [<- hi] at this; omega
   ·have:=List.mem_singleton.1 hm;rw [<- hi] at this; omega
  rw [hsg];simp only [oB,hh,w1,hll];rw [show decide ((0:Int)<=0)=true from rfl,dYT (show (0:Int) < (l.length:Int) by omega),q6j]
  simp only [Bool.and_self,cT,oB];unfold htO;by_cases hm:l.getLastD 0+1 < 100
  ·rw [if_pos (by omega),if_pos hm]
   have e1:=q1v hm hhd.1;have e2:=q8C hb;simp only [toNat_natCast,Bool.not_true,cF];rw [yA (by rw [qD,qD]; omega),cT,wP,zl hm,<- qqR]
   rfl
  ·rw [if_neg (by omega),if_neg hm]; rfl
theorem q6e (e:Eng) (hn:e.1.length<=2000000) (cs:List Chg) (hc:cs.length<=1000000000):q2g e cs=some (puO e cs,()):=by
 rw [qio,q5y _ hc,q0H e hn];simp only [oB];unfold puO;by_cases h:eOkP e
 ·obtain ⟨r1,r2,C,_,hq,_⟩:=jJ h;have hqb:=qea C.bt;have w1:w64 (e.2.2.2.1+1)=e.2.2.2.1+1:=qg (by omega) (by omega)
  rw [dYT h,w1];unfold btO;by_cases hb:batT (e.2.2.2.1+1,cs)=true
  ·rw [if_pos hb,dif_pos ⟨h,hb⟩];simp only [Bool.not_true,cF];have hfr:frO (bOf (bTL (e.2.2.2.1+1,cs)))=(bOf (batL (e.2.2.2.1+1,cs)),true):=q9C (q6R hb);rw [q44,hfr];simp only [oB];rw [qs0 h hb];cases hp:putA e.1 (segN e.1) (e.2.2.2.1+1,cs) with
   | none=>rfl
   | some xs=>
    have hsz:=ql0 C hb hp;simp only [oB,Bool.not_true,cF];rw [q8A e.1 hn xs hsz];simp only [oB];have hle:=q6i xs e.1;rw [q6v];by_cases hall:(qR e.1 xs).2=xs.length
    ·obtain ⟨g1,g2⟩:=qqv h hb hp (qij.2 hall);have hlen:=(qG.1 g2).1;rw [dYF (show ¬ ((qR e.1 xs).2:Int) < (xs.length:Int) by omega),dYF (show ¬ (qR e.1 xs).2 < xs.length by omega),cF,qeq g2,Bool.false_or]
     simp only [oB];rw [q04 _ (by omega)]
     cases decide ((yR (qR e.1 xs).1:Int) > e.2.1)<;>rfl
    ·rw [dYT (show ((qR e.1 xs).2:Int) < (xs.length:Int) by omega),dYT (show (qR e.1 xs).2 < xs.length by omega)]
     rfl
  ·rw [if_neg hb,dif_neg (fun c=>hb c.2)]; rfl
 ·rw [dYF h,dif_neg (fun c=>h c.1)]; rfl
theorem qnq (l:List Spt) (x:Spt) (hl:l.length<=1000000000):yC l x=some (decide (x∈l),()):=by
 rw [zA,zL];have hi:=q69 (fun i=>qL l (l.length:Int) i x.1 x.2.1 x.2.2.1 x.2.2.2) (fun y:Spt=>decide (x=y)) dS l (fun n=>some (n,()))
  (fun i hi=>by
   conv=>lhs; rw [yU]
   have e1:decide ((i:Int) < (l.length:Int))=true:=dYT (by omega)
   have e2:decide (0<=(i:Int))=true:=dYT (by omega)
   have e3:w64 ((i:Int)+1)=((i+1:Nat):Int):=qw (by omega)
   simp only [e1,e2,e3,Bool.and_self,cT,toNat_natCast,y8,qoN])
  (by
   show qL l (l.length:Int) (l.length:Int) x.1 x.2.1 x.2.2.1 x.2.2.2=_;rw [yU];simp only [Int.lt_irrefl,decide_false,cF])
 rw [hi];simp only [oB];congr 2
 rcases q6B (fun y:Spt=>decide (x=y)) l 0 with ⟨h1,h2⟩ | ⟨j,h1,h2,h3,_⟩
 ·rw [h1,dYF (by omega),eq_comm,dYF]
  intro hm;have:=h2 x hm;simp at this
 ·rw [h2,dYT (by omega),eq_comm,dYT]
  have e:=List.getElem?_eq_getElem h1;have:=of_decide_eq_true (h3 _ e);rw [this];exact List.getElem_mem h1
theorem qcm (e:Eng) (hdl:e.2.2.2.2.length<=1000000000) (n a:Nat) (b:Bat) (z:Int) (hb:b.2.length<=1000000):∀ (r:List Chg) (i:Nat) (acc:List Chg),b.2.drop i=r->i<=b.2.length->acc.length<=i->
  q1C (n:Int) acc b.2 (b.2.length:Int) (i:Int) e.1 e.2.1 e.2.2.1 e.2.2.2.1 e.2.2.2.2 b.1 b.2 (a:Int) z=some (acc++r.filter (q7J e.2.2.2.2 n (b,a)),())
 | [],i,acc,hd,hi,ha=>by
  have:=drop_eq_nil_iff.1 hd;rw [qas];have k1:decide ((i:Int) < (b.2.length:Int))=false:=dYF (by omega)
  simp only [k1,cF,List.filter_nil,append_nil]
 | c::r,i,acc,hd,hi,ha=>by
  obtain ⟨e1,hlt,e2⟩:=qK dC hd;have ih:=qcm e hdl n a b z hb r (i+1);rw [qas];have k1:decide ((i:Int) < (b.2.length:Int))=true:=dYT (by omega)
  have k2:decide (0<=(i:Int))=true:=dYT (by omega)
  have k4:w64 ((i:Int)+1)=((i+1:Nat):Int):=qw (by omega)
  have kl:lim (acc.length+1) 40=true:=qJ (by omega)
  rw [k1,k2];simp only [Bool.and_self,cT,k4,toNat_natCast,e1,pmk];rw [qnq _ _ hdl];simp only [oB];rw [kl,ih acc e2 hlt (by omega),ih (acc++[c]) e2 hlt (by rw [length_append,length_singleton]; omega),filter_cons]
  have hp:q7J e.2.2.2.2 n (b,a) c=(!c.2.2&&decide ((c.1,((n:Int),((a:Int),b.1)))∈e.2.2.2.2)):=rfl;rw [hp];cases !c.2.2 with
  | false=>rfl
  | true=>
   cases decide ((c.1,((n:Int),((a:Int),b.1)))∈e.2.2.2.2) with
   | false=>rfl
   | true=>
    simp only [Bool.and_self,cT,if_true];rw [append_assoc]; rfl
theorem qni (e:Eng) (hdl:e.2.2.2.2.length<=1000000000) (n a:Nat) (b:Bat) (z:Int) (hb:b.2.length<=1000000):q4c e (n:Int) (b,((a:Int),z))=some (yO e.2.2.2.2 n (b,a),()):=by
 rw [qmh,q8j];exact qcm e hdl n a b z hb b.2 0 [] rfl (zero_le _) (le_refl _)
theorem quT {α:Type} (l:List α):((l.length:Int)==0)=l.isEmpty:=by
 cases l with
 | nil=>rfl
 | cons a l=>rw [List.isEmpty_cons,beq_eq_false_iff_ne,length_cons]; omega
theorem qf6 (e:Eng) (hdl:e.2.2.2.2.length<=1000000000) (n:Nat) (x6 x6h:Nat) (x7:Int) (x61 x61h:Nat) (x62 x63:Int) (rr:List Int) (ps:List Pla) (hps:ps.length<=1000000):∀ (bs:List Bat) (a k:Nat) (acc:List Act),ps.drop k=plB a bs->k<=ps.length->(∀ b∈bs,batT b=true)->acc.length+bs.length<=1000000000->
  q1h x6 x6h x7 acc (n:Int) x61 x61h x62 x63 ps (ps.length:Int) (k:Int) e.1 e.2.1 e.2.2.1 e.2.2.2.1 e.2.2.2.2 rr=q0p x6 x6h x7 (acc++addA ((posB a bs).filterMap (j5 e.2.2.2.2 n))) x61 x61h x62 (w64 (x63+1)) e.1 e.2.1 e.2.2.1 e.2.2.2.1 e.2.2.2.2 rr
 | [],a,k,acc,hd,hk,hb,ha=>by
  have:=drop_eq_nil_iff.1 hd;rw [q6W];have k1:decide ((k:Int) < (ps.length:Int))=false:=dYF (by omega)
  simp only [k1,cF];show _=q0p x6 x6h x7 (acc++[]) _ _ _ _ _ _ _ _ _ _;rw [append_nil]
 | b::bs,a,k,acc,hd,hk,hb,ha=>by
  have hd':ps.drop k=(b,((a:Int),((batL b).length:Int)))::plB (a+(batL b).length) bs:=hd;obtain ⟨e1,hlt,e2⟩:=qK dP hd';have hb0:=hb b (mem_cons_self ..);rw [length_cons] at ha;have ih:=fun acc h=>qf6 e hdl n x6 x6h x7 x61 x61h x62 x63 rr ps hps bs (a+(batL b).length) (k+1) acc e2 hlt (fun x hx=>hb x (mem_cons_of_mem _ hx)) h
  rw [q6W];have k1:decide ((k:Int) < (ps.length:Int))=true:=dYT (by omega)
  have k2:decide (0<=(k:Int))=true:=dYT (by omega)
  have k4:w64 ((k:Int)+1)=((k+1:Nat):Int):=qw (by omega)
  have kl:lim (acc.length+1) 56=true:=qJ (by omega)
  rw [k1,k2];simp only [Bool.and_self,cT,k4,toNat_natCast,e1];have h40:=qcD hb0;have hto:q4c (e.1,(e.2.1,(e.2.2.1,(e.2.2.2.1,e.2.2.2.2)))) (n:Int) (b,((a:Int),((batL b).length:Int)))=some (yO e.2.2.2.2 n (b,a),()):=qni e hdl n a b _ (by omega)
  rw [hto];simp only [oB,quT];have hpos:posB a (b::bs)=(b,a)::posB (a+(batL b).length) bs:=rfl;cases he:(yO e.2.2.2.2 n (b,a)).isEmpty with
  | true=>
   rw [cT,ih acc (by omega),hpos,filterMap_cons]
   have:j5 e.2.2.2.2 n (b,a)=none:=by unfold j5; rw [he]; rfl
   rw [this]
  | false=>
   obtain ⟨q1,q2⟩:=qkb hb0 he;have hl:=qng e.2.2.2.2 n (b,a);have hl:(yO e.2.2.2.2 n (b,a)).length<=b.2.length:=hl;have q2:batT (b.1,yO e.2.2.2.2 n (b,a))=true:=q2;rw [cF,q5y _ (by show (yO _ _ _).length<=_; omega)]
   unfold btO;rw [if_pos q2];simp only [oB];have hfr:frO (bOf (bTL (b.1,yO e.2.2.2.2 n (b,a))))=(bOf (batL (b.1,yO e.2.2.2.2 n (b,a))),true):=q9C (q6R q2);rw [q44,hfr,kl];simp only [oB,cT];rw [ih _ (by rw [length_append,length_singleton]; omega),hpos,filterMap_cons,q1,append_assoc]
   rfl
theorem qqT (ns:List Nat) (hn:ns.length<=1000) (h:∀ n∈ns,n < 100):∀ (r:List Nat) (i:Nat) (acc:List Act),ns.drop i=r->i<=ns.length->acc.length<=1000000000+i->
  q2Y acc (natI ns) (ns.length:Int) (i:Int)=some ((acc++r.map fun n=>drA (nmL n),true),())
 | [],i,acc,hd,hi,ha=>by
  have:=drop_eq_nil_iff.1 hd;rw [q7q];have k1:decide ((i:Int) < (ns.length:Int))=false:=dYF (by omega)
  simp only [k1,cF,List.map_nil,append_nil]
 | n::r,i,acc,hd,hi,ha=>by
  obtain ⟨e1,hlt,e2⟩:=qK 0 hd;have hn100:=h n (yL hd);have hll:(natI ns).length=ns.length:=length_map ..;have eI:(natI ns).getD i 0=(n:Int):=by rw [zh hlt,e1]
  rw [q7q,hll];have k1:decide ((i:Int) < (ns.length:Int))=true:=dYT (by omega)
  have k2:decide (0<=(i:Int))=true:=dYT (by omega)
  have k4:w64 ((i:Int)+1)=((i+1:Nat):Int):=qw (by omega)
  have kl:lim (acc.length+1) 56=true:=qJ (by omega)
  rw [k1,k2];simp only [Bool.and_self,cT,k4,toNat_natCast,eI,wP,zl hn100,oB];rw [kl,cT,qqT ns hn h r (i+1) _ e2 hlt (by rw [length_append,length_singleton]; omega),append_assoc]
  rfl
section
variable {e:Eng} {ini:List Nat} {top act:Nat}
theorem qfa (C:Clean e.1 ((ini++[top])++[act])) (hdl:e.2.2.2.2.length<=1000000000):∀ (r:List Nat) (i:Nat) (acc:List Act),(ini++[top]).drop i=r->i<=(ini++[top]).length->acc.length<=20000 * i+1->
  q0p 0 (ini++[top]).length (top:Int) acc 0 (ini++[top]).length ((ini++[top]).length:Int) (i:Int) e.1 e.2.1 e.2.2.1 e.2.2.2.1 e.2.2.2.2 (natI ((ini++[top])++[act]))=some ((endA e ini top (acc++addA (yM e.1 e.2.2.2.2 r)),true),())
 | [],i,acc,hd,hi,ha=>by
  have:=drop_eq_nil_iff.1 hd;have hlen:=jU C.segs;have hol:(ini++[top]).length=ini.length+1:=by rw [length_append,length_singleton]
  have hll:((ini++[top])++[act]).length=ini.length+2:=by rw [length_append,length_singleton,hol]
  have htop:top < 100:=(C.mem.1 (by simp)).1
  rw [q7i,hol];have k1:decide ((i:Int) < ((ini.length+1:Nat):Int))=false:=dYF (by omega)
  have w1:w64 (((ini.length+1 - 0:Nat):Int) - 1)=((ini.length:Nat):Int):=(qg (by omega) (by omega)).trans (by omega)
  have kl:lim (acc.length+2) 56=true:=qJ (by omega)
  rw [k1,w1,cF,wP,zl htop];simp only [oB];rw [kl,show decide ((0:Int)<=0)=true from rfl,dYT (show (0:Int)<=(ini.length:Int) by omega),dYT (show ((ini.length:Nat):Int)<=((ini.length+1 - 0:Nat):Int) by omega)]
  simp only [Bool.and_self,cT,toNat_natCast];have htk:take (0+ini.length - (0+toNat 0)) (drop (0+toNat 0) (natI ((ini++[top])++[act])))=natI ini:=by
   show take (0+ini.length) (natI ((ini++[top])++[act]))=natI ini;rw [zero_add];unfold natI;rw [append_assoc,map_append];have:(List.map (fun n:Nat=>(n:Int)) ini).length=ini.length:=length_map ..
   rw [<- this,List.take_left]
  have hln:((0+ini.length - (0+toNat 0):Nat):Int)=((ini.length:Nat):Int):=by
   show ((0+ini.length:Nat):Int)=_;rw [zero_add]
  rw [htk,hln];refine (qqT ini (by omega) (fun n hn=>(C.mem.1 (by simp [hn])).1) ini 0 _ rfl (zero_le _) (by rw [length_append]; simp only [length_cons,List.length_nil]; omega)).trans ?_
  unfold endA yM addA;rw [List.flatMap_nil,List.map_nil,append_nil,append_assoc]; rfl
 | n::r,i,acc,hd,hi,ha=>by
  obtain ⟨e1,hlt,e2⟩:=qK 0 hd;have hlen:=jU C.segs;have hol:(ini++[top]).length=ini.length+1:=by rw [length_append,length_singleton]
  have hll:((ini++[top])++[act]).length=ini.length+2:=by rw [length_append,length_singleton,hol]
  have hnl:n∈(ini++[top])++[act]:=List.mem_append_left _ (yL hd);have hn:=(C.mem.1 hnl).1;have hh:=(C.mem.1 hnl).2.1;have hl30:=C.len;have eI:(natI ((ini++[top])++[act])).getD (0+i) 0=(n:Int):=by
   rw [zero_add,zh (by omega),List.getD_eq_getElem?_getD,List.getElem?_append_left hlt,<- List.getD_eq_getElem?_getD,e1]
  rw [q7i];have k1:decide ((i:Int) < ((ini++[top]).length:Int))=true:=dYT (by omega)
  have k2:decide (0<=(i:Int))=true:=dYT (by omega)
  have k3:decide ((i:Int) < (((ini++[top]).length - 0:Nat):Int))=true:=dYT (by omega)
  have k4:w64 ((i:Int)+1)=((i+1:Nat):Int):=qw (by omega)
  rw [k1,k2,k3];simp only [Bool.and_self,cT,toNat_natCast,eI,wP,zl hn,oB];rw [q05 e.1 (by omega)]
  simp only [oB];rw [q5J n (by omega)]
  simp only [oB,qgQ hn hh];have hbl:=q1X e.1 (show n<=99 by omega)
  have hz:=qdO (batD e.1 n) (wo e.1 n);have hi100:i<=100:=by omega
  refine (qf6 e hdl n _ _ _ _ _ _ _ _ (plB (wo e.1 n) (batD e.1 n)) (by omega) (batD e.1 n) (wo e.1 n) 0 acc rfl (zero_le _) q4f (by omega)).trans ?_
  rw [k4];have hkl:=qiR e.1 e.2.2.2.2 n (by omega)
  have hkN:(posB (wo e.1 n) (batD e.1 n)).filterMap (j5 e.2.2.2.2 n)=q3A e.1 e.2.2.2.2 n:=rfl;rw [hkN];refine (qfa C hdl r (i+1) _ e2 hlt (by rw [length_append,qoT]; omega)).trans ?_
  have:yM e.1 e.2.2.2.2 (n::r)=q3A e.1 e.2.2.2.2 n++yM e.1 e.2.2.2.2 r:=rfl;rw [this,qpv,append_assoc]
end
theorem q5w (e:Eng) (hn:e.1.length<=2000000):q1E e=some (maO e,()):=by
 rw [qhr,q0L e.1 (by omega),q0H e hn]
 simp only [oB];by_cases h:eOkP e
 ·obtain ⟨r1,r2,C,hact,hq,hdir,_⟩:=jJ h;have hsg:sgO e.1=(natI (segN e.1),true):=by unfold sgO; rw [C.segs]
  have hll:(natI (segN e.1)).length=(segN e.1).length:=length_map ..;rw [dYT h,hsg];simp only [Bool.not_true,cF,hll];by_cases h2:2<=(segN e.1).length
  ·rw [dYF (show ¬ ((segN e.1).length:Int) < 2 by omega),cF]
   obtain ⟨ini,top,act,hl⟩:=qdj h2;rw [q6A h hl];rw [hl] at C hdir ⊢;have hlen:=jU C.segs;have hol:(ini++[top]).length=ini.length+1:=by rw [length_append,length_singleton]
   have hls:((ini++[top])++[act]).length=ini.length+2:=by rw [length_append,length_singleton,hol]
   have htop:top < 100:=(C.mem.1 (by simp)).1
   have w1:w64 ((((ini++[top])++[act]).length:Int) - 1)=((ini.length+1:Nat):Int):=(qg (by omega) (by omega)).trans (by omega)
   rw [w1];have t0:toNat 0=0:=rfl;have w2:w64 ((((toNat ((ini.length+1:Nat):Int)) - toNat 0:Nat):Int) - 1)=((ini.length:Nat):Int):=by
    rw [toNat_natCast,t0];exact (qg (by omega) (by omega)).trans (by omega)
   rw [w2];simp only [toNat_natCast,t0];rw [show decide ((0:Int)<=0)=true from rfl,dYT (show (0:Int)<=((ini.length+1:Nat):Int) by omega),dYT (show ((ini.length+1:Nat):Int)<=(((ini++[top])++[act]).length:Int) by omega),dYT (show (0:Int)<=((ini.length:Nat):Int) by omega),dYT (show ((ini.length:Nat):Int) < ((ini.length+1 - 0:Nat):Int) by omega)]
   simp only [Bool.and_self,cT];have eT:(natI ((ini++[top])++[act])).getD (0+ini.length) 0=(top:Int):=by
    rw [zero_add,zh (by omega),List.getD_eq_getElem?_getD,List.getElem?_append_left (by omega),List.getElem?_append_right (le_refl _),Nat.sub_self]; rfl
   rw [eT,q6j];simp only [oB];have hht:htO (top:Int) (top:Int)=(bOf (qU top top),true):=by
    unfold htO;rw [if_pos (by omega)]; rfl
   rw [hht];obtain ⟨_,f2,_⟩:=q6w h;have:=qfa C (by omega) (ini++[top]) 0 [adA qB (bOf (qU top top))] rfl (zero_le _) (le_refl _)
   rw [qkl e _ hdir,hol] at this;exact this
  ·rw [dYT (show ((segN e.1).length:Int) < 2 by omega),cT,q9i (fun c=>h2 c.2)]
 ·rw [dYF h,q9i (fun c=>h c.1)]; rfl
theorem qf0 (e:Eng) (xs:List Act) (hs:aSz xs):∀ (r:List Act) (i:Nat) (d:List Fil),xs.drop i=r->i<=xs.length->d.length<=2000000->
  q5Z (xs.length:Int) (i:Int) e.1 e.2.1 e.2.2.1 e.2.2.2.1 e.2.2.2.2 [] 0 0 0 [] xs d=some (finM e.2.1 xs (goM e.2.1 d r),())
 | [],i,d,hd,hi,hl=>by
  have:=drop_eq_nil_iff.1 hd;rw [qbu];have k1:decide ((i:Int) < (xs.length:Int))=false:=dYF (by omega)
  simp only [k1,cF];rw [q04 d hl];simp only [oB];show _=some (finM e.2.1 xs (some d),());rw [qnh];cases (opO d e.2.1).2.2<;>rfl
 | a::r,i,d,hd,hi,hl=>by
  obtain ⟨e1,hlt,e2⟩:=qK dA hd;have hsz:=hs.2 a (yL hd);rw [qbu];have hs1:=hs.1;have k1:decide ((i:Int) < (xs.length:Int))=true:=dYT (by omega)
  have k2:decide (0<=(i:Int))=true:=dYT (by omega)
  have k4:w64 ((i:Int)+1)=((i+1:Nat):Int):=qw (by omega)
  rw [k1,k2];simp only [Bool.and_self,cT,k4,toNat_natCast,e1,pmk];rw [qf7 d hl a hsz];simp only [oB];rcases qcy d a with ⟨h1,h2⟩ | ⟨d',h1,h2⟩
  ·rw [h2];have:goM e.2.1 d (a::r)=none:=by simp only [goM,h1]
   rw [this]; rfl
  ·rw [h2];have ho:=(qh6 h1).2.1;have:goM e.2.1 d (a::r)=bif decide ((yR d':Int) > e.2.1) then none else goM e.2.1 d' r:=by simp only [goM,h1]
   rw [this];simp only [Bool.not_true,cF];rw [qeq ho];simp only [oB];rw [qf0 e xs hs r (i+1) d' e2 hlt (qaW h1)];cases decide ((yR d':Int) > e.2.1)<;>rfl
theorem qac (e:Eng) (hn:e.1.length<=2000000):q5e e=some (meO e,()):=by
 rw [qnn,q5w e hn];simp only [oB];unfold meO;cases (maO e).2 with
 | false=>rfl
 | true=>
  simp only [Bool.not_true,cF,cT];exact qf0 e (maO e).1 (qsQ e) (maO e).1 0 e.1 rfl (zero_le _) hn
theorem qoY (e:Eng) (he:e.1.length<=2000000) (cs:List Chg):SmE (puO e cs).1/\(puO e cs).2.1.length<=3:=by
 unfold puO;split
 ·cases hp:putA e.1 (segN e.1) (e.2.2.2.1+1,cs) with
  | none=>exact ⟨q8Y,zero_le _⟩
  | some xs=>
   have hl3:xs.length<=3:=by
    unfold putA at hp;split at hp
    ·rw [<- Option.some.inj hp]; simp
    ·split at hp
     ·rw [<- Option.some.inj hp]; simp
     ·cases hp
   rw [q6v];cases (decide ((qR e.1 xs).2 < xs.length)||decide ((yR (qR e.1 xs).1:Int) > e.2.1)) with
   | true=>exact ⟨q8Y,zero_le _⟩
   | false=>exact ⟨qoV _ (qbK xs e.1 he) _,hl3⟩
 ·exact ⟨q8Y,zero_le _⟩
end Go.Den.S
namespace Go.Den.S
open Go Go.Den
set_option maxRecDepth 4000
theorem qwc {cs:List Chg} {b:Nat} (h:∀ c∈cs,(chL c).length<=b):(cs.flatMap chL).length<=b * cs.length:=by
 induction cs with
 | nil=>exact zero_le _
 | cons c cs ih=>
  have h1:=h c (mem_cons_self ..);have h2:=ih fun x hx=>h x (mem_cons_of_mem _ hx)
  rw [List.flatMap_cons,length_append,length_cons,Nat.mul_succ]; omega
theorem Gc.bat {cs:List Chg} (h:Gc cs) {q:Int} (h0:0<=q) (h1:q<=1000000000):batT (q,cs)=true:=by
 have hl1:=h.l1;have hl6:=h.l6;have hok:q0E (q,cs)=true:=jQ.2 ⟨h0,h1,hl1,by show cs.length<=40; omega,fun c hc=>qfS.2 ⟨(h.key c hc).1,by have:=(h.key c hc).2; omega,by have:=(h.val c hc).1; omega,(h.val c hc).2⟩,q8w.2 h.asc⟩
 rw [qj3 hok];refine dYT ?_;have hc:∀ c∈cs,(chL c).length<=25:=fun c hc=>by
  have a:=h.key c hc;have b:=h.val c hc;have a1:=q6J c.1 (by omega)
  have b1:=q6J c.2.1 (by omega)
  unfold chL;rw [length_append,length_cons]; omega
 have hf:=qwc hc;have v1:=zq (n:=q.toNat) (by omega)
 have v2:=zq (n:=cs.length) (by omega)
 show (66::(vL q.toNat++(vL cs.length++cs.flatMap chL))).length<=9000;rw [length_cons,length_append,length_append]; omega
end Go.Den.S
namespace Go.Den.S
open Go Go.Den
open Classical
set_option maxRecDepth 4000
theorem qia (a b:List (BA×BA)):chgs (a++b)=chgs a++chgs b:=by unfold chgs; rw [map_append]
theorem qvz (c:Chg) (r:List Chg):take ((((c::r).length:Int)).toNat - toNat 1) (drop (toNat 1) (c::r))=r:=by
 show take ((((c::r).length:Int)).toNat - 1) r=r;rw [toNat_natCast,length_cons,Nat.add_sub_cancel,List.take_length]
theorem qp7 {l:List (BA×BA)} {k:BA} (h:∀ x∈l,blt k x.1=true):(l.filter fun x=>blt x.1 k)=[]/\(l.filter fun x=>blt k x.1)=l:=by
 constructor
 ·rw [List.filter_eq_nil_iff];intro x hx hk;have:=q3n (h x hx);rw [this] at hk; cases hk
 ·rw [filter_eq_self]; exact h
theorem qnd (more:List Chg) (hm:more.length<=1000000000) (i:Nat) (hi:i < more.length) (k v:BA) (g:Bool):∀ (p o:List (BA×BA)),AscK p->o.length+p.length+i<=3000000000->
  q8V (chgs p) more (chgs o) (i:Int) k v g=wV (chgs (p.filter fun x=>blt k x.1)) more (chgs (o++p.filter fun x=>blt x.1 k)++(bif g then [] else [(k,(v,g))])) ((i+1:Nat):Int)
 | [],o,hp,hl=>by
  rw [qdR];have z:decide (((chgs []).length:Int) > 0)=false:=rfl;have w:w64 ((i:Int)+1)=((i+1:Nat):Int):=qw (by omega)
  have kl:lim ((chgs o).length+1) 40=true:=qJ (by rw [q17]; omega)
  rw [z,kl];simp only [cF,cT,w,List.filter_nil,append_nil];cases g with
  | true=>simp only [Bool.not_true,cF,cT,append_nil]
  | false=>simp only [Bool.not_false,cT,cF]
 | (a,b)::r,o,hp,hl=>by
  have hp':=pairwise_cons.1 hp;rw [length_cons] at hl;have z:decide (((chgs ((a,b)::r)).length:Int) > 0)=true:=dYT (by rw [q17,length_cons]; omega)
  have z2:decide (0 < ((chgs ((a,b)::r)).length:Int))=true:=z;have z3:decide (1<=((chgs ((a,b)::r)).length:Int))=true:=dYT (by rw [q17,length_cons]; omega)
  have z4:decide (((chgs ((a,b)::r)).length:Int)<=((chgs ((a,b)::r)).length:Int))=true:=dYT (Int.le_refl _);have z5:decide ((0:Int)<=0)=true:=rfl;have z6:decide ((0:Int)<=1)=true:=rfl;have gz:(chgs ((a,b)::r)).getD (toNat 0) (eB,(eB,false))=(a,(b,false)):=rfl;have w:w64 ((i:Int)+1)=((i+1:Nat):Int):=qw (by omega)
  have kl:lim ((chgs o).length+1) 40=true:=qJ (by rw [q17]; omega)
  have tl:take ((((chgs ((a,b)::r)).length:Int)).toNat - toNat 1) (drop (toNat 1) (chgs ((a,b)::r)))=chgs r:=qvz _ _;rw [qdR,z,z3,z4,z5,z6,gz,tl,kl];simp only [Bool.and_self,cT,w,y8];have hb:Op.bytesLess (toList a) (toList k)=blt a k:=blt_eq a k;rw [hb];cases h1:blt a k with
  | true=>
   simp only [cT];have e1:chgs o++[(a,(b,false))]=chgs (o++[(a,b)]):=by rw [qia]; rfl
   have h2:=q3n h1;rw [e1,qnd more hm i hi k v g r (o++[(a,b)]) hp'.2 (by rw [length_append,length_singleton]; omega)]
   simp only [filter_cons,h1,h2,if_true,Bool.false_eq_true,if_false];rw [append_assoc,List.singleton_append]
  | false=>
   simp only [cF];by_cases h2:a=k
   ·subst h2;rw [dYT rfl];simp only [cT];obtain ⟨f1,f2⟩:=qp7 (l:=r) (k:=a) fun x hx=>hp'.1 x hx
    have h3:=q5m a;simp only [filter_cons,h3,Bool.false_eq_true,if_false];rw [f1,f2,append_nil];cases g with
    | true=>simp only [Bool.not_true,cF,cT,append_nil]
    | false=>simp only [Bool.not_false,cT,cF]
   ·rw [dYF h2];simp only [cF];have h3:blt k a=true:=q6x h2 h1;obtain ⟨f1,f2⟩:=qp7 (l:=(a,b)::r) (k:=k) fun x hx=>by
     rcases List.mem_cons.1 hx with rfl | hx
     ·exact h3
     ·exact q4G h3 (hp'.1 x hx)
    rw [f1,f2,append_nil];cases g with
    | true=>simp only [Bool.not_true,cF,cT,append_nil]
    | false=>simp only [Bool.not_false,cT,cF]
theorem qkL (more:List Chg) (hm:more.length<=1000000000):∀ (r:List Chg) (i:Nat) (o p:List (BA×BA)),more.drop i=r->i<=more.length->AscK (o++p)->AscK r->(∀ x∈o,∀ c∈r,blt x.1 c.1=true)->o.length+p.length+i+2 * r.length<=3000000000->
  wV (chgs p) more (chgs o) (i:Int)=some (chgs ((r.map opsC).foldl wY (o++p)),())
 | [],i,o,p,hd,hi,ha,hr,hx,hl=>by
  have:=drop_eq_nil_iff.1 hd;rw [qdT];have kl:lim ((chgs o).length+(chgs p).length) 40=true:=qJ (by rw [q17,q17]; omega)
  rw [dYF (show ¬ (i:Int) < (more.length:Int) by omega),cF,kl,cT,<- qia]; rfl
 | c::r,i,o,p,hd,hi,ha,hr,hx,hl=>by
  obtain ⟨e1,hlt,e2⟩:=qK dC hd;have hr':=pairwise_cons.1 hr;rw [length_cons] at hl;have e1:more.getD i (eB,(eB,false))=c:=e1;rw [qdT,dYT (show (i:Int) < (more.length:Int) by omega),dYT (show (0:Int)<=(i:Int) by omega)]
  simp only [Bool.and_self,cT,toNat_natCast,e1];have ha':=List.pairwise_append.1 ha;rw [qnd more hm i hlt c.1 c.2.1 c.2.2 p o ha'.2.1 (by omega)]
  have f1:=List.length_filter_le (fun x:BA×BA=>blt x.1 c.1) p
  have f2:=List.length_filter_le (fun x:BA×BA=>blt c.1 x.1) p
  obtain ⟨g1,g2⟩:(o.filter fun x=>blt x.1 c.1)=o/\(o.filter fun x=>blt c.1 x.1)=[]:=by
   constructor
   ·rw [filter_eq_self]; exact fun x h=>hx x h c (mem_cons_self ..)
   ·rw [List.filter_eq_nil_iff];intro x h hk;rw [q3n (hx x h c (mem_cons_self ..))] at hk; cases hk
  have hstep:∃ o':List (BA×BA),chgs (o++p.filter fun x=>blt x.1 c.1)++(bif c.2.2 then [] else [(c.1,(c.2.1,c.2.2))])=chgs o'/\wY (o++p) (opsC c)=o'++p.filter (fun x=>blt c.1 x.1)/\(∀ x∈o',x.1=c.1\/x∈o\/blt x.1 c.1=true)/\o'.length<=o.length+(p.filter fun x=>blt x.1 c.1).length+1:=by
   cases hg:c.2.2 with
   | true=>
    refine ⟨o++p.filter fun x=>blt x.1 c.1,by rw [cT,append_nil],?_,fun x h=>?_,by rw [length_append]; omega⟩
    ·unfold wY opsC;rw [hg];show delK c.1 (o++p)=_;rw [<- qmL ha,filter_append,filter_append,g1,g2,List.nil_append]
    ·rcases mem_append.1 h with h | h
     ·exact .inr (.inl h)
     ·exact .inr (.inr (mem_filter.1 h).2)
   | false=>
    refine ⟨(o++p.filter fun x=>blt x.1 c.1)++[(c.1,c.2.1)],by rw [cF]; exact (qia (o++p.filter fun x=>blt x.1 c.1) [(c.1,c.2.1)]).symm,?_,fun x h=>?_,by rw [length_append,length_append,length_singleton]; omega⟩
    ·unfold wY opsC;rw [hg];show putK c.1 c.2.1 (o++p)=_;unfold putK;rw [filter_append,filter_append,g1,g2,List.nil_append,append_assoc,append_assoc,append_assoc]; rfl
    ·rcases mem_append.1 h with h | h
     ·rcases mem_append.1 h with h | h
      ·exact .inr (.inl h)
      ·exact .inr (.inr (mem_filter.1 h).2)
     ·rw [List.mem_singleton.1 h]; exact .inl rfl
  obtain ⟨o',q1,q2,q3,q4⟩:=hstep;rw [q1];rw [qkL more hm r (i+1) o' (p.filter fun x=>blt c.1 x.1) e2 hlt (by rw [<- q2]; exact q6M ha _) hr'.2 (fun x h y hy=>by
   have hcy:=hr'.1 y hy;rcases q3 x h with h | h | h
   ·rw [h]; exact hcy
   ·exact hx x h y (mem_cons_of_mem _ hy)
   ·exact q4G h hcy) (by
    have fl:=qeR c.1 p;have dl:=q2N c.1 p;unfold delK at dl;omega),map_cons,List.foldl_cons,q2]
theorem qsT (m:List (BA×BA)) (more:List Chg) (ha:AscK m) (hr:AscK more) (h1:m.length<=1000000000) (h2:more.length<=1000):qej (chgs m) more=some (chgs ((more.map opsC).foldl wY m),()):=by
 rw [qpW];exact qkL more (by omega) more 0 [] m rfl (zero_le _) ha hr (fun x h=>by cases h) (by rw [List.length_nil]; omega)
theorem qoL (d:List Fil) (l:List Nat):AscK (conD d l):=by rw [q6t]; exact q6f _
theorem qr6 {d x:List Fil} {l l':List Nat} {b:Bat} (h:allB x l'=allB d l++[b]):conD x l'=(b.2.map opsC).foldl wY (conD d l):=by
 rw [q6t,q6t,h,q68,qu5];simp [opsB]
noncomputable def qaD (dir:List Spt) (n:Nat) (ps:List (Bat×Nat)):Nat:=(ps.map fun p=>bif (yO dir n p).isEmpty then 0 else (batL p.1).length).sum
theorem q7w (dir:List Spt) (n:Nat) (p:Bat×Nat) (ps:List (Bat×Nat)):qaD dir n (p::ps)=(bif (yO dir n p).isEmpty then 0 else (batL p.1).length)+qaD dir n ps:=by simp [qaD]
theorem qvf {α:Type} (l:List α):decide ((l.length:Int) > 0)=!l.isEmpty:=by
 cases l with
 | nil=>rfl
 | cons a l=>exact dYT (by rw [length_cons]; omega)
theorem qjH (e:Eng) (hdl:e.2.2.2.2.length<=1000000000) (n:Nat) (x24:List Int) (x25 x26:Int) (ps:List Pla) (hps:ps.length<=1000000):∀ (bs:List Bat) (a k s:Nat),ps.drop k=plB a bs->k<=ps.length->(∀ b∈bs,batT b=true)->s+(bats bs).length<=1000000000->
  q1g (s:Int) (n:Int) x24 x25 x26 ps (ps.length:Int) (k:Int) e.1 e.2.1 e.2.2.1 e.2.2.2.1 e.2.2.2.2=q1l ((s+qaD e.2.2.2.2 n (posB a bs):Nat):Int) x24 x25 (w64 (x26+1)) e.1 e.2.1 e.2.2.1 e.2.2.2.1 e.2.2.2.2
 | [],a,k,s,hd,hk,hb,ha=>by
  have:=drop_eq_nil_iff.1 hd;rw [q78];have k1:decide ((k:Int) < (ps.length:Int))=false:=dYF (by omega)
  simp only [k1,cF];rfl
 | b::bs,a,k,s,hd,hk,hb,ha=>by
  have hd':ps.drop k=(b,((a:Int),((batL b).length:Int)))::plB (a+(batL b).length) bs:=hd;obtain ⟨e1,hlt,e2⟩:=qK dP hd';have hb0:=hb b (mem_cons_self ..);rw [q09,length_append] at ha;have ih:=fun s h=>qjH e hdl n x24 x25 x26 ps hps bs (a+(batL b).length) (k+1) s e2 hlt (fun x hx=>hb x (mem_cons_of_mem _ hx)) h
  rw [q78];have k1:decide ((k:Int) < (ps.length:Int))=true:=dYT (by omega)
  have k2:decide (0<=(k:Int))=true:=dYT (by omega)
  have k4:w64 ((k:Int)+1)=((k+1:Nat):Int):=qw (by omega)
  have k5:w64 ((s:Int)+((batL b).length:Int))=((s+(batL b).length:Nat):Int):=qg (by omega) (by omega)
  have h40:=qcD hb0;have hto:q4c (e.1,(e.2.1,(e.2.2.1,(e.2.2.2.1,e.2.2.2.2)))) (n:Int) (b,((a:Int),((batL b).length:Int)))=some (yO e.2.2.2.2 n (b,a),()):=qni e hdl n a b _ (by omega)
  rw [k1,k2];simp only [Bool.and_self,cT,k4,toNat_natCast,e1];rw [hto];simp only [oB,qvf,k5];have hpos:posB a (b::bs)=(b,a)::posB (a+(batL b).length) bs:=rfl;rw [hpos,q7w];cases (yO e.2.2.2.2 n (b,a)).isEmpty with
  | true=>
   rw [Bool.not_true,cF,cT,ih s (by omega),zero_add]
  | false=>
   rw [Bool.not_false,cT,cF,ih _ (by omega),Nat.add_assoc]
theorem qs2 {d:List Fil} {l:List Nat} (C:Clean d l) {n:Nat} (hn:n∈l):(bats (batD d n)).length<=20000:=by
 obtain ⟨t,_,_,q3,q4,_⟩:=C.file hn;have:=congrArg length q3;rw [<- qW,length_append] at this;omega
noncomputable def q5V (d:List Fil) (dir:List Spt) (n:Nat):Nat:=qaD dir n (zo d n)
noncomputable def q2a (d:List Fil) (dir:List Spt) (l:List Nat):Nat:=(l.map (q5V d dir)).sum
theorem qaA (d:List Fil) (dir:List Spt) (n:Nat) (l:List Nat):q2a d dir (n::l)=q5V d dir n+q2a d dir l:=by simp [q2a]
theorem qsV (d:List Fil) (dir:List Spt) (a b:List Nat):q2a d dir (a++b)=q2a d dir a+q2a d dir b:=by simp [q2a]
theorem qip (dir:List Spt) (n:Nat):∀ (bs:List Bat) (a:Nat),qaD dir n (posB a bs)<=(bats bs).length
 | [],a=>zero_le _
 | b::bs,a=>by
  have hpos:posB a (b::bs)=(b,a)::posB (a+(batL b).length) bs:=rfl;have ih:=qip dir n bs (a+(batL b).length);rw [hpos,q7w,q09,length_append];cases (yO dir n (b,a)).isEmpty with
  | true=>rw [cT]; omega
  | false=>rw [cF]; show (batL b).length+_<=_; omega
theorem qjh (e:Eng) {l:List Nat} (C:Clean e.1 l) (hdl:e.2.2.2.2.length<=1000000000):∀ (r:List Nat) (i s:Nat),l.drop i=r->i<=l.length->s+20000 * r.length<=1000000000->
  q1l (s:Int) (natI l) (l.length:Int) (i:Int) e.1 e.2.1 e.2.2.1 e.2.2.2.1 e.2.2.2.2=some (((s+q2a e.1 e.2.2.2.2 r:Nat):Int),())
 | [],i,s,hd,hi,ha=>by
  have:=drop_eq_nil_iff.1 hd;rw [q6X];have k1:decide ((i:Int) < (l.length:Int))=false:=dYF (by omega)
  simp only [k1,cF];rfl
 | n::r,i,s,hd,hi,ha=>by
  obtain ⟨e1,hlt,e2⟩:=qK 0 hd;have hlen:=jU C.segs;have hnl:n∈l:=yL hd;have hn:=(C.mem.1 hnl).1;have hh:=(C.mem.1 hnl).2.1;have hl30:=C.len;have hsm:=qs2 C hnl;have hll:(natI l).length=l.length:=length_map ..;have eI:(natI l).getD i 0=(n:Int):=by rw [zh hlt,e1]
  rw [length_cons] at ha;rw [q6X,hll];have k1:decide ((i:Int) < (l.length:Int))=true:=dYT (by omega)
  have k2:decide (0<=(i:Int))=true:=dYT (by omega)
  have k4:w64 ((i:Int)+1)=((i+1:Nat):Int):=qw (by omega)
  rw [k1,k2];simp only [Bool.and_self,cT,toNat_natCast,eI,wP,zl hn,oB];rw [q05 e.1 (by omega)]
  simp only [oB];rw [q5J n (by omega)]
  simp only [oB,qgQ hn hh];have hbl:=q1X e.1 (show n<=99 by omega)
  have hz:=qdO (batD e.1 n) (wo e.1 n);refine (qjH e hdl n _ _ _ (plB (wo e.1 n) (batD e.1 n)) (by omega) (batD e.1 n) (wo e.1 n) 0 s rfl (zero_le _) q4f (by omega)).trans ?_
  rw [k4];have hls:=qip e.2.2.2.2 n (batD e.1 n) (wo e.1 n);rw [qjh e C hdl r (i+1) _ e2 hlt (by omega),qaA,Nat.add_assoc]
  rfl
theorem qgB {e:Eng} (h:eOkP e):q5n e=some (((q2a e.1 e.2.2.2.2 (segN e.1):Nat):Int),()):=by
 obtain ⟨r1,r2,C,_⟩:=jJ h;obtain ⟨_,f2,_⟩:=q6w h;have hl:=C.len;have hlen:=jU C.segs;have hsg:sgO e.1=(natI (segN e.1),true):=by unfold sgO; rw [C.segs]
 have hll:(natI (segN e.1)).length=(segN e.1).length:=length_map ..;rw [qhp,q0H e (by omega),dYT h]
 simp only [oB,Bool.not_true,cF];rw [q0L e.1 (by omega),hsg]
 simp only [oB,hll];have:=qjh e C (by omega) (segN e.1) 0 0 rfl (zero_le _) (by omega)
 rw [zero_add] at this;exact this
theorem qqN {e:Eng} (h:eOkP e):qcq e=some ((yR e.1:Int),()):=by
 obtain ⟨r1,r2,C,_⟩:=jJ h;have hl:=C.len;rw [qo1,q0H e (by omega),dYT h]
 simp only [oB,Bool.not_true,cF];rw [qeq C.ok]; rfl
theorem qmI (dir:List Spt) (n:Nat):∀ (bs:List Bat) (a:Nat),(∀ b∈bs,batT b=true)->(bats ((posB a bs).filterMap (j5 dir n))).length<=qaD dir n (posB a bs)
 | [],a,_=>le_refl _
 | b::bs,a,hb=>by
  have hpos:posB a (b::bs)=(b,a)::posB (a+(batL b).length) bs:=rfl;have ih:=qmI dir n bs (a+(batL b).length) fun x hx=>hb x (mem_cons_of_mem _ hx)
  have hb0:=hb b (mem_cons_self ..);rw [hpos,q7w,filterMap_cons];cases he:(yO dir n (b,a)).isEmpty with
  | true=>
   have:j5 dir n (b,a)=none:=by unfold j5; rw [he]; rfl
   rw [this,cT,zero_add]; exact ih
  | false=>
   have hk:j5 dir n (b,a)=some (b.1,yO dir n (b,a)):=by unfold j5; rw [he]; rfl
   obtain ⟨q1,q2⟩:=qex (p:=(b,a)) hb0 hk;have q3:=qn7 q2;rw [hk,cF];simp only;rw [q09,length_append];have q3:(batL (b.1,yO dir n (b,a))).length<=(batL b).length:=q3;show _<=(batL b).length+_;omega
theorem qjs (d:List Fil) (dir:List Spt):∀ (ns:List Nat),(bats (yM d dir ns)).length<=q2a d dir ns
 | []=>le_refl _
 | n::ns=>by
  have e:yM d dir (n::ns)=q3A d dir n++yM d dir ns:=rfl;have ih:=qjs d dir ns;have h1:(bats (q3A d dir n)).length<=q5V d dir n:=qmI dir n (batD d n) (wo d n) q4f;rw [e,q8b,length_append,qaA]; omega
theorem qmm {dir dir':List Spt} {n:Nat} (h:∀ k a q,(k,((n:Int),((a:Int),(q:Int))))∈dir->(k,((n:Int),((a:Int),(q:Int))))∈dir'):∀ ps:List (Bat×Nat),qaD dir n ps<=qaD dir' n ps
 | []=>le_refl _
 | p::ps=>by
  have ih:=qmm h ps;rw [q7w,q7w];cases he:(yO dir n p).isEmpty with
  | true=>rw [cT]; omega
  | false=>
   have:(yO dir' n p).isEmpty=false:=by
    have hne:yO dir n p≠[]:=fun c=>by rw [c] at he; cases he
    obtain ⟨c,hc⟩:=List.exists_mem_of_ne_nil _ hne;rw [q8j,mem_filter] at hc;unfold q7J at hc;rw [Bool.and_eq_true,decide_eq_true_eq] at hc;have hc':c∈yO dir' n p:=by
     rw [q8j,mem_filter];unfold q7J;rw [Bool.and_eq_true,decide_eq_true_eq];exact ⟨hc.1,hc.2.1,h _ _ _ hc.2.2⟩
    cases h':yO dir' n p with
    | nil=>rw [h'] at hc'; cases hc'
    | cons a r=>rfl
   rw [this]; omega
theorem quG {d:List Fil} {l:List Nat} {k:BA} {s:Pos}:(k,s)∈dirD d l↔q1o k (l.flatMap (opsN d)) none=some s:=by
 rw [qb3,<- yj (q6f _),qbT]
theorem qw7 {d:List Fil} {n:Nat} {k:BA} {s:Pos} (h:(k,some s)∈opsN d n):s.1=(n:Int):=by
 rw [q7M] at h;unfold opsR at h;obtain ⟨p,_,h⟩:=List.mem_flatMap.1 h;obtain ⟨c,_,h⟩:=mem_map.1 h;unfold opP at h;have h2:=(Prod.mk.inj h).2;cases hg:c.2.2 with
 | true=>rw [hg] at h2; cases h2
 | false=>
  rw [hg] at h2;simp only [cF,Option.some.injEq] at h2;rw [<- h2]
theorem qum {d x:List Fil} {old old':List Nat} {act:Nat} (hop:opsN x act=opsN d act) (hne:∀ n∈old',n≠act) {k:BA} {s:Pos} (hs:s.1=(act:Int)) (h:(k,s)∈dirD x (old'++[act])):(k,s)∈dirD d (old++[act]):=by
 rw [quG] at h ⊢;rw [List.flatMap_append,List.flatMap_cons,List.flatMap_nil,append_nil,qcF] at h ⊢;rw [hop] at h;by_cases hk:∃ y∈opsN d act,y.1=k
 ·rw [qfF hk (d':=q1o k (old'.flatMap (opsN x)) none)]; exact h
 ·exfalso
  rw [q4E (fun y hy e=>hk ⟨y,hy,e⟩)] at h
  have:=qkt h;obtain ⟨n,hn,hm⟩:=List.mem_flatMap.1 this;have e:=qw7 hm;rw [hs] at e;exact hne n hn (by exact_mod_cast e.symm)
section
variable {d:List Fil} {l i:List Nat} {top act:Nat}
theorem qpV (C:Clean d l) (hl:l=(i++[top])++[act]) {x:List Fil} (hx:x=(wh d l i top).filter fun f=>decide (f.1∉i.map nmL)) (ho:dOkB x=true):(hdD x top=top/\batD x top=yM d (dirD d l) (i++[top]))/\(hdD x act=hdD d act/\batD x act=batD d act):=by
 obtain ⟨_,_,p3,_⟩:=C.parts hl;have hP:∀ f:Fil,decide (f.1∉i.map nmL)=false->∃ n∈i,f.1=nmL n:=fun f h=>by
  have:f.1∈i.map nmL:=Classical.byContradiction fun hn=>by rw [dYT hn] at h; cases h
  obtain ⟨n,hn,e⟩:=mem_map.1 this;exact ⟨n,hn,e.symm⟩
 have S:=qd2 C hl hP;rw [<- hx] at S;have B:=(S.base ho).hb;have b1:=B top (by simp)
 have b2:=B act (by simp)
 unfold q5g at b1 b2;rw [if_pos rfl] at b1;rw [if_neg (by omega)] at b2
 exact ⟨b1,b2⟩
theorem qq8 (C:Clean d l) (hl:l=(i++[top])++[act]) {x:List Fil} (hx:x=(wh d l i top).filter fun f=>decide (f.1∉i.map nmL)) (C':Clean x [top,act]):q2a x (dirD x [top,act]) [top,act]<=q2a d (dirD d l) l:=by
 obtain ⟨_,_,p3,_⟩:=C.parts hl;obtain ⟨⟨b1,b2⟩,b3,b4⟩:=qpV C hl hx C'.ok;have e1:q2a x (dirD x [top,act]) [top,act]=q5V x (dirD x [top,act]) top+q5V x (dirD x [top,act]) act:=by
  rw [qaA,qaA];simp [q2a]
 have h1:q5V x (dirD x [top,act]) top<=(bats (yM d (dirD d l) (i++[top]))).length:=by
  have:=qip (dirD x [top,act]) top (batD x top) (wo x top);rw [b2] at this;unfold q5V zo;rw [b2];exact this
 have h2:=qjs d (dirD d l) (i++[top]);have hpl:zo x act=zo d act:=by
  unfold zo wo;rw [b3,b4]
 have hop:opsN x act=opsN d act:=by
  rw [q7M,q7M];unfold wo;rw [b3,b4]
 have h3:q5V x (dirD x [top,act]) act<=q5V d (dirD d l) act:=by
  unfold q5V;rw [hpl];refine qmm (fun k a q h=>?_) _
  have h:(k,((act:Int),((a:Int),(q:Int))))∈dirD x ([top]++[act]):=h;rw [hl];exact qum (old:=i++[top]) hop (fun n hn=>by rw [List.mem_singleton.1 hn]; omega) rfl h
 have e2:q2a d (dirD d l) l=q2a d (dirD d l) (i++[top])+q5V d (dirD d l) act:=by
  have:∀ l':List Nat,l'=(i++[top])++[act]->q2a d (dirD d l) l'=q2a d (dirD d l) (i++[top])+q5V d (dirD d l) act:=fun l' h=>by
   rw [h,qsV];congr 1
  exact this l hl
 omega
theorem qk4:∀ (ns:List Nat) {d:List Fil} {T:Nat->BA},AscK d->AscN ns->(∀ n∈ns,n < 100/\∃ kp,getK (nmL n) d=some (T n,kp))->yR (d.filter fun f=>decide (f.1∉ns.map nmL))+(ns.map fun n=>(T n).size).sum=yR d
 | [],d,_,_,_,_=>by
  rw [filter_eq_self.2 fun x _=>dYT (by simp)]; simp
 | n::ns,d,T,h,ha,hg=>by
  obtain ⟨hn,kp,e⟩:=hg n (mem_cons_self ..);obtain ⟨ha1,ha2⟩:=pairwise_cons.1 ha;have h1:=qcp h ((yj h).1 e);have h2:=qk4 ns (d:=delK (nmL n) d) (T:=T) (q4O h _) ha2 fun m hm=>by
   obtain ⟨q1,kp',q2⟩:=hg m (mem_cons_of_mem _ hm);refine ⟨q1,kp',?_⟩;rw [qep h,if_neg fun e=>by have:=jY q1 hn e; have:=ha1 m hm; omega]
   exact q2
  have h3:(d.filter fun f=>decide (f.1∉(n::ns).map nmL))=List.filter (α:=Fil) (fun f=>decide (f.1∉ns.map nmL)) (delK (nmL n) d):=by
   unfold delK;rw [List.filter_filter];refine List.filter_congr fun f _=>?_
   rw [map_cons];by_cases c:f.1=nmL n<;>simp [c]
  rw [h3,map_cons,sum_cons];have h1:yR (delK (nmL n) d)+(T n).size=yR d:=h1;omega
theorem qpY (C:Clean d l) (hl:l=(i++[top])++[act]):(q0n d l i top).length<=((i++[top]).map fun n=>(txtD d n).size).sum:=by
 obtain ⟨p1,p2,p3,p4,p5⟩:=C.parts hl;have hsub:∀ n∈i++[top],n∈l:=fun n hn=>by rw [hl]; exact List.mem_append_left _ hn
 have h2:∀ n∈i++[top],(txtD d n).size=8+(bats (batD d n)).length:=fun n hn=>by
  obtain ⟨t,q1,_,q3,_,q5,q6,_⟩:=C.file (hsub n hn);have e:txtD d n=t:=by unfold txtD; rw [q1]; rfl
  rw [e,qW,q3,length_append,q1v (by omega) (by omega)]
 have h3:∀ ns:List Nat,(∀ n∈ns,(txtD d n).size=8+(bats (batD d n)).length/\∀ b∈batD d n,batT b=true)->(bats (yM d (dirD d l) ns)).length+8 * ns.length<=(ns.map fun n=>(txtD d n).size).sum:=fun ns=>by
  induction ns with
  | nil=>intro _; simp [yM,bats]
  | cons n ns ih=>
   intro h;have ih:=ih fun m hm=>h m (mem_cons_of_mem _ hm)
   obtain ⟨q1,q2⟩:=h n (mem_cons_self ..);have q3:=qmS (dir:=dirD d l) q2;have e:yM d (dirD d l) (n::ns)=q3A d (dirD d l) n++yM d (dirD d l) ns:=rfl;rw [e,q8b,length_append,map_cons,sum_cons,length_cons];omega
 have h4:=h3 (i++[top]) fun n hn=>⟨h2 n hn,C.says.bt n (hsub n hn)⟩
 unfold q0n;rw [length_append,q1v (C.says.lt top p1) (C.says.lt top p1)];rw [show (i++[top]).length=i.length+1 by simp] at h4
 omega
theorem qqj (C:Clean d l) (hl:l=(i++[top])++[act]) {x:List Fil} (hx:x=(wh d l i top).filter fun f=>decide (f.1∉i.map nmL)):yR x<=yR d:=by
 obtain ⟨p1,p2,p3,p4,p5⟩:=C.parts hl;have hsub:∀ n∈i++[top],n∈l:=fun n hn=>by rw [hl]; exact List.mem_append_left _ hn
 have hasc:AscN (i++[top]):=by
  have h:=C.ascN;rw [hl] at h;exact (List.pairwise_append.1 h).1
 have h1:=qk4 (i++[top]) (T:=txtD d) C.asc hasc fun n hn=>⟨C.says.lt n (hsub n hn),_,(C.txt (hsub n hn)).1⟩
 have h2:=qpY C hl;have hni:nmL top∉i.map nmL:=fun h=>by
  obtain ⟨n,hn,e⟩:=mem_map.1 h;have:=jY (C.says.lt n (p4 n hn).1) (C.says.lt top p1) e;have:=(p4 n hn).2;omega
 have hax:AscK x:=by rw [hx]; exact (jT C.asc _ _).filter _
 have hm:(nmL top,(bOf (q0n d l i top),((bOf (q0n d l i top)).size:Int)))∈x:=by
  rw [hx,mem_filter];exact ⟨jV.2 (.inl rfl),dYT hni⟩
 have h3:=qcp hax hm;have h4:delK (nmL top) x=d.filter fun f=>decide (f.1∉(i++[top]).map nmL):=by
  refine q3N (q4O hax _) (C.asc.filter _) fun f=>?_
  rw [q6q,hx,mem_filter,mem_filter];unfold wh;rw [jV,decide_eq_true_eq,decide_eq_true_eq,map_append,mem_append];constructor
  ·rintro ⟨⟨h | h,h'⟩,hn⟩
   ·rw [h] at hn; exact absurd rfl hn
   ·exact ⟨h.1,fun c=>c.elim h' fun c=>hn (by simpa using c)⟩
  ·rintro ⟨h,hn⟩
   have hn2:f.1≠nmL top:=fun c=>hn (.inr (by simp [c]))
   exact ⟨⟨.inr ⟨h,hn2⟩,fun c=>hn (.inl c)⟩,hn2⟩
 rw [h4,qD] at h3;omega
end
theorem qsp (code:List Int):qfc code=some (true,()):=by
 rw [qiA,qod,oB];by_cases hL:(code.length:Int) > 1048576
 ·simp only [dYT hL,cT]
 simp only [dYF hL,cF];obtain ⟨e,cs,hdr,R,G⟩:=qbJ code (by omega)
 obtain ⟨r1,r2,C,_,hq,hdir,he⟩:=jJ R.ok;have hn:=R.len2 (by omega)
 have hc6:=G.l6;rw [hdr];simp only [oB];rw [qac e hn];simp only [oB];rw [qa1 e hn];simp only [oB,beq_self_eq_true,Bool.not_true,cF];cases hm:(meO e).2.2 with
 | false=>
  have:(meO e).2.1=[]:=by
   unfold meO at hm ⊢;cases hc:(maO e).2 with
   | false=>rfl
   | true=>
    rw [hc,cT] at hm;rw [cT];cases hg:goM e.2.1 e.1 (maO e).1 with
    | none=>rfl
    | some d=>
     rw [hg] at hm;simp only at hm ⊢;cases ho:(opO d e.2.1).2.2 with
     | false=>rfl
     | true=>rw [ho] at hm; cases hm
  simp only [Bool.not_false,cT];rw [this]; rfl
 | true=>
  have RM:=R.merge hm;obtain ⟨i,top,act,x,hl,C',hcon,hall,hs,hlen,_,_,hx,hme⟩:=qfT R.ok hm;rw [hme] at RM ⊢;have hm1:(mkE x x e.2.1 [top,act]).1=x:=rfl;have hm2:(mkE x x e.2.1 [top,act]).2.2.2.2=dirD x [top,act]:=rfl;have hsn:segN x=[top,act]:=qeF C';have hxl:=C'.len;have hcl:=qbi C;simp only [Bool.not_true,cF];rw [jS e hn,qlH R.ok];simp only [oB];rw [q6o _ (by rw [hm1]; omega),qdy C' r1 r2]
  simp only [oB,hm1];have hsg:sgO x=(natI [top,act],true):=by unfold sgO; rw [C'.segs]
  rw [q0F x (by omega),hsg]
  simp only [oB,Bool.not_true,cF];rw [hcon,q1A _ _ (by rw [q17]; omega)]
  simp only [oB,decide_true,Bool.not_true,cF];rw [show (((natI [top,act]).length:Int) != 2)=false from rfl,cF]
  rw [q0H _ (by rw [hm1]; omega),dYT RM.ok]
  simp only [oB,Bool.not_true,cF];rw [qgB RM.ok,qgB R.ok];simp only [oB,hm1,hm2,hsn];have hlive:=qq8 C hl hx C';rw [<- hdir] at hlive;rw [dYF (by omega),cF,qqN RM.ok,qqN R.ok]
  simp only [oB,hm1];have hsize:=qqj C hl hx;rw [dYF (by omega),cF,q6e _ (by rw [hm1]; omega) cs (by omega)]
  simp only [oB];have hpl:=(qoY (mkE x x e.2.1 [top,act]) (by rw [hm1]; omega) cs).1.f
  rw [jS _ hpl];simp only [oB];by_cases h2:(puO (mkE x x e.2.1 [top,act]) cs).2.2=2
  ·rw [h2]; rfl
  ·have z2:((puO (mkE x x e.2.1 [top,act]) cs).2.2==2)=false:=beq_eq_false_iff_ne.2 h2;rw [z2,cF];by_cases h0:(puO (mkE x x e.2.1 [top,act]) cs).2.2=0
   ·obtain ⟨xs,y,l',hb,hp,hy,hs',C'',ha,hpe⟩:=ql1 RM.ok h0;rw [hpe];have hroom:(mkE x x e.2.1 [top,act]).2.1=e.2.1:=rfl;rw [hroom,qdy C'' r1 r2];simp only [beq_self_eq_true,cT];rw [qsT _ cs (qoL _ _) G.asc (by omega) (by omega)]
    simp only [oB];have hcl2:=qbi C'';rw [hm1,hsn] at ha;rw [qr6 ha,hcon] at hcl2 ⊢;rw [q1A _ _ (by rw [q17]; omega)]
    simp only [oB,decide_true]
   ·exfalso
    have hsq:=RM.seq;have hq2:=(jJ RM.ok).2.2.2.2.1;have hqb:=qea (jJ RM.ok).2.2.1.bt;have hb:batT ((mkE x x e.2.1 [top,act]).2.2.2.1+1,cs)=true:=by
     rw [hq2] at hsq ⊢;exact G.bat (by omega) (by omega)
    unfold puO at h0 h2;rw [dif_pos ⟨RM.ok,hb⟩] at h0 h2;cases hp:putA (mkE x x e.2.1 [top,act]).1 (segN (mkE x x e.2.1 [top,act]).1) ((mkE x x e.2.1 [top,act]).2.2.2.1+1,cs) with
    | none=>rw [hp] at h2; exact h2 rfl
    | some xs=>
     rw [hp] at h0 h2;rw [q6v] at h0 h2;cases hg:(decide ((qR (mkE x x e.2.1 [top,act]).1 xs).2 < xs.length)||decide ((yR (qR (mkE x x e.2.1 [top,act]).1 xs).1:Int) > (mkE x x e.2.1 [top,act]).2.1)) with
     | true=>rw [hg] at h2; exact h2 rfl
     | false=>rw [hg] at h0; exact h0 rfl
end Go.Den.S
