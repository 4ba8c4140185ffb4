/- OwnMergesCut: equations of the functions of this seat as the executor tells them, or plain facts about them. Conditions: none here. -/
import Derived.Test.YthejgmhimclmdaaGreatDoorMidD
set_option linter.all false
open Bool (and_eq_true not_eq_true')
open ByteArray (extract size toList)
open Int (tmod toNat toNat_natCast)
open List (append_assoc append_nil drop drop_eq_nil_iff filter_cons getD length length_append length_cons length_map length_singleton length_take map map_cons mem_append mem_cons_of_mem mem_cons_self mem_filter mem_map mem_singleton sum_cons take)
open Nat (le_refl zero_add zero_le)
namespace Go.Den.S
open Go Go.Den Go.Proofs
noncomputable section
def qbw (a0:(List Int)):Option (Bool×Unit):=DF X 4 ((a0,()):((List Int))×Unit)
def q1E (a0:qp):Option (((List qz)×Bool)×Unit):=DF X 24 ((a0,()):(qp)×Unit)
def q0p (x6:Nat) (x6h:Nat) (x7:Int) (x10:(List qz)) (x61:Nat) (x61h:Nat) (x62:Int) (x63:Int) (b0_0:q8) (b0_1:Int) (b0_2:Int) (b0_3:Int) (b0_4:(List qh)) (r_b:(List Int)):Option (((List qz)×Bool)×Unit):=qA X 24 0 [] (mkSt 141 [(1,.sv (.ptr 0 0)),(6,.sv (.sub 1056 x6 x6h)),(7,.sv (.int .i64 x7)),(10,.sv (.own 1000010)),(61,.sv (.sub 1056 x61 x61h)),(62,.sv (.int .i64 x62)),(63,.sv (.int .i64 x63))] [(1000010,.live (.row qY x10 0)),(2000000,.gone),(2000004,.gone),(0,.live (.box [(.lst qj b0_0),(.int .i64 b0_1),(.int .i64 b0_2),(.int .i64 b0_3),(.lst qC b0_4)])),(1056,.live (.row I r_b 0))])
def q1h (x6:Nat) (x6h:Nat) (x7:Int) (x10:(List qz)) (x12:Int) (x61:Nat) (x61h:Nat) (x62:Int) (x63:Int) (x82:(List zf)) (x83:Int) (x84:Int) (b0_0:q8) (b0_1:Int) (b0_2:Int) (b0_3:Int) (b0_4:(List qh)) (r_b:(List Int)):Option (((List qz)×Bool)×Unit):=qA X 24 2 [0] (mkSt 141 [(1,.sv (.ptr 0 0)),(6,.sv (.sub 1056 x6 x6h)),(7,.sv (.int .i64 x7)),(10,.sv (.own 1000010)),(12,.sv (.int .i64 x12)),(61,.sv (.sub 1056 x61 x61h)),(62,.sv (.int .i64 x62)),(63,.sv (.int .i64 x63)),(82,.sv (.lst jv x82)),(83,.sv (.int .i64 x83)),(84,.sv (.int .i64 x84))] [(1000010,.live (.row qY x10 0)),(1000082,.gone),(2000000,.gone),(2000004,.gone),(0,.live (.box [(.lst qj b0_0),(.int .i64 b0_1),(.int .i64 b0_2),(.int .i64 b0_3),(.lst qC b0_4)])),(1056,.live (.row I r_b 0))])
def q2Y (x10:(List qz)) (x127:(List Int)) (x128:Int) (x129:Int):Option (((List qz)×Bool)×Unit):=qA X 24 4 [] (mkSt 141 [(10,.sv (.own 1000010)),(127,.sv (.own 1000127)),(128,.sv (.int .i64 x128)),(129,.sv (.int .i64 x129))] [(1000010,.live (.row qY x10 0)),(1000127,.live (.row I x127 0))])
def q4u (a0:(List Int)):Option ((List Int)×Unit):=DF X 26 ((a0,()):((List Int))×Unit)
def q2E (x4:(List Int)) (x5:Int) (b_c_0:(List Int)) (b_c_1:Int) (b_c_2:Int):Option ((List Int)×Unit):=qA X 26 0 [] (mkSt 21 [(3,.sv (.ptr 1040 0)),(4,.sv (.own 1000004)),(5,.sv (.int .i64 x5))] [(1000004,.live (.row I x4 0)),(2066560,.gone),(1040,.live (.box [(.lst (.int .u8) b_c_0),(.int .i64 b_c_1),(.int .i64 b_c_2)]))])
def q5R (a0:qp) (a1:(List qz)) (a2:Int) (a3:(List Int)):Option ((qp×Bool)×Unit):=DF X 27 ((a0,a1,a2,a3,()):(qp)×((List qz))×(Int)×((List Int))×Unit)
def qaV (a0:(List Int)):Option ((List Int)×Unit):=DF X 28 ((a0,()):((List Int))×Unit)
def q5W (x0:(List Int)) (x3:(List Int)) (x4:Int):Option ((List Int)×Unit):=qA X 28 0 [] (mkSt 19 [(0,.sv (.lst I x0)),(3,.sv (.own 1000003)),(4,.sv (.int .i64 x4))] [(1000000,.gone),(1000003,.live (.row I x3 0))])
def q5e (a0:qp):Option ((qp×(List qz)×Bool)×Unit):=DF X 30 ((a0,()):(qp)×Unit)
def q5Z (x26:Int) (x27:Int) (b0_0:q8) (b0_1:Int) (b0_2:Int) (b0_3:Int) (b0_4:(List qh)) (b16_0:q8) (b16_1:Int) (b16_2:Int) (b16_3:Int) (b16_4:(List qh)) (r_d:(List qz)) (b_e_0:q8):Option ((qp×(List qz)×Bool)×Unit):=qA X 30 0 [] (mkSt 62 [(1,.sv (.ptr 0 0)),(2,.sv (.ptr 16 0)),(5,.sv (.own 1040)),(7,.sv (.ptr 4128 0)),(25,.sv (.own 1040)),(26,.sv (.int .i64 x26)),(27,.sv (.int .i64 x27))] [(2000000,.gone),(2000004,.gone),(0,.live (.box [(.lst qj b0_0),(.int .i64 b0_1),(.int .i64 b0_2),(.int .i64 b0_3),(.lst qC b0_4)])),(2001024,.live (.row qj b16_0 0)),(2001028,.live (.row qC b16_4 0)),(16,.live (.box [(.own 2001024),(.int .i64 b16_1),(.int .i64 b16_2),(.int .i64 b16_3),(.own 2001028)])),(1040,.live (.row qY r_d 0)),(2264192,.gone),(4128,.live (.box [(.lst qj b_e_0)]))])
def q4c (a0:qp) (a1:Int) (a2:zf):Option ((List qd)×Unit):=DF X 87 ((a0,a1,a2,()):(qp)×(Int)×(zf)×Unit)
def q1C (x1:Int) (x7:(List qd)) (x12:(List qd)) (x13:Int) (x14:Int) (b0_0:q8) (b0_1:Int) (b0_2:Int) (b0_3:Int) (b0_4:(List qh)) (b16_0:Int) (b16_1:(List qd)) (b16_2:Int) (b16_3:Int):Option ((List qd)×Unit):=qA X 87 0 [] (mkSt 41 [(1,.sv (.int .i64 x1)),(3,.sv (.ptr 0 0)),(5,.sv (.ptr 16 0)),(7,.sv (.own 1000007)),(12,.sv (.lst qx x12)),(13,.sv (.int .i64 x13)),(14,.sv (.int .i64 x14))] [(1000007,.live (.row qx x7 0)),(1000012,.gone),(2000000,.gone),(2000004,.gone),(0,.live (.box [(.lst qj b0_0),(.int .i64 b0_1),(.int .i64 b0_2),(.int .i64 b0_3),(.lst qC b0_4)])),(2001025,.gone),(16,.live (.box [(.int .i64 b16_0),(.lst qx b16_1),(.int .i64 b16_2),(.int .i64 b16_3)]))])
def qbD (a0:q8) (a1:(List qz)) (a2:Int) (a3:(List Int)):Option ((q8×Bool)×Unit):=DF X 101 ((a0,a1,a2,a3,()):(q8)×((List qz))×(Int)×((List Int))×Unit)
def yC (a0:(List qh)) (a1:qh):Option (Bool×Unit):=DF X 168 ((a0,a1,()):((List qh))×(qh)×Unit)
def qa8 (a0:q8) (a1:(List Int)):Option ((q8×Bool)×Unit):=DF X 184 ((a0,a1,()):(q8)×((List Int))×Unit)
def q0N (x1:(List Int)) (x18:Int) (x19:Int) (b16_0:q8) (r_u:q8):Option ((q8×Bool)×Unit):=qA X 184 0 [] (mkSt 57 [(1,.sv (.lst I x1)),(4,.sv (.ptr 16 0)),(6,.sv (.ptr 3104 0)),(17,.sv (.own 3088)),(18,.sv (.int .i64 x18)),(19,.sv (.int .i64 x19))] [(1000001,.gone),(2001024,.live (.row qj b16_0 0)),(16,.live (.box [(.own 2001024)])),(3104,.live (.box [(.own 3088)])),(3088,.live (.row qj r_u 0))])
def w9 (a0:(List qh)) (a1:qh):Option (Int×Unit):=DF X 238 ((a0,a1,()):((List qh))×(qh)×Unit)
def qL (x0:(List qh)) (x7:Int) (x8:Int) (b0_0:BA) (b0_1:Int) (b0_2:Int) (b0_3:Int):Option (Int×Unit):=qA X 238 0 [] (mkSt 19 [(0,.sv (.lst qC x0)),(3,.sv (.ptr 0 0)),(7,.sv (.int .i64 x7)),(8,.sv (.int .i64 x8))] [(1000000,.gone),(0,.live (.box [(.str b0_0),(.int .i64 b0_1),(.int .i64 b0_2),(.int .i64 b0_3)]))])
end
theorem qfw (a0:(List Int)):qbw a0=((qbW a0).bind fun r3=>bif r3.1 then some (true,()) else (q0e a0).bind fun r4=>(q1E r4.1.1).bind fun r5=>(q3b r4.1.1).bind fun r6=>bif (!(r5.1.2==r6.1.2)) then some (false,()) else bif (!r5.1.2) then some (((length r5.1.1:Int)==0),()) else (q4u a0).bind fun r7=>bif ((decide ((0:Int)<=11))&&(decide (11 < (length r7.1:Int)))) then bif ((w64 ((length r5.1.1:Int)+1)) != 0) then (qaV r7.1).bind fun r8=>(q5R r4.1.1 r5.1.1 (tmod (getD r7.1 (toNat 11) 0) (w64 ((length r5.1.1:Int)+1))) r8.1).bind fun r9=>(jR r4.1.1).bind fun r10=>(jR r9.1.1).bind fun r11=>bif (!r9.1.2) then some (false,()) else bif (!r11.1.2) then some (false,()) else (zD r10.1.1 r11.1.1).bind fun r12=>bif (!r12.1) then some (false,()) else (q5e r9.1.1).bind fun r13=>(jR r13.1.1).bind fun r14=>bif (!r13.1.2.2) then some (true,()) else bif r14.1.2 then (zD r10.1.1 r14.1.1).bind fun r15=>some (r15.1,()) else some (false,()) else none else none:Option (Bool×Unit)):=(qo X rfl _).trans (by kernel_rfl)
theorem qhr (a0:qp):q1E a0=((q0u a0.1).bind fun r3=>(q0v a0).bind fun r4=>bif (!r4.1) then some (([],false),()) else bif (decide ((length r3.1.1:Int) < 2)) then some (([],false),()) else bif ((decide ((0:Int)<=0))&&((decide (0<=(w64 ((length r3.1.1:Int) - 1))))&&(decide ((w64 ((length r3.1.1:Int) - 1))<=(length r3.1.1:Int))))) then bif ((decide (0<=(w64 (((((toNat (w64 ((length r3.1.1:Int) - 1))) - (toNat 0)):Nat):Int) - 1))))&&(decide ((w64 (((((toNat (w64 ((length r3.1.1:Int) - 1))) - (toNat 0)):Nat):Int) - 1)) < ((((toNat (w64 ((length r3.1.1:Int) - 1))) - (toNat 0)):Nat):Int)))) then (q3Y (getD r3.1.1 ((toNat 0)+(toNat (w64 (((((toNat (w64 ((length r3.1.1:Int) - 1))) - (toNat 0)):Nat):Int) - 1)))) 0) (getD r3.1.1 ((toNat 0)+(toNat (w64 (((((toNat (w64 ((length r3.1.1:Int) - 1))) - (toNat 0)):Nat):Int) - 1)))) 0)).bind fun r5=>q0p (toNat 0) (toNat (w64 ((length r3.1.1:Int) - 1))) (getD r3.1.1 ((toNat 0)+(toNat (w64 (((((toNat (w64 ((length r3.1.1:Int) - 1))) - (toNat 0)):Nat):Int) - 1)))) 0) ([(1,(qF,(r5.1.1,eB)))]) (toNat 0) (toNat (w64 ((length r3.1.1:Int) - 1))) ((((toNat (w64 ((length r3.1.1:Int) - 1))) - (toNat 0)):Nat):Int) 0 a0.1 a0.2.1 a0.2.2.1 a0.2.2.2.1 a0.2.2.2.2 r3.1.1 else none else none:Option (((List qz)×Bool)×Unit)):=(qo X rfl _).trans (by kernel_rfl)
theorem q7i (x6:Nat) (x6h:Nat) (x7:Int) (x10:(List qz)) (x61:Nat) (x61h:Nat) (x62:Int) (x63:Int) (b0_0:q8) (b0_1:Int) (b0_2:Int) (b0_3:Int) (b0_4:(List qh)) (r_b:(List Int)):q0p x6 x6h x7 x10 x61 x61h x62 x63 b0_0 b0_1 b0_2 b0_3 b0_4 r_b=(bif (decide (x63 < x62)) then bif ((decide (0<=x63))&&(decide (x63 < (((x61h - x61):Nat):Int)))) then (wI (getD r_b (x61+(toNat x63)) 0)).bind fun r16=>(q0d b0_0 r16.1).bind fun r17=>(q1a (getD r_b (x61+(toNat x63)) 0) r17.1.1).bind fun r18=>q1h x6 x6h x7 x10 (getD r_b (x61+(toNat x63)) 0) x61 x61h x62 x63 r18.1.2.1 (length r18.1.2.1:Int) 0 b0_0 b0_1 b0_2 b0_3 b0_4 r_b else none else (wI x7).bind fun r16=>bif (lim ((length x10)+2) 56) then bif ((decide ((0:Int)<=0))&&((decide (0<=(w64 ((((x6h - x6):Nat):Int) - 1))))&&(decide ((w64 ((((x6h - x6):Nat):Int) - 1))<=(((x6h - x6):Nat):Int))))) then q2Y (x10++[(2,(qF,(eB,eB))),(3,(qF,(eB,r16.1)))]) (take ((x6+(toNat (w64 ((((x6h - x6):Nat):Int) - 1)))) - (x6+(toNat 0))) (drop (x6+(toNat 0)) r_b)) ((((x6+(toNat (w64 ((((x6h - x6):Nat):Int) - 1)))) - (x6+(toNat 0))):Nat):Int) 0 else none else none:Option (((List qz)×Bool)×Unit)):=(ql X 24 0 [] _ _ _).trans (by kernel_rfl)
theorem q6W (x6:Nat) (x6h:Nat) (x7:Int) (x10:(List qz)) (x12:Int) (x61:Nat) (x61h:Nat) (x62:Int) (x63:Int) (x82:(List zf)) (x83:Int) (x84:Int) (b0_0:q8) (b0_1:Int) (b0_2:Int) (b0_3:Int) (b0_4:(List qh)) (r_b:(List Int)):q1h x6 x6h x7 x10 x12 x61 x61h x62 x63 x82 x83 x84 b0_0 b0_1 b0_2 b0_3 b0_4 r_b=(bif (decide (x84 < x83)) then bif ((decide (0<=x84))&&(decide (x84 < (length x82:Int)))) then (q4c (b0_0,(b0_1,(b0_2,(b0_3,b0_4)))) x12 (((getD x82 (toNat x84) ((0,[]),(0,0))).1),((getD x82 (toNat x84) ((0,[]),(0,0))).2))).bind fun r20=>bif ((length r20.1:Int)==0) then q1h x6 x6h x7 x10 x12 x61 x61h x62 x63 x82 x83 (w64 (x84+1)) b0_0 b0_1 b0_2 b0_3 b0_4 r_b else (q3j (((getD x82 (toNat x84) ((0,[]),(0,0))).1).1,r20.1)).bind fun r21=>(q2F r21.1.1).bind fun r22=>bif (lim ((length x10)+1) 56) then q1h x6 x6h x7 (x10++[(1,(qF,(r22.1.1,eB)))]) x12 x61 x61h x62 x63 x82 x83 (w64 (x84+1)) b0_0 b0_1 b0_2 b0_3 b0_4 r_b else none else none else q0p x6 x6h x7 x10 x61 x61h x62 (w64 (x63+1)) b0_0 b0_1 b0_2 b0_3 b0_4 r_b:Option (((List qz)×Bool)×Unit)):=(ql X 24 2 [0] _ _ _).trans (by kernel_rfl)
theorem q7q (x10:(List qz)) (x127:(List Int)) (x128:Int) (x129:Int):q2Y x10 x127 x128 x129=(bif (decide (x129 < x128)) then bif ((decide (0<=x129))&&(decide (x129 < (length x127:Int)))) then (wI (getD x127 (toNat x129) 0)).bind fun r6=>bif (lim ((length x10)+1) 56) then q2Y (x10++[(4,(r6.1,(eB,eB)))]) x127 x128 (w64 (x129+1)) else none else none else some ((x10,true),()):Option (((List qz)×Bool)×Unit)):=(ql X 24 4 [] _ _ _).trans (by kernel_rfl)
theorem qga (a0:(List Int)):q4u a0=((q8T a0).bind fun r3=>(jK r3.1).bind fun r4=>q2E [] 0 r4.2.1.1 r4.2.1.2.1 r4.2.1.2.2:Option ((List Int)×Unit)):=(qo X rfl _).trans (by kernel_rfl)
theorem q6E (x4:(List Int)) (x5:Int) (b_c_0:(List Int)) (b_c_1:Int) (b_c_2:Int):q2E x4 x5 b_c_0 b_c_1 b_c_2=(bif (decide (x5 < 12)) then (q0A (b_c_0,(b_c_1,b_c_2)) 10000).bind fun r7=>bif (lim ((length x4)+1) 8) then q2E (x4++[r7.1]) (w64 (x5+1)) r7.2.1.1 r7.2.1.2.1 r7.2.1.2.2 else none else some (x4,()):Option ((List Int)×Unit)):=(ql X 26 0 [] _ _ _).trans (by kernel_rfl)
theorem ql9 (a0:qp) (a1:(List qz)) (a2:Int) (a3:(List Int)):q5R a0 a1 a2 a3=((qbD a0.1 a1 a2 a3).bind fun r6=>(jG r6.1.1 a0.2.1).bind fun r7=>bif (!r6.1.2) then some ((([],(0,(0,(0,[])))),false),()) else bif (!r7.1.2.2) then some ((([],(0,(0,(0,[])))),false),()) else some ((r7.1.1,true),()):Option ((qp×Bool)×Unit)):=(qo X rfl _).trans (by kernel_rfl)
theorem qnM (a0:(List Int)):qaV a0=(q5W a0 [] 0:Option ((List Int)×Unit)):=(qo X rfl _).trans (by kernel_rfl)
theorem qbP (x0:(List Int)) (x3:(List Int)) (x4:Int):q5W x0 x3 x4=(bif (decide (x4 < 6)) then bif ((decide (0<=x4))&&(decide (x4 < (length x0:Int)))) then bif (lim ((length x3)+1) 8) then q5W x0 (x3++[(tmod (getD x0 (toNat x4) 0) 400)]) (w64 (x4+1)) else none else none else some (x3,()):Option ((List Int)×Unit)):=(ql X 28 0 [] _ _ _).trans (by kernel_rfl)
theorem qnn (a0:qp):q5e a0=((q1E a0).bind fun r3=>bif (!r3.1.2) then some ((([],(0,(0,(0,[])))),([],false)),()) else q5Z (length r3.1.1:Int) 0 a0.1 a0.2.1 a0.2.2.1 a0.2.2.2.1 a0.2.2.2.2 [] 0 0 0 [] r3.1.1 a0.1:Option ((qp×(List qz)×Bool)×Unit)):=(qo X rfl _).trans (by kernel_rfl)
theorem qbu (x26:Int) (x27:Int) (b0_0:q8) (b0_1:Int) (b0_2:Int) (b0_3:Int) (b0_4:(List qh)) (b16_0:q8) (b16_1:Int) (b16_2:Int) (b16_3:Int) (b16_4:(List qh)) (r_d:(List qz)) (b_e_0:q8):q5Z x26 x27 b0_0 b0_1 b0_2 b0_3 b0_4 b16_0 b16_1 b16_2 b16_3 b16_4 r_d b_e_0=(bif (decide (x27 < x26)) then bif ((decide (0<=x27))&&(decide (x27 < (length r_d:Int)))) then (qaC b_e_0 ((getD r_d (toNat x27) (0,(eB,(eB,eB)))).1,(((getD r_d (toNat x27) (0,(eB,(eB,eB)))).2).1,(((getD r_d (toNat x27) (0,(eB,(eB,eB)))).2).2)))).bind fun r16=>bif (!r16.1.2) then some ((([],(0,(0,(0,[])))),([],false)),()) else (q4L r16.1.1).bind fun r17=>bif (decide (r17.1 > b0_1)) then some ((([],(0,(0,(0,[])))),([],false)),()) else q5Z x26 (w64 (x27+1)) b0_0 b0_1 b0_2 b0_3 b0_4 b16_0 b16_1 b16_2 b16_3 b16_4 r_d r16.1.1 else none else (jG b_e_0 b0_1).bind fun r16=>bif (!r16.1.2.2) then some ((([],(0,(0,(0,[])))),([],false)),()) else some ((r16.1.1,(r_d,true)),()):Option ((qp×(List qz)×Bool)×Unit)):=(ql X 30 0 [] _ _ _).trans (by kernel_rfl)
theorem qmh (a0:qp) (a1:Int) (a2:zf):q4c a0 a1 a2=(q1C a1 [] a2.1.2 (length a2.1.2:Int) 0 a0.1 a0.2.1 a0.2.2.1 a0.2.2.2.1 a0.2.2.2.2 a2.1.1 a2.1.2 a2.2.1 a2.2.2:Option ((List qd)×Unit)):=(qo X rfl _).trans (by kernel_rfl)
theorem qas (x1:Int) (x7:(List qd)) (x12:(List qd)) (x13:Int) (x14:Int) (b0_0:q8) (b0_1:Int) (b0_2:Int) (b0_3:Int) (b0_4:(List qh)) (b16_0:Int) (b16_1:(List qd)) (b16_2:Int) (b16_3:Int):q1C x1 x7 x12 x13 x14 b0_0 b0_1 b0_2 b0_3 b0_4 b16_0 b16_1 b16_2 b16_3=(bif (decide (x14 < x13)) then bif ((decide (0<=x14))&&(decide (x14 < (length x12:Int)))) then bif (!((getD x12 (toNat x14) (eB,(eB,false))).2).2) then (yC b0_4 ((getD x12 (toNat x14) (eB,(eB,false))).1,(x1,(b16_2,b16_0)))).bind fun r16=>bif r16.1 then bif (lim ((length x7)+1) 40) then q1C x1 (x7++[((getD x12 (toNat x14) (eB,(eB,false))).1,(((getD x12 (toNat x14) (eB,(eB,false))).2).1,((getD x12 (toNat x14) (eB,(eB,false))).2).2))]) x12 x13 (w64 (x14+1)) b0_0 b0_1 b0_2 b0_3 b0_4 b16_0 b16_1 b16_2 b16_3 else none else q1C x1 x7 x12 x13 (w64 (x14+1)) b0_0 b0_1 b0_2 b0_3 b0_4 b16_0 b16_1 b16_2 b16_3 else q1C x1 x7 x12 x13 (w64 (x14+1)) b0_0 b0_1 b0_2 b0_3 b0_4 b16_0 b16_1 b16_2 b16_3 else none else some (x7,()):Option ((List qd)×Unit)):=(ql X 87 0 [] _ _ _).trans (by kernel_rfl)
theorem qjR (a0:q8) (a1:(List qz)) (a2:Int) (a3:(List Int)):qbD a0 a1 a2 a3=((wL a2 0 (length a1:Int)).bind fun r6=>bif (!r6.1) then some (([],false),()) else bif ((decide ((0:Int)<=0))&&((decide (0<=a2))&&(decide (a2<=(length a1:Int))))) then (q5C a0 (take ((toNat a2) - (toNat 0)) (drop (toNat 0) a1))).bind fun r7=>bif (decide (r7.1.2 < a2)) then some (([],false),()) else (qa8 r7.1.1 a3).bind fun r8=>some (r8.1,()) else none:Option ((q8×Bool)×Unit)):=(qo X rfl _).trans (by kernel_rfl)
theorem zA (a0:(List qh)) (a1:qh):yC a0 a1=((w9 a0 a1).bind fun r4=>some ((decide (r4.1>=0)),()):Option (Bool×Unit)):=(qo X rfl _).trans (by kernel_rfl)
theorem qiL (a0:q8) (a1:(List Int)):qa8 a0 a1=((yD a0).bind fun r4=>bif (!r4.1) then some (([],false),()) else (q0B a0).bind fun r5=>q0N a1 (length r5.1:Int) 0 [] r5.1:Option ((q8×Bool)×Unit)):=(qo X rfl _).trans (by kernel_rfl)
theorem q82 (x1:(List Int)) (x18:Int) (x19:Int) (b16_0:q8) (r_u:q8):q0N x1 x18 x19 b16_0 r_u=(bif (decide (x19 < x18)) then bif ((decide (0<=x19))&&(decide (x19 < (length r_u:Int)))) then bif (decide (x19 < (length x1:Int))) then bif ((decide (0<=x19))&&(decide (x19 < (length x1:Int)))) then bif ((decide ((0:Int)<=0))&&((decide (0<=(bif (decide ((bif (decide ((size (((getD r_u (toNat x19) (eB,(eB,0))).2).1):Int) < (getD x1 (toNat x19) 0))) then (size (((getD r_u (toNat x19) (eB,(eB,0))).2).1):Int) else (getD x1 (toNat x19) 0)) > ((getD r_u (toNat x19) (eB,(eB,0))).2).2)) then (bif (decide ((size (((getD r_u (toNat x19) (eB,(eB,0))).2).1):Int) < (getD x1 (toNat x19) 0))) then (size (((getD r_u (toNat x19) (eB,(eB,0))).2).1):Int) else (getD x1 (toNat x19) 0)) else ((getD r_u (toNat x19) (eB,(eB,0))).2).2)))&&(decide ((bif (decide ((bif (decide ((size (((getD r_u (toNat x19) (eB,(eB,0))).2).1):Int) < (getD x1 (toNat x19) 0))) then (size (((getD r_u (toNat x19) (eB,(eB,0))).2).1):Int) else (getD x1 (toNat x19) 0)) > ((getD r_u (toNat x19) (eB,(eB,0))).2).2)) then (bif (decide ((size (((getD r_u (toNat x19) (eB,(eB,0))).2).1):Int) < (getD x1 (toNat x19) 0))) then (size (((getD r_u (toNat x19) (eB,(eB,0))).2).1):Int) else (getD x1 (toNat x19) 0)) else ((getD r_u (toNat x19) (eB,(eB,0))).2).2)<=(size (((getD r_u (toNat x19) (eB,(eB,0))).2).1):Int))))) then bif ((decide (0<=x19))&&(decide (x19 < (length r_u:Int)))) then bif ((decide (0<=x19))&&(decide (x19 < (length (List.set r_u (toNat x19) ((getD r_u (toNat x19) (eB,(eB,0))).1,((extract (((getD r_u (toNat x19) (eB,(eB,0))).2).1) (toNat 0) (toNat (bif (decide ((bif (decide ((size (((getD r_u (toNat x19) (eB,(eB,0))).2).1):Int) < (getD x1 (toNat x19) 0))) then (size (((getD r_u (toNat x19) (eB,(eB,0))).2).1):Int) else (getD x1 (toNat x19) 0)) > ((getD r_u (toNat x19) (eB,(eB,0))).2).2)) then (bif (decide ((size (((getD r_u (toNat x19) (eB,(eB,0))).2).1):Int) < (getD x1 (toNat x19) 0))) then (size (((getD r_u (toNat x19) (eB,(eB,0))).2).1):Int) else (getD x1 (toNat x19) 0)) else ((getD r_u (toNat x19) (eB,(eB,0))).2).2))),((getD r_u (toNat x19) (eB,(eB,0))).2).2))):Int)))) then q0N x1 x18 (w64 (x19+1)) b16_0 (List.set (List.set r_u (toNat x19) ((getD r_u (toNat x19) (eB,(eB,0))).1,((extract (((getD r_u (toNat x19) (eB,(eB,0))).2).1) (toNat 0) (toNat (bif (decide ((bif (decide ((size (((getD r_u (toNat x19) (eB,(eB,0))).2).1):Int) < (getD x1 (toNat x19) 0))) then (size (((getD r_u (toNat x19) (eB,(eB,0))).2).1):Int) else (getD x1 (toNat x19) 0)) > ((getD r_u (toNat x19) (eB,(eB,0))).2).2)) then (bif (decide ((size (((getD r_u (toNat x19) (eB,(eB,0))).2).1):Int) < (getD x1 (toNat x19) 0))) then (size (((getD r_u (toNat x19) (eB,(eB,0))).2).1):Int) else (getD x1 (toNat x19) 0)) else ((getD r_u (toNat x19) (eB,(eB,0))).2).2))),((getD r_u (toNat x19) (eB,(eB,0))).2).2))) (toNat x19) ((getD (List.set r_u (toNat x19) ((getD r_u (toNat x19) (eB,(eB,0))).1,((extract (((getD r_u (toNat x19) (eB,(eB,0))).2).1) (toNat 0) (toNat (bif (decide ((bif (decide ((size (((getD r_u (toNat x19) (eB,(eB,0))).2).1):Int) < (getD x1 (toNat x19) 0))) then (size (((getD r_u (toNat x19) (eB,(eB,0))).2).1):Int) else (getD x1 (toNat x19) 0)) > ((getD r_u (toNat x19) (eB,(eB,0))).2).2)) then (bif (decide ((size (((getD r_u (toNat x19) (eB,(eB,0))).2).1):Int) < (getD x1 (toNat x19) 0))) then (size (((getD r_u (toNat x19) (eB,(eB,0))).2).1):Int) else (getD x1 (toNat x19) 0)) else ((getD r_u (toNat x19) (eB,(eB,0))).2).2))),((getD r_u (toNat x19) (eB,(eB,0))).2).2))) (toNat x19) (eB,(eB,0))).1,(((getD (List.set r_u (toNat x19) ((getD r_u (toNat x19) (eB,(eB,0))).1,((extract (((getD r_u (toNat x19) (eB,(eB,0))).2).1) (toNat 0) (toNat (bif (decide ((bif (decide ((size (((getD r_u (toNat x19) (eB,(eB,0))).2).1):Int) < (getD x1 (toNat x19) 0))) then (size (((getD r_u (toNat x19) (eB,(eB,0))).2).1):Int) else (getD x1 (toNat x19) 0)) > ((getD r_u (toNat x19) (eB,(eB,0))).2).2)) then (bif (decide ((size (((getD r_u (toNat x19) (eB,(eB,0))).2).1):Int) < (getD x1 (toNat x19) 0))) then (size (((getD r_u (toNat x19) (eB,(eB,0))).2).1):Int) else (getD x1 (toNat x19) 0)) else ((getD r_u (toNat x19) (eB,(eB,0))).2).2))),((getD r_u (toNat x19) (eB,(eB,0))).2).2))) (toNat x19) (eB,(eB,0))).2).1,(bif (decide ((bif (decide ((size (((getD r_u (toNat x19) (eB,(eB,0))).2).1):Int) < (getD x1 (toNat x19) 0))) then (size (((getD r_u (toNat x19) (eB,(eB,0))).2).1):Int) else (getD x1 (toNat x19) 0)) > ((getD r_u (toNat x19) (eB,(eB,0))).2).2)) then (bif (decide ((size (((getD r_u (toNat x19) (eB,(eB,0))).2).1):Int) < (getD x1 (toNat x19) 0))) then (size (((getD r_u (toNat x19) (eB,(eB,0))).2).1):Int) else (getD x1 (toNat x19) 0)) else ((getD r_u (toNat x19) (eB,(eB,0))).2).2)))) else none else none else none else none else bif ((decide ((0:Int)<=0))&&((decide (0<=(bif (decide ((bif (decide ((size (((getD r_u (toNat x19) (eB,(eB,0))).2).1):Int) < 0)) then (size (((getD r_u (toNat x19) (eB,(eB,0))).2).1):Int) else 0) > ((getD r_u (toNat x19) (eB,(eB,0))).2).2)) then (bif (decide ((size (((getD r_u (toNat x19) (eB,(eB,0))).2).1):Int) < 0)) then (size (((getD r_u (toNat x19) (eB,(eB,0))).2).1):Int) else 0) else ((getD r_u (toNat x19) (eB,(eB,0))).2).2)))&&(decide ((bif (decide ((bif (decide ((size (((getD r_u (toNat x19) (eB,(eB,0))).2).1):Int) < 0)) then (size (((getD r_u (toNat x19) (eB,(eB,0))).2).1):Int) else 0) > ((getD r_u (toNat x19) (eB,(eB,0))).2).2)) then (bif (decide ((size (((getD r_u (toNat x19) (eB,(eB,0))).2).1):Int) < 0)) then (size (((getD r_u (toNat x19) (eB,(eB,0))).2).1):Int) else 0) else ((getD r_u (toNat x19) (eB,(eB,0))).2).2)<=(size (((getD r_u (toNat x19) (eB,(eB,0))).2).1):Int))))) then bif ((decide (0<=x19))&&(decide (x19 < (length r_u:Int)))) then bif ((decide (0<=x19))&&(decide (x19 < (length (List.set r_u (toNat x19) ((getD r_u (toNat x19) (eB,(eB,0))).1,((extract (((getD r_u (toNat x19) (eB,(eB,0))).2).1) (toNat 0) (toNat (bif (decide ((bif (decide ((size (((getD r_u (toNat x19) (eB,(eB,0))).2).1):Int) < 0)) then (size (((getD r_u (toNat x19) (eB,(eB,0))).2).1):Int) else 0) > ((getD r_u (toNat x19) (eB,(eB,0))).2).2)) then (bif (decide ((size (((getD r_u (toNat x19) (eB,(eB,0))).2).1):Int) < 0)) then (size (((getD r_u (toNat x19) (eB,(eB,0))).2).1):Int) else 0) else ((getD r_u (toNat x19) (eB,(eB,0))).2).2))),((getD r_u (toNat x19) (eB,(eB,0))).2).2))):Int)))) then q0N x1 x18 (w64 (x19+1)) b16_0 (List.set (List.set r_u (toNat x19) ((getD r_u (toNat x19) (eB,(eB,0))).1,((extract (((getD r_u (toNat x19) (eB,(eB,0))).2).1) (toNat 0) (toNat (bif (decide ((bif (decide ((size (((getD r_u (toNat x19) (eB,(eB,0))).2).1):Int) < 0)) then (size (((getD r_u (toNat x19) (eB,(eB,0))).2).1):Int) else 0) > ((getD r_u (toNat x19) (eB,(eB,0))).2).2)) then (bif (decide ((size (((getD r_u (toNat x19) (eB,(eB,0))).2).1):Int) < 0)) then (size (((getD r_u (toNat x19) (eB,(eB,0))).2).1):Int) else 0) else ((getD r_u (toNat x19) (eB,(eB,0))).2).2))),((getD r_u (toNat x19) (eB,(eB,0))).2).2))) (toNat x19) ((getD (List.set r_u (toNat x19) ((getD r_u (toNat x19) (eB,(eB,0))).1,((extract (((getD r_u (toNat x19) (eB,(eB,0))).2).1) (toNat 0) (toNat (bif (decide ((bif (decide ((size (((getD r_u (toNat x19) (eB,(eB,0))).2).1):Int) < 0)) then (size (((getD r_u (toNat x19) (eB,(eB,0))).2).1):Int) else 0) > ((getD r_u (toNat x19) (eB,(eB,0))).2).2)) then (bif (decide ((size (((getD r_u (toNat x19) (eB,(eB,0))).2).1):Int) < 0)) then (size (((getD r_u (toNat x19) (eB,(eB,0))).2).1):Int) else 0) else ((getD r_u (toNat x19) (eB,(eB,0))).2).2))),((getD r_u (toNat x19) (eB,(eB,0))).2).2))) (toNat x19) (eB,(eB,0))).1,(((getD (List.set r_u (toNat x19) ((getD r_u (toNat x19) (eB,(eB,0))).1,((extract (((getD r_u (toNat x19) (eB,(eB,0))).2).1) (toNat 0) (toNat (bif (decide ((bif (decide ((size (((getD r_u (toNat x19) (eB,(eB,0))).2).1):Int) < 0)) then (size (((getD r_u (toNat x19) (eB,(eB,0))).2).1):Int) else 0) > ((getD r_u (toNat x19) (eB,(eB,0))).2).2)) then (bif (decide ((size (((getD r_u (toNat x19) (eB,(eB,0))).2).1):Int) < 0)) then (size (((getD r_u (toNat x19) (eB,(eB,0))).2).1):Int) else 0) else ((getD r_u (toNat x19) (eB,(eB,0))).2).2))),((getD r_u (toNat x19) (eB,(eB,0))).2).2))) (toNat x19) (eB,(eB,0))).2).1,(bif (decide ((bif (decide ((size (((getD r_u (toNat x19) (eB,(eB,0))).2).1):Int) < 0)) then (size (((getD r_u (toNat x19) (eB,(eB,0))).2).1):Int) else 0) > ((getD r_u (toNat x19) (eB,(eB,0))).2).2)) then (bif (decide ((size (((getD r_u (toNat x19) (eB,(eB,0))).2).1):Int) < 0)) then (size (((getD r_u (toNat x19) (eB,(eB,0))).2).1):Int) else 0) else ((getD r_u (toNat x19) (eB,(eB,0))).2).2)))) else none else none else none else none else some ((r_u,true),()):Option ((q8×Bool)×Unit)):=(ql X 184 0 [] _ _ _).trans (by kernel_rfl)
theorem zL (a0:(List qh)) (a1:qh):w9 a0 a1=(qL a0 (length a0:Int) 0 a1.1 a1.2.1 a1.2.2.1 a1.2.2.2:Option (Int×Unit)):=(qo X rfl _).trans (by kernel_rfl)
theorem yU (x0:(List qh)) (x7:Int) (x8:Int) (b0_0:BA) (b0_1:Int) (b0_2:Int) (b0_3:Int):qL x0 x7 x8 b0_0 b0_1 b0_2 b0_3=(bif (decide (x8 < x7)) then bif ((decide (0<=x8))&&(decide (x8 < (length x0:Int)))) then bif (((toList b0_0)==(toList ((getD x0 (toNat x8) (eB,(0,(0,0)))).1)))&&((b0_1==((getD x0 (toNat x8) (eB,(0,(0,0)))).2).1)&&((b0_2==(((getD x0 (toNat x8) (eB,(0,(0,0)))).2).2).1)&&((b0_3==(((getD x0 (toNat x8) (eB,(0,(0,0)))).2).2).2)&&true)))) then some (x8,()) else qL x0 x7 (w64 (x8+1)) b0_0 b0_1 b0_2 b0_3 else none else some ((-1),()):Option (Int×Unit)):=(ql X 238 0 [] _ _ _).trans (by kernel_rfl)
end Go.Den.S
namespace Go.Den.S
open Go Go.Den
def q1m:List Fil->List Int->List Fil
 | [],_=>[]
 | f::d,ls=>(f.1,(f.2.1.extract 0 (max f.2.2 (min (ls.headD 0) (f.2.1.size:Int))).toNat,max f.2.2 (min (ls.headD 0) (f.2.1.size:Int))))::q1m d ls.tail
end Go.Den.S
namespace Go.Den.S
open Go Go.Den
open Classical
noncomputable section
theorem qw0:∀ (b a:Nat),a<=b->(vL a).length<=(vL b).length:=by
 intro b;induction b using Nat.strongRecOn with
 | ind b ih=>
  intro a h;by_cases ha:a < 128
  ·rw [qdz ha]; exact qpI b
  ·rw [qeG ha,qeG (show ¬ b < 128 by omega),length_cons,length_cons]
   have:=ih (b / 128) (by omega) (a / 128) (by omega)
   omega
theorem qn7 {a b:Bat} (h:(bTL a).length<=(bTL b).length):(batL a).length<=(batL b).length:=by
 unfold batL bTx;rw [qb4,qb4,qD,qD];have:=qw0 _ _ h;omega
theorem qmS {d:List Fil} {dir:List Spt} {n:Nat} (h:∀ b∈batD d n,batT b=true):(bats (q3A d dir n)).length<=(bats (batD d n)).length:=by
 have:∀ ps:List (Bat×Nat),(∀ p∈ps,batT p.1=true)->(bats (ps.filterMap (j5 dir n))).length<=(bats (ps.map (·.1))).length:=fun ps=>by
  induction ps with
  | nil=>intro _; exact le_refl _
  | cons p ps ih=>
   intro h;have ih:=ih fun x hx=>h x (mem_cons_of_mem _ hx)
   rw [map_cons,q09,length_append,List.filterMap_cons];cases hk:j5 dir n p with
   | none=>simp only; omega
   | some b=>
    have:=qn7 (qex (h p (mem_cons_self ..)) hk).2;simp only [q09,length_append];omega
 have e:(zo d n).map (·.1)=batD d n:=q6p _ _;have h2:=this (zo d n) fun p hp=>h _ (by rw [<- e]; exact mem_map.2 ⟨p,hp,rfl⟩)
 rw [e] at h2;exact h2
end
section
variable {β:Type}
theorem qpZ {l:List (BA×β)} (h:AscK l):(l.map (·.1)).Nodup:=by
 unfold List.Nodup;rw [List.pairwise_map];exact h.imp fun h=>q1T h
end
def cleaned (x:List Fil) (l:List Nat):List Fil:=x.filter fun f=>decide (f.1≠qB)&&!zY l f
theorem qt7:numOf qB=none:=by
 cases h:numOf qB with
 | none=>rfl
 | some n=>exact absurd (q1y.1 h).2 (q47 n)
theorem qer {x:List Fil} (h:dOkB x=true) (l:List Nat):allA x (wG x l) (cleaned x l):=by
 have hasc:=(qG.1 h).2.2
 let ks:=(if (getK qB x).isSome then [qB] else [])++(x.filter (zY l)).map (·.1)
 have e1:wG x l=ks.map drA:=by
  show _=map drA (_++_);unfold wG;rw [List.map_append,List.map_map];congr 1
  split<;>rfl
 have hnot:qB∉(x.filter (zY l)).map (·.1):=fun hm=>by
  obtain ⟨f,hf,e⟩:=mem_map.1 hm;have:=(mem_filter.1 hf).2;unfold zY at this;rw [e,qt7] at this; cases this
 have hnd:ks.Nodup:=by
  refine List.nodup_append.2 ⟨by split<;>simp,(qpZ hasc).sublist ((List.filter_sublist).map _),fun a ha b hb e=>?_⟩
  split at ha
  ·rw [mem_singleton.1 ha] at e;exact hnot (e▸hb)
  ·cases ha
 have hpres:∀ k∈ks,getK k x≠none:=fun k hk=>by
  rcases mem_append.1 hk with hk | hk
  ·split at hk
   ·rename_i hs;rw [mem_singleton.1 hk];exact Option.ne_none_iff_isSome.2 hs
   ·cases hk
  ·obtain ⟨f,hf,e⟩:=mem_map.1 hk;rw [<- e,(yj hasc).2 (show (f.1,f.2)∈x from (mem_filter.1 hf).1)]
   simp
 rw [e1];have:=drops ks h hnd hpres;have e2:(x.filter fun f=>decide (f.1∉ks))=cleaned x l:=by
  unfold cleaned;refine List.filter_congr fun f hf=>?_
  rw [Bool.eq_iff_iff];simp only [decide_eq_true_eq,and_eq_true,not_eq_true',ks,mem_append,not_or,mem_map,mem_filter,not_exists,not_and,and_imp];constructor
  ·rintro ⟨h1,h2⟩
   refine ⟨fun e=>h1 ?_,?_⟩
   ·rw [if_pos (by rw [<- e,(yj hasc).2 (show (f.1,f.2)∈x from hf)]; rfl),e]; simp
   ·cases hs:zY l f with
    | false=>rfl
    | true=>exact absurd rfl (h2 f hf hs)
  ·rintro ⟨h1,h2⟩
   refine ⟨fun hm=>?_,fun g hg hs e=>?_⟩
   ·split at hm
    ·exact h1 (mem_singleton.1 hm)
    ·cases hm
   ·have:=q6D hasc hg hf e;subst this;rw [h2] at hs; cases hs
 rw [e2] at this;exact this
theorem qpp {x y:List Fil} {l:List Nat} (h:∀ n∈l,segD x n=segD y n):allB x l=allB y l/\dirD x l=dirD y l/\conD x l=conD y l:=by
 have h1:∀ n∈l,batD x n=batD y n:=fun n hn=>by unfold batD; rw [h n hn]
 have h2:∀ n∈l,zo x n=zo y n:=fun n hn=>by
  unfold zo wo hdD batD;rw [h n hn]
 have h3:jO x l=jO y l:=by
  unfold jO;clear h h1;induction l with
  | nil=>rfl
  | cons a l ih=>rw [List.flatMap_cons,List.flatMap_cons,h2 a (mem_cons_self ..),ih fun n hn=>h2 n (mem_cons_of_mem _ hn)]
 refine ⟨q7G h1,?_,?_⟩
 ·unfold dirD rowD; rw [h3]
 ·unfold conD rowD; rw [h3]
theorem qrS {x:List Fil} {m:Nat} {l:List Nat} (h:∀ n∈l,endD x n=(txtD x n).size):wX x m l=some []:=qaJ.2 h
theorem qkS {x:List Fil} {l:List Nat} {F:Nat->Nat×List Bat} (S:Says x l F) (hk:q12 x=true) {room:Int} (h1:100<=room) (h2:room<=20000) :
  q1r x room=some (mkE x (cleaned x l) room l,wG x l)/\Clean (cleaned x l) l/\mkE x (cleaned x l) room l=mkE (cleaned x l) (cleaned x l) room l/\allB (cleaned x l) l=(l.flatMap fun n=>(F n).2)/\conD x l=conD (cleaned x l) l:=by
 have ho:=(q0U.1 hk).1;have hasc:=(qG.1 ho).2.2;have B:=S.base ho;have hact:=qer ho l;have hget:∀ n∈l,getK (nmL n) (cleaned x l)=getK (nmL n) x:=fun n hn=>by
  obtain ⟨t,h1,_⟩:=S.file n hn;rw [h1];refine (get_filter hasc _ _).2 ⟨h1,?_⟩;simp only [and_eq_true,decide_eq_true_eq,not_eq_true'];refine ⟨q47 n,?_⟩;unfold zY;rw [q9M (S.lt n hn)];simp [hn]
 have hhas:∀ n,n < 100->hasN (cleaned x l) n=true->n∈l:=fun n hn h=>by
  obtain ⟨v,hv⟩:=Option.isSome_iff_exists.1 h;obtain ⟨_,hp⟩:=(get_filter hasc _ _).1 hv;simp only [and_eq_true,decide_eq_true_eq,not_eq_true'] at hp;have:=hp.2;unfold zY at this;rw [q9M hn] at this;simpa using this
 have S':Says (cleaned x l) l F:={
  lt:=S.lt,asc:=S.asc,ne:=S.ne
  has:=fun n hn h=>.inl (hhas n hn h)
  file:=fun n hn=>by rw [hget n hn]; exact S.file n hn
  hd:=S.hd,bt:=S.bt,up:=S.up }
 have hnew:getK qB (cleaned x l)=none:=by
  cases hg:getK qB (cleaned x l) with
  | none=>rfl
  | some v=>
   have:=((get_filter hasc _ _).1 hg).2;simp at this
 obtain ⟨C,_,hall⟩:=S'.clean (q8U hk _) hhas hnew;have hsame:=qpp (x:=x) (y:=cleaned x l) (l:=l) fun n hn=>by unfold segD; rw [hget n hn]
 refine ⟨?_,C,by unfold mkE; rw [hsame.1,hsame.2.1],hall,hsame.2.2⟩
 unfold q1r;rw [if_pos ⟨h1,h2,hk,B.rise⟩,B.segs];simp only [qrS B.full,append_nil];unfold allA at hact;rw [hact];simp
theorem qu9 (t:BA):bOf ((bl t).take t.size)=t:=by rw [qW,List.take_length,q9G]
theorem q3Q:∀ {l:List Fil} (ls:List Int),(∀ f∈l,f.2.2=(f.2.1.size:Int))->q1m l ls=l
 | [],_,_=>rfl
 | (k,t,kp)::l,ls,h=>by
  have e:kp=(t.size:Int):=h _ (mem_cons_self ..);subst e;have e2:max (t.size:Int) (min (ls.headD 0) (t.size:Int))=(t.size:Int):=by omega
  simp only [q1m,e2,toNat_natCast,qll,qu9,q3Q ls.tail fun f hf=>h f (mem_cons_of_mem _ hf)]
theorem qpa {f:Fil} {b:List Fil} (hb:∀ f∈b,f.2.2=(f.2.1.size:Int)) (h0:0<=f.2.2) (h1:f.2.2<=(f.2.1.size:Int)):∀ {a:List Fil} (ls:List Int),(∀ f∈a,f.2.2=(f.2.1.size:Int))->
  ∃ n:Nat,f.2.2<=(n:Int)/\n<=f.2.1.size/\q1m (a++f::b) ls=a++(f.1,(bOf ((bl f.2.1).take n),(n:Int)))::b
 | [],ls,_=>by
  refine ⟨(max f.2.2 (min (ls.headD 0) (f.2.1.size:Int))).toNat,by omega,by omega,?_⟩
  have e:(((max f.2.2 (min (ls.headD 0) (f.2.1.size:Int))).toNat:Nat):Int)=max f.2.2 (min (ls.headD 0) (f.2.1.size:Int)):=by omega
  rw [e];simp only [List.nil_append,q1m,qll,q3Q ls.tail hb]
 | g::a,ls,ha=>by
  obtain ⟨n,h2,h3,h4⟩:=qpa hb h0 h1 (a:=a) ls.tail fun f hf=>ha f (mem_cons_of_mem _ hf)
  refine ⟨n,h2,h3,?_⟩;have hg:=q3Q (l:=[g]) ls fun f hf=>ha f (by rw [mem_singleton.1 hf]; exact mem_cons_self ..)
  simp only [q1m,List.cons.injEq,and_true] at hg;simp only [List.cons_append,q1m,h4,hg]
theorem qoE {d:List Fil} (hk:∀ f∈d,f.2.2=(f.2.1.size:Int)) (k t:BA) (kp:Int) (h0:0<=kp) (h1:kp<=(t.size:Int)) (ls:List Int):∃ n:Nat,kp<=(n:Int)/\n<=t.size/\q1m (putK k (t,kp) d) ls=putK k (bOf ((bl t).take n),(n:Int)) d:=by
 unfold putK;exact qpa (f:=(k,t,kp)) (fun f hf=>hk f (mem_filter.1 hf).1) h0 h1 ls fun f hf=>hk f (mem_filter.1 hf).1
def cutB (d:List Fil) (asq:List Act) (w:Int) (ls:List Int):Option (List Fil):=
 if 0<=w/\w<=(asq.length:Int)/\(qR d (asq.take w.toNat)).2=w.toNat/\dOkB (qR d (asq.take w.toNat)).1=true then some (q1m (qR d (asq.take w.toNat)).1 ls) else none
theorem q3i {d x:List Fil} {asq:List Act} {k:Nat} (h:k<=asq.length) (ha:allA d (asq.take k) x) (ho:dOkB x=true) (ls:List Int):cutB d asq (k:Int) ls=some (q1m x ls):=by
 unfold allA at ha;unfold cutB;simp only [toNat_natCast,ha,length_take];rw [if_pos ⟨by omega,by omega,by omega,ho⟩]
def Comes (x:List Fil) (room:Int) (P:List Fil->List Nat->Prop):Prop:=∃ more x' l',q1r x room=some (mkE x' x' room l',more)/\allA x more x'/\Clean x' l'/\P x' l'
theorem q2M {d:List Fil} {l:List Nat} (C:Clean d l) {room:Int} (h1:100<=room) (h2:room<=20000) {P:List Fil->List Nat->Prop} (hP:P d l):Comes d room P:=
 ⟨[],d,l,q8Q.2 ⟨h1,h2,l,C,rfl⟩,je d,C,hP⟩
theorem Clean.qeJ {d:List Fil} {l:List Nat} (C:Clean d l):∀ f∈d,f.2.2=(f.2.1.size:Int):=(q0U.1 C.kept).2
theorem qtj {d:List Fil} {l:List Nat} (C:Clean d l) (hlen:d.length<=29) {t:BA} (ht:t.size<=20000) {room:Int} (h1:100<=room) (h2:room<=20000) {P:List Fil->List Nat->Prop} (hP:P d l):Comes (putK qB (t,(t.size:Int)) d) room P:=by
 have hns:qB.size=2:=rfl;have ho:dOkB (putK qB (t,(t.size:Int)) d)=true:=q7I C.ok (by have:=q2N qB d; omega) (q2R (by omega) (by omega) ht (by omega) (Int.le_refl _))
 have hk:=q4Y C.kept ho;have S:=C.says;have hg:∀ n,getK (nmL n) (putK qB (t,(t.size:Int)) d)=getK (nmL n) d:=fun n=>by rw [wQ C.asc,if_neg (q47 n)]
 have S':Says (putK qB (t,(t.size:Int)) d) l fun n=>(hdD d n,batD d n):={
  lt:=S.lt,asc:=S.asc,ne:=S.ne
  has:=fun n hn h=>by
   unfold hasN at h;rw [hg] at h;exact S.has n hn h
  file:=fun n hn=>by rw [hg]; exact S.file n hn
  hd:=S.hd,bt:=S.bt,up:=S.up }
 obtain ⟨k1,k2,k3,_⟩:=qkS S' hk h1 h2;have e:cleaned (putK qB (t,(t.size:Int)) d) l=d:=by
  refine q3N ((jT C.asc _ _).filter _) C.asc fun x=>?_
  unfold cleaned;rw [mem_filter,jV];simp only [and_eq_true,decide_eq_true_eq,not_eq_true'];constructor
  ·rintro ⟨h | h,h3,_⟩
   ·rw [h] at h3; exact absurd rfl h3
   ·exact h.1
  ·intro hx;have hne:x.1≠qB:=jC.1 C.new x hx;refine ⟨.inr ⟨hx,hne⟩,hne,?_⟩;unfold zY;split
   ·rename_i n hn;have:=C.stale x hx n hn;simp [this]
   ·rfl
 rw [e] at k1 k3;refine ⟨_,d,l,by rw [k1,k3],?_,C,hP⟩
 have:=qer ho l;rw [e] at this;exact this
theorem qaI {d:List Fil} {l:List Nat} (C:Clean d l) (hlen:d.length<=29) {t:BA} (ht:t.size<=20000) {kp:Int} (h0:0<=kp) (hkp:kp<=(t.size:Int)) (ls:List Int) {room:Int} (h1:100<=room) (h2:room<=20000) {P:List Fil->List Nat->Prop} (hP:P d l):Comes (q1m (putK qB (t,kp) d) ls) room P:=by
 obtain ⟨n,k1,k2,k3⟩:=qoE C.qeJ qB t kp h0 hkp ls;rw [k3];have hn:(bOf ((bl t).take n)).size=n:=by rw [qD,length_take,<- qW]; omega
 have:=qtj C hlen (t:=bOf ((bl t).take n)) (by omega) h1 h2 hP
 rw [hn] at this;exact this
section
variable {d:List Fil} {l i:List Nat} {top act:Nat}
def qmf (d:List Fil) (l:List Nat) (x:List Fil) (l':List Nat):Prop:=conD x l'=conD d l
theorem qpU (C:Clean d l) (hl:l=(i++[top])++[act]) {P:Fil->Bool} (hP:∀ f,P f=false->∃ n∈i,f.1=nmL n) (ho:dOkB (wh d l i top)=true) {room:Int} (h1:100<=room) (h2:room<=20000):Comes ((wh d l i top).filter P) room (qmf d l):=by
 have hk:q12 ((wh d l i top).filter P)=true:=q8U (q4Y C.kept ho) P;obtain ⟨k1,k2,k3,k4,_⟩:=qkS (qd2 C hl hP) hk h1 h2;refine ⟨_,_,[top,act],by rw [k1,k3],qer (q0U.1 hk).1 _,k2,qkA C hl k4⟩
theorem qcp:∀ {d:List Fil} {k:BA} {v:BA×Int},AscK d->(k,v)∈d->yR (delK k d)+v.1.size=yR d
 | f::d,k,v,h,hm=>by
  obtain ⟨h1,h2⟩:=List.pairwise_cons.1 h;rcases List.mem_cons.1 hm with e | hm
  ·subst e;have:delK k ((k,v)::d)=d:=by
    unfold delK;rw [filter_cons];simp only [ne_eq,not_true_eq_false,decide_false,Bool.false_eq_true,if_false];exact List.filter_eq_self.2 fun x hx=>by simpa using (q1T (h1 x hx)).symm
   rw [this];simp only [yR,map_cons,sum_cons]; omega
  ·have hne:f.1≠k:=q1T (h1 _ hm);have:delK k (f::d)=f::delK k d:=by
    unfold delK;rw [filter_cons];simp [hne]
   rw [this];have:=qcp h2 hm;unfold yR at this ⊢;rw [map_cons,sum_cons,map_cons,sum_cons]; omega
theorem qoH:∀ (ns:List Nat) {d:List Fil} {T:Nat->BA},AscK d->AscN ns->(∀ n∈ns,n < 100/\∃ kp,getK (nmL n) d=some (T n,kp))->(ns.map fun n=>(T n).size).sum<=yR d
 | [],_,_,_,_,_=>zero_le _
 | n::ns,d,T,h,ha,hg=>by
  obtain ⟨hn,kp,e⟩:=hg n (mem_cons_self ..);obtain ⟨ha1,ha2⟩:=List.pairwise_cons.1 ha;have h1:=qcp h ((yj h).1 e);have h2:=qoH ns (d:=delK (nmL n) d) (T:=T) (q4O h _) ha2 fun m hm=>by
   obtain ⟨q1,kp',q2⟩:=hg m (mem_cons_of_mem _ hm);refine ⟨q1,kp',?_⟩;rw [qep h,if_neg fun e=>by have:=jY q1 hn e; have:=ha1 m hm; omega]
   exact q2
  rw [map_cons,sum_cons];have h1:yR (delK (nmL n) d)+(T n).size=yR d:=h1;omega
theorem qrL (C:Clean d l) (hl:l=(i++[top])++[act]):(q0n d l i top).length<=yR d:=by
 obtain ⟨p1,p2,p3,p4,p5⟩:=C.parts hl;have hsub:∀ n∈i++[top],n∈l:=fun n hn=>by rw [hl]; exact List.mem_append_left _ hn
 have hasc:AscN (i++[top]):=by
  have h:=C.ascN;rw [hl] at h;exact (List.pairwise_append.1 h).1
 have h1:((i++[top]).map fun n=>(txtD d n).size).sum<=yR d:=qoH _ C.asc hasc fun n hn=>by
  obtain ⟨t,q1,_⟩:=C.file (hsub n hn);exact ⟨C.says.lt n (hsub n hn),_,by unfold txtD; rw [q1]; rfl⟩
 have h2:∀ n∈i++[top],(txtD d n).size=8+(bats (batD d n)).length:=fun n hn=>by
  obtain ⟨t,q1,_,q3,_,q5,q6,_⟩:=C.file (hsub n hn);have e:txtD d n=t:=by unfold txtD; rw [q1]; rfl
  rw [e,qW,q3,length_append,q1v (by omega) (by omega)]
 have h3:∀ ns:List Nat,(∀ n∈ns,(txtD d n).size=8+(bats (batD d n)).length/\∀ b∈batD d n,batT b=true)->(bats (yM d (dirD d l) ns)).length+8 * ns.length<=(ns.map fun n=>(txtD d n).size).sum:=fun ns=>by
  induction ns with
  | nil=>intro _; simp [yM,bats]
  | cons n ns ih=>
   intro h;have ih:=ih fun m hm=>h m (mem_cons_of_mem _ hm)
   obtain ⟨q1,q2⟩:=h n (mem_cons_self ..);have q3:=qmS (dir:=dirD d l) q2;have e:yM d (dirD d l) (n::ns)=q3A d (dirD d l) n++yM d (dirD d l) ns:=rfl;rw [e,q8b,length_append,map_cons,sum_cons,length_cons];omega
 have h4:=h3 (i++[top]) fun n hn=>⟨h2 n hn,C.says.bt n (hsub n hn)⟩
 unfold q0n;rw [length_append,q1v (C.says.lt top p1) (C.says.lt top p1)];rw [length_append] at h4;simp at h4;simp at h1;omega
theorem qsP (C:Clean d l) (hl:l=(i++[top])++[act]) (hlen:d.length<=29) (hsz:(q0n d l i top).length<=20000) {k:Nat} (hk:k<=(jd d l i top).length) (ls:List Int) {room:Int} (h1:100<=room) (h2:room<=20000) :
  ∃ x,cutB d (jd d l i top) (k:Int) ls=some x/\Comes x room (qmf d l):=by
 have hsame:qmf d l d l:=rfl;generalize hA:(adA qB (bOf (qU top top))::(yM d (dirD d l) (i++[top])).map fun b=>adA qB (bOf (batL b)))=A
 have hAl:A.length=(yM d (dirD d l) (i++[top])).length+1:=by rw [<- hA]; simp
 have hM:jd d l i top=A++(kpA qB::mvA qB (nmL top)::i.map fun n=>drA (nmL n)):=by unfold jd; rw [hA]
 obtain ⟨o1,o2,o3,a1,a2,a3⟩:=q3q C hlen hsz top;have hso:(bOf (q0n d l i top)).size<=20000:=by rw [qD]; exact hsz
 by_cases hkA:k<=A.length
 ·have htk:(jd d l i top).take k=A.take k:=by rw [hM,List.take_append_of_le_length hkA]
  cases k with
  | zero=>exact ⟨_,q3i (zero_le _) (je d) C.ok ls,by rw [q3Q ls C.qeJ]; exact q2M C h1 h2 hsame⟩
  | succ j=>
   obtain ⟨T,t1,t2,_⟩:=qfO (i:=i) (top:=top) C hlen hsz j;have e:A.take (j+1)=adA qB (bOf (qU top top))::((yM d (dirD d l) (i++[top])).take j).map fun b=>adA qB (bOf (batL b)):=by
    rw [<- hA,List.take_succ_cons,List.map_take]
   exact ⟨_,q3i hk (by rw [htk,e]; exact t2) (q3q C hlen t1 0).1 ls,qaI C hlen (by rw [qD]; exact t1) (Int.le_refl _) (by omega) ls h1 h2 hsame⟩
 ·obtain ⟨T,t1,t2,t3⟩:=qfO (i:=i) (top:=top) C hlen hsz (yM d (dirD d l) (i++[top])).length;rw [t3 rfl,List.take_length,hA] at t2;obtain ⟨j,hj⟩:∃ j,k=A.length+(j+1):=⟨k - A.length - 1,by omega⟩
  have htk:(jd d l i top).take k=A++(kpA qB::(mvA qB (nmL top)::i.map fun n=>drA (nmL n)).take j):=by
   rw [hM,hj,List.take_length_add_append,List.take_succ_cons]
  cases j with
  | zero=>
   refine ⟨_,q3i hk (by rw [htk]; exact qe0 t2 (yx a2 (je _))) o2 ls,qaI C hlen hso (by omega) (Int.le_refl _) ls h1 h2 hsame⟩
  | succ j=>
   have ht:=qkv C hl o3 j;have e:(mvA qB (nmL top)::i.map fun n=>drA (nmL n)).take (j+1)=mvA qB (nmL top)::(i.take j).map fun n=>drA (nmL n):=by
    rw [List.take_succ_cons,List.map_take]
   have hk2:=q8U (q4Y C.kept o3) fun f:Fil=>decide (f.1∉(i.take j).map nmL)
   refine ⟨_,q3i hk (by rw [htk,e]; exact qe0 t2 (yx a2 (yx a3 ht))) (qcs o3 _) ls,?_⟩
   rw [q3Q ls (q0U.1 hk2).2];refine qpU C hl (fun f h=>?_) o3 h1 h2
   have:f.1∈(i.take j).map nmL:=Classical.byContradiction fun hn=>by rw [dYT hn] at h; cases h
   obtain ⟨n,hn,e⟩:=mem_map.1 this;exact ⟨n,List.mem_of_mem_take hn,e.symm⟩
end
end Go.Den.S
namespace Go.Den.S
open Go Go.Den
open Classical
set_option maxRecDepth 4000
theorem mn (s x:Int):(bif decide (s < x) then s else x)=min x s:=by
 by_cases h:s < x
 ·rw [dYT h,cT]; omega
 ·rw [dYF h,cF]; omega
def lost (f:Fil) (x:Int):Fil:=(f.1,(f.2.1.extract 0 (max f.2.2 (min x (f.2.1.size:Int))).toNat,max f.2.2 (min x (f.2.1.size:Int))))
theorem qfR (f:Fil) (d:List Fil) (ls:List Int):q1m (f::d) ls=lost f (ls.headD 0)::q1m d ls.tail:=rfl
theorem qqQ (ls:List Int) (i:Nat):(ls.drop i).tail=ls.drop (i+1):=by rw [List.tail_drop]
theorem qv9 {ls:List Int} {i:Nat} (h:i < ls.length):(ls.drop i).headD 0=ls.getD i 0:=by
 rw [List.headD_eq_head?_getD,List.head?_drop,List.getD_eq_getElem?_getD]
theorem qts {ls:List Int} {i:Nat} (h:¬ i < ls.length):(ls.drop i).headD 0=0:=by
 rw [drop_eq_nil_iff.2 (by omega)]; rfl
def loO (d:List Fil) (ls:List Int):List Fil×Bool:=bif dOkB d then (q1m d ls,true) else ([],false)
theorem qvq {α:Type} (acc r:List α) (f g:α) {i:Nat} (h:acc.length=i):(acc++f::r).set i g=acc++g::r:=by
 subst h; simp
theorem qcL (ls:List Int) (hls:ls.length<=1000000000):∀ (r:List Fil) (i:Nat) (acc:List Fil),(∀ f∈r,q0W f=true)->acc.length=i->i+r.length<=1000000000->
  q0N ls ((i+r.length:Nat):Int) (i:Int) [] (acc++r)=some ((acc++q1m r (ls.drop i),true),())
 | [],i,acc,hd',hi,ha=>by
  rw [q82];have k1:decide ((i:Int) < ((i+([]:List Fil).length:Nat):Int))=false:=dYF (by rw [List.length_nil]; omega)
  simp only [k1,cF];rfl
 | f::r,i,acc,hd',hi,ha=>by
  rw [length_cons] at ha;obtain ⟨_,_,_,f4,f5⟩:=jg.1 (hd' f (mem_cons_self ..));have ih:=qcL ls hls r (i+1) (acc++[lost f ((ls.drop i).headD 0)]) (fun g hg=>hd' g (mem_cons_of_mem _ hg)) (by rw [length_append,length_singleton]; omega) (by omega)
  have eL:i+1+r.length=i+(f::r).length:=by rw [length_cons]; omega
  have ea:acc++[lost f ((ls.drop i).headD 0)]++r=acc++lost f ((ls.drop i).headD 0)::r:=by rw [append_assoc]; rfl
  rw [eL,ea] at ih;have k1:decide ((i:Int) < ((i+(f::r).length:Nat):Int))=true:=dYT (by rw [length_cons]; omega)
  have k2:decide (0<=(i:Int))=true:=dYT (by omega)
  have k3:∀ g:Fil,decide ((i:Int) < ((acc++g::r).length:Int))=true:=fun g=>dYT (by rw [length_append,length_cons]; omega)
  have k4:w64 ((i:Int)+1)=((i+1:Nat):Int):=qw (by omega)
  have k5:decide ((0:Int)<=0)=true:=rfl;have g1:∀ g:Fil,(acc++g::r).getD i (eB,(eB,0))=g:=fun g=>qdo acc r g _ hi
  have g2:∀ g h:Fil,(acc++g::r).set i h=acc++h::r:=fun g h=>qvq acc r g h hi
  have fin:∀ x:Int,(ls.drop i).headD 0=x->q0N ls ((i+(f::r).length:Nat):Int) ((i+1:Nat):Int) [] (acc++(f.1,(f.2.1.extract 0 (max f.2.2 (min x (f.2.1.size:Int))).toNat,max f.2.2 (min x (f.2.1.size:Int))))::r)=some ((acc++q1m (f::r) (ls.drop i),true),()):=fun x hx=>by
   rw [hx] at ih;refine ih.trans ?_;rw [qfR,qqQ,hx,append_assoc]; rfl
  have m1:∀ x:Int,decide (0<=max f.2.2 (min x (f.2.1.size:Int)))=true:=fun x=>dYT (by omega)
  have m2:∀ x:Int,decide (max f.2.2 (min x (f.2.1.size:Int))<=(f.2.1.size:Int))=true:=fun x=>dYT (by omega)
  rw [q82,k1,k2];simp only [cT,toNat_natCast,k3,g1,g2,mn,mx,k4,k5,m1,m2,Bool.and_self];by_cases hx:i < ls.length
  ·rw [dYT (show (i:Int) < (ls.length:Int) by omega),cT]
   exact fin _ (qv9 hx)
  ·rw [dYF (show ¬ (i:Int) < (ls.length:Int) by omega),cF]
   exact fin _ (qts hx)
theorem qj8 (d:List Fil) (hn:d.length<=1000000000) (ls:List Int) (hls:ls.length<=1000000000):qa8 d ls=some (loO d ls,()):=by
 rw [qiL,zP d hn,qd6 d hn];unfold loO;cases hd:dOkB d with
 | false=>rfl
 | true=>
  have:=qcL ls hls d 0 [] (qG.1 hd).2.1 rfl (by omega)
  rw [zero_add] at this;exact this
noncomputable def cuO (d:List Fil) (xs:List Act) (w:Int) (ls:List Int):List Fil×Bool:=match cutB d xs w ls with
 | some x=>(x,true)
 | none=>([],false)
theorem qoa {xs:List Act} (h:aSz xs) (n:Nat):aSz (xs.take n):=⟨Nat.le_trans (by rw [length_take]; omega) h.1,fun a ha=>h.2 a (List.mem_of_mem_take ha)⟩
theorem qtW (d:List Fil) (xs:List Act) (w:Int) (ls:List Int) (hw:0<=w/\w<=(xs.length:Int)):cuO d xs w ls=bif decide (((qR d (xs.take w.toNat)).2:Int) < w) then ([],false) else loO (qR d (xs.take w.toNat)).1 ls:=by
 have hle:=q6i (xs.take w.toNat) d;rw [length_take] at hle;unfold cuO cutB loO;by_cases h:((qR d (xs.take w.toNat)).2:Int) < w
 ·rw [dYT h,if_neg (by omega)]; rfl
 ·rw [dYF h];cases ho:dOkB (qR d (xs.take w.toNat)).1 with
  | false=>rw [if_neg (fun c=>by cases c.2.2.2)]; rfl
  | true=>rw [if_pos ⟨hw.1,hw.2,by omega,rfl⟩]; rfl
theorem qtZ (d:List Fil) (xs:List Act) (w:Int) (ls:List Int) (hw:¬ (0<=w/\w<=(xs.length:Int))):cuO d xs w ls=([],false):=by
 unfold cuO cutB;rw [if_neg (fun c=>hw ⟨c.1,c.2.1⟩)]
theorem qkf (d:List Fil) (hn:d.length<=2000000) (xs:List Act) (hs:aSz xs) (w:Int) (ls:List Int) (hls:ls.length<=1000000000):qbD d xs w ls=some (cuO d xs w ls,()):=by
 rw [qjR,q00,q0V];simp only [oB];by_cases hw:0<=w/\w<=(xs.length:Int)
 ·rw [qtW d xs w ls hw,dYT hw,dYT hw.1,dYT hw.2,show decide ((0:Int)<=0)=true from rfl]
  simp only [Bool.not_true,cF,Bool.and_self,cT];rw [show take (w.toNat - toNat 0) (drop (toNat 0) xs)=xs.take w.toNat from rfl,q8A d hn _ (qoa hs _)]
  simp only [oB];have:=qbK (xs.take w.toNat) d hn;rw [qj8 _ (by omega) ls hls]
  cases decide (((qR d (xs.take w.toNat)).2:Int) < w)<;>rfl
 ·rw [qtZ d xs w ls hw,dYF hw]; rfl
theorem qmU:∀ (d:List Fil) (ls:List Int),(q1m d ls).length=d.length
 | [],_=>rfl
 | f::d,ls=>by rw [qfR,length_cons,length_cons,qmU d]
theorem qh3 (d:List Fil) (xs:List Act) (w:Int) (ls:List Int):(cuO d xs w ls).1.length<=30:=by
 unfold cuO cutB;split
 ·rename_i x hx;split at hx
  ·rename_i h;rw [<- Option.some.inj hx,qmU];exact (qG.1 h.2.2.2).1
  ·cases hx
 ·exact zero_le _
noncomputable def beO (e:Eng) (xs:List Act) (w:Int) (ls:List Int):Eng×Bool:=bif (cuO e.1 xs w ls).2 then (bif (opO (cuO e.1 xs w ls).1 e.2.1).2.2 then ((opO (cuO e.1 xs w ls).1 e.2.1).1,true) else (noE,false)) else (noE,false)
theorem qdi (e:Eng) (hn:e.1.length<=2000000) (xs:List Act) (hs:aSz xs) (w:Int) (ls:List Int) (hls:ls.length<=1000000000):q5R e xs w ls=some (beO e xs w ls,()):=by
 rw [ql9,qkf e.1 hn xs hs w ls hls];simp only [oB];have hl:=qh3 e.1 xs w ls;rw [q04 _ (by omega)]
 unfold beO;simp only [oB];cases (cuO e.1 xs w ls).2<;>cases (opO (cuO e.1 xs w ls).1 e.2.1).2.2<;>rfl
theorem qnq (l:List Spt) (x:Spt) (hl:l.length<=1000000000):yC l x=some (decide (x∈l),()):=by
 rw [zA,zL];have hi:=q69 (fun i=>qL l (l.length:Int) i x.1 x.2.1 x.2.2.1 x.2.2.2) (fun y:Spt=>decide (x=y)) dS l (fun n=>some (n,()))
  (fun i hi=>by
   conv=>lhs; rw [yU]
   have e1:decide ((i:Int) < (l.length:Int))=true:=dYT (by omega)
   have e2:decide (0<=(i:Int))=true:=dYT (by omega)
   have e3:w64 ((i:Int)+1)=((i+1:Nat):Int):=qw (by omega)
   simp only [e1,e2,e3,Bool.and_self,cT,toNat_natCast,y8,qoN])
  (by
   show qL l (l.length:Int) (l.length:Int) x.1 x.2.1 x.2.2.1 x.2.2.2=_;rw [yU];simp only [Int.lt_irrefl,decide_false,cF])
 rw [hi];simp only [oB];congr 2
 rcases q6B (fun y:Spt=>decide (x=y)) l 0 with ⟨h1,h2⟩ | ⟨j,h1,h2,h3,_⟩
 ·rw [h1,dYF (by omega),eq_comm,dYF]
  intro hm;have:=h2 x hm;simp at this
 ·rw [h2,dYT (by omega),eq_comm,dYT]
  have e:=List.getElem?_eq_getElem h1;have:=of_decide_eq_true (h3 _ e);rw [this];exact List.getElem_mem h1
theorem qcm (e:Eng) (hdl:e.2.2.2.2.length<=1000000000) (n a:Nat) (b:Bat) (z:Int) (hb:b.2.length<=1000000):∀ (r:List Chg) (i:Nat) (acc:List Chg),b.2.drop i=r->i<=b.2.length->acc.length<=i->
  q1C (n:Int) acc b.2 (b.2.length:Int) (i:Int) e.1 e.2.1 e.2.2.1 e.2.2.2.1 e.2.2.2.2 b.1 b.2 (a:Int) z=some (acc++r.filter (q7J e.2.2.2.2 n (b,a)),())
 | [],i,acc,hd,hi,ha=>by
  have:=drop_eq_nil_iff.1 hd;rw [qas];have k1:decide ((i:Int) < (b.2.length:Int))=false:=dYF (by omega)
  simp only [k1,cF,List.filter_nil,append_nil]
 | c::r,i,acc,hd,hi,ha=>by
  obtain ⟨e1,hlt,e2⟩:=qK dC hd;have ih:=qcm e hdl n a b z hb r (i+1);rw [qas];have k1:decide ((i:Int) < (b.2.length:Int))=true:=dYT (by omega)
  have k2:decide (0<=(i:Int))=true:=dYT (by omega)
  have k4:w64 ((i:Int)+1)=((i+1:Nat):Int):=qw (by omega)
  have kl:lim (acc.length+1) 40=true:=qJ (by omega)
  rw [k1,k2];simp only [Bool.and_self,cT,k4,toNat_natCast,e1,pmk];rw [qnq _ _ hdl];simp only [oB];rw [kl,ih acc e2 hlt (by omega),ih (acc++[c]) e2 hlt (by rw [length_append,length_singleton]; omega),filter_cons]
  have hp:q7J e.2.2.2.2 n (b,a) c=(!c.2.2&&decide ((c.1,((n:Int),((a:Int),b.1)))∈e.2.2.2.2)):=rfl;rw [hp];cases !c.2.2 with
  | false=>rfl
  | true=>
   cases decide ((c.1,((n:Int),((a:Int),b.1)))∈e.2.2.2.2) with
   | false=>rfl
   | true=>
    simp only [Bool.and_self,cT,if_true];rw [append_assoc]; rfl
theorem qni (e:Eng) (hdl:e.2.2.2.2.length<=1000000000) (n a:Nat) (b:Bat) (z:Int) (hb:b.2.length<=1000000):q4c e (n:Int) (b,((a:Int),z))=some (yO e.2.2.2.2 n (b,a),()):=by
 rw [qmh,q8j];exact qcm e hdl n a b z hb b.2 0 [] rfl (zero_le _) (le_refl _)
theorem quT {α:Type} (l:List α):((l.length:Int)==0)=l.isEmpty:=by
 cases l with
 | nil=>rfl
 | cons a l=>rw [List.isEmpty_cons,beq_eq_false_iff_ne,length_cons]; omega
theorem qf6 (e:Eng) (hdl:e.2.2.2.2.length<=1000000000) (n:Nat) (x6 x6h:Nat) (x7:Int) (x61 x61h:Nat) (x62 x63:Int) (rr:List Int) (ps:List Pla) (hps:ps.length<=1000000):∀ (bs:List Bat) (a k:Nat) (acc:List Act),ps.drop k=plB a bs->k<=ps.length->(∀ b∈bs,batT b=true)->acc.length+bs.length<=1000000000->
  q1h x6 x6h x7 acc (n:Int) x61 x61h x62 x63 ps (ps.length:Int) (k:Int) e.1 e.2.1 e.2.2.1 e.2.2.2.1 e.2.2.2.2 rr=q0p x6 x6h x7 (acc++addA ((posB a bs).filterMap (j5 e.2.2.2.2 n))) x61 x61h x62 (w64 (x63+1)) e.1 e.2.1 e.2.2.1 e.2.2.2.1 e.2.2.2.2 rr
 | [],a,k,acc,hd,hk,hb,ha=>by
  have:=drop_eq_nil_iff.1 hd;rw [q6W];have k1:decide ((k:Int) < (ps.length:Int))=false:=dYF (by omega)
  simp only [k1,cF];show _=q0p x6 x6h x7 (acc++[]) _ _ _ _ _ _ _ _ _ _;rw [append_nil]
 | b::bs,a,k,acc,hd,hk,hb,ha=>by
  have hd':ps.drop k=(b,((a:Int),((batL b).length:Int)))::plB (a+(batL b).length) bs:=hd;obtain ⟨e1,hlt,e2⟩:=qK dP hd';have hb0:=hb b (mem_cons_self ..);rw [length_cons] at ha;have ih:=fun acc h=>qf6 e hdl n x6 x6h x7 x61 x61h x62 x63 rr ps hps bs (a+(batL b).length) (k+1) acc e2 hlt (fun x hx=>hb x (mem_cons_of_mem _ hx)) h
  rw [q6W];have k1:decide ((k:Int) < (ps.length:Int))=true:=dYT (by omega)
  have k2:decide (0<=(k:Int))=true:=dYT (by omega)
  have k4:w64 ((k:Int)+1)=((k+1:Nat):Int):=qw (by omega)
  have kl:lim (acc.length+1) 56=true:=qJ (by omega)
  rw [k1,k2];simp only [Bool.and_self,cT,k4,toNat_natCast,e1];have h40:=qcD hb0;have hto:q4c (e.1,(e.2.1,(e.2.2.1,(e.2.2.2.1,e.2.2.2.2)))) (n:Int) (b,((a:Int),((batL b).length:Int)))=some (yO e.2.2.2.2 n (b,a),()):=qni e hdl n a b _ (by omega)
  rw [hto];simp only [oB,quT];have hpos:posB a (b::bs)=(b,a)::posB (a+(batL b).length) bs:=rfl;cases he:(yO e.2.2.2.2 n (b,a)).isEmpty with
  | true=>
   rw [cT,ih acc (by omega),hpos,List.filterMap_cons]
   have:j5 e.2.2.2.2 n (b,a)=none:=by unfold j5; rw [he]; rfl
   rw [this]
  | false=>
   obtain ⟨q1,q2⟩:=qkb hb0 he;have hl:=qng e.2.2.2.2 n (b,a);have hl:(yO e.2.2.2.2 n (b,a)).length<=b.2.length:=hl;have q2:batT (b.1,yO e.2.2.2.2 n (b,a))=true:=q2;rw [cF,q5y _ (by show (yO _ _ _).length<=_; omega)]
   unfold btO;rw [if_pos q2];simp only [oB];have hfr:frO (bOf (bTL (b.1,yO e.2.2.2.2 n (b,a))))=(bOf (batL (b.1,yO e.2.2.2.2 n (b,a))),true):=q9C (q6R q2);rw [q44,hfr,kl];simp only [oB,cT];rw [ih _ (by rw [length_append,length_singleton]; omega),hpos,List.filterMap_cons,q1,append_assoc]
   rfl
theorem qqT (ns:List Nat) (hn:ns.length<=1000) (h:∀ n∈ns,n < 100):∀ (r:List Nat) (i:Nat) (acc:List Act),ns.drop i=r->i<=ns.length->acc.length<=1000000000+i->
  q2Y acc (natI ns) (ns.length:Int) (i:Int)=some ((acc++r.map fun n=>drA (nmL n),true),())
 | [],i,acc,hd,hi,ha=>by
  have:=drop_eq_nil_iff.1 hd;rw [q7q];have k1:decide ((i:Int) < (ns.length:Int))=false:=dYF (by omega)
  simp only [k1,cF,List.map_nil,append_nil]
 | n::r,i,acc,hd,hi,ha=>by
  obtain ⟨e1,hlt,e2⟩:=qK 0 hd;have hn100:=h n (yL hd);have hll:(natI ns).length=ns.length:=length_map ..;have eI:(natI ns).getD i 0=(n:Int):=by rw [zh hlt,e1]
  rw [q7q,hll];have k1:decide ((i:Int) < (ns.length:Int))=true:=dYT (by omega)
  have k2:decide (0<=(i:Int))=true:=dYT (by omega)
  have k4:w64 ((i:Int)+1)=((i+1:Nat):Int):=qw (by omega)
  have kl:lim (acc.length+1) 56=true:=qJ (by omega)
  rw [k1,k2];simp only [Bool.and_self,cT,k4,toNat_natCast,eI,wP,zl hn100,oB];rw [kl,cT,qqT ns hn h r (i+1) _ e2 hlt (by rw [length_append,length_singleton]; omega),append_assoc]
  rfl
section
variable {e:Eng} {ini:List Nat} {top act:Nat}
theorem qfa (C:Clean e.1 ((ini++[top])++[act])) (hdl:e.2.2.2.2.length<=1000000000):∀ (r:List Nat) (i:Nat) (acc:List Act),(ini++[top]).drop i=r->i<=(ini++[top]).length->acc.length<=20000 * i+1->
  q0p 0 (ini++[top]).length (top:Int) acc 0 (ini++[top]).length ((ini++[top]).length:Int) (i:Int) e.1 e.2.1 e.2.2.1 e.2.2.2.1 e.2.2.2.2 (natI ((ini++[top])++[act]))=some ((endA e ini top (acc++addA (yM e.1 e.2.2.2.2 r)),true),())
 | [],i,acc,hd,hi,ha=>by
  have:=drop_eq_nil_iff.1 hd;have hlen:=jU C.segs;have hol:(ini++[top]).length=ini.length+1:=by rw [length_append,length_singleton]
  have hll:((ini++[top])++[act]).length=ini.length+2:=by rw [length_append,length_singleton,hol]
  have htop:top < 100:=(C.mem.1 (by simp)).1
  rw [q7i,hol];have k1:decide ((i:Int) < ((ini.length+1:Nat):Int))=false:=dYF (by omega)
  have w1:w64 (((ini.length+1 - 0:Nat):Int) - 1)=((ini.length:Nat):Int):=(qg (by omega) (by omega)).trans (by omega)
  have kl:lim (acc.length+2) 56=true:=qJ (by omega)
  rw [k1,w1,cF,wP,zl htop];simp only [oB];rw [kl,show decide ((0:Int)<=0)=true from rfl,dYT (show (0:Int)<=(ini.length:Int) by omega),dYT (show ((ini.length:Nat):Int)<=((ini.length+1 - 0:Nat):Int) by omega)]
  simp only [Bool.and_self,cT,toNat_natCast];have htk:take (0+ini.length - (0+toNat 0)) (drop (0+toNat 0) (natI ((ini++[top])++[act])))=natI ini:=by
   show take (0+ini.length) (natI ((ini++[top])++[act]))=natI ini;rw [zero_add];unfold natI;rw [append_assoc,List.map_append];have:(map (fun n:Nat=>(n:Int)) ini).length=ini.length:=length_map ..
   rw [<- this,List.take_left]
  have hln:((0+ini.length - (0+toNat 0):Nat):Int)=((ini.length:Nat):Int):=by
   show ((0+ini.length:Nat):Int)=_;rw [zero_add]
  rw [htk,hln];refine (qqT ini (by omega) (fun n hn=>(C.mem.1 (by simp [hn])).1) ini 0 _ rfl (zero_le _) (by rw [length_append]; simp only [length_cons,List.length_nil]; omega)).trans ?_
  unfold endA yM addA;rw [List.flatMap_nil,List.map_nil,append_nil,append_assoc]; rfl
 | n::r,i,acc,hd,hi,ha=>by
  obtain ⟨e1,hlt,e2⟩:=qK 0 hd;have hlen:=jU C.segs;have hol:(ini++[top]).length=ini.length+1:=by rw [length_append,length_singleton]
  have hll:((ini++[top])++[act]).length=ini.length+2:=by rw [length_append,length_singleton,hol]
  have hnl:n∈(ini++[top])++[act]:=List.mem_append_left _ (yL hd);have hn:=(C.mem.1 hnl).1;have hh:=(C.mem.1 hnl).2.1;have hl30:=C.len;have eI:(natI ((ini++[top])++[act])).getD (0+i) 0=(n:Int):=by
   rw [zero_add,zh (by omega),List.getD_eq_getElem?_getD,List.getElem?_append_left hlt,<- List.getD_eq_getElem?_getD,e1]
  rw [q7i];have k1:decide ((i:Int) < ((ini++[top]).length:Int))=true:=dYT (by omega)
  have k2:decide (0<=(i:Int))=true:=dYT (by omega)
  have k3:decide ((i:Int) < (((ini++[top]).length - 0:Nat):Int))=true:=dYT (by omega)
  have k4:w64 ((i:Int)+1)=((i+1:Nat):Int):=qw (by omega)
  rw [k1,k2,k3];simp only [Bool.and_self,cT,toNat_natCast,eI,wP,zl hn,oB];rw [q05 e.1 (by omega)]
  simp only [oB];rw [q5J n (by omega)]
  simp only [oB,qgQ hn hh];have hbl:=q1X e.1 (show n<=99 by omega)
  have hz:=qdO (batD e.1 n) (wo e.1 n);have hi100:i<=100:=by omega
  refine (qf6 e hdl n _ _ _ _ _ _ _ _ (plB (wo e.1 n) (batD e.1 n)) (by omega) (batD e.1 n) (wo e.1 n) 0 acc rfl (zero_le _) q4f (by omega)).trans ?_
  rw [k4];have hkl:=qiR e.1 e.2.2.2.2 n (by omega)
  have hkN:(posB (wo e.1 n) (batD e.1 n)).filterMap (j5 e.2.2.2.2 n)=q3A e.1 e.2.2.2.2 n:=rfl;rw [hkN];refine (qfa C hdl r (i+1) _ e2 hlt (by rw [length_append,qoT]; omega)).trans ?_
  have:yM e.1 e.2.2.2.2 (n::r)=q3A e.1 e.2.2.2.2 n++yM e.1 e.2.2.2.2 r:=rfl;rw [this,qpv,append_assoc]
end
theorem q5w (e:Eng) (hn:e.1.length<=2000000):q1E e=some (maO e,()):=by
 rw [qhr,q0L e.1 (by omega),q0H e hn]
 simp only [oB];by_cases h:eOkP e
 ·obtain ⟨r1,r2,C,hact,hq,hdir,_⟩:=jJ h;have hsg:sgO e.1=(natI (segN e.1),true):=by unfold sgO; rw [C.segs]
  have hll:(natI (segN e.1)).length=(segN e.1).length:=length_map ..;rw [dYT h,hsg];simp only [Bool.not_true,cF,hll];by_cases h2:2<=(segN e.1).length
  ·rw [dYF (show ¬ ((segN e.1).length:Int) < 2 by omega),cF]
   obtain ⟨ini,top,act,hl⟩:=qdj h2;rw [q6A h hl];rw [hl] at C hdir ⊢;have hlen:=jU C.segs;have hol:(ini++[top]).length=ini.length+1:=by rw [length_append,length_singleton]
   have hls:((ini++[top])++[act]).length=ini.length+2:=by rw [length_append,length_singleton,hol]
   have htop:top < 100:=(C.mem.1 (by simp)).1
   have w1:w64 ((((ini++[top])++[act]).length:Int) - 1)=((ini.length+1:Nat):Int):=(qg (by omega) (by omega)).trans (by omega)
   rw [w1];have t0:toNat 0=0:=rfl;have w2:w64 ((((toNat ((ini.length+1:Nat):Int)) - toNat 0:Nat):Int) - 1)=((ini.length:Nat):Int):=by
    rw [toNat_natCast,t0];exact (qg (by omega) (by omega)).trans (by omega)
   rw [w2];simp only [toNat_natCast,t0];rw [show decide ((0:Int)<=0)=true from rfl,dYT (show (0:Int)<=((ini.length+1:Nat):Int) by omega),dYT (show ((ini.length+1:Nat):Int)<=(((ini++[top])++[act]).length:Int) by omega),dYT (show (0:Int)<=((ini.length:Nat):Int) by omega),dYT (show ((ini.length:Nat):Int) < ((ini.length+1 - 0:Nat):Int) by omega)]
   simp only [Bool.and_self,cT];have eT:(natI ((ini++[top])++[act])).getD (0+ini.length) 0=(top:Int):=by
    rw [zero_add,zh (by omega),List.getD_eq_getElem?_getD,List.getElem?_append_left (by omega),List.getElem?_append_right (le_refl _),Nat.sub_self]; rfl
   rw [eT,q6j];simp only [oB];have hht:htO (top:Int) (top:Int)=(bOf (qU top top),true):=by
    unfold htO;rw [if_pos (by omega)]; rfl
   rw [hht];obtain ⟨_,f2,_⟩:=q6w h;have:=qfa C (by omega) (ini++[top]) 0 [adA qB (bOf (qU top top))] rfl (zero_le _) (le_refl _)
   rw [qkl e _ hdir,hol] at this;exact this
  ·rw [dYT (show ((segN e.1).length:Int) < 2 by omega),cT,q9i (fun c=>h2 c.2)]
 ·rw [dYF h,q9i (fun c=>h c.1)]; rfl
theorem qf0 (e:Eng) (xs:List Act) (hs:aSz xs):∀ (r:List Act) (i:Nat) (d:List Fil),xs.drop i=r->i<=xs.length->d.length<=2000000->
  q5Z (xs.length:Int) (i:Int) e.1 e.2.1 e.2.2.1 e.2.2.2.1 e.2.2.2.2 [] 0 0 0 [] xs d=some (finM e.2.1 xs (goM e.2.1 d r),())
 | [],i,d,hd,hi,hl=>by
  have:=drop_eq_nil_iff.1 hd;rw [qbu];have k1:decide ((i:Int) < (xs.length:Int))=false:=dYF (by omega)
  simp only [k1,cF];rw [q04 d hl];simp only [oB];show _=some (finM e.2.1 xs (some d),());rw [qnh];cases (opO d e.2.1).2.2<;>rfl
 | a::r,i,d,hd,hi,hl=>by
  obtain ⟨e1,hlt,e2⟩:=qK dA hd;have hsz:=hs.2 a (yL hd);rw [qbu];have hs1:=hs.1;have k1:decide ((i:Int) < (xs.length:Int))=true:=dYT (by omega)
  have k2:decide (0<=(i:Int))=true:=dYT (by omega)
  have k4:w64 ((i:Int)+1)=((i+1:Nat):Int):=qw (by omega)
  rw [k1,k2];simp only [Bool.and_self,cT,k4,toNat_natCast,e1,pmk];rw [qf7 d hl a hsz];simp only [oB];rcases qcy d a with ⟨h1,h2⟩ | ⟨d',h1,h2⟩
  ·rw [h2];have:goM e.2.1 d (a::r)=none:=by simp only [goM,h1]
   rw [this]; rfl
  ·rw [h2];have ho:=(qh6 h1).2.1;have:goM e.2.1 d (a::r)=bif decide ((yR d':Int) > e.2.1) then none else goM e.2.1 d' r:=by simp only [goM,h1]
   rw [this];simp only [Bool.not_true,cF];rw [qeq ho];simp only [oB];rw [qf0 e xs hs r (i+1) d' e2 hlt (qaW h1)];cases decide ((yR d':Int) > e.2.1)<;>rfl
theorem qac (e:Eng) (hn:e.1.length<=2000000):q5e e=some (meO e,()):=by
 rw [qnn,q5w e hn];simp only [oB];unfold meO;cases (maO e).2 with
 | false=>rfl
 | true=>
  simp only [Bool.not_true,cF,cT];exact qf0 e (maO e).1 (qsQ e) (maO e).1 0 e.1 rfl (zero_le _) hn
theorem qju {d:List Fil} {l ini:List Nat} {top act:Nat} (C:Clean d l) (hl:l=(ini++[top])++[act]):(jd d l ini top).length<=3000000:=by
 have hlen:=jU C.segs;have hls:l.length=ini.length+2:=by rw [hl,length_append,length_append,length_singleton,length_singleton]
 have hold:∀ n∈ini++[top],n∈l:=fun n hn=>by rw [hl]; exact List.mem_append_left _ hn
 have hkl:=qgH (d:=d) (dir:=dirD d l) (old:=ini++[top]) fun n hn=>(C.mem.1 (hold n hn)).1
 rw [length_append,length_singleton] at hkl;unfold jd;simp only [length_append,length_cons,length_map]; omega
theorem qqq (e:Eng):(maO e).1.length<=3000000:=by
 by_cases h:eOkP e/\2<=(segN e.1).length
 ·obtain ⟨_,_,C,_⟩:=jJ h.1;obtain ⟨ini,top,act,hl⟩:=qdj h.2;rw [q6A h.1 hl];rw [hl] at C;exact qju C rfl
 ·rw [q9i h]; exact zero_le _
theorem qqu {room:Int}:∀ {xs:List Act} {d x:List Fil},d.length<=2000000->goM room d xs=some x->x.length<=2000000
 | [],d,x,h,e=>by
  have:d=x:=Option.some.inj e;rw [<- this]; exact h
 | a::r,d,x,h,e=>by
  simp only [goM] at e;split at e
  ·cases e
  ·rename_i d' h';cases hc:decide ((yR d':Int) > room) with
   | true=>rw [hc] at e; cases e
   | false=>rw [hc] at e; exact qqu (qaW h') e
theorem qtU (e:Eng) (h:e.1.length<=2000000):SmE (meO e).1/\(meO e).2.1.length<=3000000:=by
 unfold meO;have hl:=qqq e;cases (maO e).2 with
 | false=>exact ⟨q8Y,zero_le _⟩
 | true=>
  rw [cT];cases hg:goM e.2.1 e.1 (maO e).1 with
  | none=>exact ⟨q8Y,zero_le _⟩
  | some d=>
   show SmE (bif _ then _ else _:Eng×List Act×Bool).1/\(bif _ then _ else _:Eng×List Act×Bool).2.1.length<=3000000
   cases (opO d e.2.1).2.2 with
   | false=>exact ⟨q8Y,zero_le _⟩
   | true=>exact ⟨qoV d (qqu h hg) _,hl⟩
end Go.Den.S
namespace Go.Den.S
open Go Go.Den
set_option maxRecDepth 4000
theorem qhI:∀ (m i:Nat) (p:List Int) (c:Cur),m+i=12->p.length=i->(∀ x∈p,0<=x/\x<=9999)->Cu c->∃ q,q2E p (i:Int) c.1 c.2.1 c.2.2=some (q,())/\q.length=12/\∀ x∈q,0<=x/\x<=9999
 | 0,i,p,c,hm,hp,ha,hc=>by
  rw [q6E];simp only [dYF (show ¬ (i:Int) < 12 by omega),cF]
  exact ⟨p,rfl,by omega,ha⟩
 | m+1,i,p,c,hm,hp,ha,hc=>by
  obtain ⟨x,c1,e1,a1,b1,k1⟩:=qbB hc 10000 (by omega) (by omega)
  have e1:q0A (c.1,(c.2.1,c.2.2)) 10000=some (x,(c1,())):=e1;rw [q6E];simp only [dYT (show (i:Int) < 12 by omega),cT,e1,oB,qJ (show (p.length+1) * 8<=140737488355328 by omega),show w64 ((i:Int)+1)=((i+1:Nat):Int) from qw (by omega)]
  exact qhI m (i+1) _ c1 (by omega) (by simp [hp]) (fun y hy=>by
   rcases mem_append.1 hy with hy | hy
   ·exact ha y hy
   ·rw [mem_singleton] at hy; subst hy; omega) k1
theorem qf5 (code:List Int) (hl:code.length<=1048576):∃ p:List Int,q4u code=some (p,())/\p.length=12/\∀ x∈p,0<=x/\x<=9999:=by
 obtain ⟨c,e,k⟩:=qsR code hl;obtain ⟨x,c1,e1,_,_,k1⟩:=q6c k;rw [qga,e];simp only [oB,e1];exact qhI 12 0 [] c1 rfl rfl (fun x h=>by cases h) k1
end Go.Den.S
namespace Go.Den.S
open Go Go.Den
open Classical
set_option maxRecDepth 4000
theorem qks (p:List Int) (hp:p.length=12):∀ (m i:Nat) (l:List Int),m+i=6->l.length=i->∃ ls,q5W p l (i:Int)=some (ls,())/\ls.length=6
 | 0,i,l,hm,hl=>by
  rw [qbP];simp only [dYF (show ¬ (i:Int) < 6 by omega),cF]
  exact ⟨l,rfl,by omega⟩
 | m+1,i,l,hm,hl=>by
  rw [qbP];simp only [dYT (show (i:Int) < 6 by omega),cT,hp,dYT (show (0:Int)<=(i:Int) by omega),dYT (show (i:Int) < ((12:Nat):Int) by omega),Bool.and_self,qJ (show (l.length+1) * 8<=140737488355328 by omega),show w64 ((i:Int)+1)=((i+1:Nat):Int) from qw (by omega)]
  exact qks p hp m (i+1) _ (by omega) (by rw [length_append,length_singleton]; omega)
theorem qo5 (p:List Int) (hp:p.length=12):∃ ls,qaV p=some (ls,())/\ls.length=6:=by
 rw [qnM];exact qks p hp 6 0 [] rfl rfl
theorem qoX {p:List Int} (hp:p.length=12) (hr:∀ x∈p,0<=x/\x<=9999) (n:Nat) (hn:n<=1000000000):(decide ((0:Int)<=11)&&decide (11 < (p.length:Int)))=true/\(w64 ((n:Int)+1) != 0)=true/\∃ k:Nat,k<=n/\tmod (p.getD (toNat 11) 0) (w64 ((n:Int)+1))=(k:Int):=by
 have w:w64 ((n:Int)+1)=((n+1:Nat):Int):=qw (by omega)
 have hm:p.getD (toNat 11) 0∈p:=q8g (by rw [hp]; decide)
 obtain ⟨a1,a2⟩:=hr _ hm;obtain ⟨t1,t2⟩:=qdn (x:=p.getD (toNat 11) 0) (n:=((n+1:Nat):Int)) a1 (by omega)
 rw [w,hp];exact ⟨rfl,bneZ (by omega),(tmod (p.getD (toNat 11) 0) ((n+1:Nat):Int)).toNat,by omega,by omega⟩
theorem qnG (code:List Int):qbw code=some (true,()):=by
 rw [qfw,qod,oB];by_cases hL:(code.length:Int) > 1048576
 ·simp only [dYT hL,cT]
 simp only [dYF hL,cF];obtain ⟨e,cs,hdr,R,G⟩:=qbJ code (by omega)
 obtain ⟨r1,r2,C,_,hq,_,he⟩:=jJ R.ok;have hn:=R.len2 (by omega)
 rw [hdr];simp only [oB];rw [q5w e hn];simp only [oB];rw [q5x e hn];simp only [oB,beq_self_eq_true,Bool.not_true,cF];by_cases h2:2<=(segN e.1).length
 ·obtain ⟨i,top,act,hl⟩:=qdj h2;have hma:=q6A R.ok hl;rw [<- hl] at hma;have hml:=qju C hl;obtain ⟨p,hpl,hp12,hpr⟩:=qf5 code (by omega)
  obtain ⟨ls,hls,hl6⟩:=qo5 p hp12;obtain ⟨g1,g2,k,hk,g3⟩:=qoX hp12 hpr (jd e.1 (segN e.1) i top).length (by omega)
  rw [hma,hpl];simp only [oB,g1,g2,g3,hls,cT,Bool.not_true,cF];have hsz:=qmJ C hl;have hmt:=qrL C hl;have hrm:=R.room;obtain ⟨y,hy,more,x',l'',o1,o2,o3,o4⟩:=qsP C hl (by have:=R.len; omega) (by omega) hk ls r1 r2
  have hcu:cuO e.1 (jd e.1 (segN e.1) i top) (k:Int) ls=(y,true):=by unfold cuO; rw [hy]
  have hop:opO y e.2.1=(mkE x' x' e.2.1 l'',(more,true)):=by unfold opO; rw [o1]
  have hbe:beO e (jd e.1 (segN e.1) i top) (k:Int) ls=(mkE x' x' e.2.1 l'',true):=by
   unfold beO;rw [hcu];simp only [cT];rw [hop]; rfl
  have hxl:=o3.len;have hxe:(mkE x' x' e.2.1 l'').1=x':=rfl;have hok:eOkP (mkE x' x' e.2.1 l''):=q6a.2 ⟨r1,r2,l'',o3,rfl⟩;rw [qdi e hn _ hsz _ ls (by omega),hbe]
  simp only [oB];rw [jS e hn,qlH R.ok];simp only [oB];rw [jS _ (by rw [hxe]; omega),qdy o3 r1 r2]
  simp only [oB,Bool.not_true,cF];have hcl0:=qbi C;have o4:conD x' l''=conD e.1 (segN e.1):=o4;rw [o4,q1A _ _ (by rw [q17]; omega)]
  simp only [oB,decide_true,Bool.not_true,cF];rw [qac _ (by rw [hxe]; omega)]
  simp only [oB];have hsm:=(qtU (mkE x' x' e.2.1 l'') (by rw [hxe]; omega)).1.f
  rw [jS _ hsm];simp only [oB];cases hm:(meO (mkE x' x' e.2.1 l'')).2.2 with
  | false=>rfl
  | true=>
   obtain ⟨i',top',act',z,q1,q2,q3,_,_,_,_,_,_,q9⟩:=qfT hok hm;rw [q9];simp only [Bool.not_true,cF];rw [qdy q2 (room:=(mkE x' x' e.2.1 l'').2.1) r1 r2];simp only [cT];have hsn:segN (mkE x' x' e.2.1 l'').1=l'':=qeF o3;rw [q3,hsn];show ((zD _ (chgs (conD x' l''))).bind fun r15=>some (r15.1,()))=_
   rw [o4,q1A _ _ (by rw [q17]; omega)]
   simp only [oB,decide_true]
 ·have hno:=q9i fun c:eOkP e/\2<=(segN e.1).length=>h2 c.2
  rw [hno]; rfl
end Go.Den.S
