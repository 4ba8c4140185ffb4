/- MidD: equations of the functions of this seat as the executor tells them, or plain facts about them. Conditions: none here. -/
import Derived.Test.YthejgmhimclmdaaGreatDoorEhQ
import Derived.Test.YthejgmhimclmdaaGreatDoorEqD0
import Derived.Test.YthejgmhimclmdaaGreatDoorEqD1
import Derived.Test.YthejgmhimclmdaaGreatDoorLawH
set_option linter.all false
open Bool (and_eq_true)
open ByteArray (size toList)
open Int (tdiv tmod toNat toNat_natCast)
open List (append_assoc append_nil drop drop_eq_nil_iff filterMap_cons filter_cons flatMap_cons flatMap_nil getD length length_append length_cons length_filter_le length_map length_singleton map map_append map_cons map_map map_nil mem_append mem_append_left mem_cons mem_cons_of_mem mem_cons_self mem_filter mem_flatMap mem_map mem_singleton pairwise_cons take)
open Nat (le_refl le_trans zero_add zero_le)
open Option (isSome_iff_exists)
namespace Go.Den.S
open Go Go.Den Go.Proofs
abbrev qV:Type:=((List Int)×(Int×Int))
noncomputable section
def jR (a0:qp):Option (((List qd)×Bool)×Unit):=DF X 14 ((a0,()):(qp)×Unit)
def q3J (x4:(List qd)) (x5:Int) (b0_0:q8) (b0_1:Int) (b0_2:Int) (b0_3:Int) (b0_4:(List qh)):Option (((List qd)×Bool)×Unit):=qA X 14 0 [] (mkSt 43 [(1,.sv (.ptr 0 0)),(4,.sv (.own 1000004)),(5,.sv (.int .i64 x5))] [(1000004,.live (.row qx x4 0)),(2000000,.gone),(2000004,.gone),(0,.live (.box [(.lst qj b0_0),(.int .i64 b0_1),(.int .i64 b0_2),(.int .i64 b0_3),(.lst qC b0_4)]))])
def qbW (a0:(List Int)):Option (Bool×Unit):=DF X 22 ((a0,()):((List Int))×Unit)
def q0e (a0:(List Int)):Option ((qp×(List qd))×Unit):=DF X 23 ((a0,()):((List Int))×Unit)
def q3b (a0:qp):Option (((List qz)×Bool)×Unit):=DF X 25 ((a0,()):(qp)×Unit)
def q0s (x7:(List Int)) (x8:Int) (x11:(List qz)) (x12:Int) (b0_0:q8) (b0_1:Int) (b0_2:Int) (b0_3:Int) (b0_4:(List qh)):Option (((List qz)×Bool)×Unit):=qA X 25 0 [] (mkSt 180 [(1,.sv (.ptr 0 0)),(7,.sv (.own 1000007)),(8,.sv (.int .i64 x8)),(11,.sv (.own 1000011)),(12,.sv (.int .i64 x12))] [(1000007,.live (.row I x7 0)),(1000011,.live (.row qY x11 0)),(2000000,.gone),(2000004,.gone),(0,.live (.box [(.lst qj b0_0),(.int .i64 b0_1),(.int .i64 b0_2),(.int .i64 b0_3),(.lst qC b0_4)]))])
def q1k (x7:(List Int)) (x8:Int) (x11:(List qz)) (x12:Int) (x16:(List qQ)) (x21:Int) (x22:Int) (b0_0:q8) (b0_1:Int) (b0_2:Int) (b0_3:Int) (b0_4:(List qh)):Option (((List qz)×Bool)×Unit):=qA X 25 2 [0] (mkSt 180 [(1,.sv (.ptr 0 0)),(7,.sv (.own 1000007)),(8,.sv (.int .i64 x8)),(11,.sv (.own 1000011)),(12,.sv (.int .i64 x12)),(16,.sv (.lst wZ x16)),(21,.sv (.int .i64 x21)),(22,.sv (.int .i64 x22))] [(1000007,.live (.row I x7 0)),(1000011,.live (.row qY x11 0)),(1000016,.gone),(2000000,.gone),(2000004,.gone),(0,.live (.box [(.lst qj b0_0),(.int .i64 b0_1),(.int .i64 b0_2),(.int .i64 b0_3),(.lst qC b0_4)]))])
def q35 (x7:(List Int)) (x11:(List qz)) (x27:Int):Option (((List qz)×Bool)×Unit):=qA X 25 4 [] (mkSt 180 [(7,.sv (.own 1000007)),(11,.sv (.own 1000011)),(27,.sv (.int .i64 x27))] [(1000007,.live (.row I x7 0)),(1000011,.live (.row qY x11 0))])
def zD (a0:(List qd)) (a1:(List qd)):Option (Bool×Unit):=DF X 29 ((a0,a1,()):((List qd))×((List qd))×Unit)
def q23 (x0:(List qd)) (x1:(List qd)) (x5:Int):Option (Bool×Unit):=qA X 29 0 [] (mkSt 26 [(0,.sv (.lst qx x0)),(1,.sv (.lst qx x1)),(5,.sv (.int .i64 x5))] [(1000000,.gone),(1000001,.gone)])
def q2d (a0:qp) (a1:(List qd)):Option ((qp×(List qz)×Int)×Unit):=DF X 35 ((a0,a1,()):(qp)×((List qd))×Unit)
def q3C (a0:qp):Option ((qp×(List qz)×Bool)×Unit):=DF X 41 ((a0,()):(qp)×Unit)
def q65 (x5:(List qz)) (x8:Int) (b0_0:q8) (b0_1:Int) (b0_2:Int) (b0_3:Int) (b0_4:(List qh)) (b16_0:q8) (b16_1:Int) (b16_2:Int) (b16_3:Int) (b16_4:(List qh)) (b_e_0:q8):Option ((qp×(List qz)×Bool)×Unit):=qA X 41 0 [] (mkSt 66 [(1,.sv (.ptr 0 0)),(2,.sv (.ptr 16 0)),(5,.sv (.own 1000005)),(7,.sv (.ptr 4128 0)),(8,.sv (.int .i64 x8))] [(1000005,.live (.row qY x5 0)),(2000000,.gone),(2000004,.gone),(0,.live (.box [(.lst qj b0_0),(.int .i64 b0_1),(.int .i64 b0_2),(.int .i64 b0_3),(.lst qC b0_4)])),(2001024,.live (.row qj b16_0 0)),(2001028,.live (.row qC b16_4 0)),(16,.live (.box [(.own 2001024),(.int .i64 b16_1),(.int .i64 b16_2),(.int .i64 b16_3),(.own 2001028)])),(2264192,.gone),(4128,.live (.box [(.lst qj b_e_0)]))])
def q5A (a0:Int):Option ((qp×Bool)×Unit):=DF X 61 ((a0,()):(Int)×Unit)
def qbE (a0:q8) (a1:qh):Option ((BA×Bool)×Unit):=DF X 69 ((a0,a1,()):(q8)×(qh)×Unit)
def q2p (x8:Int) (b16_0:BA) (b16_1:Int) (b16_2:Int) (b16_3:Int) (b_j_0:Int) (b_j_1:(List qd)):Option ((BA×Bool)×Unit):=qA X 69 0 [] (mkSt 61 [(3,.sv (.ptr 16 0)),(6,.sv (.ptr 3216 0)),(8,.sv (.int .i64 x8))] [(16,.live (.box [(.str b16_0),(.int .i64 b16_1),(.int .i64 b16_2),(.int .i64 b16_3)])),(2205825,.live (.row qx b_j_1 0)),(3216,.live (.box [(.int .i64 b_j_0),(.own 2205825)]))])
def q8T (a0:(List Int)):Option (qV×Unit):=DF X 79 ((a0,()):((List Int))×Unit)
def q56 (x0:(List Int)) (x3:Int) (x4:Int):Option (qV×Unit):=qA X 79 0 [] (mkSt 32 [(0,.sv (.lst (.int .u8) x0)),(3,.sv (.int .i64 x3)),(4,.sv (.int .i64 x4))] [(1000000,.gone)])
def q8u (a0:qV) (a1:(List Int)):Option (qp×(qV×Unit)):=DF X 80 ((a0,a1,()):(qV)×((List Int))×Unit)
def yV (x7:Int) (x8:Int) (b_k_0:(List Int)) (b_k_1:Int) (b_k_2:Int) (b0_0:q8) (b0_1:Int) (b0_2:Int) (b0_3:Int) (b0_4:(List qh)) (b_l_0:q8) (b_l_1:Int) (b_l_2:Int) (b_l_3:Int) (b_l_4:(List qh)):Option (qp×(qV×Unit)):=qA X 80 0 [] (mkSt 55 [(0,.sv (.ptr 3000000 0)),(4,.sv (.ptr 0 0)),(5,.sv (.ptr 1136 0)),(7,.sv (.int .i64 x7)),(8,.sv (.int .i64 x8))] [(194000000,.gone),(3000000,.live (.box [(.lst (.int .u8) b_k_0),(.int .i64 b_k_1),(.int .i64 b_k_2)])),(2000000,.live (.row qj b0_0 0)),(2000004,.live (.row qC b0_4 0)),(0,.live (.box [(.own 2000000),(.int .i64 b0_1),(.int .i64 b0_2),(.int .i64 b0_3),(.own 2000004)])),(2072704,.live (.row qj b_l_0 0)),(2072708,.live (.row qC b_l_4 0)),(1136,.live (.box [(.own 2072704),(.int .i64 b_l_1),(.int .i64 b_l_2),(.int .i64 b_l_3),(.own 2072708)]))])
def q4H (a0:qV):Option ((List qd)×(qV×Unit)):=DF X 81 ((a0,()):(qV)×Unit)
def q13 (x3:(List qd)) (x4:(List BA)) (x5:Int) (b_k_0:(List Int)) (b_k_1:Int) (b_k_2:Int):Option ((List qd)×(qV×Unit)):=qA X 81 0 [] (mkSt 50 [(0,.sv (.ptr 3000000 0)),(3,.sv (.own 1000003)),(4,.sv (.own 1000004)),(5,.sv (.int .i64 x5))] [(1000003,.live (.row qx x3 0)),(1000004,.live (.row .str x4 0)),(194000000,.gone),(3000000,.live (.box [(.lst (.int .u8) b_k_0),(.int .i64 b_k_1),(.int .i64 b_k_2)]))])
def qbl (a0:(List qh)) (a1:Int) (a2:Int):Option (Bool×Unit):=DF X 94 ((a0,a1,a2,()):((List qh))×(Int)×(Int)×Unit)
def q2l (x0:(List qh)) (x1:Int) (x2:Int) (x7:Int):Option (Bool×Unit):=qA X 94 0 [] (mkSt 30 [(0,.sv (.lst qC x0)),(1,.sv (.int .i64 x1)),(2,.sv (.int .i64 x2)),(7,.sv (.int .i64 x7))] [(1000000,.gone)])
def qbs (a0:(List qh)) (a1:qQ) (a2:Int) (a3:Int):Option ((List qd)×Unit):=DF X 96 ((a0,a1,a2,a3,()):((List qh))×(qQ)×(Int)×(Int)×Unit)
def q2D (x0:(List qh)) (x2:Int) (x3:Int) (x9:(List qd)) (x10:Int) (b0_0:Int) (b0_1:(List qd)):Option ((List qd)×Unit):=qA X 96 0 [] (mkSt 65 [(0,.sv (.lst qC x0)),(2,.sv (.int .i64 x2)),(3,.sv (.int .i64 x3)),(5,.sv (.ptr 0 0)),(9,.sv (.own 1000009)),(10,.sv (.int .i64 x10))] [(1000000,.gone),(1000009,.live (.row qx x9 0)),(2000001,.gone),(0,.live (.box [(.int .i64 b0_0),(.lst qx b0_1)]))])
def q0o (x0:(List qh)) (x2:Int) (x3:Int) (x9:(List qd)) (x10:Int) (x11:Int) (b0_0:Int) (b0_1:(List qd)):Option ((List qd)×Unit):=qA X 96 2 [0] (mkSt 65 [(0,.sv (.lst qC x0)),(2,.sv (.int .i64 x2)),(3,.sv (.int .i64 x3)),(5,.sv (.ptr 0 0)),(9,.sv (.own 1000009)),(10,.sv (.int .i64 x10)),(11,.sv (.int .i64 x11))] [(1000000,.gone),(1000009,.live (.row qx x9 0)),(2000001,.gone),(0,.live (.box [(.int .i64 b0_0),(.lst qx b0_1)]))])
def jK (a0:qV):Option (Int×(qV×Unit)):=DF X 99 ((a0,()):(qV)×Unit)
def q0A (a0:qV) (a1:Int):Option (Int×(qV×Unit)):=DF X 100 ((a0,a1,()):(qV)×(Int)×Unit)
def q4L (a0:q8):Option (Int×Unit):=DF X 103 ((a0,()):(q8)×Unit)
def q4y (x3:Int) (x7:q8) (x8:Int) (x9:Int):Option (Int×Unit):=qA X 103 0 [] (mkSt 20 [(3,.sv (.int .i64 x3)),(7,.sv (.lst qj x7)),(8,.sv (.int .i64 x8)),(9,.sv (.int .i64 x9))] [(1000007,.gone)])
def q0S (a0:q8):Option (Int×Unit):=DF X 108 ((a0,()):(q8)×Unit)
def q4w (x3:Int) (x4:Int) (b0_0:q8):Option (Int×Unit):=qA X 108 0 [] (mkSt 22 [(1,.sv (.ptr 0 0)),(3,.sv (.int .i64 x3)),(4,.sv (.int .i64 x4))] [(2000000,.gone),(0,.live (.box [(.lst qj b0_0)]))])
def qa0 (a0:q8) (a1:Int) (a2:Int):Option ((qQ×Bool)×Unit):=DF X 148 ((a0,a1,a2,()):(q8)×(Int)×(Int)×Unit)
def q1N (a0:qV) (a1:Int):Option (Bool×(qV×Unit)):=DF X 157 ((a0,a1,()):(qV)×(Int)×Unit)
def q4J (a0:qV) (a1:Int):Option (BA×(qV×Unit)):=DF X 158 ((a0,a1,()):(qV)×(Int)×Unit)
def q2u (x1:Int) (x5:(List Int)) (x6:Int) (b_k_0:(List Int)) (b_k_1:Int) (b_k_2:Int):Option (BA×(qV×Unit)):=qA X 158 0 [] (mkSt 23 [(0,.sv (.ptr 3000000 0)),(1,.sv (.int .i64 x1)),(5,.sv (.own 1000005)),(6,.sv (.int .i64 x6))] [(1000005,.live (.row (.int .u8) x5 0)),(194000000,.gone),(3000000,.live (.box [(.lst (.int .u8) b_k_0),(.int .i64 b_k_1),(.int .i64 b_k_2)]))])
def qcS (a0:qV):Option (BA×(qV×Unit)):=DF X 159 ((a0,()):(qV)×Unit)
def q7A (a0:qV) (a1:(List BA)):Option (BA×(qV×Unit)):=DF X 230 ((a0,a1,()):(qV)×((List BA))×Unit)
end
theorem qiM (a0:qp):jR a0=((q3V a0).bind fun r3=>bif (!r3.1) then some (([],false),()) else q3J [] 0 a0.1 a0.2.1 a0.2.2.1 a0.2.2.2.1 a0.2.2.2.2:Option (((List qd)×Bool)×Unit)):=(qo X rfl _).trans (by kernel_rfl)
theorem q7Z (x4:(List qd)) (x5:Int) (b0_0:q8) (b0_1:Int) (b0_2:Int) (b0_3:Int) (b0_4:(List qh)):q3J x4 x5 b0_0 b0_1 b0_2 b0_3 b0_4=(bif (decide (x5 < (length b0_4:Int))) then bif ((decide (0<=x5))&&(decide (x5 < (length b0_4:Int)))) then (qbE b0_0 ((getD b0_4 (toNat x5) (eB,(0,(0,0)))).1,(((getD b0_4 (toNat x5) (eB,(0,(0,0)))).2).1,(((getD b0_4 (toNat x5) (eB,(0,(0,0)))).2).2)))).bind fun r9=>bif ((decide (0<=x5))&&(decide (x5 < (length b0_4:Int)))) then bif (lim ((length x4)+1) 40) then q3J (x4++[((getD b0_4 (toNat x5) (eB,(0,(0,0)))).1,(r9.1.1,false))]) (w64 (x5+1)) b0_0 b0_1 b0_2 b0_3 b0_4 else none else none else none else some ((x4,true),()):Option (((List qd)×Bool)×Unit)):=(ql X 14 0 [] _ _ _).trans (by kernel_rfl)
theorem qq6 (a0:(List Int)):qbW a0=(some ((decide ((length a0:Int) > 1048576)),()):Option (Bool×Unit)):=(qo X rfl _).trans (by kernel_rfl)
theorem qc8 (a0:(List Int)):q0e a0=((q8T a0).bind fun r3=>(q8u r3.1 a0).bind fun r4=>(q4H r4.2.1).bind fun r5=>some ((r4.1,r5.1),()):Option ((qp×(List qd))×Unit)):=(qo X rfl _).trans (by kernel_rfl)
theorem qhA (a0:qp):q3b a0=((q0w a0.1).bind fun r3=>(q3V a0).bind fun r4=>bif (!r4.1) then some (([],false),()) else bif (decide ((length r3.1.1:Int) < 2)) then some (([],false),()) else bif ((decide ((0:Int)<=0))&&((decide (0<=(w64 ((length r3.1.1:Int) - 1))))&&(decide ((w64 ((length r3.1.1:Int) - 1))<=(length r3.1.1:Int))))) then bif ((decide (0<=(w64 (((((toNat (w64 ((length r3.1.1:Int) - 1))) - (toNat 0)):Nat):Int) - 1))))&&(decide ((w64 (((((toNat (w64 ((length r3.1.1:Int) - 1))) - (toNat 0)):Nat):Int) - 1)) < ((((toNat (w64 ((length r3.1.1:Int) - 1))) - (toNat 0)):Nat):Int)))) then (q19 (getD r3.1.1 ((toNat 0)+(toNat (w64 (((((toNat (w64 ((length r3.1.1:Int) - 1))) - (toNat 0)):Nat):Int) - 1)))) 0) (getD r3.1.1 ((toNat 0)+(toNat (w64 (((((toNat (w64 ((length r3.1.1:Int) - 1))) - (toNat 0)):Nat):Int) - 1)))) 0)).bind fun r5=>q0s (take ((toNat (w64 ((length r3.1.1:Int) - 1))) - (toNat 0)) (drop (toNat 0) r3.1.1)) (getD r3.1.1 ((toNat 0)+(toNat (w64 (((((toNat (w64 ((length r3.1.1:Int) - 1))) - (toNat 0)):Nat):Int) - 1)))) 0) ([(1,(qF,(r5.1.1,eB)))]) 0 a0.1 a0.2.1 a0.2.2.1 a0.2.2.2.1 a0.2.2.2.2 else none else none:Option (((List qz)×Bool)×Unit)):=(qo X rfl _).trans (by kernel_rfl)
theorem q6Z (x7:(List Int)) (x8:Int) (x11:(List qz)) (x12:Int) (b0_0:q8) (b0_1:Int) (b0_2:Int) (b0_3:Int) (b0_4:(List qh)):q0s x7 x8 x11 x12 b0_0 b0_1 b0_2 b0_3 b0_4=(bif (decide (x12 < (length x7:Int))) then bif ((decide (0<=x12))&&(decide (x12 < (length x7:Int)))) then (wR (getD x7 (toNat x12) 0)).bind fun r11=>(q1t b0_0 r11.1).bind fun r12=>bif ((decide (0<=x12))&&(decide (x12 < (length x7:Int)))) then (jc (getD x7 (toNat x12) 0) r12.1.1).bind fun r13=>bif ((decide (0<=x12))&&(decide (x12 < (length x7:Int)))) then (q19 (getD x7 (toNat x12) 0) r13.1.1).bind fun r14=>q1k x7 x8 x11 x12 r13.1.2.1 (size r14.1.1:Int) 0 b0_0 b0_1 b0_2 b0_3 b0_4 else none else none else none else (wR x8).bind fun r11=>bif (lim ((length x11)+2) 56) then q35 x7 (x11++[(2,(qF,(eB,eB))),(3,(qF,(eB,r11.1)))]) 0 else none:Option (((List qz)×Bool)×Unit)):=(ql X 25 0 [] _ _ _).trans (by kernel_rfl)
theorem q7b (x7:(List Int)) (x8:Int) (x11:(List qz)) (x12:Int) (x16:(List qQ)) (x21:Int) (x22:Int) (b0_0:q8) (b0_1:Int) (b0_2:Int) (b0_3:Int) (b0_4:(List qh)):q1k x7 x8 x11 x12 x16 x21 x22 b0_0 b0_1 b0_2 b0_3 b0_4=(bif (decide (x22 < (length x16:Int))) then bif ((decide (0<=x12))&&(decide (x12 < (length x7:Int)))) then (qbl b0_4 (getD x7 (toNat x12) 0) x21).bind fun r14=>bif r14.1 then bif ((decide (0<=x22))&&(decide (x22 < (length x16:Int)))) then bif ((decide (0<=x22))&&(decide (x22 < (length x16:Int)))) then bif ((decide (0<=x12))&&(decide (x12 < (length x7:Int)))) then (qbs b0_4 (getD x16 (toNat x22) (0,[])) (getD x7 (toNat x12) 0) x21).bind fun r15=>(jk ((getD x16 (toNat x22) (0,[])).1,r15.1)).bind fun r16=>(q0Q r16.1.1).bind fun r17=>bif (lim ((length x11)+1) 56) then bif ((decide (0<=x22))&&(decide (x22 < (length x16:Int)))) then (q4D (getD x16 (toNat x22) (0,[]))).bind fun r18=>q1k x7 x8 (x11++[(1,(qF,(r17.1.1,eB)))]) x12 x16 (w64 (x21+r18.1)) (w64 (x22+1)) b0_0 b0_1 b0_2 b0_3 b0_4 else none else none else none else none else none else bif ((decide (0<=x22))&&(decide (x22 < (length x16:Int)))) then (q4D (getD x16 (toNat x22) (0,[]))).bind fun r15=>q1k x7 x8 x11 x12 x16 (w64 (x21+r15.1)) (w64 (x22+1)) b0_0 b0_1 b0_2 b0_3 b0_4 else none else none else q0s x7 x8 x11 (w64 (x12+1)) b0_0 b0_1 b0_2 b0_3 b0_4:Option (((List qz)×Bool)×Unit)):=(ql X 25 2 [0] _ _ _).trans (by kernel_rfl)
theorem q7C (x7:(List Int)) (x11:(List qz)) (x27:Int):q35 x7 x11 x27=(bif (decide ((w64 (x27+1)) < (length x7:Int))) then bif ((decide (0<=x27))&&(decide (x27 < (length x7:Int)))) then (wR (getD x7 (toNat x27) 0)).bind fun r5=>bif (lim ((length x11)+1) 56) then q35 x7 (x11++[(4,(r5.1,(eB,eB)))]) (w64 (x27+1)) else none else none else some ((x11,true),()):Option (((List qz)×Bool)×Unit)):=(ql X 25 4 [] _ _ _).trans (by kernel_rfl)
theorem qfp (a0:(List qd)) (a1:(List qd)):zD a0 a1=(bif ((length a0:Int) != (length a1:Int)) then some (false,()) else q23 a0 a1 0:Option (Bool×Unit)):=(qo X rfl _).trans (by kernel_rfl)
theorem q5N (x0:(List qd)) (x1:(List qd)) (x5:Int):q23 x0 x1 x5=(bif (decide (x5 < (length x0:Int))) then bif ((decide (0<=x5))&&(decide (x5 < (length x0:Int)))) then bif ((decide (0<=x5))&&(decide (x5 < (length x1:Int)))) then bif (!(((toList ((getD x0 (toNat x5) (eB,(eB,false))).1))==(toList ((getD x1 (toNat x5) (eB,(eB,false))).1)))&&(((toList (((getD x0 (toNat x5) (eB,(eB,false))).2).1))==(toList (((getD x1 (toNat x5) (eB,(eB,false))).2).1)))&&((((getD x0 (toNat x5) (eB,(eB,false))).2).2==((getD x1 (toNat x5) (eB,(eB,false))).2).2)&&true)))) then some (false,()) else q23 x0 x1 (w64 (x5+1)) else none else none else some (true,()):Option (Bool×Unit)):=(ql X 29 0 [] _ _ _).trans (by kernel_rfl)
theorem qhY (a0:qp) (a1:(List qd)):q2d a0 a1=((jk ((w64 (a0.2.2.2.1+1)),a1)).bind fun r4=>(q3V a0).bind fun r5=>bif (!r5.1) then some ((([],(0,(0,(0,[])))),([],1)),()) else bif (!r4.1.2) then some ((([],(0,(0,(0,[])))),([],1)),()) else (q0Q r4.1.1).bind fun r6=>(wR a0.2.2.1).bind fun r7=>(q1t a0.1 r7.1).bind fun r8=>bif (decide ((size r8.1.1:Int)>=300)) then (q0w a0.1).bind fun r9=>(wR (w64 (a0.2.2.1+1))).bind fun r10=>bif ((decide ((0:Int)<=0))&&(decide (0 < (length r9.1.1:Int)))) then (q19 (w64 (a0.2.2.1+1)) (getD r9.1.1 (toNat 0) 0)).bind fun r11=>bif (!r11.1.2) then some ((([],(0,(0,(0,[])))),([],2)),()) else bif (limS ((size r11.1.1)+(size r6.1.1))) then (jN a0.1 r10.1).bind fun r12=>bif (decide (r12.1 < 0)) then (q0c a0.1 ([(1,(qF,((r11.1.1++r6.1.1),eB))),(2,(qF,(eB,eB))),(3,(qF,(eB,r10.1)))])).bind fun r13=>bif (decide (r13.1.2 < ((3:Nat):Int))) then some ((([],(0,(0,(0,[])))),([],2)),()) else (q0S r13.1.1).bind fun r14=>bif (decide (r14.1 > a0.2.1)) then some ((([],(0,(0,(0,[])))),([],2)),()) else (zw r13.1.1 a0.2.1).bind fun r15=>bif (!r15.1.2.2) then some ((([],(0,(0,(0,[])))),([],2)),()) else some ((r15.1.1,([(1,(qF,((r11.1.1++r6.1.1),eB))),(2,(qF,(eB,eB))),(3,(qF,(eB,r10.1)))],0)),()) else (q0c a0.1 ([(1,(r10.1,((r11.1.1++r6.1.1),eB))),(2,(r10.1,(eB,eB)))])).bind fun r13=>bif (decide (r13.1.2 < ((2:Nat):Int))) then some ((([],(0,(0,(0,[])))),([],2)),()) else (q0S r13.1.1).bind fun r14=>bif (decide (r14.1 > a0.2.1)) then some ((([],(0,(0,(0,[])))),([],2)),()) else (zw r13.1.1 a0.2.1).bind fun r15=>bif (!r15.1.2.2) then some ((([],(0,(0,(0,[])))),([],2)),()) else some ((r15.1.1,([(1,(r10.1,((r11.1.1++r6.1.1),eB))),(2,(r10.1,(eB,eB)))],0)),()) else none else none else (jN a0.1 r7.1).bind fun r9=>bif (decide (r9.1 < 0)) then (q0c a0.1 ([(1,(qF,(r6.1.1,eB))),(2,(qF,(eB,eB))),(3,(qF,(eB,r7.1)))])).bind fun r10=>bif (decide (r10.1.2 < ((3:Nat):Int))) then some ((([],(0,(0,(0,[])))),([],2)),()) else (q0S r10.1.1).bind fun r11=>bif (decide (r11.1 > a0.2.1)) then some ((([],(0,(0,(0,[])))),([],2)),()) else (zw r10.1.1 a0.2.1).bind fun r12=>bif (!r12.1.2.2) then some ((([],(0,(0,(0,[])))),([],2)),()) else some ((r12.1.1,([(1,(qF,(r6.1.1,eB))),(2,(qF,(eB,eB))),(3,(qF,(eB,r7.1)))],0)),()) else (q0c a0.1 ([(1,(r7.1,(r6.1.1,eB))),(2,(r7.1,(eB,eB)))])).bind fun r10=>bif (decide (r10.1.2 < ((2:Nat):Int))) then some ((([],(0,(0,(0,[])))),([],2)),()) else (q0S r10.1.1).bind fun r11=>bif (decide (r11.1 > a0.2.1)) then some ((([],(0,(0,(0,[])))),([],2)),()) else (zw r10.1.1 a0.2.1).bind fun r12=>bif (!r12.1.2.2) then some ((([],(0,(0,(0,[])))),([],2)),()) else some ((r12.1.1,([(1,(r7.1,(r6.1.1,eB))),(2,(r7.1,(eB,eB)))],0)),()):Option ((qp×(List qz)×Int)×Unit)):=(qo X rfl _).trans (by kernel_rfl)
theorem qnv (a0:qp):q3C a0=((q3b a0).bind fun r3=>bif (!r3.1.2) then some ((([],(0,(0,(0,[])))),([],false)),()) else q65 r3.1.1 0 a0.1 a0.2.1 a0.2.2.1 a0.2.2.2.1 a0.2.2.2.2 [] 0 0 0 [] a0.1:Option ((qp×(List qz)×Bool)×Unit)):=(qo X rfl _).trans (by kernel_rfl)
theorem qbh (x5:(List qz)) (x8:Int) (b0_0:q8) (b0_1:Int) (b0_2:Int) (b0_3:Int) (b0_4:(List qh)) (b16_0:q8) (b16_1:Int) (b16_2:Int) (b16_3:Int) (b16_4:(List qh)) (b_e_0:q8):q65 x5 x8 b0_0 b0_1 b0_2 b0_3 b0_4 b16_0 b16_1 b16_2 b16_3 b16_4 b_e_0=(bif (decide (x8 < (length x5:Int))) then bif ((decide (0<=x8))&&(decide (x8 < (length x5:Int)))) then (qaU b_e_0 ((getD x5 (toNat x8) (0,(eB,(eB,eB)))).1,(((getD x5 (toNat x8) (0,(eB,(eB,eB)))).2).1,(((getD x5 (toNat x8) (0,(eB,(eB,eB)))).2).2)))).bind fun r15=>bif (!r15.1.2) then some ((([],(0,(0,(0,[])))),([],false)),()) else (q0S r15.1.1).bind fun r16=>bif (decide (r16.1 > b0_1)) then some ((([],(0,(0,(0,[])))),([],false)),()) else q65 x5 (w64 (x8+1)) b0_0 b0_1 b0_2 b0_3 b0_4 b16_0 b16_1 b16_2 b16_3 b16_4 r15.1.1 else none else (zw b_e_0 b0_1).bind fun r15=>bif (!r15.1.2.2) then some ((([],(0,(0,(0,[])))),([],false)),()) else some ((r15.1.1,(x5,true)),()):Option ((qp×(List qz)×Bool)×Unit)):=(ql X 41 0 [] _ _ _).trans (by kernel_rfl)
theorem qeB (a0:Int):q5A a0=((wK a0 100 20000).bind fun r3=>bif (!r3.1) then some ((([],(0,(0,(0,[])))),false),()) else (q19 0 0).bind fun r4=>(wR 0).bind fun r5=>some ((([(r5.1,(r4.1.1,(size r4.1.1:Int)))],(a0,(0,(0,[])))),true),()):Option ((qp×Bool)×Unit)):=(qo X rfl _).trans (by kernel_rfl)
theorem qkc (a0:q8) (a1:qh):qbE a0 a1=((qO a0).bind fun r4=>bif (!r4.1) then some ((eB,false),()) else (qa0 a0 a1.2.1 a1.2.2.1).bind fun r5=>bif (!r5.1.2) then some ((eB,false),()) else bif (r5.1.1.1 != a1.2.2.2) then some ((eB,false),()) else q2p 0 a1.1 a1.2.1 a1.2.2.1 a1.2.2.2 r5.1.1.1 r5.1.1.2:Option ((BA×Bool)×Unit)):=(qo X rfl _).trans (by kernel_rfl)
theorem q8Z (x8:Int) (b16_0:BA) (b16_1:Int) (b16_2:Int) (b16_3:Int) (b_j_0:Int) (b_j_1:(List qd)):q2p x8 b16_0 b16_1 b16_2 b16_3 b_j_0 b_j_1=(bif (decide (x8 < (length b_j_1:Int))) then bif ((decide (0<=x8))&&(decide (x8 < (length b_j_1:Int)))) then bif ((toList ((getD b_j_1 (toNat x8) (eB,(eB,false))).1))==(toList b16_0)) then bif ((decide (0<=x8))&&(decide (x8 < (length b_j_1:Int)))) then bif (!((getD b_j_1 (toNat x8) (eB,(eB,false))).2).2) then bif ((decide (0<=x8))&&(decide (x8 < (length b_j_1:Int)))) then some ((((getD b_j_1 (toNat x8) (eB,(eB,false))).2).1,true),()) else none else q2p (w64 (x8+1)) b16_0 b16_1 b16_2 b16_3 b_j_0 b_j_1 else none else q2p (w64 (x8+1)) b16_0 b16_1 b16_2 b16_3 b_j_0 b_j_1 else none else some ((eB,false),()):Option ((BA×Bool)×Unit)):=(ql X 69 0 [] _ _ _).trans (by kernel_rfl)
theorem qlC (a0:(List Int)):q8T a0=(q56 a0 (w64 (12701+(length a0:Int))) 0:Option (qV×Unit)):=(qo X rfl _).trans (by kernel_rfl)
theorem qal (x0:(List Int)) (x3:Int) (x4:Int):q56 x0 x3 x4=(bif (decide (x4 < (length x0:Int))) then bif (decide (x4 < 4000)) then bif ((decide (0<=x4))&&(decide (x4 < (length x0:Int)))) then q56 x0 (w64 (andI Go.IntKind.i64 (w64 ((w64 ((w64 (x3 * 131))+(w64 (getD x0 (toNat x4) 0))))+7)) 1073741823)) (w64 (x4+1)) else none else some ((x0,(0,x3)),()) else some ((x0,(0,x3)),()):Option (qV×Unit)):=(ql X 79 0 [] _ _ _).trans (by kernel_rfl)
theorem qhz (a0:qV) (a1:(List Int)):q8u a0 a1=((q0A a0 3000).bind fun r4=>(q5A (w64 (400+r4.1))).bind fun r5=>bif (decide ((w64 (3+(w64 (tdiv (length a1:Int) 8)))) > 24)) then yV 24 0 r4.2.1.1 r4.2.1.2.1 r4.2.1.2.2 [] 0 0 0 [] r5.1.1.1 r5.1.1.2.1 r5.1.1.2.2.1 r5.1.1.2.2.2.1 r5.1.1.2.2.2.2 else yV (w64 (3+(w64 (tdiv (length a1:Int) 8)))) 0 r4.2.1.1 r4.2.1.2.1 r4.2.1.2.2 [] 0 0 0 [] r5.1.1.1 r5.1.1.2.1 r5.1.1.2.2.1 r5.1.1.2.2.2.1 r5.1.1.2.2.2.2:Option (qp×(qV×Unit))):=(qo X rfl _).trans (by kernel_rfl)
theorem q77 (x7:Int) (x8:Int) (b_k_0:(List Int)) (b_k_1:Int) (b_k_2:Int) (b0_0:q8) (b0_1:Int) (b0_2:Int) (b0_3:Int) (b0_4:(List qh)) (b_l_0:q8) (b_l_1:Int) (b_l_2:Int) (b_l_3:Int) (b_l_4:(List qh)):yV x7 x8 b_k_0 b_k_1 b_k_2 b0_0 b0_1 b0_2 b0_3 b0_4 b_l_0 b_l_1 b_l_2 b_l_3 b_l_4=(bif (decide (x8 < x7)) then (q4H (b_k_0,(b_k_1,b_k_2))).bind fun r17=>(q2d (b_l_0,(b_l_1,(b_l_2,(b_l_3,b_l_4)))) r17.1).bind fun r18=>bif (r18.1.2.2==0) then (q1N r17.2.1 10).bind fun r19=>bif r19.1 then (q3C r18.1.1).bind fun r20=>bif r20.1.2.2 then yV x7 (w64 (x8+1)) r19.2.1.1 r19.2.1.2.1 r19.2.1.2.2 b0_0 b0_1 b0_2 b0_3 b0_4 r20.1.1.1 r20.1.1.2.1 r20.1.1.2.2.1 r20.1.1.2.2.2.1 r20.1.1.2.2.2.2 else yV x7 (w64 (x8+1)) r19.2.1.1 r19.2.1.2.1 r19.2.1.2.2 b0_0 b0_1 b0_2 b0_3 b0_4 r18.1.1.1 r18.1.1.2.1 r18.1.1.2.2.1 r18.1.1.2.2.2.1 r18.1.1.2.2.2.2 else yV x7 (w64 (x8+1)) r19.2.1.1 r19.2.1.2.1 r19.2.1.2.2 b0_0 b0_1 b0_2 b0_3 b0_4 r18.1.1.1 r18.1.1.2.1 r18.1.1.2.2.1 r18.1.1.2.2.2.1 r18.1.1.2.2.2.2 else (q1N r17.2.1 10).bind fun r19=>bif r19.1 then (q3C (b_l_0,(b_l_1,(b_l_2,(b_l_3,b_l_4))))).bind fun r20=>bif r20.1.2.2 then yV x7 (w64 (x8+1)) r19.2.1.1 r19.2.1.2.1 r19.2.1.2.2 b0_0 b0_1 b0_2 b0_3 b0_4 r20.1.1.1 r20.1.1.2.1 r20.1.1.2.2.1 r20.1.1.2.2.2.1 r20.1.1.2.2.2.2 else yV x7 (w64 (x8+1)) r19.2.1.1 r19.2.1.2.1 r19.2.1.2.2 b0_0 b0_1 b0_2 b0_3 b0_4 b_l_0 b_l_1 b_l_2 b_l_3 b_l_4 else yV x7 (w64 (x8+1)) r19.2.1.1 r19.2.1.2.1 r19.2.1.2.2 b0_0 b0_1 b0_2 b0_3 b0_4 b_l_0 b_l_1 b_l_2 b_l_3 b_l_4 else some ((b_l_0,(b_l_1,(b_l_2,(b_l_3,b_l_4)))),((b_k_0,(b_k_1,b_k_2)),())):Option (qp×(qV×Unit))):=(ql X 80 0 [] _ _ _).trans (by kernel_rfl)
theorem qkp (a0:qV):q4H a0=(q13 [] ([c_a,c_b,c_c,c_d,qnT,c_kk]) 0 a0.1 a0.2.1 a0.2.2:Option ((List qd)×(qV×Unit))):=(qo X rfl _).trans (by kernel_rfl)
theorem q9U (x3:(List qd)) (x4:(List BA)) (x5:Int) (b_k_0:(List Int)) (b_k_1:Int) (b_k_2:Int):q13 x3 x4 x5 b_k_0 b_k_1 b_k_2=(bif (decide (x5 < (length x4:Int))) then (q1N (b_k_0,(b_k_1,b_k_2)) 3).bind fun r8=>bif (!r8.1) then q13 x3 x4 (w64 (x5+1)) r8.2.1.1 r8.2.1.2.1 r8.2.1.2.2 else bif ((decide (0<=x5))&&(decide (x5 < (length x4:Int)))) then (q0A r8.2.1 12).bind fun r9=>(q4J r9.2.1 r9.1).bind fun r10=>(q1N r10.2.1 4).bind fun r11=>bif r11.1 then bif ((decide (0<=x5))&&(decide (x5 < (length x4:Int)))) then bif (lim ((length x3)+1) 40) then q13 (x3++[((getD x4 (toNat x5) eB),(eB,true))]) x4 (w64 (x5+1)) r11.2.1.1 r11.2.1.2.1 r11.2.1.2.2 else none else none else bif (lim ((length x3)+1) 40) then q13 (x3++[((getD x4 (toNat x5) eB),(r10.1,false))]) x4 (w64 (x5+1)) r11.2.1.1 r11.2.1.2.1 r11.2.1.2.2 else none else none else bif ((length x3:Int)==0) then (qcS (b_k_0,(b_k_1,b_k_2))).bind fun r8=>(q4J r8.2.1 3).bind fun r9=>bif (lim ((length x3)+1) 40) then some ((x3++[(r8.1,(r9.1,false))]),(r9.2.1,())) else none else some (x3,((b_k_0,(b_k_1,b_k_2)),())):Option ((List qd)×(qV×Unit))):=(ql X 81 0 [] _ _ _).trans (by kernel_rfl)
theorem qja (a0:(List qh)) (a1:Int) (a2:Int):qbl a0 a1 a2=(q2l a0 a1 a2 0:Option (Bool×Unit)):=(qo X rfl _).trans (by kernel_rfl)
theorem q9K (x0:(List qh)) (x1:Int) (x2:Int) (x7:Int):q2l x0 x1 x2 x7=(bif (decide (x7 < (length x0:Int))) then bif ((decide (0<=x7))&&(decide (x7 < (length x0:Int)))) then bif (((getD x0 (toNat x7) (eB,(0,(0,0)))).2).1==x1) then bif ((decide (0<=x7))&&(decide (x7 < (length x0:Int)))) then bif ((((getD x0 (toNat x7) (eB,(0,(0,0)))).2).2).1==x2) then some (true,()) else q2l x0 x1 x2 (w64 (x7+1)) else none else q2l x0 x1 x2 (w64 (x7+1)) else none else some (false,()):Option (Bool×Unit)):=(ql X 94 0 [] _ _ _).trans (by kernel_rfl)
theorem qjU (a0:(List qh)) (a1:qQ) (a2:Int) (a3:Int):qbs a0 a1 a2 a3=(q2D a0 a2 a3 [] 0 a1.1 a1.2:Option ((List qd)×Unit)):=(qo X rfl _).trans (by kernel_rfl)
theorem q9H (x0:(List qh)) (x2:Int) (x3:Int) (x9:(List qd)) (x10:Int) (b0_0:Int) (b0_1:(List qd)):q2D x0 x2 x3 x9 x10 b0_0 b0_1=(bif (decide (x10 < (length b0_1:Int))) then q0o x0 x2 x3 x9 x10 0 b0_0 b0_1 else some (x9,()):Option ((List qd)×Unit)):=(ql X 96 0 [] _ _ _).trans (by kernel_rfl)
theorem q9k (x0:(List qh)) (x2:Int) (x3:Int) (x9:(List qd)) (x10:Int) (x11:Int) (b0_0:Int) (b0_1:(List qd)):q0o x0 x2 x3 x9 x10 x11 b0_0 b0_1=(bif (decide (x11 < (length x0:Int))) then bif ((decide (0<=x11))&&(decide (x11 < (length x0:Int)))) then bif ((decide (0<=x10))&&(decide (x10 < (length b0_1:Int)))) then bif ((toList ((getD x0 (toNat x11) (eB,(0,(0,0)))).1))==(toList ((getD b0_1 (toNat x10) (eB,(eB,false))).1))) then bif ((decide (0<=x11))&&(decide (x11 < (length x0:Int)))) then bif (((getD x0 (toNat x11) (eB,(0,(0,0)))).2).1==x2) then bif ((decide (0<=x11))&&(decide (x11 < (length x0:Int)))) then bif ((((getD x0 (toNat x11) (eB,(0,(0,0)))).2).2).1==x3) then bif ((decide (0<=x10))&&(decide (x10 < (length b0_1:Int)))) then bif (lim ((length x9)+1) 40) then q0o x0 x2 x3 (x9++[((getD b0_1 (toNat x10) (eB,(eB,false))).1,(((getD b0_1 (toNat x10) (eB,(eB,false))).2).1,((getD b0_1 (toNat x10) (eB,(eB,false))).2).2))]) x10 (w64 (x11+1)) b0_0 b0_1 else none else none else q0o x0 x2 x3 x9 x10 (w64 (x11+1)) b0_0 b0_1 else none else q0o x0 x2 x3 x9 x10 (w64 (x11+1)) b0_0 b0_1 else none else q0o x0 x2 x3 x9 x10 (w64 (x11+1)) b0_0 b0_1 else none else none else q2D x0 x2 x3 x9 (w64 (x10+1)) b0_0 b0_1:Option ((List qd)×Unit)):=(ql X 96 2 [0] _ _ _).trans (by kernel_rfl)
theorem qjK (a0:qV):jK a0=(bif (decide (a0.2.1 < (length a0.1:Int))) then bif ((decide (0<=a0.2.1))&&(decide (a0.2.1 < (length a0.1:Int)))) then some ((w64 (andI Go.IntKind.i64 (w64 ((w64 (andI Go.IntKind.i64 (w64 (xorI Go.IntKind.i64 (shrI Go.IntKind.i64 (w64 ((w64 (a0.2.2 * 6364136223846793005))+1442695040888963407)) 33) (shrI Go.IntKind.i64 (w64 ((w64 (a0.2.2 * 6364136223846793005))+1442695040888963407)) 45))) 255))+(w64 (getD a0.1 (toNat a0.2.1) 0)))) 255)),((a0.1,((w64 (a0.2.1+1)),(w64 ((w64 (a0.2.2 * 6364136223846793005))+1442695040888963407)))),())) else none else some ((w64 (andI Go.IntKind.i64 (w64 (xorI Go.IntKind.i64 (shrI Go.IntKind.i64 (w64 ((w64 (a0.2.2 * 6364136223846793005))+1442695040888963407)) 33) (shrI Go.IntKind.i64 (w64 ((w64 (a0.2.2 * 6364136223846793005))+1442695040888963407)) 45))) 255)),((a0.1,(a0.2.1,(w64 ((w64 (a0.2.2 * 6364136223846793005))+1442695040888963407)))),())):Option (Int×(qV×Unit))):=(qo X rfl _).trans (by kernel_rfl)
theorem qiO (a0:qV) (a1:Int):q0A a0 a1=(bif (decide (a1<=0)) then some (0,(a0,())) else bif (decide (a1<=256)) then (jK a0).bind fun r4=>bif (a1 != 0) then some ((tmod r4.1 a1),(r4.2.1,())) else none else (jK a0).bind fun r4=>(jK r4.2.1).bind fun r5=>(jK r5.2.1).bind fun r6=>(jK r6.2.1).bind fun r7=>bif (a1 != 0) then some ((tmod (w64 ((w64 ((w64 ((w64 (r4.1 * 16777216))+(w64 (r5.1 * 65536))))+(w64 (r6.1 * 256))))+r7.1)) a1),(r7.2.1,())) else none:Option (Int×(qV×Unit))):=(qo X rfl _).trans (by kernel_rfl)
theorem qji (a0:q8):q4L a0=(q4y 0 a0 (length a0:Int) 0:Option (Int×Unit)):=(qo X rfl _).trans (by kernel_rfl)
theorem q9R (x3:Int) (x7:q8) (x8:Int) (x9:Int):q4y x3 x7 x8 x9=(bif (decide (x9 < x8)) then bif ((decide (0<=x9))&&(decide (x9 < (length x7:Int)))) then q4y (w64 (x3+(size (((getD x7 (toNat x9) (eB,(eB,0))).2).1):Int))) x7 x8 (w64 (x9+1)) else none else some (x3,()):Option (Int×Unit)):=(ql X 103 0 [] _ _ _).trans (by kernel_rfl)
theorem qkn (a0:q8):q0S a0=(q4w 0 0 a0:Option (Int×Unit)):=(qo X rfl _).trans (by kernel_rfl)
theorem q9E (x3:Int) (x4:Int) (b0_0:q8):q4w x3 x4 b0_0=(bif (decide (x4 < (length b0_0:Int))) then bif ((decide (0<=x4))&&(decide (x4 < (length b0_0:Int)))) then q4w (w64 (x3+(size (((getD b0_0 (toNat x4) (eB,(eB,0))).2).1):Int))) (w64 (x4+1)) b0_0 else none else some (x3,()):Option (Int×Unit)):=(ql X 108 0 [] _ _ _).trans (by kernel_rfl)
theorem qiv (a0:q8) (a1:Int) (a2:Int):qa0 a0 a1 a2=((wR a1).bind fun r5=>(q1t a0 r5.1).bind fun r6=>bif (!r6.1.2) then some (((0,[]),false),()) else (wK a2 0 (size r6.1.1:Int)).bind fun r7=>bif (!r7.1) then some (((0,[]),false),()) else bif ((decide (0<=a2))&&((decide (a2<=(size r6.1.1:Int)))&&(decide ((size r6.1.1:Int)<=(size r6.1.1:Int))))) then (q4I (ByteArray.extract r6.1.1 (toNat a2) (toNat (size r6.1.1:Int)))).bind fun r8=>bif ((length r8.1.1:Int)==0) then some (((0,[]),false),()) else bif ((decide ((0:Int)<=0))&&(decide (0 < (length r8.1.1:Int)))) then (q5a (getD r8.1.1 (toNat 0) eB)).bind fun r9=>some (r9.1,()) else none else none:Option ((qQ×Bool)×Unit)):=(qo X rfl _).trans (by kernel_rfl)
theorem qk3 (a0:qV) (a1:Int):q1N a0 a1=((q0A a0 a1).bind fun r4=>some ((r4.1==0),(r4.2.1,())):Option (Bool×(qV×Unit))):=(qo X rfl _).trans (by kernel_rfl)
theorem qkr (a0:qV) (a1:Int):q4J a0 a1=(bif (decide (a1 > 5000)) then q2u 5000 [] 0 a0.1 a0.2.1 a0.2.2 else q2u a1 [] 0 a0.1 a0.2.1 a0.2.2:Option (BA×(qV×Unit))):=(qo X rfl _).trans (by kernel_rfl)
theorem q98 (x1:Int) (x5:(List Int)) (x6:Int) (b_k_0:(List Int)) (b_k_1:Int) (b_k_2:Int):q2u x1 x5 x6 b_k_0 b_k_1 b_k_2=(bif (decide (x6 < x1)) then (jK (b_k_0,(b_k_1,b_k_2))).bind fun r8=>bif (lim ((length x5)+1) 1) then q2u x1 (x5++[(Go.IntKind.u8.wrap r8.1)]) (w64 (x6+1)) r8.2.1.1 r8.2.1.2.1 r8.2.1.2.2 else none else some ((⟨(List.toArray (map (fun n=>(UInt8.ofNat (toNat n))) x5))⟩:BA),((b_k_0,(b_k_1,b_k_2)),())):Option (BA×(qV×Unit))):=(ql X 158 0 [] _ _ _).trans (by kernel_rfl)
theorem qmb (a0:qV):qcS a0=((q7A a0 ([c_a,c_b,c_c,c_d,qnT,c_kk])).bind fun r3=>some (r3.1,(r3.2.1,())):Option (BA×(qV×Unit))):=(qo X rfl _).trans (by kernel_rfl)
theorem qky (a0:qV) (a1:(List BA)):q7A a0 a1=((q0A a0 (length a1:Int)).bind fun r4=>bif ((decide (0<=r4.1))&&(decide (r4.1 < (length a1:Int)))) then some ((getD a1 (toNat r4.1) eB),(r4.2.1,())) else none:Option (BA×(qV×Unit))):=(qo X rfl _).trans (by kernel_rfl)
end Go.Den.S
namespace Go.Den.S
open Go Go.Den
theorem qqR (a b:List UInt8):bOf (a++b)=bOf a++bOf b:=q4Z (q0D (bOf a) (bOf b)).symm
section
variable {β:Type}
theorem quY {l m:List (BA×β)} (hl:AscK l) (hm:AscK m) (h:∀ k,getK k l=getK k m):l=m:=
 q3N hl hm fun x=>by rw [show x=(x.1,x.2) from rfl,<- yj hl,<- yj hm,h]
end
section
variable {β γ:Type}
theorem q6f (ops:List (BA×Option β)):AscK (runK ops):=qcv ops qdm
def q1o (k:BA) (ops:List (BA×Option β)) (d:Option β):Option β:=ops.foldl (fun d x=>if k=x.1 then x.2 else d) d
theorem qmk (k:BA):∀ (ops:List (BA×Option β)) {m:List (BA×β)},AscK m->getK k (ops.foldl wY m)=q1o k ops (getK k m)
 | [],_,_=>rfl
 | x::ops,m,h=>by
  rw [List.foldl_cons,qmk k ops (q6M h x),qgi h]; rfl
theorem qbT (k:BA) (ops:List (BA×Option β)):getK k (runK ops)=q1o k ops none:=qmk k ops qdm
end
theorem q6p:∀ (bs:List Bat) (a:Nat),(posB a bs).map (·.1)=bs
 | [],_=>rfl
 | b::bs,a=>by simp only [posB,map_cons,q6p bs]
theorem qpD:∀ {bs:List Bat} {a:Nat} {p:Bat×Nat},p∈posB a bs->∃ pre post,bs=pre++p.1::post/\p.2=a+(bats pre).length
 | b::bs,a,p,h=>by
  rcases mem_cons.1 h with rfl | h
  ·exact ⟨[],bs,rfl,by simp [bats]⟩
  ·obtain ⟨pre,post,h1,h2⟩:=qpD h;refine ⟨b::pre,post,by rw [h1]; rfl,?_⟩
   rw [h2,q09,length_append]; omega
noncomputable def conD (d:List Fil) (l:List Nat):List (BA×BA):=(rowD d l).map fun x=>(x.1,x.2.2)
def opsC (c:Chg):BA×Option BA:=(c.1,bif c.2.2 then none else some c.2.1)
def opsB (bs:List Bat):List (BA×Option BA):=bs.flatMap fun b=>b.2.map opsC
theorem q6t (d:List Fil) (l:List Nat):conD d l=runK (opsB (allB d l)):=by
 unfold conD rowD;rw [qix];congr 1
 unfold jO opsB allB;rw [List.map_flatMap,List.flatMap_assoc];congr 1
 funext n
 rw [List.map_flatMap]
 conv=>rhs; rw [<- q6p (batD d n) (wo d n),List.flatMap_map]
 unfold zo;congr 1
 funext p
 unfold q4t;rw [map_map];congr 1
 funext c
 cases h:c.2.2<;>simp [opsC,h]
noncomputable def valD (d:List Fil) (s:Spt):Option BA:=if s.2.1 < 0 then none else (getK (nmL s.2.1.toNat) d).bind fun x=>
 if s.2.2.1 < 0\/(x.1.size:Int) < s.2.2.1 then none else match (unfr ((bl x.1).drop s.2.2.1.toNat)).1 with
  | []=>none
  | h::_=>(q0b h).bind fun b=>if b.1=s.2.2.2 then (b.2.find? fun c=>decide (c.1=s.1)&&!c.2.2).map (·.2.1) else none
theorem qnc {d:List Fil} {n:Nat} (hs:(segD d n).isSome=true) {p:Bat×Nat} (hp:p∈zo d n) {c:Chg} (hc:c∈p.1.2) (hg:c.2.2=false):valD d (c.1,((n:Int),((p.2:Int),p.1.1)))=some c.2.1:=by
 obtain ⟨x,hx⟩:=isSome_iff_exists.1 hs;obtain ⟨h1,h2,t,kp,h3,h4⟩:=qgC hx;obtain ⟨f,bs⟩:=x;obtain ⟨k1,k2,k3,k4,k5,r,k6⟩:=q6G h4;unfold zo wo at hp;rw [h1,h2] at hp;obtain ⟨pre,post,e1,e2⟩:=qpD hp;have e1:bs=pre++p.1::post:=e1;have hb:batT p.1=true:=k4 _ (by rw [e1]; simp)
 have ht:bl t=(qU n f++bats pre)++(batL p.1++(bats post++r)):=by
  rw [k6,e1,q8b,q09]; simp only [append_assoc]
 have hlen:p.2=(qU n f++bats pre).length:=by rw [length_append]; exact e2
 unfold valD;simp only [toNat_natCast];rw [if_neg (by omega),h3]
 have hsz:p.2<=t.size:=by rw [qW,ht,hlen,length_append (bs:=batL p.1++_)]; omega
 simp only [oB];rw [if_neg (by omega),ht,hlen,q1R]
 have hu:(unfr (batL p.1++(bats post++r))).1=bTx p.1::(unfr (bats post++r)).1:=by
  unfold batL;rw [qgh (q6R hb)]
 rw [hu];simp only [qmQ hb,oB,if_true];simp only [batT,and_eq_true] at hb;obtain ⟨_,_,_,_,_,q1⟩:=jQ.1 hb.1;have q1:=q8w.1 q1;cases hf:p.1.2.find? fun y=>decide (y.1=c.1)&&!y.2.2 with
 | none=>
  have:=List.find?_eq_none.1 hf c hc;simp [hg] at this
 | some y=>
  have m1:=List.find?_some hf;have m2:=List.mem_of_find?_eq_some hf;simp only [and_eq_true,decide_eq_true_eq] at m1;rw [q6D q1 m2 hc m1.1]; rfl
theorem qvK {d:List Fil} {l:List Nat} (hs:∀ n∈l,(segD d n).isSome=true) {x:BA×((Int×(Int×Int))×BA)} (hx:x∈rowD d l):valD d (x.1,x.2.1)=some x.2.2:=by
 have h:=qeC hx;unfold jO at h;obtain ⟨n,hn,h⟩:=mem_flatMap.1 h;obtain ⟨p,hp,h⟩:=mem_flatMap.1 h;unfold q4t at h;obtain ⟨c,hc,h⟩:=mem_map.1 h;simp only [Prod.mk.injEq] at h;obtain ⟨e1,e2⟩:=h;cases hg:c.2.2 with
 | true=>rw [hg] at e2; cases e2
 | false=>
  rw [hg] at e2;simp only [cF,Option.some.injEq] at e2;rw [<- e1,<- e2];exact qnc (hs n hn) hp hc hg
theorem qw5 {d:List Fil} {l:List Nat} (hs:∀ n∈l,(segD d n).isSome=true):(dirD d l).map (fun s=>(s.1,(valD d s).getD (bOf [])))=conD d l:=by
 unfold dirD conD;rw [map_map];refine List.map_congr_left fun x hx=>?_
 show (x.1,(valD d (x.1,x.2.1)).getD (bOf []))=_;rw [qvK hs hx]; rfl
end Go.Den.S
namespace Go.Den.S
open Go Go.Den
open Classical
noncomputable section
section
variable {β:Type}
theorem qcF (k:BA) (a b:List (BA×Option β)) (d:Option β):q1o k (a++b) d=q1o k b (q1o k a d):=by simp [q1o,List.foldl_append]
theorem q4E {k:BA}:∀ {ops:List (BA×Option β)} {d:Option β},(∀ x∈ops,x.1≠k)->q1o k ops d=d
 | [],_,_=>rfl
 | x::ops,d,h=>by
  show q1o k ops (if k=x.1 then x.2 else d)=d
  rw [if_neg fun e=>h x (mem_cons_self ..) e.symm]
  exact q4E fun y hy=>h y (mem_cons_of_mem _ hy)
theorem qfF {k:BA}:∀ {ops:List (BA×Option β)} {d d':Option β},(∃ x∈ops,x.1=k)->q1o k ops d=q1o k ops d'
 | [],_,_,h=>by obtain ⟨_,h,_⟩:=h; cases h
 | x::ops,d,d',h=>by
  show q1o k ops (if k=x.1 then x.2 else d)=q1o k ops (if k=x.1 then x.2 else d')
  by_cases e:k=x.1
  ·rw [if_pos e,if_pos e]
  ·rw [if_neg e,if_neg e];obtain ⟨y,hy,hk⟩:=h;rcases mem_cons.1 hy with rfl | hy
   ·exact absurd hk.symm e
   ·exact qfF ⟨y,hy,hk⟩
theorem qhE {k:BA} {o:Option β}:∀ {ops:List (BA×Option β)} {d:Option β},(∃ x∈ops,x.1=k)->(∀ x∈ops,x.1=k->x.2=o)->q1o k ops d=o
 | [],_,h,_=>by obtain ⟨_,h,_⟩:=h; cases h
 | x::ops,d,h,hc=>by
  show q1o k ops (if k=x.1 then x.2 else d)=o
  by_cases hm:∃ y∈ops,y.1=k
  ·exact qhE hm fun y hy=>hc y (mem_cons_of_mem _ hy)
  ·rw [q4E fun y hy e=>hm ⟨y,hy,e⟩]
   obtain ⟨y,hy,hk⟩:=h;rcases mem_cons.1 hy with rfl | hy
   ·rw [if_pos hk.symm]; exact hc y (mem_cons_self ..) hk
   ·exact absurd ⟨y,hy,hk⟩ hm
theorem qkt {k:BA} {v:β} {ops:List (BA×Option β)} (h:q1o k ops none=some v):(k,some v)∈ops:=by
 rw [<- qbT] at h;exact qeC ((yj (q6f ops)).1 h)
end
def yO (dir:List Spt) (n:Nat) (p:Bat×Nat):List Chg:=p.1.2.filter fun c=>!c.2.2&&decide ((c.1,((n:Int),((p.2:Int),p.1.1)))∈dir)
def j5 (dir:List Spt) (n:Nat) (p:Bat×Nat):Option Bat:=if (yO dir n p).isEmpty then none else some (p.1.1,yO dir n p)
def q3A (d:List Fil) (dir:List Spt) (n:Nat):List Bat:=(zo d n).filterMap (j5 dir n)
def yM (d:List Fil) (dir:List Spt) (old:List Nat):List Bat:=old.flatMap (q3A d dir)
abbrev Tel:=BA×Option ((Int×(Int×Int))×BA)
def qcC (dir:List Spt) (x:Tel):Bool:=match x.2 with
 | none=>false
 | some v=>decide ((x.1,v.1)∈dir)
def valT (x:Tel):BA×Option BA:=(x.1,x.2.map (·.2))
theorem q68 (a b:List Bat):opsB (a++b)=opsB a++opsB b:=by simp [opsB]
theorem qwx (dir:List Spt) (n:Nat) (p:Bat×Nat):((q4t n p).filter (qcC dir)).map valT=(yO dir n p).map opsC:=by
 unfold q4t yO;generalize p.1.2=cs;induction cs with
 | nil=>rfl
 | cons c cs ih=>
  obtain ⟨k,v,g⟩:=c;cases g with
  | true=>simpa [qcC] using ih
  | false=>
   by_cases h:(k,((n:Int),((p.2:Int),p.1.1)))∈dir
   ·simp only [map_cons,filter_cons,qcC,cF,dYT h,if_true,Bool.not_false,Bool.true_and];rw [ih]; rfl
   ·simp only [map_cons,filter_cons,qcC,cF,dYF h,Bool.not_false,Bool.true_and];simpa using ih
theorem qu4 (dir:List Spt) (n:Nat) (p:Bat×Nat):opsB (j5 dir n p).toList=(yO dir n p).map opsC:=by
 unfold j5;split
 ·rename_i h;rw [List.isEmpty_iff.1 h]; rfl
 ·simp [opsB]
theorem qwz (dir:List Spt) (n:Nat) (ps:List (Bat×Nat)):opsB (ps.filterMap (j5 dir n))=((ps.flatMap (q4t n)).filter (qcC dir)).map valT:=by
 induction ps with
 | nil=>rfl
 | cons p ps ih=>
  rw [flatMap_cons,List.filter_append,map_append,qwx,<- ih,<- qu4,<- q68];congr 1
  cases h:j5 dir n p<;>simp [filterMap_cons,h]
theorem quB (d:List Fil) (dir:List Spt) (old:List Nat):opsB (yM d dir old)=((jO d old).filter (qcC dir)).map valT:=by
 unfold yM jO;induction old with
 | nil=>rfl
 | cons n old ih=>
  rw [flatMap_cons,flatMap_cons,q68,ih,List.filter_append,map_append];congr 1
  exact qwz dir n (zo d n)
theorem qsC (n:Nat):∀ (ps:List (Bat×Nat)),(ps.flatMap (q4t n)).map valT=opsB (ps.map (·.1))
 | []=>rfl
 | p::ps=>by
  rw [flatMap_cons,map_append,qsC n ps,map_cons,show p.1::ps.map (·.1)=[p.1]++ps.map (·.1) from rfl,q68]
  congr 1
  unfold q4t opsB;simp only [flatMap_cons,flatMap_nil,append_nil,map_map];refine List.map_congr_left fun c _=>?_
  cases h:c.2.2<;>simp [valT,opsC,h]
theorem qoR (d:List Fil) (l:List Nat):(jO d l).map valT=opsB (allB d l):=by
 unfold jO allB;induction l with
 | nil=>rfl
 | cons n l ih=>
  rw [flatMap_cons,flatMap_cons,map_append,ih,q68,qsC];congr 2
  exact q6p _ _
theorem qtP (d:List Fil) (a b:List Nat):jO d (a++b)=jO d a++jO d b:=by simp [jO]
theorem qe4 (d:List Fil) (a b:List Nat):allB d (a++b)=allB d a++allB d b:=by simp [allB]
theorem qpt {d:List Fil} {l:List Nat} (hs:∀ n∈l,(segD d n).isSome=true) {k:BA} {s:Int×(Int×Int)} {v:BA} (hx:(k,some (s,v))∈jO d l):valD d (k,s)=some v:=by
 unfold jO at hx;obtain ⟨n,hn,h⟩:=mem_flatMap.1 hx;obtain ⟨p,hp,h⟩:=mem_flatMap.1 h;unfold q4t at h;obtain ⟨c,hc,h⟩:=mem_map.1 h;simp only [Prod.mk.injEq] at h;obtain ⟨e1,e2⟩:=h;cases hg:c.2.2 with
 | true=>rw [hg] at e2; cases e2
 | false=>
  rw [hg] at e2;simp only [cF,Option.some.injEq,Prod.mk.injEq] at e2;rw [<- e1,<- e2.1,<- e2.2];exact qnc (hs n hn) hp hc hg
theorem qpw {d:List Fil} {l:List Nat} {k:BA} {s:Int×(Int×Int)}:(k,s)∈dirD d l↔∃ v,(k,(s,v))∈rowD d l:=by
 unfold dirD;rw [mem_map];constructor
 ·rintro ⟨⟨k',s',v⟩,h,e⟩
  simp only [Prod.mk.injEq] at e;obtain ⟨rfl,rfl⟩:=e;exact ⟨v,h⟩
 ·rintro ⟨v,h⟩
  exact ⟨_,h,rfl⟩
theorem qsJ {d:List Fil} {old act:List Nat} (hs:∀ n∈old++act,(segD d n).isSome=true):runK (opsB (yM d (dirD d (old++act)) old++allB d act))=conD d (old++act):=by
 rw [q6t,qe4,q68,q68,quB,<- qoR,<- qoR,<- map_append,<- map_append];have hv:∀ ops:List Tel,runK (ops.map valT)=(runK ops).map fun y=>(y.1,y.2.2):=fun ops=>(qix (fun v:(Int×(Int×Int))×BA=>v.2) ops).symm
 rw [hv,hv];congr 1
 refine quY (q6f _) (q6f _) fun k=>?_
 rw [qbT,qbT,qcF,qcF];by_cases hk:∃ x∈jO d act,x.1=k
 ·exact qfF hk
 have hk:∀ x∈jO d act,x.1≠k:=fun x hx e=>hk ⟨x,hx,e⟩
 rw [q4E hk,q4E hk];have hR:getK k (rowD d (old++act))=q1o k (jO d old) none:=by
  unfold rowD;rw [qbT,qtP,qcF,q4E hk]
 have hA:AscK (rowD d (old++act)):=q6f _;have hin:∀ x∈(jO d old).filter (qcC (dirD d (old++act))),x.1=k->∃ s v w,x.2=some (s,v)/\(k,some (s,v))∈jO d old/\getK k (rowD d (old++act))=some (s,w):=fun x hx e=>by
  obtain ⟨h1,h2⟩:=mem_filter.1 hx;obtain ⟨k',o⟩:=x;cases o with
  | none=>simp [qcC] at h2
  | some sv=>
   obtain ⟨s,v⟩:=sv;have e:k'=k:=e;subst e;obtain ⟨w,hw⟩:=qpw.1 (of_decide_eq_true (show decide ((k',s)∈dirD d (old++act))=true from h2))
   exact ⟨s,v,w,rfl,h1,(yj hA).2 hw⟩
 cases hr:q1o k (jO d old) none with
 | none=>
  refine q4E fun x hx e=>?_
  obtain ⟨s,v,w,_,_,h⟩:=hin x hx e;rw [hR,hr] at h; cases h
 | some sv=>
  obtain ⟨s,v⟩:=sv;have hmem:=qkt hr;rw [hr] at hR;have hd:=qpw.2 ⟨v,(yj hA).1 hR⟩;refine qhE ⟨(k,some (s,v)),mem_filter.2 ⟨hmem,dYT hd⟩,rfl⟩ fun x hx e=>?_
  obtain ⟨s',v',w,h1,h2,h3⟩:=hin x hx e;rw [hR] at h3;simp only [Option.some.injEq,Prod.mk.injEq] at h3;obtain ⟨rfl,_⟩:=h3;have hso:∀ n∈old,(segD d n).isSome=true:=fun n hn=>hs n (mem_append_left _ hn)
  have q1:=qpt hso hmem;rw [qpt hso h2] at q1;rw [h1,Option.some.inj q1]
theorem qlj:∀ {bs:List Bat} {q:Int},upQ q bs=true↔(q::bs.map (·.1)).Pairwise (· < ·)
 | [],q=>by simp [upQ]
 | b::bs,q=>by
  simp only [upQ,and_eq_true,decide_eq_true_eq,qlj (bs:=bs),map_cons];constructor
  ·rintro ⟨h1,h2⟩
   refine pairwise_cons.2 ⟨fun x hx=>?_,h2⟩
   rcases mem_cons.1 hx with rfl | hx
   ·exact h1
   ·have:=(pairwise_cons.1 h2).1 x hx; omega
  ·intro h;exact ⟨(pairwise_cons.1 h).1 _ (mem_cons_self ..),(pairwise_cons.1 h).2⟩
theorem qvW {bs cs:List Bat} {q:Int} (h:(cs.map (·.1)).Sublist (bs.map (·.1))) (hu:upQ q bs=true):upQ q cs=true:=qlj.2 ((qlj.1 hu).sublist (h.cons_cons q))
theorem qsX (d:List Fil) (dir:List Spt) (n:Nat):((q3A d dir n).map (·.1)).Sublist ((batD d n).map (·.1)):=by
 have:∀ ps:List (Bat×Nat),((ps.filterMap (j5 dir n)).map (·.1)).Sublist ((ps.map (·.1)).map (·.1)):=fun ps=>by
  induction ps with
  | nil=>exact List.Sublist.slnil
  | cons p ps ih=>
   unfold j5 at ih ⊢;rw [filterMap_cons];by_cases h:(yO dir n p).isEmpty=true
   ·simp only [h,if_true,map_cons];exact ih.cons _
   ·simp only [h,Bool.false_eq_true,if_false,map_cons];exact ih.cons_cons _
 have h:=this (zo d n);have e:(zo d n).map (·.1)=batD d n:=q6p _ _;rw [e] at h;exact h
theorem qgs (d:List Fil) (dir:List Spt):∀ (old:List Nat),((yM d dir old).map (·.1)).Sublist ((allB d old).map (·.1))
 | []=>List.Sublist.slnil
 | n::old=>by
  unfold yM allB;rw [flatMap_cons,flatMap_cons,map_append,map_append];exact (qsX d dir n).append (qgs d dir old)
theorem qcc (P:Chg->Bool):∀ cs:List Chg,((cs.filter P).flatMap chL).length<=(cs.flatMap chL).length
 | []=>le_refl _
 | c::cs=>by
  have:=qcc P cs;rw [filter_cons];split<;>simp only [flatMap_cons,length_append]<;>omega
theorem qex {dir:List Spt} {n:Nat} {p:Bat×Nat} (hp:batT p.1=true) {b:Bat} (hb:j5 dir n p=some b):batT b=true/\(bTL b).length<=(bTL p.1).length:=by
 unfold j5 at hb;split at hb
 ·cases hb
 ·rename_i hne;cases hb
  obtain ⟨h1,h2,h3,h4,h5,h6⟩:=jQ.1 (qdp hp);have hsub:(yO dir n p).Sublist p.1.2:=List.filter_sublist;have hlen:=hsub.length_le;have hpos:1<=(yO dir n p).length:=by
   cases ht:yO dir n p with
   | nil=>rw [ht] at hne; simp at hne
   | cons a t=>simp
  have hok:q0E (p.1.1,yO dir n p)=true:=jQ.2 ⟨h1,h2,hpos,le_trans hlen h4,fun c hc=>h5 c (hsub.subset hc),q8w.2 ((q8w.1 h6).sublist hsub)⟩
  have hl:(bTL (p.1.1,yO dir n p)).length<=(bTL p.1).length:=by
   unfold bTL;simp only [length_cons,length_append];rw [qdz (show (yO dir n p).length < 128 from Nat.lt_of_le_of_lt (le_trans hlen h4) (by decide)),qdz (show p.1.2.length < 128 from Nat.lt_of_le_of_lt h4 (by decide))]
   have:((yO dir n p).flatMap chL).length<=(p.1.2.flatMap chL).length:=qcc _ _;omega
  refine ⟨?_,hl⟩;simp only [batT,and_eq_true,decide_eq_true_eq] at hp ⊢;exact ⟨hok,le_trans hl hp.2⟩
theorem qpf {d:List Fil} {dir:List Spt} {old:List Nat} (h:∀ b∈allB d old,batT b=true):∀ b∈yM d dir old,batT b=true:=fun b hb=>by
 unfold yM at hb;obtain ⟨n,hn,hb⟩:=mem_flatMap.1 hb;unfold q3A at hb;obtain ⟨p,hp,hb⟩:=List.mem_filterMap.1 hb;refine (qex (h _ ?_) hb).1;unfold allB;refine mem_flatMap.2 ⟨n,hn,?_⟩;rw [<- q6p (batD d n) (wo d n)];exact mem_map.2 ⟨p,hp,rfl⟩
end
section
variable {β:Type}
theorem get_filter {l:List (BA×β)} (h:AscK l) (P:BA×β->Bool) (k:BA) {v:β}:getK k (l.filter P)=some v↔getK k l=some v/\P (k,v)=true:=by
 rw [yj (h.filter _),yj h,mem_filter]
end
theorem qcs {d:List Fil} (h:dOkB d=true) (P:Fil->Bool):dOkB (d.filter P)=true:=by
 obtain ⟨h1,h2,h3⟩:=qG.1 h;exact qG.2 ⟨le_trans (length_filter_le ..) h1,fun f hf=>h2 f (mem_filter.1 hf).1,h3.filter _⟩
theorem q8U {d:List Fil} (h:q12 d=true) (P:Fil->Bool):q12 (d.filter P)=true:=by
 obtain ⟨h1,h2⟩:=q0U.1 h;exact q0U.2 ⟨qcs h1 P,fun f hf=>h2 f (mem_filter.1 hf).1⟩
theorem qe0 {d1 d2:List Fil} {b:List Act}:∀ {a:List Act} {d:List Fil},allA d a d1->allA d1 b d2->allA d (a++b) d2
 | [],d,h,k=>by
  have:d=d1:=congrArg Prod.fst h;rw [this]; exact k
 | x::a,d,h,k=>by
  obtain ⟨d',h1,h2⟩:=q2L h;exact yx h1 (qe0 h2 k)
theorem qjp {d2:List Fil} {b:List Act}:∀ {a:List Act} {d:List Fil},allA d (a++b) d2->∃ d1,allA d a d1/\allA d1 b d2
 | [],d,h=>⟨d,rfl,h⟩
 | x::a,d,h=>by
  obtain ⟨d',h1,h2⟩:=q2L h;obtain ⟨d1,h3,h4⟩:=qjp h2;exact ⟨d1,yx h1 h3,h4⟩
theorem qwE {d:List Fil} {k:BA} {v:BA×Int} (h:getK k d=some v):doA d (drA k)=some (delK k d):=by
 unfold doA drA;simp only [h];rfl
theorem drops:∀ (ks:List BA) {d:List Fil},dOkB d=true->ks.Nodup->(∀ k∈ks,getK k d≠none)->allA d (ks.map drA) (d.filter fun f=>decide (f.1∉ks))
 | [],d,_,_,_=>by
  unfold allA;rw [List.filter_eq_self.2 (fun _ _=>by simp)]; rfl
 | k::ks,d,h,hn,hp=>by
  obtain ⟨hn1,hn2⟩:=List.nodup_cons.1 hn;obtain ⟨v,hv⟩:=Option.ne_none_iff_exists'.1 (hp k (mem_cons_self ..));have hasc:=(qG.1 h).2.2;have h1:actB d (drA k)=some (delK k d):=q5M h (.inr q0f) (.inr q0f) (qwE hv) (qcs h _);have h2:=drops ks (d:=delK k d) (qcs h _) hn2 fun j hj=>by
   rw [qep hasc,if_neg fun (e:j=k)=>hn1 (e▸hj)]
   exact hp j (mem_cons_of_mem _ hj)
  have e:((delK k d).filter fun f=>decide (f.1∉ks))=d.filter fun f=>decide (f.1∉k::ks):=by
   unfold delK;rw [List.filter_filter];refine List.filter_congr fun f _=>?_
   by_cases e:f.1=k<;>simp [e]
  rw [e] at h2;exact yx h1 h2
noncomputable def q0n (d:List Fil) (l i:List Nat) (top:Nat):List UInt8:=qU top top++bats (yM d (dirD d l) (i++[top]))
noncomputable def jd (d:List Fil) (l i:List Nat) (top:Nat):List Act:=
 (adA qB (bOf (qU top top))::(yM d (dirD d l) (i++[top])).map fun b=>adA qB (bOf (batL b)))++(kpA qB::mvA qB (nmL top)::i.map fun n=>drA (nmL n))
theorem adds {d:List Fil} {l:List Nat} (C:Clean d l) (hlen:d.length<=29):∀ (bs:List Bat) (T:List UInt8),T.length+(bats bs).length<=20000->allA (putK qB (bOf T,0) d) (bs.map fun b=>adA qB (bOf (batL b))) (putK qB (bOf (T++bats bs),0) d)
 | [],T,_=>by
  rw [show T++bats []=T by simp [bats]]; exact je _
 | b::bs,T,h=>by
  rw [q09,length_append] at h;have o:∀ U:List UInt8,U.length<=20000->dOkB (putK qB (bOf U,0) d)=true:=fun U hU=>(q3q C hlen hU 0).1
  have h1:actB (putK qB (bOf T,0) d) (adA qB (bOf (batL b)))=some (putK qB (bOf (T++batL b),0) d):=by
   refine q5M (o T (by omega)) (.inr q0f) (.inl rfl) ?_ (o _ (by rw [length_append]; omega))
   rw [q6y (u:=bOf T) (kp:=0) (by rw [wQ C.asc,if_pos rfl]),q8c C.asc,q8z (bOf T)]
  have:=adds C hlen bs (T++batL b) (by rw [length_append]; omega)
  rw [q09,<- append_assoc];exact yx h1 this
section
variable {d:List Fil} {l i:List Nat} {top act:Nat}
noncomputable def q5g (d:List Fil) (l i:List Nat) (top:Nat) (n:Nat):Nat×List Bat:=if n=top then (top,yM d (dirD d l) (i++[top])) else (hdD d n,batD d n)
noncomputable def wh (d:List Fil) (l i:List Nat) (top:Nat):List Fil:=putK (nmL top) (bOf (q0n d l i top),((bOf (q0n d l i top)).size:Int)) d
theorem qjn (C:Clean d l) (hl:l=(i++[top])++[act]) {P:Fil->Bool} (hP:∀ f,P f=false->∃ n∈i,f.1=nmL n) {n:Nat} (hn:n∈[top,act]) {v:BA×Int} (hv:getK (nmL n) (wh d l i top)=some v):getK (nmL n) ((wh d l i top).filter P)=some v:=by
 obtain ⟨p1,p2,p3,p4,_⟩:=C.parts hl;have S:=C.says;refine (get_filter (jT C.asc _ _) _ _).2 ⟨hv,?_⟩;cases hp:P (nmL n,v) with
 | true=>rfl
 | false=>
  obtain ⟨k,hk,e⟩:=hP _ hp;have hnl:n∈l:=by
   rcases mem_cons.1 hn with rfl | hn
   ·exact p1
   ·rw [mem_singleton.1 hn]; exact p2
  have:=jY (S.lt n hnl) (S.lt k (p4 k hk).1) e;have:=(p4 k hk).2;rcases mem_cons.1 hn with rfl | hn
  ·omega
  ·have:=mem_singleton.1 hn; omega
theorem qs8 (C:Clean d l) (i:List Nat) (top:Nat):getK (nmL top) (wh d l i top)=some (bOf (q0n d l i top),((bOf (q0n d l i top)).size:Int)):=by
 unfold wh;rw [wQ C.asc,if_pos rfl]
theorem q7B (C:Clean d l) (hl:l=(i++[top])++[act]) {n:Nat} (hn:n < 100) (hne:n≠top):getK (nmL n) (wh d l i top)=getK (nmL n) d:=by
 unfold wh;rw [wQ C.asc,if_neg fun e=>hne (jY hn (C.says.lt top (C.parts hl).1) e)]
theorem qeM (C:Clean d l) (hl:l=(i++[top])++[act]):([top,act].flatMap fun n=>(q5g d l i top n).2)=yM d (dirD d l) (i++[top])++batD d act:=by
 obtain ⟨_,_,p3,_,_⟩:=C.parts hl;simp only [flatMap_cons,flatMap_nil,append_nil];unfold q5g;rw [if_pos rfl,if_neg (by omega)]
theorem qd2 (C:Clean d l) (hl:l=(i++[top])++[act]) {P:Fil->Bool} (hP:∀ f,P f=false->∃ n∈i,f.1=nmL n):Says ((wh d l i top).filter P) [top,act] (q5g d l i top):=by
 obtain ⟨p1,p2,p3,p4,_⟩:=C.parts hl;have S:=C.says;have hF1:q5g d l i top top=(top,yM d (dirD d l) (i++[top])):=by unfold q5g; rw [if_pos rfl]
 have hF2:q5g d l i top act=(hdD d act,batD d act):=by unfold q5g; rw [if_neg (by omega)]
 have hin:∀ n∈[top,act],n=top\/n=act:=fun n hn=>by simpa using hn
 exact {
  lt:=fun n hn=>by
   rcases hin n hn with rfl | rfl
   ·exact S.lt _ p1
   ·exact S.lt _ p2
  asc:=by unfold AscN; simp; exact p3
  ne:=by simp
  has:=fun n hn h=>by
   obtain ⟨v,hv⟩:=isSome_iff_exists.1 h;obtain ⟨hv,_⟩:=(get_filter (jT C.asc _ _) _ _).1 hv;by_cases e:n=top
   ·left; simp [e]
   ·have hv:getK (nmL n) (wh d l i top)=some v:=hv;rw [q7B C hl hn e] at hv;have hnl:=(C.has hn).1 (by unfold hasN; rw [hv]; rfl)
    rw [hl] at hnl;simp only [mem_append,mem_singleton] at hnl;rcases hnl with (h | h) | h
    ·exact .inr ⟨top,by simp,by rw [hF1]; exact (p4 n h).2⟩
    ·exact absurd h e
    ·left; simp [h]
  file:=fun n hn=>by
   rcases hin n hn with rfl | rfl
   ·exact ⟨_,qjn C hl hP hn (qs8 C i n),by rw [yX,hF1]; rfl⟩
   ·obtain ⟨t,q1,q2⟩:=S.file n p2;exact ⟨t,qjn C hl hP hn (by rw [q7B C hl (S.lt n p2) (by omega)]; exact q1),by rw [hF2]; exact q2⟩
  hd:=fun m hm n hn=>by
   rcases hin m hm with rfl | rfl
   ·rw [hF1];rcases hin n hn with rfl | rfl
    ·exact le_refl _
    ·exact Nat.le_of_lt p3
   ·rw [hF2];rcases hin n hn with rfl | rfl
    ·exact S.hd _ p2 _ p1
    ·exact S.hd _ p2 _ p2
  bt:=fun n hn b hb=>by
   rcases hin n hn with rfl | rfl
   ·rw [hF1] at hb;refine qpf (fun x hx=>C.bt x ?_) b hb
    rw [hl,qe4];exact mem_append_left _ hx
   ·rw [hF2] at hb;exact S.bt n p2 b hb
  up:=by
   rw [qeM C hl];refine qvW ?_ C.up;have e:allB d l=allB d (i++[top])++batD d act:=by
    conv=>lhs; rw [hl,qe4]
    simp [allB]
   rw [e,map_append,map_append];exact (qgs d _ _).append (List.Sublist.refl _) }
theorem qkA (C:Clean d l) (hl:l=(i++[top])++[act]) {x:List Fil} (h:allB x [top,act]=[top,act].flatMap fun n=>(q5g d l i top n).2):conD x [top,act]=conD d l:=by
 rw [q6t,h,qeM C hl];have:=qsJ (d:=d) (old:=i++[top]) (act:=[act]) (by rw [<- hl]; exact fun n hn=>C.seg hn)
 rw [<- hl] at this;rw [<- this];simp [allB]
theorem qfO (C:Clean d l) (hlen:d.length<=29) (hsz:(q0n d l i top).length<=20000) (j:Nat):∃ T:List UInt8,T.length<=20000/\allA d (adA qB (bOf (qU top top))::((yM d (dirD d l) (i++[top])).take j).map fun b=>adA qB (bOf (batL b))) (putK qB (bOf T,0) d)/\(j=(yM d (dirD d l) (i++[top])).length->T=q0n d l i top):=by
 unfold q0n at hsz ⊢;generalize yM d (dirD d l) (i++[top])=ks at *;have hb:(bats (ks.take j)).length<=(bats ks).length:=by
  conv=>rhs; rw [<- List.take_append_drop j ks,q8b,length_append]
  omega
 rw [length_append] at hsz;refine ⟨qU top top++bats (ks.take j),by rw [length_append]; omega,?_,fun e=>by rw [e,List.take_length]⟩
 obtain ⟨_,_,_,a1,_,_⟩:=q3q C hlen (T:=qU top top) (by omega) 0
 exact yx a1 (adds C hlen _ _ (by omega))
theorem qkv (C:Clean d l) (hl:l=(i++[top])++[act]) (ho:dOkB (wh d l i top)=true) (j:Nat):allA (wh d l i top) ((i.take j).map fun n=>drA (nmL n)) ((wh d l i top).filter fun f=>decide (f.1∉(i.take j).map nmL)):=by
 obtain ⟨p1,p2,p3,p4,p5⟩:=C.parts hl;have hsub:∀ n∈i.take j,n∈i:=fun n hn=>List.mem_of_mem_take hn
 have h:=drops ((i.take j).map nmL) ho ?_ ?_
 ·rw [map_map] at h; exact h
 ·unfold List.Nodup;rw [List.pairwise_map];refine List.Pairwise.imp_of_mem (fun {a b} ha hb hab e=>?_) (p5.sublist (List.take_sublist j i))
  have:=jY (C.says.lt a (p4 a (hsub a ha)).1) (C.says.lt b (p4 b (hsub b hb)).1) e;omega
 ·intro k hk;obtain ⟨n,hn,rfl⟩:=mem_map.1 hk;obtain ⟨q1,q2⟩:=p4 n (hsub n hn);obtain ⟨t,q3,_⟩:=C.file q1;rw [q7B C hl (C.says.lt n q1) (by omega),q3]
  simp
theorem qsk (C:Clean d l) (hl:l=(i++[top])++[act]) (hlen:d.length<=29) (hsz:(q0n d l i top).length<=20000) :
  dOkB (wh d l i top)=true/\allA d (jd d l i top) ((wh d l i top).filter fun f=>decide (f.1∉i.map nmL)):=by
 obtain ⟨T,t1,t2,t3⟩:=qfO C hlen hsz (yM d (dirD d l) (i++[top])).length;rw [t3 rfl,List.take_length] at t2;obtain ⟨_,_,o3,_,a2,a3⟩:=q3q C hlen hsz top;have ht:=qkv C hl o3 i.length;rw [List.take_length] at ht;exact ⟨o3,qe0 t2 (yx a2 (yx a3 ht))⟩
theorem qon (C:Clean d l) (hl:l=(i++[top])++[act]) (ho:dOkB (wh d l i top)=true):Clean ((wh d l i top).filter fun f=>decide (f.1∉i.map nmL)) [top,act]/\conD ((wh d l i top).filter fun f=>decide (f.1∉i.map nmL)) [top,act]=conD d l/\allB ((wh d l i top).filter fun f=>decide (f.1∉i.map nmL)) [top,act]=yM d (dirD d l) (i++[top])++batD d act:=by
 have hP:∀ f:Fil,decide (f.1∉i.map nmL)=false->∃ n∈i,f.1=nmL n:=fun f h=>by
  have:f.1∈i.map nmL:=Classical.byContradiction fun hn=>by rw [dYT hn] at h; cases h
  obtain ⟨n,hn,e⟩:=mem_map.1 this;exact ⟨n,hn,e.symm⟩
 have hk:=q8U (q4Y C.kept ho) fun f:Fil=>decide (f.1∉i.map nmL)
 obtain ⟨k1,_,k3⟩:=(qd2 C hl hP).clean hk (fun n hn h=>by
  obtain ⟨v,hv⟩:=isSome_iff_exists.1 h;obtain ⟨hv,hp⟩:=(get_filter (jT C.asc _ _) _ _).1 hv;have hp:nmL n∉i.map nmL:=of_decide_eq_true hp;by_cases e:n=top
  ·simp [e]
  ·have hv:getK (nmL n) (wh d l i top)=some v:=hv;rw [q7B C hl hn e] at hv;have hnl:=(C.has hn).1 (by unfold hasN; rw [hv]; rfl)
   rw [hl] at hnl;simp only [mem_append,mem_singleton] at hnl;rcases hnl with (h | h) | h
   ·exact absurd (mem_map.2 ⟨n,h,rfl⟩) hp
   ·exact absurd h e
   ·simp [h]) (by
  cases hg:getK qB ((wh d l i top).filter fun f=>decide (f.1∉i.map nmL)) with
  | none=>rfl
  | some v=>
   have:=((get_filter (jT C.asc _ _) _ _).1 hg).1;rw [wQ C.asc,if_neg fun e=>q47 top e.symm,C.new] at this
   cases this)
 exact ⟨k1,qkA C hl k3,k3.trans (qeM C hl)⟩
end
end Go.Den.S
namespace Go.Den.S
open Go Go.Den
set_option maxRecDepth 4000
def qco (k:BA) (l:List Chg):BA×Bool:=match l.find? (fun c=>decide (c.1=k)&&!c.2.2) with
 | some c=>(c.2.1,true)
 | none=>(eB,false)
theorem qjE (k:BA) (c:Chg) (r:List Chg):qco k (c::r)=bif decide (c.1=k) then (bif !c.2.2 then (c.2.1,true) else qco k r) else qco k r:=by
 unfold qco;rw [List.find?_cons];cases decide (c.1=k)<;>cases c.2.2<;>rfl
theorem qfj (s:Spt) (q:Int) (cs:List Chg) (hn:cs.length<=1000000000):∀ (r:List Chg) (i:Nat),cs.drop i=r->i<=cs.length->
  q2p (i:Int) s.1 s.2.1 s.2.2.1 s.2.2.2 q cs=some (qco s.1 r,())
 | [],i,hd,hi=>by
  have:=drop_eq_nil_iff.1 hd;rw [q8Z];have k1:decide ((i:Int) < (cs.length:Int))=false:=dYF (by omega)
  simp only [k1,cF]; rfl
 | c::r,i,hd,hi=>by
  obtain ⟨e1,hlt,e2⟩:=qK dC hd;rw [q8Z];have k1:decide ((i:Int) < (cs.length:Int))=true:=dYT (by omega)
  have k2:decide (0<=(i:Int))=true:=dYT (by omega)
  have k4:w64 ((i:Int)+1)=((i+1:Nat):Int):=qw (by omega)
  rw [k1,k2];simp only [Bool.and_self,cT,k4,toNat_natCast,e1,y8,qfj s q cs hn r (i+1) e2 hlt,qjE];cases decide (c.1=s.1)<;>cases c.2.2<;>rfl
noncomputable def q62 (d:List Fil) (n:Nat) (a:Int):Option Bat:=(getK (nmL n) d).bind fun x=>
 if a < 0\/(x.1.size:Int) < a then none else match (unfr ((bl x.1).drop a.toNat)).1 with
  | []=>none
  | h::_=>q0b h
theorem qaZ (d:List Fil) (s:Spt) {n:Nat} (h:s.2.1=(n:Int)):valD d s=(q62 d n s.2.2.1).bind fun b=>if b.1=s.2.2.2 then (b.2.find? fun c=>decide (c.1=s.1)&&!c.2.2).map (·.2.1) else none:=by
 unfold valD q62;rw [h,if_neg (by omega),toNat_natCast]
 cases getK (nmL n) d with
 | none=>rfl
 | some x=>
  simp only [oB];split
  ·rfl
  ·cases (unfr ((bl x.1).drop s.2.2.1.toNat)).1 with
   | nil=>rfl
   | cons h r=>rfl
noncomputable def voO (d:List Fil) (s:Spt):BA×Bool:=match valD d s with
 | some v=>(v,true)
 | none=>(eB,false)
theorem qbm {d:List Fil} {s:Spt} (h:valD d s=none):voO d s=(eB,false):=by unfold voO; rw [h]
theorem qoW {d:List Fil} {s:Spt} {n:Nat} (h:s.2.1=(n:Int)) {b:Bat} (hb:q62 d n s.2.2.1=some b):voO d s=bif (b.1 != s.2.2.2) then (eB,false) else qco s.1 b.2:=by
 unfold voO;rw [qaZ d s h,hb];simp only [oB];by_cases e:b.1=s.2.2.2
 ·have:(b.1 != s.2.2.2)=false:=by rw [e]; simp
  rw [this,if_pos e,cF];unfold qco;cases b.2.find? fun c=>decide (c.1=s.1)&&!c.2.2<;>rfl
 ·have:(b.1 != s.2.2.2)=true:=bne_iff_ne.2 e;rw [this,if_neg e,cT]
theorem qh9 (t:BA) (a:Nat):bl (t.extract a t.size)=(bl t).drop a:=by
 rw [q4M,List.take_of_length_le];rw [List.length_drop,<- qW]; omega
theorem qn2 {h:BA} {b:Bat} (e:q0b h=some b):b.2.length<=40:=qcD (q2m.1 e).1
noncomputable def baO (d:List Fil) (n:Nat) (a:Int):Bat×Bool:=match q62 d n a with
 | some b=>(b,true)
 | none=>((0,[]),false)
theorem qic (d:List Fil) (hd:dOkB d=true) {n:Nat} (hn:n < 100) (a:Int):qa0 d (n:Int) a=some (baO d n a,()):=by
 have hl:=(qG.1 hd).1;rw [qiv,wH,zl hn];simp only [oB];rw [q1F d (by omega)]
 unfold faO baO q62;cases hg:getK (nmL n) d with
 | none=>rfl
 | some x=>
  have hf:=(yj (qG.1 hd).2.2).1 hg;have hx:x.1.size<=20000:=(jg.1 ((qG.1 hd).2.1 _ hf)).2.2.1;simp only [oB,Bool.not_true,cF,jy,q0V];by_cases ha:0<=a/\a<=(x.1.size:Int)
  ·rw [dYT ha,if_neg (by omega),dYT ha.1,dYT ha.2,dYT (Int.le_refl _),qcB]
   simp only [Bool.not_true,cF,Bool.and_self,cT,oB,toNat_natCast];have hu:(unO (x.1.extract a.toNat x.1.size)).1=(unfr ((bl x.1).drop a.toNat)).1:=by
    unfold unO;rw [if_pos (by rw [qW,qh9,List.length_drop,<- qW]; omega),qh9]
   have hf:=fun h=>qgt (t:=x.1.extract a.toNat x.1.size) (h:=h)
   rw [hu] at hf ⊢;cases hc:(unfr ((bl x.1).drop a.toNat)).1 with
   | nil=>rfl
   | cons h r=>
    have hh:frOk h:=hf h (by rw [hc]; exact mem_cons_self ..)
    have k1:(((h::r).length:Int)==0)=false:=by rw [beq_eq_false_iff_ne,length_cons]; omega
    have k2:decide ((0:Int) < ((h::r).length:Int))=true:=dYT (by rw [length_cons]; omega)
    have k3:decide ((0:Int)<=0)=true:=rfl;have k4:(h::r).getD (toNat 0) eB=h:=rfl;rw [k1,k2,k3,k4,qax h (by have:=hh.2; omega)]
    rfl
  ·rw [dYF ha,if_pos (by omega)]; rfl
theorem qkT (d:List Fil) (hd:dOkB d=true) (s:Spt) {n:Nat} (hn:n < 100) (h:s.2.1=(n:Int)):qbE d s=some (voO d s,()):=by
 have hl:=(qG.1 hd).1;rw [qkc,zO d (by omega),hd,h,qic d hd hn]
 simp only [oB,Bool.not_true,cF];unfold baO;cases hb:q62 d n s.2.2.1 with
 | none=>rw [qbm (by rw [qaZ d s h,hb]; rfl)]; rfl
 | some b=>
  have hb40:b.2.length<=40:=by
   unfold q62 at hb;obtain ⟨x,_,hx⟩:=Option.bind_eq_some_iff.1 hb;split at hx
   ·cases hx
   ·split at hx
    ·cases hx
    ·exact qn2 hx
  rw [qoW h hb];simp only [Bool.not_true,cF];have:=qfj s b.1 b.2 (by omega) b.2 0 rfl (zero_le _)
  rw [h] at this;rw [show ((0:Int))=((0:Nat):Int) from rfl,this]
  cases (b.1 != s.2.2.2)<;>rfl
end Go.Den.S
namespace Go.Den.S
open Go Go.Den
open Classical
set_option maxRecDepth 4000
noncomputable def conS (d:List Fil) (l:List Spt):List Chg:=l.map fun s=>(s.1,((voO d s).1,false))
theorem qdU (e:Eng) (hd:dOkB e.1=true) (hl:e.2.2.2.2.length<=1000000000) (hs:∀ s∈e.2.2.2.2,∃ n:Nat,n < 100/\s.2.1=(n:Int)):∀ (r:List Spt) (i:Nat) (acc:List Chg),e.2.2.2.2.drop i=r->i<=e.2.2.2.2.length->acc.length<=i->
  q3J acc (i:Int) e.1 e.2.1 e.2.2.1 e.2.2.2.1 e.2.2.2.2=some ((acc++conS e.1 r,true),())
 | [],i,acc,hd',hi,ha=>by
  have:=drop_eq_nil_iff.1 hd';rw [q7Z];have k1:decide ((i:Int) < (e.2.2.2.2.length:Int))=false:=dYF (by omega)
  simp only [k1,cF];show _=some ((acc++[],true),());rw [append_nil]
 | s::r,i,acc,hd',hi,ha=>by
  obtain ⟨e1,hlt,e2⟩:=qK dS hd';obtain ⟨n,hn,h⟩:=hs s (yL hd');rw [q7Z];have k1:decide ((i:Int) < (e.2.2.2.2.length:Int))=true:=dYT (by omega)
  have k2:decide (0<=(i:Int))=true:=dYT (by omega)
  have k4:w64 ((i:Int)+1)=((i+1:Nat):Int):=qw (by omega)
  have kl:lim (acc.length+1) 40=true:=qJ (by omega)
  rw [k1,k2];simp only [Bool.and_self,cT,k4,toNat_natCast,e1,pmk];rw [qkT e.1 hd s hn h];simp only [oB];rw [kl,cT,qdU e hd hl hs r (i+1) _ e2 hlt (by rw [length_append,length_singleton]; omega),append_assoc]
  rfl
noncomputable def coO (e:Eng):List Chg×Bool:=if eOkP e then (conS e.1 e.2.2.2.2,true) else ([],false)
theorem jS (e:Eng) (hd:e.1.length<=2000000):jR e=some (coO e,()):=by
 rw [qiM,q6k e hd];unfold coO;by_cases h:eOkP e
 ·obtain ⟨f1,f2,f3⟩:=q6w h;rw [dYT h,if_pos h];exact qdU e f1 (by omega) f3 e.2.2.2.2 0 [] rfl (zero_le _) (le_refl _)
 ·rw [dYF h,if_neg h]; rfl
def chgs (m:List (BA×BA)):List Chg:=m.map fun x=>(x.1,(x.2,false))
theorem qvw {d:List Fil} {l:List Nat} (C:Clean d l):conS d (dirD d l)=chgs (conD d l):=by
 unfold conS chgs;rw [<- qw5 (fun n hn=>C.seg hn),map_map]
 refine List.map_congr_left fun s hs=>?_
 show (s.1,((voO d s).1,false))=(s.1,((valD d s).getD (bOf []),false));unfold voO;cases valD d s<;>rfl
theorem qdy {d:List Fil} {l:List Nat} (C:Clean d l) {room:Int} (h1:100<=room) (h2:room<=20000):coO (mkE d d room l)=(chgs (conD d l),true):=by
 unfold coO;rw [if_pos (q6a.2 ⟨h1,h2,l,C,rfl⟩)];show (conS d (dirD d l),true)=_;rw [qvw C]
theorem q5i (f:Fil) (d:List Fil):yR (f::d)=f.2.1.size+yR d:=by simp [yR]
theorem qov {d:List Fil} (h:dOkB d=true):yR d<=600000:=by
 obtain ⟨h1,h2,_⟩:=qG.1 h;have:∀ l:List Fil,(∀ f∈l,q0W f=true)->yR l<=20000 * l.length:=by
  intro l;induction l with
  | nil=>intro _; exact le_refl _
  | cons f l ih=>
   intro hl;have a:=ih fun g hg=>hl g (mem_cons_of_mem _ hg)
   have b:=(jg.1 (hl f (mem_cons_self ..))).2.2.1;rw [q5i,length_cons]; omega
 have:=this d h2;omega
theorem qby (d:List Fil) (hn:d.length<=1000000000):∀ (r:List Fil) (i a:Nat),d.drop i=r->i<=d.length->a+yR r<=1000000000->
  q4y (a:Int) d (d.length:Int) (i:Int)=some (((a+yR r:Nat):Int),())
 | [],i,a,hd',hi,ha=>by
  have:=drop_eq_nil_iff.1 hd';rw [q9R];have k1:decide ((i:Int) < (d.length:Int))=false:=dYF (by omega)
  simp only [k1,cF]; rfl
 | f::r,i,a,hd',hi,ha=>by
  obtain ⟨e1,hlt,e2⟩:=qK dF hd';rw [q5i] at ha;rw [q9R];have k1:decide ((i:Int) < (d.length:Int))=true:=dYT (by omega)
  have k2:decide (0<=(i:Int))=true:=dYT (by omega)
  have k4:w64 ((i:Int)+1)=((i+1:Nat):Int):=qw (by omega)
  have k5:w64 ((a:Int)+(f.2.1.size:Int))=((a+f.2.1.size:Nat):Int):=qg (by omega) (by omega)
  simp only [k1,k2,Bool.and_self,cT,toNat_natCast,e1,k4,k5];rw [qby d hn r (i+1) _ e2 hlt (by omega),q5i,Nat.add_assoc]
theorem qbX (d:List Fil) (hn:d.length<=1000000000):∀ (r:List Fil) (i a:Nat),d.drop i=r->i<=d.length->a+yR r<=1000000000->
  q4w (a:Int) (i:Int) d=some (((a+yR r:Nat):Int),())
 | [],i,a,hd',hi,ha=>by
  have:=drop_eq_nil_iff.1 hd';rw [q9E];have k1:decide ((i:Int) < (d.length:Int))=false:=dYF (by omega)
  simp only [k1,cF]; rfl
 | f::r,i,a,hd',hi,ha=>by
  obtain ⟨e1,hlt,e2⟩:=qK dF hd';rw [q5i] at ha;rw [q9E];have k1:decide ((i:Int) < (d.length:Int))=true:=dYT (by omega)
  have k2:decide (0<=(i:Int))=true:=dYT (by omega)
  have k4:w64 ((i:Int)+1)=((i+1:Nat):Int):=qw (by omega)
  have k5:w64 ((a:Int)+(f.2.1.size:Int))=((a+f.2.1.size:Nat):Int):=qg (by omega) (by omega)
  simp only [k1,k2,Bool.and_self,cT,toNat_natCast,e1,k4,k5];rw [qbX d hn r (i+1) _ e2 hlt (by omega),q5i,Nat.add_assoc]
theorem qeq {d:List Fil} (h:dOkB d=true):q4L d=some ((yR d:Int),()):=by
 have h1:=(qG.1 h).1;have h2:=qov h;rw [qji];have:=qby d (by omega) d 0 0 rfl (zero_le _) (by omega)
 rw [zero_add] at this;exact this
theorem qjl {d:List Fil} (h:dOkB d=true):q0S d=some ((yR d:Int),()):=by
 have h1:=(qG.1 h).1;have h2:=qov h;rw [qkn];have:=qbX d (by omega) d 0 0 rfl (zero_le _) (by omega)
 rw [zero_add] at this;exact this
theorem head_mem {l:List Nat} (h:l≠[]):l.headD 0∈l:=by
 cases l with
 | nil=>exact absurd rfl h
 | cons a l=>exact mem_cons_self ..
theorem ql0 {d:List Fil} {l:List Nat} (C:Clean d l) {b:Bat} (hb:batT b=true) {xs:List Act} (ha:putA d l b=some xs):aSz xs:=by
 have hbl:=q8C hb;unfold putA at ha;split at ha
 ·rw [<- Option.some.inj ha];refine ⟨by simp,fun a h=>?_⟩
  rcases mem_cons.1 h with rfl | h
  ·show (bOf (batL b)).size<=_;rw [qD]; omega
  ·rw [mem_singleton.1 h]; exact zero_le _
 ·split at ha
  ·rename_i hm;rw [<- Option.some.inj ha];refine ⟨by simp,fun a h=>?_⟩
   rcases mem_cons.1 h with rfl | h
   ·show (bOf (_++batL b)).size<=_;rw [qD,length_append,q1v hm (C.mem.1 (head_mem C.ne)).1]; omega
   ·rcases mem_cons.1 h with rfl | h
    ·exact zero_le _
    ·rw [mem_singleton.1 h]; exact zero_le _
  ·cases ha
theorem qea {bs:List Bat} (h:∀ b∈bs,batT b=true):0<=zN bs/\zN bs<=1000000000:=by
 unfold zN;cases hl:bs.getLast? with
 | none=>exact ⟨Int.le_refl _,by decide⟩
 | some b=>exact qdr (h b (List.mem_of_getLast? hl))
theorem qqv {e:Eng} (h:eOkP e) {cs:List Chg} (hb:batT (e.2.2.2.1+1,cs)=true) {xs:List Act} (ha:putA e.1 (segN e.1) (e.2.2.2.1+1,cs)=some xs) (hx:allA e.1 xs (qR e.1 xs).1):(opO (qR e.1 xs).1 e.2.1).2.2=true/\dOkB (qR e.1 xs).1=true:=by
 obtain ⟨r1,r2,C,_,hq,_⟩:=jJ h;obtain ⟨l',C',_⟩:=qoy C hb (by rw [hq]; show _ < zN _+1; omega) ha hx
 rw [qaE C' r1 r2];exact ⟨rfl,C'.ok⟩
theorem qub {e:Eng} (h:eOkP e) (hn:e.1.length<=2000000) {cs:List Chg} (hb:batT (e.2.2.2.1+1,cs)=true) {xs:List Act} (ha:putA e.1 (segN e.1) (e.2.2.2.1+1,cs)=some xs) :
  ((q0c e.1 xs).bind fun r13=>bif decide (r13.1.2 < (xs.length:Int)) then some ((noE,(([]:List Act),(2:Int))),()) else
   (q0S r13.1.1).bind fun r14=>bif decide (r14.1 > e.2.1) then some ((noE,(([]:List Act),(2:Int))),()) else
    (zw r13.1.1 e.2.1).bind fun r15=>bif !r15.1.2.2 then some ((noE,(([]:List Act),(2:Int))),()) else some ((r15.1.1,(xs,(0:Int))),()))=some (runO e.1 e.2.1 (some xs),()):=by
 obtain ⟨r1,r2,C,_,hq,_⟩:=jJ h;have hsz:=ql0 C hb ha;rw [q3e e.1 hn xs hsz];simp only [oB];have hle:=q6i xs e.1;rw [q6v];by_cases hall:(qR e.1 xs).2=xs.length
 ·obtain ⟨g1,g2⟩:=qqv h hb ha (qij.2 hall);have hlen:=(qG.1 g2).1;rw [dYF (show ¬ ((qR e.1 xs).2:Int) < (xs.length:Int) by omega),dYF (show ¬ (qR e.1 xs).2 < xs.length by omega),cF,qjl g2,Bool.false_or]
  simp only [oB];rw [q2n _ (by omega)]
  simp only [oB,g1];cases decide ((yR (qR e.1 xs).1:Int) > e.2.1)<;>rfl
 ·rw [dYT (show ((qR e.1 xs).2:Int) < (xs.length:Int) by omega),dYT (show (qR e.1 xs).2 < xs.length by omega)]
  rfl
theorem q6n (e:Eng) (hn:e.1.length<=2000000) (cs:List Chg) (hc:cs.length<=1000000000):q2d e cs=some (puO e cs,()):=by
 rw [qhY,q38 _ hc,q6k e hn];simp only [oB];unfold puO;by_cases h:eOkP e
 ·obtain ⟨r1,r2,C,hact,hq,_⟩:=jJ h;have hqb:=qea C.bt;have w1:w64 (e.2.2.2.1+1)=e.2.2.2.1+1:=qg (by omega) (by omega)
  rw [dYT h,w1];unfold btO;by_cases hb:batT (e.2.2.2.1+1,cs)=true
  ·rw [if_pos hb,dif_pos ⟨h,hb⟩];simp only [Bool.not_true,cF];have hfr:frO (bOf (bTL (e.2.2.2.1+1,cs)))=(bOf (batL (e.2.2.2.1+1,cs)),true):=q9C (q6R hb);rw [q18,hfr];simp only [oB];have fin:=fun xs=>qub h hn hb (xs:=xs)
   have hpa:putA e.1 (segN e.1) (e.2.2.2.1+1,cs)=putA e.1 (segN e.1) (e.2.2.2.1+1,cs):=rfl;rw [wH,hact];generalize hl:segN e.1=l at *;have hlm:=qbt C.ne;have h100:=(C.mem.1 hlm).1;obtain ⟨t1,t2⟩:=C.txt hlm;have hl30:=C.len;rw [zl h100];simp only [oB];have hfa:faO e.1 (nmL (l.getLastD 0))=(txtD e.1 (l.getLastD 0),true):=by unfold faO; rw [t1]
   rw [q1F e.1 (by omega),hfa]
   simp only [oB];unfold putA at hpa fin ⊢;by_cases hs:(txtD e.1 (l.getLastD 0)).size < 300
   ·rw [dYF (show ¬ ((txtD e.1 (l.getLastD 0)).size:Int)>=300 by omega),if_pos hs,cF,q6l e.1 (by omega)]
    rcases q1c e.1 (nmL (l.getLastD 0)) with ⟨_,i2⟩ | ⟨m,_,i2,_⟩
    ·rw [t1] at i2; cases i2
    ·rw [i2];simp only [oB];rw [dYF (show ¬ (m:Int) < 0 by omega),cF]
     rw [if_pos hs] at fin;exact fin _ rfl
   ·rw [dYT (show ((txtD e.1 (l.getLastD 0)).size:Int)>=300 by omega),if_neg hs,cT,q0F e.1 (by omega)]
    rw [if_neg hs] at fin;have hsg:sgO e.1=(natI l,true):=by unfold sgO; rw [C.segs]
    have hlen:=jU C.segs;have hll:(natI l).length=l.length:=length_map ..;have hpos:0 < l.length:=List.length_pos_iff.2 C.ne;have hh:(natI l).getD (toNat 0) 0=((l.headD 0:Nat):Int):=by
     have:=zh (l:=l) (i:=0) hpos;refine this.trans ?_;cases l with
     | nil=>exact absurd rfl C.ne
     | cons a l=>rfl
    have w2:w64 (((l.getLastD 0:Nat):Int)+1)=((l.getLastD 0+1:Nat):Int):=qw (by omega)
    have hhd:=C.mem.1 (head_mem C.ne);have hle:l.headD 0<=l.getLastD 0:=by
     obtain ⟨i,hi,hlt⟩:=q6S C.ascN C.ne;have hm:=head_mem C.ne;rw [hi] at hm;rcases mem_append.1 hm with hm | hm
     ·have:=hlt _ hm;rw [<- hi] at this; omega
     ·have:=mem_singleton.1 hm;rw [<- hi] at this; omega
    rw [hsg];simp only [oB,hh,w2,hll];rw [wH];simp only [oB];rw [show decide ((0:Int)<=0)=true from rfl,dYT (show (0:Int) < (l.length:Int) by omega),q1V]
    simp only [Bool.and_self,cT,oB];unfold htO;by_cases hm:l.getLastD 0+1 < 100
    ·rw [if_pos (by omega),if_pos hm]
     rw [if_pos hm] at fin;have e1:=q1v hm hhd.1;have e2:=q8C hb;simp only [toNat_natCast,Bool.not_true,cF];rw [yA (by rw [qD,qD]; omega),cT,zl hm,<- qqR,q6l e.1 (by omega)]
     rcases q1c e.1 (nmL (l.getLastD 0+1)) with ⟨i1,_⟩ | ⟨m,_,_,i2,_⟩
     ·rw [i1];simp only [oB];rw [show decide ((-1:Int) < 0)=true from rfl,cT]
      exact fin _ rfl
     ·exfalso
      have hh:hasN e.1 (l.getLastD 0+1)=true:=by unfold hasN; rw [i2]; rfl
      have hin:=(C.has hm).1 hh;obtain ⟨i,hi,hlt⟩:=q6S C.ascN C.ne;rw [hi] at hin;rcases mem_append.1 hin with hin | hin
      ·have:=hlt _ hin;rw [<- hi] at this; omega
      ·have:=mem_singleton.1 hin;rw [<- hi] at this; omega
    ·rw [if_neg (by omega),if_neg hm]; rfl
  ·rw [if_neg hb,dif_neg (fun c=>hb c.2)]; rfl
 ·rw [dYF h,dif_neg (fun c=>h c.1)]; rfl
noncomputable def q7J (dir:List Spt) (n:Nat) (p:Bat×Nat) (c:Chg):Bool:=!c.2.2&&decide ((c.1,((n:Int),((p.2:Int),p.1.1)))∈dir)
theorem q8j (dir:List Spt) (n:Nat) (p:Bat×Nat):yO dir n p=p.1.2.filter (q7J dir n p):=rfl
def atP (n a:Int) (s:Spt):Bool:=(s.2.1==n)&&(s.2.2.1==a)
theorem qjF (dir:List Spt) (hn:dir.length<=1000000000) (n a:Int):∀ (r:List Spt) (i:Nat),dir.drop i=r->i<=dir.length->q2l dir n a (i:Int)=some (r.any (atP n a),())
 | [],i,hd,hi=>by
  have:=drop_eq_nil_iff.1 hd;rw [q9K];have k1:decide ((i:Int) < (dir.length:Int))=false:=dYF (by omega)
  simp only [k1,cF]; rfl
 | s::r,i,hd,hi=>by
  obtain ⟨e1,hlt,e2⟩:=qK dS hd;rw [q9K];have k1:decide ((i:Int) < (dir.length:Int))=true:=dYT (by omega)
  have k2:decide (0<=(i:Int))=true:=dYT (by omega)
  have k4:w64 ((i:Int)+1)=((i+1:Nat):Int):=qw (by omega)
  rw [k1,k2];simp only [Bool.and_self,cT,k4,toNat_natCast,e1,qjF dir hn n a r (i+1) e2 hlt,List.any_cons,atP];cases (s.2.1==n)<;>cases (s.2.2.1==a)<;>rfl
def keyP (n a:Int) (c:Chg) (s:Spt):Bool:=decide (s.1=c.1)&&atP n a s
theorem qjc (dir:List Spt) (hn:dir.length<=100000000) (n a q:Int) (cs:List Chg) (c:Chg) (i:Nat) (hi:i < cs.length) (hc:cs.getD i dC=c) (hcs:cs.length<=40):∀ (r:List Spt) (k:Nat) (acc:List Chg),dir.drop k=r->k<=dir.length->acc.length<=i * 100000000+k->
  q0o dir n a acc (i:Int) (k:Int) q cs=q2D dir n a (acc++(r.filter (keyP n a c)).map fun _=>c) ((i+1:Nat):Int) q cs
 | [],k,acc,hd,hk,ha=>by
  have:=drop_eq_nil_iff.1 hd;rw [q9k];have k1:decide ((k:Int) < (dir.length:Int))=false:=dYF (by omega)
  have k4:w64 ((i:Int)+1)=((i+1:Nat):Int):=qw (by omega)
  simp only [k1,cF,List.filter_nil,map_nil,append_nil,k4]
 | s::r,k,acc,hd,hk,ha=>by
  obtain ⟨e1,hlt,e2⟩:=qK dS hd;have ih:=qjc dir hn n a q cs c i hi hc hcs r (k+1);rw [q9k];have k1:decide ((k:Int) < (dir.length:Int))=true:=dYT (by omega)
  have k2:decide (0<=(k:Int))=true:=dYT (by omega)
  have j1:decide ((i:Int) < (cs.length:Int))=true:=dYT (by omega)
  have j2:decide (0<=(i:Int))=true:=dYT (by omega)
  have k4:w64 ((k:Int)+1)=((k+1:Nat):Int):=qw (by omega)
  have kl:lim (acc.length+1) 40=true:=qJ (by omega)
  rw [k1,k2,j1,j2];simp only [Bool.and_self,cT,k4,toNat_natCast,e1,hc,pmk,y8];rw [kl,ih acc e2 hlt (by omega),ih (acc++[c]) e2 hlt (by rw [length_append,length_singleton]; omega),filter_cons]
  have hp:keyP n a c s=(decide (s.1=c.1)&&((s.2.1==n)&&(s.2.2.1==a))):=rfl;rw [hp];cases decide (s.1=c.1) with
  | false=>rfl
  | true=>
   cases (s.2.1==n) with
   | false=>rfl
   | true=>
    cases (s.2.2.1==a) with
    | false=>rfl
    | true=>
     simp only [Bool.and_self,cT,if_true,map_cons];rw [append_assoc]; rfl
theorem qk8 (dir:List Spt) (hn:dir.length<=100000000) (n a q:Int) (cs:List Chg) (hcs:cs.length<=40):∀ (r:List Chg) (i:Nat) (acc:List Chg),cs.drop i=r->i<=cs.length->acc.length<=i * 100000000->
  q2D dir n a acc (i:Int) q cs=some (acc++r.flatMap fun c=>(dir.filter (keyP n a c)).map fun _=>c,())
 | [],i,acc,hd,hi,ha=>by
  have:=drop_eq_nil_iff.1 hd;rw [q9H];have k1:decide ((i:Int) < (cs.length:Int))=false:=dYF (by omega)
  simp only [k1,cF,flatMap_nil,append_nil]
 | c::r,i,acc,hd,hi,ha=>by
  obtain ⟨e1,hlt,e2⟩:=qK dC hd;rw [q9H];have k1:decide ((i:Int) < (cs.length:Int))=true:=dYT (by omega)
  rw [k1,cT];refine (qjc dir hn n a q cs c i hlt e1 hcs dir 0 acc rfl (zero_le _) (by rw [Nat.add_zero]; exact ha)).trans ?_
  have hf:=length_filter_le (keyP n a c) dir;rw [qk8 dir hn n a q cs hcs r (i+1) _ e2 hlt (by rw [length_append,length_map]; omega),flatMap_cons,append_assoc]
theorem qme:∀ {bs:List Bat} {a:Nat} {p:Bat×Nat},p∈posB a bs->a<=p.2
 | b::bs,a,p,h=>by
  rcases mem_cons.1 h with rfl | h
  ·exact le_refl _
  ·have:=qme h; omega
theorem qo7:∀ {bs:List Bat} {a:Nat} {p p':Bat×Nat},p∈posB a bs->p'∈posB a bs->p.2=p'.2->p=p'
 | b::bs,a,p,p',h,h',e=>by
  have hl:0 < (batL b).length:=qb1 _;rcases mem_cons.1 h with rfl | h
  ·rcases mem_cons.1 h' with rfl | h'
   ·rfl
   ·have:=qme h';have e:a=p'.2:=e;omega
  ·rcases mem_cons.1 h' with rfl | h'
   ·have:=qme h;have e:p.2=a:=e;omega
   ·exact qo7 h h' e
theorem qnY {d:List Fil} {l:List Nat} {n:Nat} {p:Bat×Nat} (hp:p∈zo d n) {s:Spt} (hs:s∈dirD d l) (h1:s.2.1=(n:Int)) (h2:s.2.2.1=(p.2:Int)):∃ c∈p.1.2,c.2.2=false/\s=(c.1,((n:Int),((p.2:Int),p.1.1))):=by
 unfold dirD at hs;obtain ⟨x,hx,rfl⟩:=mem_map.1 hs;have h:=qeC hx;unfold jO at h;obtain ⟨n',hn,h⟩:=mem_flatMap.1 h;obtain ⟨p',hp',h⟩:=mem_flatMap.1 h;unfold q4t at h;obtain ⟨c,hc,h⟩:=mem_map.1 h;simp only [Prod.mk.injEq] at h;obtain ⟨e1,e2⟩:=h;cases hg:c.2.2 with
 | true=>rw [hg] at e2; cases e2
 | false=>
  rw [hg] at e2;simp only [cF,Option.some.injEq] at e2;have e3:((n':Int),((p'.2:Int),p'.1.1))=x.2.1:=by rw [<- e2]
  have h1:x.2.1.1=(n:Int):=h1;have h2:x.2.1.2.1=(p.2:Int):=h2;rw [<- e3] at h1 h2;have h1:(n':Int)=(n:Int):=h1;have h2:(p'.2:Int)=(p.2:Int):=h2;have hn':n'=n:=by omega
  have hp2:p'.2=p.2:=by omega
  subst hn';have hpp:=qo7 hp' hp hp2;subst hpp;exact ⟨c,hc,hg,by show (x.1,x.2.1)=_; rw [<- e3,e1]⟩
theorem qw6 {l:List Spt} (h:AscK l) {s:Spt} (hs:s∈l):l.filter (fun x=>decide (x.1=s.1))=[s]:=by
 refine q3N (h.filter _) (List.pairwise_singleton ..) fun x=>?_
 rw [mem_filter,mem_singleton,decide_eq_true_eq];exact ⟨fun c=>q6D h c.1 hs c.2,fun c=>by rw [c]; exact ⟨hs,rfl⟩⟩
theorem qvv (d:List Fil) (l:List Nat):AscK (dirD d l):=by rw [qb3]; exact q6f _
theorem qvJ {b:Bat} (h:batT b=true):AscK b.2:=q8w.1 (jQ.1 (qdp h)).2.2.2.2.2
theorem qtM {d:List Fil} {l:List Nat} {n:Nat} {p:Bat×Nat} (hp:p∈zo d n) (hb:batT p.1=true):(p.1.2.flatMap fun c=>((dirD d l).filter (keyP (n:Int) (p.2:Int) c)).map fun _=>c)=yO (dirD d l) n p:=by
 rw [q8j];have one:∀ c∈p.1.2,(((dirD d l).filter (keyP (n:Int) (p.2:Int) c)).map fun _=>c)=if q7J (dirD d l) n p c=true then [c] else []:=fun c hc=>by
  by_cases h:q7J (dirD d l) n p c=true
  ·rw [if_pos h];unfold q7J at h;rw [and_eq_true,decide_eq_true_eq] at h;have e:(dirD d l).filter (keyP (n:Int) (p.2:Int) c)=[(c.1,((n:Int),((p.2:Int),p.1.1)))]:=by
    have:keyP (n:Int) (p.2:Int) c=fun s=>atP (n:Int) (p.2:Int) s&&decide (s.1=c.1):=funext fun s=>Bool.and_comm ..
    rw [this,<- List.filter_filter,qw6 (s:=(c.1,((n:Int),((p.2:Int),p.1.1)))) (qvv d l) h.2];simp [atP]
   rw [e]; rfl
  ·rw [if_neg h];have e:(dirD d l).filter (keyP (n:Int) (p.2:Int) c)=[]:=by
    rw [List.filter_eq_nil_iff];intro s hs hk;refine h ?_;unfold keyP atP at hk;simp only [and_eq_true,decide_eq_true_eq,beq_iff_eq] at hk;obtain ⟨c',hc',hg,e⟩:=qnY hp hs hk.2.1 hk.2.2;have hcc:c'=c:=q6D (qvJ hb) hc' hc (by rw [<- hk.1,e])
    subst hcc;unfold q7J;rw [and_eq_true,decide_eq_true_eq,hg,<- e];exact ⟨rfl,hs⟩
   rw [e]; rfl
 generalize p.1.2=cs at one;induction cs with
 | nil=>rfl
 | cons c cs ih=>
  rw [flatMap_cons,one c (mem_cons_self ..),ih fun x hx=>one x (mem_cons_of_mem _ hx),filter_cons]
  split<;>rfl
theorem quy {d:List Fil} {l:List Nat} {n:Nat} {p:Bat×Nat} (hp:p∈zo d n):(dirD d l).any (atP (n:Int) (p.2:Int))=!(yO (dirD d l) n p).isEmpty:=by
 rw [Bool.eq_iff_iff,List.any_eq_true,Bool.not_eq_true',<- Bool.not_eq_true,List.isEmpty_iff];constructor
 ·rintro ⟨s,hs,ha⟩ h
  unfold atP at ha;simp only [and_eq_true,beq_iff_eq] at ha;obtain ⟨c,hc,hg,e⟩:=qnY hp hs ha.1 ha.2;have:c∈yO (dirD d l) n p:=by
   rw [q8j,mem_filter];unfold q7J;rw [and_eq_true,decide_eq_true_eq,hg,<- e];exact ⟨hc,rfl,hs⟩
  rw [h] at this; cases this
 ·intro h;obtain ⟨c,hc⟩:=List.exists_mem_of_ne_nil _ h;rw [q8j,mem_filter] at hc;unfold q7J at hc;simp only [and_eq_true,decide_eq_true_eq] at hc;exact ⟨_,hc.2.2,by simp [atP]⟩
noncomputable def addA (bs:List Bat):List Act:=bs.map fun b=>adA qB (bOf (batL b))
theorem qpv (a b:List Bat):addA (a++b)=addA a++addA b:=by simp [addA]
theorem qkb {dir:List Spt} {n:Nat} {p:Bat×Nat} (hp:batT p.1=true) (h:(yO dir n p).isEmpty=false):j5 dir n p=some (p.1.1,yO dir n p)/\batT (p.1.1,yO dir n p)=true:=by
 have:j5 dir n p=some (p.1.1,yO dir n p):=by unfold j5; rw [h]; rfl
 exact ⟨this,(qex hp this).1⟩
theorem qng (dir:List Spt) (n:Nat) (p:Bat×Nat):(yO dir n p).length<=p.1.2.length:=by
 rw [q8j]; exact length_filter_le ..
theorem qrk (ns:List Nat) (top:Nat) (hn:ns.length<=1000) (h:∀ n∈ns,n < 100):∀ (r:List Nat) (i:Nat) (acc:List Act),ns.drop i=r->i<=ns.length->acc.length<=1000000000+i->
  q35 (natI (ns++[top])) acc (i:Int)=some ((acc++r.map fun n=>drA (nmL n),true),())
 | [],i,acc,hd,hi,ha=>by
  have:=drop_eq_nil_iff.1 hd;have hll:(natI (ns++[top])).length=ns.length+1:=by unfold natI; rw [length_map,length_append,length_singleton]
  rw [q7C,hll];have k4:w64 ((i:Int)+1)=((i+1:Nat):Int):=qw (by omega)
  have k1:decide (((i+1:Nat):Int) < ((ns.length+1:Nat):Int))=false:=dYF (by omega)
  simp only [k4,k1,cF,map_nil,append_nil]
 | n::r,i,acc,hd,hi,ha=>by
  obtain ⟨e1,hlt,e2⟩:=qK 0 hd;have hn100:=h n (yL hd);have hll:(natI (ns++[top])).length=ns.length+1:=by unfold natI; rw [length_map,length_append,length_singleton]
  have eI:(natI (ns++[top])).getD i 0=(n:Int):=by
   rw [zh (by rw [length_append]; omega),List.getD_eq_getElem?_getD,List.getElem?_append_left hlt,<- List.getD_eq_getElem?_getD,e1]
  rw [q7C,hll];have k4:w64 ((i:Int)+1)=((i+1:Nat):Int):=qw (by omega)
  have k1:decide (((i+1:Nat):Int) < ((ns.length+1:Nat):Int))=true:=dYT (by omega)
  have k3:decide ((i:Int) < ((ns.length+1:Nat):Int))=true:=dYT (by omega)
  have k2:decide (0<=(i:Int))=true:=dYT (by omega)
  have kl:lim (acc.length+1) 56=true:=qJ (by omega)
  rw [k4,k1,k2,k3];simp only [Bool.and_self,cT,toNat_natCast,eI,wH,zl hn100,oB];rw [kl,cT,qrk ns top hn h r (i+1) _ e2 hlt (by rw [length_append,length_singleton]; omega),append_assoc]
  rfl
theorem qiR (d:List Fil) (dir:List Spt) (n:Nat) (hn:n<=99):(q3A d dir n).length<=20000:=by
 have h1:=q1X d hn;have h2:=List.length_filterMap_le (j5 dir n) (zo d n);have h3:(zo d n).length=(batD d n).length:=by
  have:=congrArg length (q6p (batD d n) (wo d n));rw [length_map] at this;exact this
 unfold q3A;omega
theorem qoT (bs:List Bat):(addA bs).length=bs.length:=by simp [addA]
section
variable {e:Eng} {ini:List Nat} {top act:Nat}
noncomputable def endA (e:Eng) (ini:List Nat) (top:Nat) (acc:List Act):List Act:=acc++(kpA qB::mvA qB (nmL top)::ini.map fun n=>drA (nmL n))
end
noncomputable def maO (e:Eng):List Act×Bool:=if eOkP e/\2<=(segN e.1).length then (jd e.1 (segN e.1) (segN e.1).dropLast.dropLast ((segN e.1).dropLast.getLastD 0),true) else ([],false)
theorem qdj {l:List Nat} (h:2<=l.length):∃ ini top act,l=(ini++[top])++[act]:=by
 have h1:l≠[]:=by intro e; rw [e] at h; simp at h
 have h2:l.dropLast≠[]:=by
  intro e;have:=congrArg length e;rw [List.length_dropLast,List.length_nil] at this; omega
 exact ⟨_,_,_,by rw [List.dropLast_concat_getLast h2,List.dropLast_concat_getLast h1]⟩
theorem qkl (e:Eng) (l:List Nat) (hd:e.2.2.2.2=dirD e.1 l) (ini:List Nat) (top:Nat):endA e ini top ([adA qB (bOf (qU top top))]++addA (yM e.1 e.2.2.2.2 (ini++[top])))=jd e.1 l ini top:=by
 unfold endA jd addA;rw [hd]; rfl
theorem q6A {e:Eng} (h:eOkP e) {ini:List Nat} {top act:Nat} (hl:segN e.1=(ini++[top])++[act]):maO e=(jd e.1 ((ini++[top])++[act]) ini top,true):=by
 unfold maO;rw [hl,if_pos ⟨h,by simp⟩,List.dropLast_concat,List.dropLast_concat]
 simp
theorem q9i {e:Eng} (h:¬ (eOkP e/\2<=(segN e.1).length)):maO e=([],false):=by
 unfold maO; rw [if_neg h]
theorem qeX (e:Eng) (l:List Nat) (C:Clean e.1 l) (hdir:e.2.2.2.2=dirD e.1 l) (hdl:e.2.2.2.2.length<=100000000) (old:List Nat) (x8:Int) (n i:Nat) (hi:i < old.length) (hin:old.getD i 0=n) (hi9:i<=1000) (bb:List Bat) (hbb:bb.length<=1000000):∀ (bs:List Bat) (a k:Nat) (acc:List Act),bb.drop k=bs->k<=bb.length->(∀ p∈posB a bs,p∈zo e.1 n)->(∀ b∈bs,batT b=true)->acc.length+bs.length<=1000000000->a+bs.length * 10000<=1000000000->
  q1k (natI old) x8 acc (i:Int) bb (a:Int) (k:Int) e.1 e.2.1 e.2.2.1 e.2.2.2.1 e.2.2.2.2=q0s (natI old) x8 (acc++addA ((posB a bs).filterMap (j5 e.2.2.2.2 n))) ((i+1:Nat):Int) e.1 e.2.1 e.2.2.1 e.2.2.2.1 e.2.2.2.2
 | [],a,k,acc,hd,hk,hp,hb,ha,hz=>by
  have:=drop_eq_nil_iff.1 hd;rw [q7b];have k1:decide ((k:Int) < (bb.length:Int))=false:=dYF (by omega)
  have k4:w64 ((i:Int)+1)=((i+1:Nat):Int):=qw (by omega)
  simp only [k1,cF,k4];show _=q0s (natI old) x8 (acc++[]) _ _ _ _ _ _;rw [append_nil]
 | b::bs,a,k,acc,hd,hk,hp,hb,ha,hz=>by
  obtain ⟨e1,hlt,e2⟩:=qK dB hd;have hb0:=hb b (mem_cons_self ..);have hp0:(b,a)∈zo e.1 n:=hp _ (mem_cons_self ..);have hbl:=q8C hb0;rw [length_cons] at ha hz;have hpos:posB a (b::bs)=(b,a)::posB (a+(batL b).length) bs:=rfl;have ih:=fun acc h=>qeX e l C hdir hdl old x8 n i hi hin hi9 bb hbb bs (a+(batL b).length) (k+1) acc e2 hlt (fun p h=>hp p (mem_cons_of_mem _ h)) (fun x hx=>hb x (mem_cons_of_mem _ hx)) h (by omega)
  have hll:(natI old).length=old.length:=length_map ..;have eI:(natI old).getD i 0=(n:Int):=by rw [zh hi,hin]
  rw [q7b,hll];have k1:decide ((k:Int) < (bb.length:Int))=true:=dYT (by omega)
  have k2:decide (0<=(k:Int))=true:=dYT (by omega)
  have k3:decide ((i:Int) < (old.length:Int))=true:=dYT (by omega)
  have k5:decide (0<=(i:Int))=true:=dYT (by omega)
  have k4:w64 ((k:Int)+1)=((k+1:Nat):Int):=qw (by omega)
  have k6:w64 ((a:Int)+((batL b).length:Int))=((a+(batL b).length:Nat):Int):=qg (by omega) (by omega)
  have kl:lim (acc.length+1) 56=true:=qJ (by omega)
  rw [k1,k2,k3,k5];simp only [Bool.and_self,cT,k4,toNat_natCast,e1,eI];have hto:qbl e.2.2.2.2 (n:Int) (a:Int)=some (!(yO e.2.2.2.2 n (b,a)).isEmpty,()):=by
   rw [qja];refine (qjF e.2.2.2.2 (by omega) n a e.2.2.2.2 0 rfl (zero_le _)).trans ?_
   rw [hdir];exact congrArg (fun b=>some (b,())) (quy hp0)
  have h40:=qcD hb0;have hke:qbs e.2.2.2.2 b (n:Int) (a:Int)=some (yO e.2.2.2.2 n (b,a),()):=by
   rw [qjU];refine (qk8 e.2.2.2.2 (by omega) n a b.1 b.2 h40 b.2 0 [] rfl (zero_le _) (zero_le _)).trans ?_
   rw [hdir];exact congrArg (fun b=>some (b,())) (qtM hp0 hb0)
  rw [hto];simp only [oB];rw [hke,qk7 hb0];simp only [oB,k6];cases he:(yO e.2.2.2.2 n (b,a)).isEmpty with
  | true=>
   rw [Bool.not_true,cF,ih acc (by omega),hpos,filterMap_cons]
   have:j5 e.2.2.2.2 n (b,a)=none:=by unfold j5; rw [he]; rfl
   rw [this]
  | false=>
   obtain ⟨q1,q2⟩:=qkb hb0 he;have hl:=qng e.2.2.2.2 n (b,a);have hl:(yO e.2.2.2.2 n (b,a)).length<=b.2.length:=hl;have q2:batT (b.1,yO e.2.2.2.2 n (b,a))=true:=q2;rw [Bool.not_false,cT,q38 _ (by show (yO _ _ _).length<=_; omega)]
   unfold btO;rw [if_pos q2];simp only [oB];have hfr:frO (bOf (bTL (b.1,yO e.2.2.2.2 n (b,a))))=(bOf (batL (b.1,yO e.2.2.2.2 n (b,a))),true):=q9C (q6R q2);rw [q18,hfr,kl];simp only [oB,cT];rw [ih _ (by rw [length_append,length_singleton]; omega),hpos,filterMap_cons,q1,append_assoc]
   rfl
section
variable {e:Eng} {ini:List Nat} {top act:Nat}
theorem qfd (C:Clean e.1 ((ini++[top])++[act])) (hdir:e.2.2.2.2=dirD e.1 ((ini++[top])++[act])) (hdl:e.2.2.2.2.length<=100000000):∀ (r:List Nat) (i:Nat) (acc:List Act),(ini++[top]).drop i=r->i<=(ini++[top]).length->acc.length<=20000 * i+1->
  q0s (natI (ini++[top])) (top:Int) acc (i:Int) e.1 e.2.1 e.2.2.1 e.2.2.2.1 e.2.2.2.2=some ((endA e ini top (acc++addA (yM e.1 e.2.2.2.2 r)),true),())
 | [],i,acc,hd,hi,ha=>by
  have:=drop_eq_nil_iff.1 hd;have hlen:=jU C.segs;have hol:(ini++[top]).length=ini.length+1:=by rw [length_append,length_singleton]
  have hls:((ini++[top])++[act]).length=ini.length+2:=by rw [length_append,length_singleton,hol]
  have hll:(natI (ini++[top])).length=ini.length+1:=by unfold natI; rw [length_map,hol]
  have htop:top < 100:=(C.mem.1 (by simp)).1
  rw [q6Z,hll];have k1:decide ((i:Int) < ((ini.length+1:Nat):Int))=false:=dYF (by omega)
  have kl:lim (acc.length+2) 56=true:=qJ (by omega)
  rw [k1,cF,wH,zl htop];simp only [oB];rw [kl,cT];refine (qrk ini top (by omega) (fun n hn=>(C.mem.1 (by simp [hn])).1) ini 0 _ rfl (zero_le _) (by rw [length_append]; simp only [length_cons,List.length_nil]; omega)).trans ?_
  unfold endA yM addA;rw [flatMap_nil,map_nil,append_nil,append_assoc]; rfl
 | n::r,i,acc,hd,hi,ha=>by
  obtain ⟨e1,hlt,e2⟩:=qK 0 hd;have hlen:=jU C.segs;have hol:(ini++[top]).length=ini.length+1:=by rw [length_append,length_singleton]
  have hls:((ini++[top])++[act]).length=ini.length+2:=by rw [length_append,length_singleton,hol]
  have hll:(natI (ini++[top])).length=(ini++[top]).length:=length_map ..;have hnl:n∈(ini++[top])++[act]:=mem_append_left _ (yL hd);have hn:=(C.mem.1 hnl).1;have hh:=(C.mem.1 hnl).2.1;have hl30:=C.len;have eI:(natI (ini++[top])).getD i 0=(n:Int):=by rw [zh hlt,e1]
  rw [q6Z,hll];have k1:decide ((i:Int) < ((ini++[top]).length:Int))=true:=dYT (by omega)
  have k2:decide (0<=(i:Int))=true:=dYT (by omega)
  rw [k1,k2];simp only [Bool.and_self,cT,toNat_natCast,eI,wH,zl hn,oB];rw [q1F e.1 (by omega)]
  simp only [oB];rw [jH n (by omega)]
  simp only [oB,qh8 hn hh];have hrs:(rsO n (faO e.1 (nmL n)).1).1=((hdD e.1 n:Nat):Int):=by
   rw [(qdE n _).2,<- q8o hn hh]; rfl
  have hhd:=qdg e.1 n;rw [hrs,q1V];have hht:htO (n:Int) ((hdD e.1 n:Nat):Int)=(bOf (qU n (hdD e.1 n)),true):=by
   unfold htO;rw [if_pos (by omega)]; rfl
  rw [hht];simp only [oB];have hst:((bOf (qU n (hdD e.1 n))).size:Int)=((wo e.1 n:Nat):Int):=by rw [qD]; rfl
  rw [hst];have hbl:=q1X e.1 (show n<=99 by omega)
  have hs8:wo e.1 n=8:=q1v hn (by omega)
  refine (qeX e _ C hdir hdl (ini++[top]) (top:Int) n i hlt e1 (by omega) (batD e.1 n) (by omega) (batD e.1 n) (wo e.1 n) 0 acc rfl (zero_le _) (fun p hp=>hp) q4f (by omega) (by omega)).trans ?_
  have hkl:=qiR e.1 e.2.2.2.2 n (by omega)
  have hkN:(posB (wo e.1 n) (batD e.1 n)).filterMap (j5 e.2.2.2.2 n)=q3A e.1 e.2.2.2.2 n:=rfl;rw [hkN];refine (qfd C hdir hdl r (i+1) _ e2 hlt (by rw [length_append,qoT]; omega)).trans ?_
  have:yM e.1 e.2.2.2.2 (n::r)=q3A e.1 e.2.2.2.2 n++yM e.1 e.2.2.2.2 r:=rfl;rw [this,qpv,append_assoc]
end
theorem q5x (e:Eng) (hn:e.1.length<=2000000):q3b e=some (maO e,()):=by
 rw [qhA,q0F e.1 (by omega),q6k e hn]
 simp only [oB];by_cases h:eOkP e
 ·obtain ⟨r1,r2,C,hact,hq,hdir,_⟩:=jJ h;have hsg:sgO e.1=(natI (segN e.1),true):=by unfold sgO; rw [C.segs]
  have hll:(natI (segN e.1)).length=(segN e.1).length:=length_map ..;rw [dYT h,hsg];simp only [Bool.not_true,cF,hll];by_cases h2:2<=(segN e.1).length
  ·rw [dYF (show ¬ ((segN e.1).length:Int) < 2 by omega),cF]
   obtain ⟨ini,top,act,hl⟩:=qdj h2;rw [q6A h hl];rw [hl] at C hdir ⊢;have hlen:=jU C.segs;have hol:(ini++[top]).length=ini.length+1:=by rw [length_append,length_singleton]
   have hls:((ini++[top])++[act]).length=ini.length+2:=by rw [length_append,length_singleton,hol]
   have htop:top < 100:=(C.mem.1 (by simp)).1
   have w1:w64 ((((ini++[top])++[act]).length:Int) - 1)=((ini.length+1:Nat):Int):=(qg (by omega) (by omega)).trans (by omega)
   rw [w1];have t0:toNat 0=0:=rfl;have w2:w64 ((((toNat ((ini.length+1:Nat):Int)) - toNat 0:Nat):Int) - 1)=((ini.length:Nat):Int):=by
    rw [toNat_natCast,t0];exact (qg (by omega) (by omega)).trans (by omega)
   rw [w2];simp only [toNat_natCast,t0];rw [show decide ((0:Int)<=0)=true from rfl,dYT (show (0:Int)<=((ini.length+1:Nat):Int) by omega),dYT (show ((ini.length+1:Nat):Int)<=(((ini++[top])++[act]).length:Int) by omega),dYT (show (0:Int)<=((ini.length:Nat):Int) by omega),dYT (show ((ini.length:Nat):Int) < ((ini.length+1 - 0:Nat):Int) by omega)]
   simp only [Bool.and_self,cT];have eT:(natI ((ini++[top])++[act])).getD (0+ini.length) 0=(top:Int):=by
    rw [zero_add,zh (by omega),List.getD_eq_getElem?_getD,List.getElem?_append_left (by omega),List.getElem?_append_right (le_refl _),Nat.sub_self]; rfl
   rw [eT,q1V];simp only [oB];have hht:htO (top:Int) (top:Int)=(bOf (qU top top),true):=by
    unfold htO;rw [if_pos (by omega)]; rfl
   rw [hht];have htk:take (ini.length+1 - 0) (drop 0 (natI ((ini++[top])++[act])))=natI (ini++[top]):=by
    show take (ini.length+1) (natI ((ini++[top])++[act]))=_;unfold natI;rw [map_append];have:(map (fun n:Nat=>(n:Int)) (ini++[top])).length=ini.length+1:=by rw [length_map,hol]
    rw [<- this,List.take_left]
   rw [htk];obtain ⟨_,f2,_⟩:=q6w h;have:=qfd C hdir (by omega) (ini++[top]) 0 [adA qB (bOf (qU top top))] rfl (zero_le _) (le_refl _)
   rw [qkl e _ hdir] at this;exact this
  ·rw [dYT (show ((segN e.1).length:Int) < 2 by omega),cT,q9i (fun c=>h2 c.2)]
 ·rw [dYF h,q9i (fun c=>h c.1)]; rfl
noncomputable def goM (room:Int):List Fil->List Act->Option (List Fil)
 | d,[]=>some d
 | d,a::r=>match actB d a with
  | none=>none
  | some d'=>bif decide ((yR d':Int) > room) then none else goM room d' r
noncomputable def meO (e:Eng):Eng×List Act×Bool:=bif (maO e).2 then (match goM e.2.1 e.1 (maO e).1 with
 | none=>(noE,([],false))
 | some d=>bif (opO d e.2.1).2.2 then ((opO d e.2.1).1,((maO e).1,true)) else (noE,([],false))) else (noE,([],false))
noncomputable def finM (room:Int) (xs:List Act) (o:Option (List Fil)):Eng×List Act×Bool:=match o with
 | none=>(noE,([],false))
 | some d=>bif (opO d room).2.2 then ((opO d room).1,(xs,true)) else (noE,([],false))
theorem qnh (room:Int) (xs:List Act) (d:List Fil):finM room xs (some d)=bif (opO d room).2.2 then ((opO d room).1,(xs,true)) else (noE,([],false)):=rfl
theorem qfe (e:Eng) (xs:List Act) (hs:aSz xs):∀ (r:List Act) (i:Nat) (d:List Fil),xs.drop i=r->i<=xs.length->d.length<=2000000->
  q65 xs (i:Int) e.1 e.2.1 e.2.2.1 e.2.2.2.1 e.2.2.2.2 [] 0 0 0 [] d=some (finM e.2.1 xs (goM e.2.1 d r),())
 | [],i,d,hd,hi,hl=>by
  have:=drop_eq_nil_iff.1 hd;rw [qbh];have k1:decide ((i:Int) < (xs.length:Int))=false:=dYF (by omega)
  simp only [k1,cF];rw [q2n d hl];simp only [oB];show _=some (finM e.2.1 xs (some d),());rw [qnh];cases (opO d e.2.1).2.2<;>rfl
 | a::r,i,d,hd,hi,hl=>by
  obtain ⟨e1,hlt,e2⟩:=qK dA hd;have hsz:=hs.2 a (yL hd);rw [qbh];have hs1:=hs.1;have k1:decide ((i:Int) < (xs.length:Int))=true:=dYT (by omega)
  have k2:decide (0<=(i:Int))=true:=dYT (by omega)
  have k4:w64 ((i:Int)+1)=((i+1:Nat):Int):=qw (by omega)
  rw [k1,k2];simp only [Bool.and_self,cT,k4,toNat_natCast,e1,pmk];rw [qf4 d hl a hsz];simp only [oB];rcases qcy d a with ⟨h1,h2⟩ | ⟨d',h1,h2⟩
  ·rw [h2];have:goM e.2.1 d (a::r)=none:=by simp only [goM,h1]
   rw [this]; rfl
  ·rw [h2];have ho:=(qh6 h1).2.1;have:goM e.2.1 d (a::r)=bif decide ((yR d':Int) > e.2.1) then none else goM e.2.1 d' r:=by simp only [goM,h1]
   rw [this];simp only [Bool.not_true,cF];rw [qjl ho];simp only [oB];rw [qfe e xs hs r (i+1) d' e2 hlt (qaW h1)];cases decide ((yR d':Int) > e.2.1)<;>rfl
theorem qgH {d:List Fil} {dir:List Spt}:∀ {old:List Nat},(∀ n∈old,n < 100)->(yM d dir old).length<=20000 * old.length
 | [],_=>le_refl _
 | n::old,h=>by
  have h1:=qgH (d:=d) (dir:=dir) fun x hx=>h x (mem_cons_of_mem _ hx)
  have hn:=h n (mem_cons_self ..);have h2:=qiR d dir n (by omega)
  have:yM d dir (n::old)=q3A d dir n++yM d dir old:=rfl;rw [this,length_append,length_cons]; omega
theorem qmJ {d:List Fil} {l ini:List Nat} {top act:Nat} (C:Clean d l) (hl:l=(ini++[top])++[act]):aSz (jd d l ini top):=by
 obtain ⟨p1,_,_,p4,_⟩:=C.parts hl;have htop:=(C.mem.1 p1).1;have hlen:=jU C.segs;have hls:l.length=ini.length+2:=by rw [hl,length_append,length_append,length_singleton,length_singleton]
 have hold:∀ n∈ini++[top],n∈l:=fun n hn=>by rw [hl]; exact mem_append_left _ hn
 have hkl:=qgH (d:=d) (dir:=dirD d l) (old:=ini++[top]) fun n hn=>(C.mem.1 (hold n hn)).1
 have hkb:∀ b∈yM d (dirD d l) (ini++[top]),batT b=true:=qpf fun b hb=>by
  unfold allB at hb;obtain ⟨n,hn,hb⟩:=mem_flatMap.1 hb;exact q4f b hb
 rw [length_append,length_singleton] at hkl;unfold jd;refine ⟨by simp only [length_append,length_cons,length_map]; omega,fun a ha=>?_⟩
 rcases mem_append.1 ha with ha | ha
 ·rcases mem_cons.1 ha with rfl | ha
  ·show (bOf (qU top top)).size<=_;rw [qD,q1v htop htop]; omega
  ·obtain ⟨b,hb,rfl⟩:=mem_map.1 ha;show (bOf (batL b)).size<=_;have:=q8C (hkb b hb);rw [qD]; omega
 ·rcases mem_cons.1 ha with rfl | ha
  ·exact zero_le _
  ·rcases mem_cons.1 ha with rfl | ha
   ·exact zero_le _
   ·obtain ⟨n,hn,rfl⟩:=mem_map.1 ha;exact zero_le _
theorem qsQ (e:Eng):aSz (maO e).1:=by
 by_cases h:eOkP e/\2<=(segN e.1).length
 ·obtain ⟨_,_,C,_⟩:=jJ h.1;obtain ⟨ini,top,act,hl⟩:=qdj h.2;rw [q6A h.1 hl];rw [hl] at C;exact qmJ C rfl
 ·rw [q9i h];exact ⟨zero_le _,fun a ha=>by cases ha⟩
theorem qa1 (e:Eng) (hn:e.1.length<=2000000):q3C e=some (meO e,()):=by
 rw [qnv,q5x e hn];simp only [oB];unfold meO;cases (maO e).2 with
 | false=>rfl
 | true=>
  simp only [Bool.not_true,cF,cT];exact qfe e (maO e).1 (qsQ e) (maO e).1 0 e.1 rfl (zero_le _) hn
end Go.Den.S
namespace Go.Den.S
open Go Go.Den
set_option maxRecDepth 4000
theorem qkU (x:Int):0<=w64 (andI .i64 x 255)/\w64 (andI .i64 x 255)<=255:=by
 have h:andI .i64 x 255=(((BitVec.ofInt 64 x).toNat &&& 255:Nat):Int):=by
  rw [qqY,BitVec.toNat_and]; rfl
 have h2:(BitVec.ofInt 64 x).toNat &&& 255<=255:=Nat.and_le_right;rw [h,show w64 _=_ from qg (by omega) (by omega)]
 omega
theorem q6c {c:Cur} (h:Cu c):∃ (x:Int) (c':Cur),jK c=some (x,(c',()))/\0<=x/\x<=255/\Cu c':=by
 have h0:=h.at0;have h1:=h.at1;have hl:=h.len;rw [qjK];by_cases hi:c.2.1 < (c.1.length:Int)
 ·simp only [dYT hi,dYT h0,Bool.and_self,cT];refine ⟨_,_,rfl,(qkU _).1,(qkU _).2,⟨hl,?_,?_⟩⟩
  ·show 0<=w64 (c.2.1+1);rw [show w64 (c.2.1+1)=c.2.1+1 from qg (by omega) (by omega)]; omega
  ·show w64 (c.2.1+1)<=(c.1.length:Int);rw [show w64 (c.2.1+1)=c.2.1+1 from qg (by omega) (by omega)]; omega
 ·simp only [dYF hi,cF];exact ⟨_,_,rfl,(qkU _).1,(qkU _).2,⟨hl,h0,h1⟩⟩
theorem qdn {x n:Int} (hx:0<=x) (hn:1<=n):0<=tmod x n/\tmod x n < n:=by
 rw [Int.tmod_eq_emod_of_nonneg hx];exact ⟨Int.emod_nonneg _ (by omega),Int.emod_lt_of_pos _ (by omega)⟩
theorem bneZ {n:Int} (h:1<=n):(n != 0)=true:=by rw [q8m,dYF (by omega)]; rfl
theorem qbB {c:Cur} (h:Cu c) (n:Int) (h1:1<=n) (h2:n<=1000000):∃ (x:Int) (c':Cur),q0A c n=some (x,(c',()))/\0<=x/\x < n/\Cu c':=by
 rw [qiO];simp only [dYF (show ¬ n<=0 by omega),cF,bneZ h1,cT]
 by_cases hn:n<=256
 ·obtain ⟨x,c1,e1,a1,b1,k1⟩:=q6c h;simp only [dYT hn,cT,e1,oB];exact ⟨_,_,rfl,(qdn a1 h1).1,(qdn a1 h1).2,k1⟩
 ·obtain ⟨x,c1,e1,a1,b1,k1⟩:=q6c h;obtain ⟨y,c2,e2,a2,b2,k2⟩:=q6c k1;obtain ⟨z,c3,e3,a3,b3,k3⟩:=q6c k2;obtain ⟨w,c4,e4,a4,b4,k4⟩:=q6c k3;simp only [dYF hn,cF,e1,e2,e3,e4,oB];have w1:w64 (x * 16777216)=x * 16777216:=qg (by omega) (by omega)
  have w2:w64 (y * 65536)=y * 65536:=qg (by omega) (by omega)
  have w3:w64 (z * 256)=z * 256:=qg (by omega) (by omega)
  have w4:w64 (x * 16777216+y * 65536)=x * 16777216+y * 65536:=qg (by omega) (by omega)
  have w5:w64 (x * 16777216+y * 65536+z * 256)=x * 16777216+y * 65536+z * 256:=qg (by omega) (by omega)
  have w6:w64 (x * 16777216+y * 65536+z * 256+w)=x * 16777216+y * 65536+z * 256+w:=qg (by omega) (by omega)
  rw [w1,w2,w3,w4,w5,w6];exact ⟨_,_,rfl,(qdn (by omega) h1).1,(qdn (by omega) h1).2,k4⟩
theorem qlh {c:Cur} (h:Cu c) (n:Int) (h1:1<=n) (h2:n<=1000000):∃ (b:Bool) (c':Cur),q1N c n=some (b,(c',()))/\Cu c':=by
 obtain ⟨x,c1,e1,_,_,k1⟩:=qbB h n h1 h2;rw [qk3,e1];exact ⟨_,_,rfl,k1⟩
theorem qvs {c:Cur} (h:Cu c) (l:List BA) (h1:1<=l.length) (h2:l.length<=1000):∃ (x:BA) (c':Cur),q7A c l=some (x,(c',()))/\x∈l/\Cu c':=by
 obtain ⟨x,c1,e1,a1,b1,k1⟩:=qbB h (l.length:Int) (by omega) (by omega)
 rw [qky,e1];simp only [oB,dYT a1,dYT b1,Bool.and_self,cT];exact ⟨_,_,rfl,q8g (by omega),k1⟩
theorem qpK (code:List Int) (hl:code.length<=1048576):∀ (m i:Nat) (x:Int),m+i=code.length->∃ c:Cur,q56 code x (i:Int)=some (c,())/\Cu c/\c.1=code
 | 0,i,x,hm=>by
  rw [qal];simp only [dYF (show ¬ (i:Int) < (code.length:Int) by omega),cF]
  exact ⟨_,rfl,⟨hl,Int.le_refl _,by show (0:Int)<=(code.length:Int); omega⟩,rfl⟩
 | m+1,i,x,hm=>by
  rw [qal];simp only [dYT (show (i:Int) < (code.length:Int) by omega),cT]
  by_cases h4:(i:Int) < 4000
  ·simp only [dYT h4,cT,dYT (show (0:Int)<=(i:Int) by omega),Bool.and_self,show w64 ((i:Int)+1)=((i+1:Nat):Int) from qw (by omega)]
   exact qpK code hl m (i+1) _ (by omega)
  ·simp only [dYF h4,cF];exact ⟨_,rfl,⟨hl,Int.le_refl _,by show (0:Int)<=(code.length:Int); omega⟩,rfl⟩
theorem qsR (code:List Int) (hl:code.length<=1048576):∃ c:Cur,q8T code=some (c,())/\Cu c:=by
 rw [qlC];obtain ⟨c,e,k,_⟩:=qpK code hl code.length 0 (w64 (12701+(code.length:Int))) (by omega)
 exact ⟨c,e,k⟩
theorem qqg (l:List Int):(q40 l).size=l.length:=by
 show (bOf (l.map fun n=>UInt8.ofNat (toNat n))).size=_
 rw [qD,length_map]
theorem qmH (n:Nat) (hn:n<=5000):∀ (m i:Nat) (l:List Int) (c:Cur),m+i=n->l.length=i->Cu c->∃ (t:BA) (c':Cur),q2u (n:Int) l (i:Int) c.1 c.2.1 c.2.2=some (t,(c',()))/\t.size=n/\Cu c'
 | 0,i,l,c,hm,hl,hc=>by
  rw [q98];simp only [dYF (show ¬ (i:Int) < (n:Int) by omega),cF]
  exact ⟨_,_,rfl,(qqg l).trans (by omega),hc⟩
 | m+1,i,l,c,hm,hl,hc=>by
  obtain ⟨x,c1,e1,a1,b1,k1⟩:=q6c hc;have e1:jK (c.1,(c.2.1,c.2.2))=some (x,(c1,())):=e1;rw [q98];simp only [dYT (show (i:Int) < (n:Int) by omega),cT,e1,oB,qJ (show (l.length+1) * 1<=140737488355328 by omega),show w64 ((i:Int)+1)=((i+1:Nat):Int) from qw (by omega)]
  exact qmH n hn m (i+1) _ c1 (by omega) (by rw [length_append,length_singleton]; omega) k1
theorem qpM {c:Cur} (h:Cu c) (n:Nat) (hn:n<=5000):∃ (t:BA) (c':Cur),q4J c (n:Int)=some (t,(c',()))/\t.size=n/\Cu c':=by
 rw [qkr,dYF (show ¬ (n:Int) > 5000 by omega),cF]
 exact qmH n hn n 0 [] c rfl rfl h
theorem qrC:(q2x.all fun s=>decide (1<=s.size)&&decide (s.size<=3))=true:=by decide +kernel
theorem qp5 {s:BA} (hs:s∈q2x):1<=s.size/\s.size<=3:=by
 have:=List.all_eq_true.1 qrC s hs;simpa using this
theorem qmC:q2x.length=6:=rfl
theorem LI.gc {cs:List Chg} (h:LI 6 cs) (hne:1<=cs.length):Gc cs:=
 ⟨hne,h.len,h.asc,fun c hc=>qp5 (List.mem_of_mem_take (h.key c hc)),h.val⟩
theorem q70:∀ (m i:Nat) (cs:List Chg) (c:Cur),m+i=6->Cu c->LI i cs->∃ (l:List Chg) (c':Cur),q13 cs q2x (i:Int) c.1 c.2.1 c.2.2=some (l,(c',()))/\Gc l/\Cu c'
 | 0,i,cs,c,hm,hc,hI=>by
  have hi:i=6:=by omega
  subst hi;rw [q9U];simp only [dYF (show ¬ ((6:Nat):Int) < (q2x.length:Int) by rw [qmC]; omega),cF]
  have hl:=hI.len;cases cs with
  | nil=>
   obtain ⟨k,c1,e1,m1,k1⟩:=qvs hc q2x (by decide) (by decide)
   obtain ⟨t,c2,e2,s2,k2⟩:=qpM k1 3 (by omega)
   have e1:qcS (c.1,(c.2.1,c.2.2))=some (k,(c1,())):=by
    rw [qmb];have e1:q7A (c.1,(c.2.1,c.2.2)) ([c_a,c_b,c_c,c_d,qnT,c_kk])=some (k,(c1,())):=e1;rw [e1]; rfl
   have e2:q4J c1 3=some (t,(c2,())):=e2;have z:((([]:List Chg).length:Int)==0)=true:=rfl;rw [z,cT,e1];simp only [oB];rw [e2];simp only [oB];rw [qJ (show (([]:List Chg).length+1) * 40<=140737488355328 by simp),cT]
   refine ⟨_,_,rfl,⟨by simp,by simp,List.pairwise_singleton ..,fun x hx=>?_,fun x hx=>?_⟩,k2⟩
   ·rw [List.nil_append,mem_singleton] at hx;subst hx;exact qp5 m1
   ·rw [List.nil_append,mem_singleton] at hx;subst hx;exact ⟨by show t.size<=11; omega,fun h=>by cases h⟩
  | cons a r=>
   have z:(((a::r).length:Int)==0)=false:=by rw [beq_eq_false_iff_ne,length_cons]; omega
   rw [z,cF];exact ⟨_,_,rfl,hI.gc (by rw [length_cons]; omega),hc⟩
 | m+1,i,cs,c,hm,hc,hI=>by
  have hi:i < 6:=by omega
  have hl:=hI.len;obtain ⟨b,c1,e1,k1⟩:=qlh hc 3 (by omega) (by omega)
  have e1:q1N (c.1,(c.2.1,c.2.2)) 3=some (b,(c1,())):=e1;have w:w64 ((i:Int)+1)=((i+1:Nat):Int):=qw (by omega)
  rw [q9U];have hk:decide ((i:Int) < (q2x.length:Int))=true:=dYT (by rw [qmC]; omega)
  simp only [hk,cT,e1,oB,w];cases b with
  | false=>exact q70 m (i+1) cs c1 (by omega) k1 (hI.skip hi)
  | true=>
   obtain ⟨x,c2,e2,a2,b2,k2⟩:=qbB k1 12 (by omega) (by omega)
   obtain ⟨n,rfl⟩:∃ n:Nat,x=(n:Int):=⟨x.toNat,by omega⟩
   obtain ⟨t,c3,e3,s3,k3⟩:=qpM k2 n (by omega)
   obtain ⟨g,c4,e4,k4⟩:=qlh k3 4 (by omega) (by omega)
   simp only [Bool.not_true,cF,dYT (show (0:Int)<=(i:Int) by omega),Bool.and_self,cT,e2,e3,e4,oB,toNat_natCast]
   rw [qJ (show (cs.length+1) * 40<=140737488355328 by omega)]
   cases g with
   | true=>exact q70 m (i+1) _ c4 (by omega) k4 (hI.add hi ⟨by decide,fun _=>rfl⟩)
   | false=>exact q70 m (i+1) _ c4 (by omega) k4 (hI.add hi ⟨by omega,fun h=>by cases h⟩)
theorem qjQ {c:Cur} (h:Cu c):∃ (l:List Chg) (c':Cur),q4H c=some (l,(c',()))/\Gc l/\Cu c':=by
 rw [qkp];exact q70 6 0 [] c rfl h LI.nil
end Go.Den.S
namespace Go.Den.S
open Go Go.Den
open Classical
set_option maxRecDepth 4000
noncomputable def fmE (room:Int):Eng:=([(nmL 0,(bOf (qU 0 0),((bOf (qU 0 0)).size:Int)))],(room,(0,(0,[]))))
theorem qrc:Says [(nmL 0,(bOf (qU 0 0),((bOf (qU 0 0)).size:Int)))] [0] fun _=>(0,[]) where
 lt:=fun n hn=>by rw [mem_singleton.1 hn]; omega
 asc:=List.pairwise_singleton ..
 ne:=by simp
 has:=fun n hn h=>by
  left
  unfold hasN at h;obtain ⟨v,hv⟩:=isSome_iff_exists.1 h;have:=(yj (List.pairwise_singleton ..)).1 hv;rw [mem_singleton] at this;have e:=(Prod.mk.inj this).1;rw [jY hn (by omega) e]; exact mem_singleton.2 rfl
 file:=fun n hn=>by
  rw [mem_singleton.1 hn];refine ⟨bOf (qU 0 0),(yj (List.pairwise_singleton ..)).2 (mem_singleton.2 rfl),?_⟩;simp [bats]
 hd:=fun m hm n hn=>zero_le _
 bt:=fun n hn b hb=>by cases hb
 up:=rfl
theorem qv2:(bOf (qU 0 0)).size=8:=by rw [qD]; exact q1v (by omega) (by omega)
theorem qwG:dOkB [(nmL 0,(bOf (qU 0 0),((bOf (qU 0 0)).size:Int)))]=true:=by
 have h:=qv2;refine qG.2 ⟨by simp,fun f hf=>?_,List.pairwise_singleton ..⟩
 rw [mem_singleton.1 hf];have hn:=qei 0;exact q2R hn.1 (by omega) (by omega) (by omega) (Int.le_refl _)
theorem qup:Clean [(nmL 0,(bOf (qU 0 0),((bOf (qU 0 0)).size:Int)))] [0]/\allB [(nmL 0,(bOf (qU 0 0),((bOf (qU 0 0)).size:Int)))] [0]=[]:=by
 obtain ⟨h1,_,h3⟩:=qrc.clean (q0U.2 ⟨qwG,fun f hf=>by rw [mem_singleton.1 hf]⟩) (fun n hn h=>by
  rcases qrc.has n hn h with h | ⟨m,_,h⟩
  ·exact h
  ·exact absurd h (Nat.not_lt_zero _)) (jC.2 fun x hx=>by rw [mem_singleton.1 hx]; exact q47 0)
 exact ⟨h1,h3⟩
theorem quc {room:Int} (h1:400<=room) (h2:room<=20000):Rt 0 (fmE room):=by
 obtain ⟨C,ha⟩:=qup;refine ⟨q6a.2 ⟨by show 100<=room; omega,h2,[0],C,?_⟩,by show [_].length<=_; simp,Int.le_refl _,?_⟩
 ·unfold fmE mkE;have hb:batD [(nmL 0,(bOf (qU 0 0),((bOf (qU 0 0)).size:Int)))] 0=[]:=by
   have:=ha;unfold allB at this;simpa using this
  have hd:dirD [(nmL 0,(bOf (qU 0 0),((bOf (qU 0 0)).size:Int)))] [0]=[]:=by
   rw [qb3,flatMap_cons,flatMap_nil,q7M,hb]; rfl
  rw [ha,hd]; rfl
 ·show ((yR [(nmL 0,(bOf (qU 0 0),((bOf (qU 0 0)).size:Int)))]:Nat):Int)<=room;rw [q5i];show (((bOf (qU 0 0)).size+0:Nat):Int)<=room;rw [qv2]; omega
theorem qt6 {room:Int} (h1:100<=room) (h2:room<=20000):q5A room=some ((fmE room,true),()):=by
 rw [qeB,jy,q0V,dYT ⟨h1,h2⟩];have hh:htO 0 0=(bOf (qU 0 0),true):=by unfold htO; rw [if_pos (by omega)]; rfl
 have hn:nmO 0=nmL 0:=zl (n:=0) (by omega)
 simp only [oB,Bool.not_true,cF];rw [q1V,hh];simp only [oB];rw [wH,hn]; rfl
theorem qqo {room:Int}:∀ {xs:List Act} {d x:List Fil},goM room d xs=some x->allA d xs x/\(xs≠[]->(yR x:Int)<=room)
 | [],d,x,h=>by
  have h:some d=some x:=h;rw [<- Option.some.inj h]; exact ⟨je d,fun k=>absurd rfl k⟩
 | a::r,d,x,h=>by
  simp only [goM] at h;cases ha:actB d a with
  | none=>rw [ha] at h; cases h
  | some d'=>
   rw [ha] at h;have h:(bif decide ((yR d':Int) > room) then none else goM room d' r)=some x:=h
   cases hs:decide ((yR d':Int) > room) with
   | true=>rw [hs] at h; cases h
   | false=>
    rw [hs] at h;obtain ⟨h1,h2⟩:=qqo (xs:=r) h;refine ⟨yx ha h1,fun _=>?_⟩
    cases r with
    | nil=>
     have h:some d'=some x:=h;rw [<- Option.some.inj h];have:=of_decide_eq_false hs;omega
    | cons b r=>exact h2 (by simp)
theorem qnX {d x:List Fil} (hd:AscK d):∀ {bs:List Bat} {T:List UInt8},dOkB (putK qB (bOf T,0) d)=true->allA (putK qB (bOf T,0) d) (addA bs) x->x=putK qB (bOf (T++bats bs),0) d/\dOkB x=true
 | [],T,ho,h=>by
  have h:(putK qB (bOf T,0) d,0)=(x,0):=h;rw [<- (Prod.mk.inj h).1,show T++bats []=T by simp [bats]]; exact ⟨rfl,ho⟩
 | b::bs,T,ho,h=>by
  have h:allA (putK qB (bOf T,0) d) (adA qB (bOf (batL b))::addA bs) x:=h;obtain ⟨d1,h1,h2⟩:=q2L h;obtain ⟨e1,o1⟩:=q9p h1 (q6y (u:=bOf T) (kp:=0) (by rw [wQ hd,if_pos rfl]))
  rw [q8c hd,q8z (bOf T),yX] at e1 o1;rw [e1] at h2;have:=qnX hd o1 h2;rw [q09,<- append_assoc]; exact this
section
variable {d:List Fil} {l i:List Nat} {top act:Nat}
theorem qrw (C:Clean d l) (hl:l=(i++[top])++[act]) {x:List Fil} (hx:allA d (jd d l i top) x):d.length<=29/\(q0n d l i top).length<=20000/\dOkB (wh d l i top)=true/\x=(wh d l i top).filter fun f=>decide (f.1∉i.map nmL):=by
 have hM:jd d l i top=(adA qB (bOf (qU top top))::addA (yM d (dirD d l) (i++[top])))++(kpA qB::mvA qB (nmL top)::i.map fun n=>drA (nmL n)):=rfl
 have hx':=hx;rw [hM] at hx';obtain ⟨d1,h1,_⟩:=qjp hx';obtain ⟨d0,h0,h1⟩:=q2L h1;obtain ⟨e0,o0⟩:=q9p h0 (q6F C.new);rw [e0] at h1;obtain ⟨e1,o1⟩:=qnX C.asc o0 h1;have hlen:d.length<=29:=by
  have hl:=(qG.1 o0).1;rw [q8n,qlo C.new] at hl;omega
 rw [e1] at o1;have hs:=q6g C.asc o1;rw [qD] at hs;have hsz:(q0n d l i top).length<=20000:=hs;obtain ⟨m1,m2⟩:=qsk C hl hlen hsz;exact ⟨hlen,hsz,m1,qbk hx m2⟩
theorem qrM (C:Clean d l) (hl:l=(i++[top])++[act]):((wh d l i top).filter fun f=>decide (f.1∉i.map nmL)).length<=d.length:=by
 obtain ⟨p1,_⟩:=C.parts hl;have h1:=(C.txt p1).1;have h2:=qlJ ((yj C.asc).1 h1);refine le_trans (length_filter_le ..) ?_;unfold wh;rw [q8n]; omega
end
theorem qs9 {b c:Bat} {r:List Bat}:zN (b::c::r)=zN (c::r):=by unfold zN; rw [List.getLast?_cons_cons]
theorem qpP:∀ {bs:List Bat} {q:Int},upQ q bs=true->∀ b∈bs,q < b.1/\b.1<=zN bs
 | [],_,_,b,hb=>by cases hb
 | [a],q,h,b,hb=>by
  simp only [upQ,and_eq_true,decide_eq_true_eq] at h;rw [mem_singleton.1 hb];exact ⟨h.1,Int.le_refl _⟩
 | a::c::r,q,h,b,hb=>by
  rw [qs9];have h':q < a.1/\upQ a.1 (c::r)=true:=by
   rw [upQ,and_eq_true,decide_eq_true_eq] at h;exact h
  have ih:=qpP h'.2;rcases mem_cons.1 hb with rfl | hb
  ·have:=ih c (mem_cons_self ..);exact ⟨h'.1,by omega⟩
  ·have:=ih b hb;exact ⟨by omega,this.2⟩
section
variable {d:List Fil} {l i:List Nat} {top act:Nat}
theorem qoI (C:Clean d l) (hl:l=(i++[top])++[act]):zN (yM d (dirD d l) (i++[top])++batD d act)<=zN (allB d l):=by
 have hb:=qea C.bt;cases hg:(yM d (dirD d l) (i++[top])++batD d act).getLast? with
 | none=>
  unfold zN at hb ⊢;rw [hg]; exact hb.1
 | some b=>
  have hm:=List.mem_of_getLast? hg;have hs:((yM d (dirD d l) (i++[top])++batD d act).map (·.1)).Sublist ((allB d l).map (·.1)):=by
   have e:allB d l=allB d (i++[top])++batD d act:=by
    rw [hl,qe4];unfold allB;rw [flatMap_cons,flatMap_nil,append_nil]
   rw [e,map_append,map_append];exact (qgs d _ _).append (List.Sublist.refl _)
  have h2:b.1∈(allB d l).map (·.1):=hs.subset (mem_map.2 ⟨b,hm,rfl⟩);obtain ⟨c,hc,e⟩:=mem_map.1 h2;have:=(qpP C.up c hc).2;have h3:zN (yM d (dirD d l) (i++[top])++batD d act)=b.1:=by
   unfold zN; rw [hg]; rfl
  omega
end
theorem qfT {e:Eng} (h:eOkP e) (h0:(meO e).2.2=true):∃ i top act x,segN e.1=(i++[top])++[act]/\Clean x [top,act]/\conD x [top,act]=conD e.1 (segN e.1)/\allB x [top,act]=yM e.1 (dirD e.1 (segN e.1)) (i++[top])++batD e.1 act/\(yR x:Int)<=e.2.1/\x.length<=e.1.length/\e.1.length<=29/\(q0n e.1 (segN e.1) i top).length<=20000/\x=((wh e.1 (segN e.1) i top).filter fun f=>decide (f.1∉i.map nmL))/\meO e=(mkE x x e.2.1 [top,act],(jd e.1 (segN e.1) i top,true)):=by
 obtain ⟨r1,r2,C,_⟩:=jJ h;by_cases h2:2<=(segN e.1).length
 ·obtain ⟨i,top,act,hl⟩:=qdj h2;have hma:=q6A h hl;rw [<- hl] at hma;unfold meO at h0 ⊢;rw [hma] at h0 ⊢;simp only [cT] at h0 ⊢;cases hg:goM e.2.1 e.1 (jd e.1 (segN e.1) i top) with
  | none=>rw [hg] at h0; cases h0
  | some x=>
   obtain ⟨g1,g2⟩:=qqo hg;obtain ⟨m1,m2,m3,m4⟩:=qrw C hl g1;obtain ⟨c1,c2,c3⟩:=qon C hl m3;rw [<- m4] at c1 c2 c3;refine ⟨i,top,act,x,hl,c1,c2,c3,g2 (by unfold jd; simp),by rw [m4]; exact qrM C hl,m1,m2,m4,?_⟩
   simp only;rw [qaE c1 r1 r2]; rfl
 ·exfalso
  unfold meO at h0;rw [q9i fun c=>h2 c.2] at h0
  cases h0
theorem Rt.merge {n:Nat} {e:Eng} (h:Rt n e) (h0:(meO e).2.2=true):Rt n (meO e).1:=by
 obtain ⟨r1,r2,C,_,hq,_⟩:=jJ h.ok;obtain ⟨i,top,act,x,hl,C',_,ha,hs,hlen,_,_,_,he⟩:=qfT h.ok h0;have hn:=h.len;have hsq:=h.seq;rw [he];refine ⟨q6a.2 ⟨r1,r2,[top,act],C',rfl⟩,by show x.length<=_; omega,?_,hs⟩
 show zN (allB x [top,act])<=_;rw [ha];have:=qoI C hl;omega
theorem Rt.len2 {n:Nat} {e:Eng} (h:Rt n e) (hn:n<=1000):e.1.length<=2000000:=by have:=h.len; omega
theorem q5G (n:Nat) (hn:n<=24):∀ (m i:Nat) (c:Cur) (e:Eng),m+i=n->Cu c->Rt i e->∃ (e':Eng) (c':Cur),yV (n:Int) (i:Int) c.1 c.2.1 c.2.2 [] 0 0 0 [] e.1 e.2.1 e.2.2.1 e.2.2.2.1 e.2.2.2.2=some (e',(c',()))/\Rt n e'/\Cu c'
 | 0,i,c,e,hm,hc,hR=>by
  have hi:i=n:=by omega
  subst hi;rw [q77];simp only [dYF (show ¬ (i:Int) < (i:Int) by omega),cF]
  exact ⟨e,c,rfl,hR,hc⟩
 | m+1,i,c,e,hm,hc,hR=>by
  obtain ⟨cs,c1,e1,g1,k1⟩:=qjQ hc;have e1:q4H (c.1,(c.2.1,c.2.2))=some (cs,(c1,())):=e1;have w:w64 ((i:Int)+1)=((i+1:Nat):Int):=qw (by omega)
  have hpu:q2d (e.1,(e.2.1,(e.2.2.1,(e.2.2.2.1,e.2.2.2.2)))) cs=some (puO e cs,()):=q6n e (hR.len2 (by omega)) cs (by have:=g1.l6; omega)
  rw [q77];simp only [dYT (show (i:Int) < (n:Int) by omega),cT,e1,oB,w]
  rw [hpu];simp only [oB];obtain ⟨b,c2,e2,k2⟩:=qlh k1 10 (by omega) (by omega)
  rw [e2];simp only [oB];have next:∀ f:Eng,Rt (i+1) f->∃ (e':Eng) (c':Cur),(bif b then (q3C f).bind fun r20=>bif r20.1.2.2 then yV (n:Int) ((i+1:Nat):Int) c2.1 c2.2.1 c2.2.2 [] 0 0 0 [] r20.1.1.1 r20.1.1.2.1 r20.1.1.2.2.1 r20.1.1.2.2.2.1 r20.1.1.2.2.2.2 else yV (n:Int) ((i+1:Nat):Int) c2.1 c2.2.1 c2.2.2 [] 0 0 0 [] f.1 f.2.1 f.2.2.1 f.2.2.2.1 f.2.2.2.2 else yV (n:Int) ((i+1:Nat):Int) c2.1 c2.2.1 c2.2.2 [] 0 0 0 [] f.1 f.2.1 f.2.2.1 f.2.2.2.1 f.2.2.2.2)=some (e',(c',()))/\Rt n e'/\Cu c':=fun f hf=>by
   cases b with
   | false=>exact q5G n hn m (i+1) c2 f (by omega) k2 hf
   | true=>
    rw [cT,qa1 f (hf.len2 (by omega))]
    simp only [oB];cases hm:(meO f).2.2 with
    | false=>exact q5G n hn m (i+1) c2 f (by omega) k2 hf
    | true=>exact q5G n hn m (i+1) c2 (meO f).1 (by omega) k2 (hf.merge hm)
  cases hz:((puO e cs).2.2==0) with
  | true=>exact next _ (hR.put (beq_iff_eq.1 hz))
  | false=>exact next e (hR.mono (by omega))
theorem qbJ (code:List Int) (hl:code.length<=1048576):∃ (e:Eng) (cs:List Chg),q0e code=some ((e,cs),())/\Rt 24 e/\Gc cs:=by
 obtain ⟨c,e0,k0⟩:=qsR code hl;obtain ⟨x,c1,e1,a1,b1,k1⟩:=qbB k0 3000 (by omega) (by omega)
 have hroom:w64 (400+x)=400+x:=qg (by omega) (by omega)
 have hf:Rt 0 (fmE (400+x)):=quc (by omega) (by omega)
 have main:∃ (e:Eng) (c':Cur),q8u c code=some (e,(c',()))/\Rt 24 e/\Cu c':=by
  rw [qhz,e1];simp only [oB];rw [hroom,qt6 (by omega) (by omega)]
  simp only [oB];have w1:w64 (3+w64 (tdiv (code.length:Int) 8))=((3+code.length / 8:Nat):Int):=by
   rw [show tdiv (code.length:Int) 8=((code.length / 8:Nat):Int) from qj7 code.length 8]
   rw [show w64 (((code.length / 8:Nat):Int))=((code.length / 8:Nat):Int) from qg (by omega) (by omega)]
   exact (qg (by omega) (by omega)).trans (by omega)
  rw [w1];by_cases h24:((3+code.length / 8:Nat):Int) > 24
  ·rw [dYT h24,cT];exact q5G 24 (le_refl _) 24 0 c1 (fmE (400+x)) rfl k1 hf
  ·rw [dYF h24,cF];obtain ⟨e',c',q1,q2,q3⟩:=q5G (3+code.length / 8) (by omega) (3+code.length / 8) 0 c1 (fmE (400+x)) rfl k1 hf
   exact ⟨e',c',q1,q2.mono (by omega),q3⟩
 obtain ⟨e,c2,e2,hR,k2⟩:=main;obtain ⟨cs,c3,e3,g3,_⟩:=qjQ k2;refine ⟨e,cs,?_,hR,g3⟩;rw [qc8,e0];simp only [oB];rw [e2];simp only [oB];rw [e3]; rfl
theorem qws (a b:Chg):(decide (a.1=b.1)&&(decide (a.2.1=b.2.1)&&((a.2.2==b.2.2)&&true)))=decide (a=b):=by
 obtain ⟨a0,a1,a2⟩:=a;obtain ⟨b0,b1,b2⟩:=b;rw [Bool.eq_iff_iff];simp only [and_eq_true,decide_eq_true_eq,beq_iff_eq,and_true,Prod.mk.injEq]
theorem q1A (a b:List Chg) (ha:a.length<=1000000000):zD a b=some (decide (a=b),()):=by
 rw [qfp];by_cases hl:a.length=b.length
 ·have e:((a.length:Int) != (b.length:Int))=false:=by simp [hl]
  simp only [e,cF];refine q8v (fun i=>q23 a b i) a b dC hl (fun i hi'=>?_) ?_
  ·rw [q5N];have e:w64 ((i:Int)+1)=(i:Int)+1:=qg (by omega) (by omega)
   have h1:decide ((i:Int) < (a.length:Int))=true:=dYT (by omega)
   have h2:decide ((i:Int) < (b.length:Int))=true:=dYT (by omega)
   have h3:decide (0<=(i:Int))=true:=dYT (by omega)
   simp only [h1,h2,h3,e,Bool.and_self,cT,toNat_natCast,y8,qws];by_cases h:a.getD i dC=b.getD i dC
   ·rw [dYT h,if_pos h,Bool.not_true,cF]
   ·rw [dYF h,if_neg h,Bool.not_false,cT]
  ·rw [q5N];simp
 ·have e:((a.length:Int) != (b.length:Int))=true:=by simp; omega
  simp only [e,cT];rw [dYF fun h=>hl (by rw [h])]
theorem q17 (m:List (BA×BA)):(chgs m).length=m.length:=by unfold chgs; rw [length_map]
theorem qlH {e:Eng} (h:eOkP e):coO e=(chgs (conD e.1 (segN e.1)),true):=by
 obtain ⟨r1,r2,C,_,_,_,he⟩:=jJ h;rw [he];exact qdy C r1 r2
theorem qbi {d:List Fil} {l:List Nat} (C:Clean d l):(conD d l).length<=80000000:=by
 have h:=qi8 (d:=d) (jU C.segs) fun n hn=>(C.mem.1 hn).1
 unfold dirD at h;unfold conD
 rwa [length_map] at h ⊢
theorem qod (code:List Int):qbW code=some (decide ((code.length:Int) > 1048576),()):=qq6 code
end Go.Den.S
