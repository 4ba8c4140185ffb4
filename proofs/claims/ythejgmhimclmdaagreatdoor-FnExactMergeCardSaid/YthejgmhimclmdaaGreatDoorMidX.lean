/- MidX: equations of the functions of this seat as the executor tells them, or plain facts about them. Conditions: none here. -/
import Derived.Test.YthejgmhimclmdaaGreatDoorEhQ
import Derived.Test.YthejgmhimclmdaaGreatDoorEqD0
import Derived.Test.YthejgmhimclmdaaGreatDoorEqD1
import Derived.Test.YthejgmhimclmdaaGreatDoorLawH
set_option linter.all false
open Bool (and_eq_true)
open ByteArray (size toList)
open Int (tdiv tmod toNat toNat_natCast)
open List (append_assoc append_nil drop drop_eq_nil_iff filterMap_cons filter_cons flatMap_nil getD getD_eq_getElem?_getD length length_append length_cons length_map length_nil length_singleton map map_cons map_nil mem_cons mem_cons_of_mem mem_cons_self mem_filter replicate singleton_append take toArray)
open Nat (le_refl le_trans zero_add zero_le)
namespace Go.Den.S
open Go Go.Den Go.Proofs
abbrev c_m0:BA:=⟨#[109,48]⟩
abbrev c_m:BA:=⟨#[109]⟩
noncomputable section
def q15 (a0:qp) (a1:Int):Option (Int×Unit):=DF X 13 ((a0,a1,()):(qp)×(Int)×Unit)
def yG (a0:qp):Option (qp×Unit):=DF X 15 ((a0,()):(qp)×Unit)
def q1G (a0:(List qd)) (a1:(List qd)):Option (Bool×Unit):=DF X 17 ((a0,a1,()):((List qd))×((List qd))×Unit)
def q30 (x0:(List qd)) (x1:(List qd)) (x5:Int):Option (Bool×Unit):=qA X 17 0 [] (mkSt 27 [(0,.sv (.lst qx x0)),(1,.sv (.lst qx x1)),(5,.sv (.int .i64 x5))] [(1000000,.gone),(1000001,.gone)])
def wu (a0:qp) (a1:qp):Option (Bool×Unit):=DF X 18 ((a0,a1,()):(qp)×(qp)×Unit)
def zu (a0:qp) (a1:Int):Option (Int×(qp×Unit)):=DF X 19 ((a0,a1,()):(qp)×(Int)×Unit)
def q3T (a0:(List qd)) (a1:Int):Option (Int×((List qd)×Unit)):=DF X 20 ((a0,a1,()):((List qd))×(Int)×Unit)
def q28 (x1:Int) (x5:Int) (r_a:(List qd)):Option (Int×((List qd)×Unit)):=qA X 20 0 [] (mkSt 38 [(0,.sv (.own 3000000)),(1,.sv (.int .i64 x1)),(5,.sv (.int .i64 x5))] [(3000000,.live (.row qx r_a 0))])
def q1E (a0:qp):Option (((List qz)×Bool)×Unit):=DF X 24 ((a0,()):(qp)×Unit)
def q0p (x6:Nat) (x6h:Nat) (x7:Int) (x10:(List qz)) (x61:Nat) (x61h:Nat) (x62:Int) (x63:Int) (b0_0:q8) (b0_1:Int) (b0_2:Int) (b0_3:Int) (b0_4:(List qh)) (r_b:(List Int)):Option (((List qz)×Bool)×Unit):=qA X 24 0 [] (mkSt 141 [(1,.sv (.ptr 0 0)),(6,.sv (.sub 1056 x6 x6h)),(7,.sv (.int .i64 x7)),(10,.sv (.own 1000010)),(61,.sv (.sub 1056 x61 x61h)),(62,.sv (.int .i64 x62)),(63,.sv (.int .i64 x63))] [(1000010,.live (.row qY x10 0)),(2000000,.gone),(2000004,.gone),(0,.live (.box [(.lst qj b0_0),(.int .i64 b0_1),(.int .i64 b0_2),(.int .i64 b0_3),(.lst qC b0_4)])),(1056,.live (.row I r_b 0))])
def q1h (x6:Nat) (x6h:Nat) (x7:Int) (x10:(List qz)) (x12:Int) (x61:Nat) (x61h:Nat) (x62:Int) (x63:Int) (x82:(List zf)) (x83:Int) (x84:Int) (b0_0:q8) (b0_1:Int) (b0_2:Int) (b0_3:Int) (b0_4:(List qh)) (r_b:(List Int)):Option (((List qz)×Bool)×Unit):=qA X 24 2 [0] (mkSt 141 [(1,.sv (.ptr 0 0)),(6,.sv (.sub 1056 x6 x6h)),(7,.sv (.int .i64 x7)),(10,.sv (.own 1000010)),(12,.sv (.int .i64 x12)),(61,.sv (.sub 1056 x61 x61h)),(62,.sv (.int .i64 x62)),(63,.sv (.int .i64 x63)),(82,.sv (.lst jv x82)),(83,.sv (.int .i64 x83)),(84,.sv (.int .i64 x84))] [(1000010,.live (.row qY x10 0)),(1000082,.gone),(2000000,.gone),(2000004,.gone),(0,.live (.box [(.lst qj b0_0),(.int .i64 b0_1),(.int .i64 b0_2),(.int .i64 b0_3),(.lst qC b0_4)])),(1056,.live (.row I r_b 0))])
def q2Y (x10:(List qz)) (x127:(List Int)) (x128:Int) (x129:Int):Option (((List qz)×Bool)×Unit):=qA X 24 4 [] (mkSt 141 [(10,.sv (.own 1000010)),(127,.sv (.own 1000127)),(128,.sv (.int .i64 x128)),(129,.sv (.int .i64 x129))] [(1000010,.live (.row qY x10 0)),(1000127,.live (.row I x127 0))])
def q3b (a0:qp):Option (((List qz)×Bool)×Unit):=DF X 25 ((a0,()):(qp)×Unit)
def q0s (x7:(List Int)) (x8:Int) (x11:(List qz)) (x12:Int) (b0_0:q8) (b0_1:Int) (b0_2:Int) (b0_3:Int) (b0_4:(List qh)):Option (((List qz)×Bool)×Unit):=qA X 25 0 [] (mkSt 180 [(1,.sv (.ptr 0 0)),(7,.sv (.own 1000007)),(8,.sv (.int .i64 x8)),(11,.sv (.own 1000011)),(12,.sv (.int .i64 x12))] [(1000007,.live (.row I x7 0)),(1000011,.live (.row qY x11 0)),(2000000,.gone),(2000004,.gone),(0,.live (.box [(.lst qj b0_0),(.int .i64 b0_1),(.int .i64 b0_2),(.int .i64 b0_3),(.lst qC b0_4)]))])
def q1k (x7:(List Int)) (x8:Int) (x11:(List qz)) (x12:Int) (x16:(List qQ)) (x21:Int) (x22:Int) (b0_0:q8) (b0_1:Int) (b0_2:Int) (b0_3:Int) (b0_4:(List qh)):Option (((List qz)×Bool)×Unit):=qA X 25 2 [0] (mkSt 180 [(1,.sv (.ptr 0 0)),(7,.sv (.own 1000007)),(8,.sv (.int .i64 x8)),(11,.sv (.own 1000011)),(12,.sv (.int .i64 x12)),(16,.sv (.lst wZ x16)),(21,.sv (.int .i64 x21)),(22,.sv (.int .i64 x22))] [(1000007,.live (.row I x7 0)),(1000011,.live (.row qY x11 0)),(1000016,.gone),(2000000,.gone),(2000004,.gone),(0,.live (.box [(.lst qj b0_0),(.int .i64 b0_1),(.int .i64 b0_2),(.int .i64 b0_3),(.lst qC b0_4)]))])
def q35 (x7:(List Int)) (x11:(List qz)) (x27:Int):Option (((List qz)×Bool)×Unit):=qA X 25 4 [] (mkSt 180 [(7,.sv (.own 1000007)),(11,.sv (.own 1000011)),(27,.sv (.int .i64 x27))] [(1000007,.live (.row I x7 0)),(1000011,.live (.row qY x11 0))])
def jf (a0:(List qz)) (a1:(List qz)):Option (Bool×Unit):=DF X 31 ((a0,a1,()):((List qz))×((List qz))×Unit)
def q5l (x0:(List qz)) (x1:(List qz)) (x5:Int):Option (Bool×Unit):=qA X 31 0 [] (mkSt 27 [(0,.sv (.lst qY x0)),(1,.sv (.lst qY x1)),(5,.sv (.int .i64 x5))] [(1000000,.gone),(1000001,.gone)])
def q2i (a0:(List qz)) (a1:Int):Option (Int×((List qz)×Unit)):=DF X 32 ((a0,a1,()):((List qz))×(Int)×Unit)
def q3y (x1:Int) (x5:Int) (r_a:(List qz)):Option (Int×((List qz)×Unit)):=qA X 32 0 [] (mkSt 44 [(0,.sv (.own 3000000)),(1,.sv (.int .i64 x1)),(5,.sv (.int .i64 x5))] [(3000000,.live (.row qY r_a 0))])
def q0y (a0:(List qz)) (a1:Int):Option (Int×Unit):=DF X 33 ((a0,a1,()):((List qz))×(Int)×Unit)
def q3P (x0:(List qz)) (x1:Int) (x5:Int):Option (Int×Unit):=qA X 33 0 [] (mkSt 52 [(0,.sv (.lst qY x0)),(1,.sv (.int .i64 x1)),(5,.sv (.int .i64 x5))] [(1000000,.gone)])
def zX (a0:qp) (a1:Int):Option (Int×Unit):=DF X 52 ((a0,a1,()):(qp)×(Int)×Unit)
def qcW (a0:q8) (a1:Int):Option (Int×Unit):=DF X 66 ((a0,a1,()):(q8)×(Int)×Unit)
def qba (a0:(List qh)) (a1:Int):Option (Int×Unit):=DF X 67 ((a0,a1,()):((List qh))×(Int)×Unit)
def q4A (x0:(List qh)) (x1:Int) (x5:Int):Option (Int×Unit):=qA X 67 0 [] (mkSt 27 [(0,.sv (.lst qC x0)),(1,.sv (.int .i64 x1)),(5,.sv (.int .i64 x5))] [(1000000,.gone)])
def qhN (a0:q8):Option (q8×Unit):=DF X 70 ((a0,()):(q8)×Unit)
def qbM (a0:(List qh)):Option ((List qh)×Unit):=DF X 71 ((a0,()):((List qh))×Unit)
def q0X (x0:(List qh)) (x3:(List qh)) (x4:Int):Option ((List qh)×Unit):=qA X 71 0 [] (mkSt 23 [(0,.sv (.lst qC x0)),(3,.sv (.own 1000003)),(4,.sv (.int .i64 x4))] [(1000000,.gone),(1000003,.live (.row qC x3 0))])
def q9Y (a0:qd) (a1:qd):Option (Bool×Unit):=DF X 73 ((a0,a1,()):(qd)×(qd)×Unit)
def qd7 (a0:q8) (a1:q8):Option (Bool×Unit):=DF X 74 ((a0,a1,()):(q8)×(q8)×Unit)
def qbQ (a0:(List qh)) (a1:(List qh)):Option (Bool×Unit):=DF X 75 ((a0,a1,()):((List qh))×((List qh))×Unit)
def q4q (x0:(List qh)) (x1:(List qh)) (x5:Int):Option (Bool×Unit):=qA X 75 0 [] (mkSt 27 [(0,.sv (.lst qC x0)),(1,.sv (.lst qC x1)),(5,.sv (.int .i64 x5))] [(1000000,.gone),(1000001,.gone)])
def qfg (a0:q8) (a1:Int):Option (Int×(q8×Unit)):=DF X 76 ((a0,a1,()):(q8)×(Int)×Unit)
def q8M (a0:(List qh)) (a1:Int):Option (Int×((List qh)×Unit)):=DF X 77 ((a0,a1,()):((List qh))×(Int)×Unit)
def q37 (x1:Int) (x5:Int) (r_a:(List qh)):Option (Int×((List qh)×Unit)):=qA X 77 0 [] (mkSt 42 [(0,.sv (.own 3000000)),(1,.sv (.int .i64 x1)),(5,.sv (.int .i64 x5))] [(3000000,.live (.row qC r_a 0))])
def yK (a0:Int):Option (BA×Unit):=DF X 78 ((a0,()):(Int)×Unit)
def q3x (x0:Int) (x3:BA):Option (BA×Unit):=qA X 78 0 [] (mkSt 20 [(0,.sv (.int .i64 x0)),(3,.sv (.str x3))] [])
def q4c (a0:qp) (a1:Int) (a2:zf):Option ((List qd)×Unit):=DF X 87 ((a0,a1,a2,()):(qp)×(Int)×(zf)×Unit)
def q1C (x1:Int) (x7:(List qd)) (x12:(List qd)) (x13:Int) (x14:Int) (b0_0:q8) (b0_1:Int) (b0_2:Int) (b0_3:Int) (b0_4:(List qh)) (b16_0:Int) (b16_1:(List qd)) (b16_2:Int) (b16_3:Int):Option ((List qd)×Unit):=qA X 87 0 [] (mkSt 41 [(1,.sv (.int .i64 x1)),(3,.sv (.ptr 0 0)),(5,.sv (.ptr 16 0)),(7,.sv (.own 1000007)),(12,.sv (.lst qx x12)),(13,.sv (.int .i64 x13)),(14,.sv (.int .i64 x14))] [(1000007,.live (.row qx x7 0)),(1000012,.gone),(2000000,.gone),(2000004,.gone),(0,.live (.box [(.lst qj b0_0),(.int .i64 b0_1),(.int .i64 b0_2),(.int .i64 b0_3),(.lst qC b0_4)])),(2001025,.gone),(16,.live (.box [(.int .i64 b16_0),(.lst qx b16_1),(.int .i64 b16_2),(.int .i64 b16_3)]))])
def qbl (a0:(List qh)) (a1:Int) (a2:Int):Option (Bool×Unit):=DF X 94 ((a0,a1,a2,()):((List qh))×(Int)×(Int)×Unit)
def q2l (x0:(List qh)) (x1:Int) (x2:Int) (x7:Int):Option (Bool×Unit):=qA X 94 0 [] (mkSt 30 [(0,.sv (.lst qC x0)),(1,.sv (.int .i64 x1)),(2,.sv (.int .i64 x2)),(7,.sv (.int .i64 x7))] [(1000000,.gone)])
def qbs (a0:(List qh)) (a1:qQ) (a2:Int) (a3:Int):Option ((List qd)×Unit):=DF X 96 ((a0,a1,a2,a3,()):((List qh))×(qQ)×(Int)×(Int)×Unit)
def q2D (x0:(List qh)) (x2:Int) (x3:Int) (x9:(List qd)) (x10:Int) (b0_0:Int) (b0_1:(List qd)):Option ((List qd)×Unit):=qA X 96 0 [] (mkSt 65 [(0,.sv (.lst qC x0)),(2,.sv (.int .i64 x2)),(3,.sv (.int .i64 x3)),(5,.sv (.ptr 0 0)),(9,.sv (.own 1000009)),(10,.sv (.int .i64 x10))] [(1000000,.gone),(1000009,.live (.row qx x9 0)),(2000001,.gone),(0,.live (.box [(.int .i64 b0_0),(.lst qx b0_1)]))])
def q0o (x0:(List qh)) (x2:Int) (x3:Int) (x9:(List qd)) (x10:Int) (x11:Int) (b0_0:Int) (b0_1:(List qd)):Option ((List qd)×Unit):=qA X 96 2 [0] (mkSt 65 [(0,.sv (.lst qC x0)),(2,.sv (.int .i64 x2)),(3,.sv (.int .i64 x3)),(5,.sv (.ptr 0 0)),(9,.sv (.own 1000009)),(10,.sv (.int .i64 x10)),(11,.sv (.int .i64 x11))] [(1000000,.gone),(1000009,.live (.row qx x9 0)),(2000001,.gone),(0,.live (.box [(.int .i64 b0_0),(.lst qx b0_1)]))])
def q4L (a0:q8):Option (Int×Unit):=DF X 103 ((a0,()):(q8)×Unit)
def q4y (x3:Int) (x7:q8) (x8:Int) (x9:Int):Option (Int×Unit):=qA X 103 0 [] (mkSt 20 [(3,.sv (.int .i64 x3)),(7,.sv (.lst qj x7)),(8,.sv (.int .i64 x8)),(9,.sv (.int .i64 x9))] [(1000007,.gone)])
def qe7 (a0:qz) (a1:qz):Option (Bool×Unit):=DF X 104 ((a0,a1,()):(qz)×(qz)×Unit)
def q0S (a0:q8):Option (Int×Unit):=DF X 108 ((a0,()):(q8)×Unit)
def q4w (x3:Int) (x4:Int) (b0_0:q8):Option (Int×Unit):=qA X 108 0 [] (mkSt 22 [(1,.sv (.ptr 0 0)),(3,.sv (.int .i64 x3)),(4,.sv (.int .i64 x4))] [(2000000,.gone),(0,.live (.box [(.lst qj b0_0)]))])
def qfm (a0:q8) (a1:Int):Option (Int×Unit):=DF X 124 ((a0,a1,()):(q8)×(Int)×Unit)
def q8p (a0:(List qh)) (a1:Int):Option (Int×Unit):=DF X 125 ((a0,a1,()):((List qh))×(Int)×Unit)
def q33 (x0:(List qh)) (x1:Int) (x5:Int):Option (Int×Unit):=qA X 125 0 [] (mkSt 50 [(0,.sv (.lst qC x0)),(1,.sv (.int .i64 x1)),(5,.sv (.int .i64 x5))] [(1000000,.gone)])
def qb5 (a0:q8) (a1:Int):Option (Int×Unit):=DF X 146 ((a0,a1,()):(q8)×(Int)×Unit)
def q4r (x0:q8) (x1:Int) (x5:Int):Option (Int×Unit):=qA X 146 0 [] (mkSt 27 [(0,.sv (.lst qj x0)),(1,.sv (.int .i64 x1)),(5,.sv (.int .i64 x5))] [(1000000,.gone)])
def qd0 (a0:qh) (a1:Int):Option (Int×Unit):=DF X 147 ((a0,a1,()):(qh)×(Int)×Unit)
def qbn (a0:q8):Option (q8×Unit):=DF X 149 ((a0,()):(q8)×Unit)
def q0Y (x0:q8) (x3:q8) (x4:Int):Option (q8×Unit):=qA X 149 0 [] (mkSt 23 [(0,.sv (.lst qj x0)),(3,.sv (.own 1000003)),(4,.sv (.int .i64 x4))] [(1000000,.gone),(1000003,.live (.row qj x3 0))])
def qhK (a0:qh):Option (qh×Unit):=DF X 150 ((a0,()):(qh)×Unit)
def qc0 (a0:q8) (a1:q8):Option (Bool×Unit):=DF X 154 ((a0,a1,()):(q8)×(q8)×Unit)
def q4l (x0:q8) (x1:q8) (x5:Int):Option (Bool×Unit):=qA X 154 0 [] (mkSt 27 [(0,.sv (.lst qj x0)),(1,.sv (.lst qj x1)),(5,.sv (.int .i64 x5))] [(1000000,.gone),(1000001,.gone)])
def qcQ (a0:qh) (a1:qh):Option (Bool×Unit):=DF X 155 ((a0,a1,()):(qh)×(qh)×Unit)
def q8t (a0:q8) (a1:Int):Option (Int×(q8×Unit)):=DF X 156 ((a0,a1,()):(q8)×(Int)×Unit)
def q36 (x1:Int) (x5:Int) (r_a:q8):Option (Int×(q8×Unit)):=qA X 156 0 [] (mkSt 36 [(0,.sv (.own 3000000)),(1,.sv (.int .i64 x1)),(5,.sv (.int .i64 x5))] [(3000000,.live (.row qj r_a 0))])
def yC (a0:(List qh)) (a1:qh):Option (Bool×Unit):=DF X 168 ((a0,a1,()):((List qh))×(qh)×Unit)
def q8G (a0:q8) (a1:Int):Option (Int×Unit):=DF X 203 ((a0,a1,()):(q8)×(Int)×Unit)
def q2V (x0:q8) (x1:Int) (x5:Int):Option (Int×Unit):=qA X 203 0 [] (mkSt 42 [(0,.sv (.lst qj x0)),(1,.sv (.int .i64 x1)),(5,.sv (.int .i64 x5))] [(1000000,.gone)])
def qcT (a0:wm) (a1:Int):Option (Int×Unit):=DF X 225 ((a0,a1,()):(wm)×(Int)×Unit)
def qhX (a0:wm):Option (wm×Unit):=DF X 226 ((a0,()):(wm)×Unit)
def qcZ (a0:wm) (a1:wm):Option (Bool×Unit):=DF X 229 ((a0,a1,()):(wm)×(wm)×Unit)
def w9 (a0:(List qh)) (a1:qh):Option (Int×Unit):=DF X 238 ((a0,a1,()):((List qh))×(qh)×Unit)
def qL (x0:(List qh)) (x7:Int) (x8:Int) (b0_0:BA) (b0_1:Int) (b0_2:Int) (b0_3:Int):Option (Int×Unit):=qA X 238 0 [] (mkSt 19 [(0,.sv (.lst qC x0)),(3,.sv (.ptr 0 0)),(7,.sv (.int .i64 x7)),(8,.sv (.int .i64 x8))] [(1000000,.gone),(0,.live (.box [(.str b0_0),(.int .i64 b0_1),(.int .i64 b0_2),(.int .i64 b0_3)]))])
end
theorem qie (a0:qp) (a1:Int):q15 a0 a1=((qcW a0.1 a1).bind fun r4=>bif (decide (r4.1 < 0)) then some ((-1),()) else (qba a0.2.2.2.2 r4.1).bind fun r5=>bif (decide (r5.1 < 0)) then some ((-1),()) else some (r5.1,()):Option (Int×Unit)):=(qo X rfl _).trans (by kernel_rfl)
theorem qiq (a0:qp):yG a0=((qhN a0.1).bind fun r3=>(qbM a0.2.2.2.2).bind fun r4=>some ((r3.1,(a0.2.1,(a0.2.2.1,(a0.2.2.2.1,r4.1)))),()):Option (qp×Unit)):=(qo X rfl _).trans (by kernel_rfl)
theorem qhC (a0:(List qd)) (a1:(List qd)):q1G a0 a1=(bif ((length a0:Int) != (length a1:Int)) then some (false,()) else q30 a0 a1 0:Option (Bool×Unit)):=(qo X rfl _).trans (by kernel_rfl)
theorem q7D (x0:(List qd)) (x1:(List qd)) (x5:Int):q30 x0 x1 x5=(bif (decide (x5 < (length x0:Int))) then bif ((decide (0<=x5))&&(decide (x5 < (length x0:Int)))) then bif ((decide (0<=x5))&&(decide (x5 < (length x1:Int)))) then (q9Y ((getD x0 (toNat x5) (eB,(eB,false))).1,((getD x0 (toNat x5) (eB,(eB,false))).2)) ((getD x1 (toNat x5) (eB,(eB,false))).1,((getD x1 (toNat x5) (eB,(eB,false))).2))).bind fun r5=>bif (!r5.1) then some (false,()) else q30 x0 x1 (w64 (x5+1)) else none else none else some (true,()):Option (Bool×Unit)):=(ql X 17 0 [] _ _ _).trans (by kernel_rfl)
theorem qiS (a0:qp) (a1:qp):wu a0 a1=((qd7 a0.1 a1.1).bind fun r4=>bif (!r4.1) then some (false,()) else bif (a0.2.1 != a1.2.1) then some (false,()) else bif (a0.2.2.1 != a1.2.2.1) then some (false,()) else bif (a0.2.2.2.1 != a1.2.2.2.1) then some (false,()) else (qbQ a0.2.2.2.2 a1.2.2.2.2).bind fun r5=>bif (!r5.1) then some (false,()) else some (true,()):Option (Bool×Unit)):=(qo X rfl _).trans (by kernel_rfl)
theorem qgm (a0:qp) (a1:Int):zu a0 a1=((qfg a0.1 a1).bind fun r4=>(q8M a0.2.2.2.2 r4.1).bind fun r5=>some (r5.1,((r4.2.1,(0,(0,(0,r5.2.1)))),())):Option (Int×(qp×Unit))):=(qo X rfl _).trans (by kernel_rfl)
theorem qfs (a0:(List qd)) (a1:Int):q3T a0 a1=(q28 a1 0 a0:Option (Int×((List qd)×Unit))):=(qo X rfl _).trans (by kernel_rfl)
theorem q5S (x1:Int) (x5:Int) (r_a:(List qd)):q28 x1 x5 r_a=(bif (decide (x5 < (length r_a:Int))) then (yK x1).bind fun r5=>bif ((decide (0<=x5))&&(decide (x5 < (length r_a:Int)))) then (yK (w64 (x1+1))).bind fun r6=>bif ((decide (0<=x5))&&(decide (x5 < (length (List.set r_a (toNat x5) (r5.1,(getD r_a (toNat x5) (eB,(eB,false))).2)):Int)))) then bif ((decide (0<=x5))&&(decide (x5 < (length (List.set (List.set r_a (toNat x5) (r5.1,(getD r_a (toNat x5) (eB,(eB,false))).2)) (toNat x5) ((getD (List.set r_a (toNat x5) (r5.1,(getD r_a (toNat x5) (eB,(eB,false))).2)) (toNat x5) (eB,(eB,false))).1,(r6.1,((getD (List.set r_a (toNat x5) (r5.1,(getD r_a (toNat x5) (eB,(eB,false))).2)) (toNat x5) (eB,(eB,false))).2).2))):Int)))) then q28 (w64 ((w64 ((w64 (x1+1))+1))+1)) (w64 (x5+1)) (List.set (List.set (List.set r_a (toNat x5) (r5.1,(getD r_a (toNat x5) (eB,(eB,false))).2)) (toNat x5) ((getD (List.set r_a (toNat x5) (r5.1,(getD r_a (toNat x5) (eB,(eB,false))).2)) (toNat x5) (eB,(eB,false))).1,(r6.1,((getD (List.set r_a (toNat x5) (r5.1,(getD r_a (toNat x5) (eB,(eB,false))).2)) (toNat x5) (eB,(eB,false))).2).2))) (toNat x5) ((getD (List.set (List.set r_a (toNat x5) (r5.1,(getD r_a (toNat x5) (eB,(eB,false))).2)) (toNat x5) ((getD (List.set r_a (toNat x5) (r5.1,(getD r_a (toNat x5) (eB,(eB,false))).2)) (toNat x5) (eB,(eB,false))).1,(r6.1,((getD (List.set r_a (toNat x5) (r5.1,(getD r_a (toNat x5) (eB,(eB,false))).2)) (toNat x5) (eB,(eB,false))).2).2))) (toNat x5) (eB,(eB,false))).1,(((getD (List.set (List.set r_a (toNat x5) (r5.1,(getD r_a (toNat x5) (eB,(eB,false))).2)) (toNat x5) ((getD (List.set r_a (toNat x5) (r5.1,(getD r_a (toNat x5) (eB,(eB,false))).2)) (toNat x5) (eB,(eB,false))).1,(r6.1,((getD (List.set r_a (toNat x5) (r5.1,(getD r_a (toNat x5) (eB,(eB,false))).2)) (toNat x5) (eB,(eB,false))).2).2))) (toNat x5) (eB,(eB,false))).2).1,((tmod (w64 ((w64 (x1+1))+1)) 3)==0)))) else none else none else none else some (x1,(r_a,())):Option (Int×((List qd)×Unit))):=(ql X 20 0 [] _ _ _).trans (by kernel_rfl)
theorem qhr (a0:qp):q1E a0=((q0u a0.1).bind fun r3=>(q0v a0).bind fun r4=>bif (!r4.1) then some (([],false),()) else bif (decide ((length r3.1.1:Int) < 2)) then some (([],false),()) else bif ((decide ((0:Int)<=0))&&((decide (0<=(w64 ((length r3.1.1:Int) - 1))))&&(decide ((w64 ((length r3.1.1:Int) - 1))<=(length r3.1.1:Int))))) then bif ((decide (0<=(w64 (((((toNat (w64 ((length r3.1.1:Int) - 1))) - (toNat 0)):Nat):Int) - 1))))&&(decide ((w64 (((((toNat (w64 ((length r3.1.1:Int) - 1))) - (toNat 0)):Nat):Int) - 1)) < ((((toNat (w64 ((length r3.1.1:Int) - 1))) - (toNat 0)):Nat):Int)))) then (q3Y (getD r3.1.1 ((toNat 0)+(toNat (w64 (((((toNat (w64 ((length r3.1.1:Int) - 1))) - (toNat 0)):Nat):Int) - 1)))) 0) (getD r3.1.1 ((toNat 0)+(toNat (w64 (((((toNat (w64 ((length r3.1.1:Int) - 1))) - (toNat 0)):Nat):Int) - 1)))) 0)).bind fun r5=>q0p (toNat 0) (toNat (w64 ((length r3.1.1:Int) - 1))) (getD r3.1.1 ((toNat 0)+(toNat (w64 (((((toNat (w64 ((length r3.1.1:Int) - 1))) - (toNat 0)):Nat):Int) - 1)))) 0) ([(1,(qF,(r5.1.1,eB)))]) (toNat 0) (toNat (w64 ((length r3.1.1:Int) - 1))) ((((toNat (w64 ((length r3.1.1:Int) - 1))) - (toNat 0)):Nat):Int) 0 a0.1 a0.2.1 a0.2.2.1 a0.2.2.2.1 a0.2.2.2.2 r3.1.1 else none else none:Option (((List qz)×Bool)×Unit)):=(qo X rfl _).trans (by kernel_rfl)
theorem q7i (x6:Nat) (x6h:Nat) (x7:Int) (x10:(List qz)) (x61:Nat) (x61h:Nat) (x62:Int) (x63:Int) (b0_0:q8) (b0_1:Int) (b0_2:Int) (b0_3:Int) (b0_4:(List qh)) (r_b:(List Int)):q0p x6 x6h x7 x10 x61 x61h x62 x63 b0_0 b0_1 b0_2 b0_3 b0_4 r_b=(bif (decide (x63 < x62)) then bif ((decide (0<=x63))&&(decide (x63 < (((x61h - x61):Nat):Int)))) then (wI (getD r_b (x61+(toNat x63)) 0)).bind fun r16=>(q0d b0_0 r16.1).bind fun r17=>(q1a (getD r_b (x61+(toNat x63)) 0) r17.1.1).bind fun r18=>q1h x6 x6h x7 x10 (getD r_b (x61+(toNat x63)) 0) x61 x61h x62 x63 r18.1.2.1 (length r18.1.2.1:Int) 0 b0_0 b0_1 b0_2 b0_3 b0_4 r_b else none else (wI x7).bind fun r16=>bif (lim ((length x10)+2) 56) then bif ((decide ((0:Int)<=0))&&((decide (0<=(w64 ((((x6h - x6):Nat):Int) - 1))))&&(decide ((w64 ((((x6h - x6):Nat):Int) - 1))<=(((x6h - x6):Nat):Int))))) then q2Y (x10++[(2,(qF,(eB,eB))),(3,(qF,(eB,r16.1)))]) (take ((x6+(toNat (w64 ((((x6h - x6):Nat):Int) - 1)))) - (x6+(toNat 0))) (drop (x6+(toNat 0)) r_b)) ((((x6+(toNat (w64 ((((x6h - x6):Nat):Int) - 1)))) - (x6+(toNat 0))):Nat):Int) 0 else none else none:Option (((List qz)×Bool)×Unit)):=(ql X 24 0 [] _ _ _).trans (by kernel_rfl)
theorem q6W (x6:Nat) (x6h:Nat) (x7:Int) (x10:(List qz)) (x12:Int) (x61:Nat) (x61h:Nat) (x62:Int) (x63:Int) (x82:(List zf)) (x83:Int) (x84:Int) (b0_0:q8) (b0_1:Int) (b0_2:Int) (b0_3:Int) (b0_4:(List qh)) (r_b:(List Int)):q1h x6 x6h x7 x10 x12 x61 x61h x62 x63 x82 x83 x84 b0_0 b0_1 b0_2 b0_3 b0_4 r_b=(bif (decide (x84 < x83)) then bif ((decide (0<=x84))&&(decide (x84 < (length x82:Int)))) then (q4c (b0_0,(b0_1,(b0_2,(b0_3,b0_4)))) x12 (((getD x82 (toNat x84) ((0,[]),(0,0))).1),((getD x82 (toNat x84) ((0,[]),(0,0))).2))).bind fun r20=>bif ((length r20.1:Int)==0) then q1h x6 x6h x7 x10 x12 x61 x61h x62 x63 x82 x83 (w64 (x84+1)) b0_0 b0_1 b0_2 b0_3 b0_4 r_b else (q3j (((getD x82 (toNat x84) ((0,[]),(0,0))).1).1,r20.1)).bind fun r21=>(q2F r21.1.1).bind fun r22=>bif (lim ((length x10)+1) 56) then q1h x6 x6h x7 (x10++[(1,(qF,(r22.1.1,eB)))]) x12 x61 x61h x62 x63 x82 x83 (w64 (x84+1)) b0_0 b0_1 b0_2 b0_3 b0_4 r_b else none else none else q0p x6 x6h x7 x10 x61 x61h x62 (w64 (x63+1)) b0_0 b0_1 b0_2 b0_3 b0_4 r_b:Option (((List qz)×Bool)×Unit)):=(ql X 24 2 [0] _ _ _).trans (by kernel_rfl)
theorem q7q (x10:(List qz)) (x127:(List Int)) (x128:Int) (x129:Int):q2Y x10 x127 x128 x129=(bif (decide (x129 < x128)) then bif ((decide (0<=x129))&&(decide (x129 < (length x127:Int)))) then (wI (getD x127 (toNat x129) 0)).bind fun r6=>bif (lim ((length x10)+1) 56) then q2Y (x10++[(4,(r6.1,(eB,eB)))]) x127 x128 (w64 (x129+1)) else none else none else some ((x10,true),()):Option (((List qz)×Bool)×Unit)):=(ql X 24 4 [] _ _ _).trans (by kernel_rfl)
theorem qhA (a0:qp):q3b a0=((q0w a0.1).bind fun r3=>(q3V a0).bind fun r4=>bif (!r4.1) then some (([],false),()) else bif (decide ((length r3.1.1:Int) < 2)) then some (([],false),()) else bif ((decide ((0:Int)<=0))&&((decide (0<=(w64 ((length r3.1.1:Int) - 1))))&&(decide ((w64 ((length r3.1.1:Int) - 1))<=(length r3.1.1:Int))))) then bif ((decide (0<=(w64 (((((toNat (w64 ((length r3.1.1:Int) - 1))) - (toNat 0)):Nat):Int) - 1))))&&(decide ((w64 (((((toNat (w64 ((length r3.1.1:Int) - 1))) - (toNat 0)):Nat):Int) - 1)) < ((((toNat (w64 ((length r3.1.1:Int) - 1))) - (toNat 0)):Nat):Int)))) then (q19 (getD r3.1.1 ((toNat 0)+(toNat (w64 (((((toNat (w64 ((length r3.1.1:Int) - 1))) - (toNat 0)):Nat):Int) - 1)))) 0) (getD r3.1.1 ((toNat 0)+(toNat (w64 (((((toNat (w64 ((length r3.1.1:Int) - 1))) - (toNat 0)):Nat):Int) - 1)))) 0)).bind fun r5=>q0s (take ((toNat (w64 ((length r3.1.1:Int) - 1))) - (toNat 0)) (drop (toNat 0) r3.1.1)) (getD r3.1.1 ((toNat 0)+(toNat (w64 (((((toNat (w64 ((length r3.1.1:Int) - 1))) - (toNat 0)):Nat):Int) - 1)))) 0) ([(1,(qF,(r5.1.1,eB)))]) 0 a0.1 a0.2.1 a0.2.2.1 a0.2.2.2.1 a0.2.2.2.2 else none else none:Option (((List qz)×Bool)×Unit)):=(qo X rfl _).trans (by kernel_rfl)
theorem q6Z (x7:(List Int)) (x8:Int) (x11:(List qz)) (x12:Int) (b0_0:q8) (b0_1:Int) (b0_2:Int) (b0_3:Int) (b0_4:(List qh)):q0s x7 x8 x11 x12 b0_0 b0_1 b0_2 b0_3 b0_4=(bif (decide (x12 < (length x7:Int))) then bif ((decide (0<=x12))&&(decide (x12 < (length x7:Int)))) then (wR (getD x7 (toNat x12) 0)).bind fun r11=>(q1t b0_0 r11.1).bind fun r12=>bif ((decide (0<=x12))&&(decide (x12 < (length x7:Int)))) then (jc (getD x7 (toNat x12) 0) r12.1.1).bind fun r13=>bif ((decide (0<=x12))&&(decide (x12 < (length x7:Int)))) then (q19 (getD x7 (toNat x12) 0) r13.1.1).bind fun r14=>q1k x7 x8 x11 x12 r13.1.2.1 (size r14.1.1:Int) 0 b0_0 b0_1 b0_2 b0_3 b0_4 else none else none else none else (wR x8).bind fun r11=>bif (lim ((length x11)+2) 56) then q35 x7 (x11++[(2,(qF,(eB,eB))),(3,(qF,(eB,r11.1)))]) 0 else none:Option (((List qz)×Bool)×Unit)):=(ql X 25 0 [] _ _ _).trans (by kernel_rfl)
theorem q7b (x7:(List Int)) (x8:Int) (x11:(List qz)) (x12:Int) (x16:(List qQ)) (x21:Int) (x22:Int) (b0_0:q8) (b0_1:Int) (b0_2:Int) (b0_3:Int) (b0_4:(List qh)):q1k x7 x8 x11 x12 x16 x21 x22 b0_0 b0_1 b0_2 b0_3 b0_4=(bif (decide (x22 < (length x16:Int))) then bif ((decide (0<=x12))&&(decide (x12 < (length x7:Int)))) then (qbl b0_4 (getD x7 (toNat x12) 0) x21).bind fun r14=>bif r14.1 then bif ((decide (0<=x22))&&(decide (x22 < (length x16:Int)))) then bif ((decide (0<=x22))&&(decide (x22 < (length x16:Int)))) then bif ((decide (0<=x12))&&(decide (x12 < (length x7:Int)))) then (qbs b0_4 (getD x16 (toNat x22) (0,[])) (getD x7 (toNat x12) 0) x21).bind fun r15=>(jk ((getD x16 (toNat x22) (0,[])).1,r15.1)).bind fun r16=>(q0Q r16.1.1).bind fun r17=>bif (lim ((length x11)+1) 56) then bif ((decide (0<=x22))&&(decide (x22 < (length x16:Int)))) then (q4D (getD x16 (toNat x22) (0,[]))).bind fun r18=>q1k x7 x8 (x11++[(1,(qF,(r17.1.1,eB)))]) x12 x16 (w64 (x21+r18.1)) (w64 (x22+1)) b0_0 b0_1 b0_2 b0_3 b0_4 else none else none else none else none else none else bif ((decide (0<=x22))&&(decide (x22 < (length x16:Int)))) then (q4D (getD x16 (toNat x22) (0,[]))).bind fun r15=>q1k x7 x8 x11 x12 x16 (w64 (x21+r15.1)) (w64 (x22+1)) b0_0 b0_1 b0_2 b0_3 b0_4 else none else none else q0s x7 x8 x11 (w64 (x12+1)) b0_0 b0_1 b0_2 b0_3 b0_4:Option (((List qz)×Bool)×Unit)):=(ql X 25 2 [0] _ _ _).trans (by kernel_rfl)
theorem q7C (x7:(List Int)) (x11:(List qz)) (x27:Int):q35 x7 x11 x27=(bif (decide ((w64 (x27+1)) < (length x7:Int))) then bif ((decide (0<=x27))&&(decide (x27 < (length x7:Int)))) then (wR (getD x7 (toNat x27) 0)).bind fun r5=>bif (lim ((length x11)+1) 56) then q35 x7 (x11++[(4,(r5.1,(eB,eB)))]) (w64 (x27+1)) else none else none else some ((x11,true),()):Option (((List qz)×Bool)×Unit)):=(ql X 25 4 [] _ _ _).trans (by kernel_rfl)
theorem qlS (a0:(List qz)) (a1:(List qz)):jf a0 a1=(bif ((length a0:Int) != (length a1:Int)) then some (false,()) else q5l a0 a1 0:Option (Bool×Unit)):=(qo X rfl _).trans (by kernel_rfl)
theorem qaq (x0:(List qz)) (x1:(List qz)) (x5:Int):q5l x0 x1 x5=(bif (decide (x5 < (length x0:Int))) then bif ((decide (0<=x5))&&(decide (x5 < (length x0:Int)))) then bif ((decide (0<=x5))&&(decide (x5 < (length x1:Int)))) then (qe7 ((getD x0 (toNat x5) (0,(eB,(eB,eB)))).1,(((getD x0 (toNat x5) (0,(eB,(eB,eB)))).2).1,(((getD x0 (toNat x5) (0,(eB,(eB,eB)))).2).2))) ((getD x1 (toNat x5) (0,(eB,(eB,eB)))).1,(((getD x1 (toNat x5) (0,(eB,(eB,eB)))).2).1,(((getD x1 (toNat x5) (0,(eB,(eB,eB)))).2).2)))).bind fun r5=>bif (!r5.1) then some (false,()) else q5l x0 x1 (w64 (x5+1)) else none else none else some (true,()):Option (Bool×Unit)):=(ql X 31 0 [] _ _ _).trans (by kernel_rfl)
theorem qi1 (a0:(List qz)) (a1:Int):q2i a0 a1=(q3y a1 0 a0:Option (Int×((List qz)×Unit))):=(qo X rfl _).trans (by kernel_rfl)
theorem q84 (x1:Int) (x5:Int) (r_a:(List qz)):q3y x1 x5 r_a=(bif (decide (x5 < (length r_a:Int))) then bif ((decide (0<=x5))&&(decide (x5 < (length r_a:Int)))) then (yK (w64 (x1+1))).bind fun r5=>bif ((decide (0<=x5))&&(decide (x5 < (length (List.set r_a (toNat x5) (x1,(getD r_a (toNat x5) (0,(eB,(eB,eB)))).2)):Int)))) then (yK (w64 ((w64 (x1+1))+1))).bind fun r6=>bif ((decide (0<=x5))&&(decide (x5 < (length (List.set (List.set r_a (toNat x5) (x1,(getD r_a (toNat x5) (0,(eB,(eB,eB)))).2)) (toNat x5) ((getD (List.set r_a (toNat x5) (x1,(getD r_a (toNat x5) (0,(eB,(eB,eB)))).2)) (toNat x5) (0,(eB,(eB,eB)))).1,(r5.1,((getD (List.set r_a (toNat x5) (x1,(getD r_a (toNat x5) (0,(eB,(eB,eB)))).2)) (toNat x5) (0,(eB,(eB,eB)))).2).2))):Int)))) then (yK (w64 ((w64 ((w64 (x1+1))+1))+1))).bind fun r7=>bif ((decide (0<=x5))&&(decide (x5 < (length (List.set (List.set (List.set r_a (toNat x5) (x1,(getD r_a (toNat x5) (0,(eB,(eB,eB)))).2)) (toNat x5) ((getD (List.set r_a (toNat x5) (x1,(getD r_a (toNat x5) (0,(eB,(eB,eB)))).2)) (toNat x5) (0,(eB,(eB,eB)))).1,(r5.1,((getD (List.set r_a (toNat x5) (x1,(getD r_a (toNat x5) (0,(eB,(eB,eB)))).2)) (toNat x5) (0,(eB,(eB,eB)))).2).2))) (toNat x5) ((getD (List.set (List.set r_a (toNat x5) (x1,(getD r_a (toNat x5) (0,(eB,(eB,eB)))).2)) (toNat x5) ((getD (List.set r_a (toNat x5) (x1,(getD r_a (toNat x5) (0,(eB,(eB,eB)))).2)) (toNat x5) (0,(eB,(eB,eB)))).1,(r5.1,((getD (List.set r_a (toNat x5) (x1,(getD r_a (toNat x5) (0,(eB,(eB,eB)))).2)) (toNat x5) (0,(eB,(eB,eB)))).2).2))) (toNat x5) (0,(eB,(eB,eB)))).1,(((getD (List.set (List.set r_a (toNat x5) (x1,(getD r_a (toNat x5) (0,(eB,(eB,eB)))).2)) (toNat x5) ((getD (List.set r_a (toNat x5) (x1,(getD r_a (toNat x5) (0,(eB,(eB,eB)))).2)) (toNat x5) (0,(eB,(eB,eB)))).1,(r5.1,((getD (List.set r_a (toNat x5) (x1,(getD r_a (toNat x5) (0,(eB,(eB,eB)))).2)) (toNat x5) (0,(eB,(eB,eB)))).2).2))) (toNat x5) (0,(eB,(eB,eB)))).2).1,(r6.1,(((getD (List.set (List.set r_a (toNat x5) (x1,(getD r_a (toNat x5) (0,(eB,(eB,eB)))).2)) (toNat x5) ((getD (List.set r_a (toNat x5) (x1,(getD r_a (toNat x5) (0,(eB,(eB,eB)))).2)) (toNat x5) (0,(eB,(eB,eB)))).1,(r5.1,((getD (List.set r_a (toNat x5) (x1,(getD r_a (toNat x5) (0,(eB,(eB,eB)))).2)) (toNat x5) (0,(eB,(eB,eB)))).2).2))) (toNat x5) (0,(eB,(eB,eB)))).2).2).2)))):Int)))) then q3y (w64 ((w64 ((w64 ((w64 (x1+1))+1))+1))+1)) (w64 (x5+1)) (List.set (List.set (List.set (List.set r_a (toNat x5) (x1,(getD r_a (toNat x5) (0,(eB,(eB,eB)))).2)) (toNat x5) ((getD (List.set r_a (toNat x5) (x1,(getD r_a (toNat x5) (0,(eB,(eB,eB)))).2)) (toNat x5) (0,(eB,(eB,eB)))).1,(r5.1,((getD (List.set r_a (toNat x5) (x1,(getD r_a (toNat x5) (0,(eB,(eB,eB)))).2)) (toNat x5) (0,(eB,(eB,eB)))).2).2))) (toNat x5) ((getD (List.set (List.set r_a (toNat x5) (x1,(getD r_a (toNat x5) (0,(eB,(eB,eB)))).2)) (toNat x5) ((getD (List.set r_a (toNat x5) (x1,(getD r_a (toNat x5) (0,(eB,(eB,eB)))).2)) (toNat x5) (0,(eB,(eB,eB)))).1,(r5.1,((getD (List.set r_a (toNat x5) (x1,(getD r_a (toNat x5) (0,(eB,(eB,eB)))).2)) (toNat x5) (0,(eB,(eB,eB)))).2).2))) (toNat x5) (0,(eB,(eB,eB)))).1,(((getD (List.set (List.set r_a (toNat x5) (x1,(getD r_a (toNat x5) (0,(eB,(eB,eB)))).2)) (toNat x5) ((getD (List.set r_a (toNat x5) (x1,(getD r_a (toNat x5) (0,(eB,(eB,eB)))).2)) (toNat x5) (0,(eB,(eB,eB)))).1,(r5.1,((getD (List.set r_a (toNat x5) (x1,(getD r_a (toNat x5) (0,(eB,(eB,eB)))).2)) (toNat x5) (0,(eB,(eB,eB)))).2).2))) (toNat x5) (0,(eB,(eB,eB)))).2).1,(r6.1,(((getD (List.set (List.set r_a (toNat x5) (x1,(getD r_a (toNat x5) (0,(eB,(eB,eB)))).2)) (toNat x5) ((getD (List.set r_a (toNat x5) (x1,(getD r_a (toNat x5) (0,(eB,(eB,eB)))).2)) (toNat x5) (0,(eB,(eB,eB)))).1,(r5.1,((getD (List.set r_a (toNat x5) (x1,(getD r_a (toNat x5) (0,(eB,(eB,eB)))).2)) (toNat x5) (0,(eB,(eB,eB)))).2).2))) (toNat x5) (0,(eB,(eB,eB)))).2).2).2)))) (toNat x5) ((getD (List.set (List.set (List.set r_a (toNat x5) (x1,(getD r_a (toNat x5) (0,(eB,(eB,eB)))).2)) (toNat x5) ((getD (List.set r_a (toNat x5) (x1,(getD r_a (toNat x5) (0,(eB,(eB,eB)))).2)) (toNat x5) (0,(eB,(eB,eB)))).1,(r5.1,((getD (List.set r_a (toNat x5) (x1,(getD r_a (toNat x5) (0,(eB,(eB,eB)))).2)) (toNat x5) (0,(eB,(eB,eB)))).2).2))) (toNat x5) ((getD (List.set (List.set r_a (toNat x5) (x1,(getD r_a (toNat x5) (0,(eB,(eB,eB)))).2)) (toNat x5) ((getD (List.set r_a (toNat x5) (x1,(getD r_a (toNat x5) (0,(eB,(eB,eB)))).2)) (toNat x5) (0,(eB,(eB,eB)))).1,(r5.1,((getD (List.set r_a (toNat x5) (x1,(getD r_a (toNat x5) (0,(eB,(eB,eB)))).2)) (toNat x5) (0,(eB,(eB,eB)))).2).2))) (toNat x5) (0,(eB,(eB,eB)))).1,(((getD (List.set (List.set r_a (toNat x5) (x1,(getD r_a (toNat x5) (0,(eB,(eB,eB)))).2)) (toNat x5) ((getD (List.set r_a (toNat x5) (x1,(getD r_a (toNat x5) (0,(eB,(eB,eB)))).2)) (toNat x5) (0,(eB,(eB,eB)))).1,(r5.1,((getD (List.set r_a (toNat x5) (x1,(getD r_a (toNat x5) (0,(eB,(eB,eB)))).2)) (toNat x5) (0,(eB,(eB,eB)))).2).2))) (toNat x5) (0,(eB,(eB,eB)))).2).1,(r6.1,(((getD (List.set (List.set r_a (toNat x5) (x1,(getD r_a (toNat x5) (0,(eB,(eB,eB)))).2)) (toNat x5) ((getD (List.set r_a (toNat x5) (x1,(getD r_a (toNat x5) (0,(eB,(eB,eB)))).2)) (toNat x5) (0,(eB,(eB,eB)))).1,(r5.1,((getD (List.set r_a (toNat x5) (x1,(getD r_a (toNat x5) (0,(eB,(eB,eB)))).2)) (toNat x5) (0,(eB,(eB,eB)))).2).2))) (toNat x5) (0,(eB,(eB,eB)))).2).2).2)))) (toNat x5) (0,(eB,(eB,eB)))).1,(((getD (List.set (List.set (List.set r_a (toNat x5) (x1,(getD r_a (toNat x5) (0,(eB,(eB,eB)))).2)) (toNat x5) ((getD (List.set r_a (toNat x5) (x1,(getD r_a (toNat x5) (0,(eB,(eB,eB)))).2)) (toNat x5) (0,(eB,(eB,eB)))).1,(r5.1,((getD (List.set r_a (toNat x5) (x1,(getD r_a (toNat x5) (0,(eB,(eB,eB)))).2)) (toNat x5) (0,(eB,(eB,eB)))).2).2))) (toNat x5) ((getD (List.set (List.set r_a (toNat x5) (x1,(getD r_a (toNat x5) (0,(eB,(eB,eB)))).2)) (toNat x5) ((getD (List.set r_a (toNat x5) (x1,(getD r_a (toNat x5) (0,(eB,(eB,eB)))).2)) (toNat x5) (0,(eB,(eB,eB)))).1,(r5.1,((getD (List.set r_a (toNat x5) (x1,(getD r_a (toNat x5) (0,(eB,(eB,eB)))).2)) (toNat x5) (0,(eB,(eB,eB)))).2).2))) (toNat x5) (0,(eB,(eB,eB)))).1,(((getD (List.set (List.set r_a (toNat x5) (x1,(getD r_a (toNat x5) (0,(eB,(eB,eB)))).2)) (toNat x5) ((getD (List.set r_a (toNat x5) (x1,(getD r_a (toNat x5) (0,(eB,(eB,eB)))).2)) (toNat x5) (0,(eB,(eB,eB)))).1,(r5.1,((getD (List.set r_a (toNat x5) (x1,(getD r_a (toNat x5) (0,(eB,(eB,eB)))).2)) (toNat x5) (0,(eB,(eB,eB)))).2).2))) (toNat x5) (0,(eB,(eB,eB)))).2).1,(r6.1,(((getD (List.set (List.set r_a (toNat x5) (x1,(getD r_a (toNat x5) (0,(eB,(eB,eB)))).2)) (toNat x5) ((getD (List.set r_a (toNat x5) (x1,(getD r_a (toNat x5) (0,(eB,(eB,eB)))).2)) (toNat x5) (0,(eB,(eB,eB)))).1,(r5.1,((getD (List.set r_a (toNat x5) (x1,(getD r_a (toNat x5) (0,(eB,(eB,eB)))).2)) (toNat x5) (0,(eB,(eB,eB)))).2).2))) (toNat x5) (0,(eB,(eB,eB)))).2).2).2)))) (toNat x5) (0,(eB,(eB,eB)))).2).1,((((getD (List.set (List.set (List.set r_a (toNat x5) (x1,(getD r_a (toNat x5) (0,(eB,(eB,eB)))).2)) (toNat x5) ((getD (List.set r_a (toNat x5) (x1,(getD r_a (toNat x5) (0,(eB,(eB,eB)))).2)) (toNat x5) (0,(eB,(eB,eB)))).1,(r5.1,((getD (List.set r_a (toNat x5) (x1,(getD r_a (toNat x5) (0,(eB,(eB,eB)))).2)) (toNat x5) (0,(eB,(eB,eB)))).2).2))) (toNat x5) ((getD (List.set (List.set r_a (toNat x5) (x1,(getD r_a (toNat x5) (0,(eB,(eB,eB)))).2)) (toNat x5) ((getD (List.set r_a (toNat x5) (x1,(getD r_a (toNat x5) (0,(eB,(eB,eB)))).2)) (toNat x5) (0,(eB,(eB,eB)))).1,(r5.1,((getD (List.set r_a (toNat x5) (x1,(getD r_a (toNat x5) (0,(eB,(eB,eB)))).2)) (toNat x5) (0,(eB,(eB,eB)))).2).2))) (toNat x5) (0,(eB,(eB,eB)))).1,(((getD (List.set (List.set r_a (toNat x5) (x1,(getD r_a (toNat x5) (0,(eB,(eB,eB)))).2)) (toNat x5) ((getD (List.set r_a (toNat x5) (x1,(getD r_a (toNat x5) (0,(eB,(eB,eB)))).2)) (toNat x5) (0,(eB,(eB,eB)))).1,(r5.1,((getD (List.set r_a (toNat x5) (x1,(getD r_a (toNat x5) (0,(eB,(eB,eB)))).2)) (toNat x5) (0,(eB,(eB,eB)))).2).2))) (toNat x5) (0,(eB,(eB,eB)))).2).1,(r6.1,(((getD (List.set (List.set r_a (toNat x5) (x1,(getD r_a (toNat x5) (0,(eB,(eB,eB)))).2)) (toNat x5) ((getD (List.set r_a (toNat x5) (x1,(getD r_a (toNat x5) (0,(eB,(eB,eB)))).2)) (toNat x5) (0,(eB,(eB,eB)))).1,(r5.1,((getD (List.set r_a (toNat x5) (x1,(getD r_a (toNat x5) (0,(eB,(eB,eB)))).2)) (toNat x5) (0,(eB,(eB,eB)))).2).2))) (toNat x5) (0,(eB,(eB,eB)))).2).2).2)))) (toNat x5) (0,(eB,(eB,eB)))).2).2).1,r7.1)))) else none else none else none else none else some (x1,(r_a,())):Option (Int×((List qz)×Unit))):=(ql X 32 0 [] _ _ _).trans (by kernel_rfl)
theorem qiP (a0:(List qz)) (a1:Int):q0y a0 a1=(q3P a0 a1 0:Option (Int×Unit)):=(qo X rfl _).trans (by kernel_rfl)
theorem q7S (x0:(List qz)) (x1:Int) (x5:Int):q3P x0 x1 x5=(bif (decide (x5 < (length x0:Int))) then bif ((decide (0<=x5))&&(decide (x5 < (length x0:Int)))) then bif ((getD x0 (toNat x5) (0,(eB,(eB,eB)))).1 != x1) then some ((-1),()) else bif ((decide (0<=x5))&&(decide (x5 < (length x0:Int)))) then (yK (w64 (x1+1))).bind fun r5=>bif (!((toList (((getD x0 (toNat x5) (0,(eB,(eB,eB)))).2).1))==(toList r5.1))) then some ((-1),()) else bif ((decide (0<=x5))&&(decide (x5 < (length x0:Int)))) then (yK (w64 ((w64 (x1+1))+1))).bind fun r6=>bif (!((toList ((((getD x0 (toNat x5) (0,(eB,(eB,eB)))).2).2).1))==(toList r6.1))) then some ((-1),()) else bif ((decide (0<=x5))&&(decide (x5 < (length x0:Int)))) then (yK (w64 ((w64 ((w64 (x1+1))+1))+1))).bind fun r7=>bif (!((toList ((((getD x0 (toNat x5) (0,(eB,(eB,eB)))).2).2).2))==(toList r7.1))) then some ((-1),()) else q3P x0 (w64 ((w64 ((w64 ((w64 (x1+1))+1))+1))+1)) (w64 (x5+1)) else none else none else none else none else some (x1,()):Option (Int×Unit)):=(ql X 33 0 [] _ _ _).trans (by kernel_rfl)
theorem qfZ (a0:qp) (a1:Int):zX a0 a1=((qfm a0.1 a1).bind fun r4=>bif (decide (r4.1 < 0)) then some ((-1),()) else (q8p a0.2.2.2.2 r4.1).bind fun r5=>bif (decide (r5.1 < 0)) then some ((-1),()) else some (r5.1,()):Option (Int×Unit)):=(qo X rfl _).trans (by kernel_rfl)
theorem qlP (a0:q8) (a1:Int):qcW a0 a1=((qb5 a0 a1).bind fun r4=>bif (decide (r4.1 < 0)) then some ((-1),()) else some (r4.1,()):Option (Int×Unit)):=(qo X rfl _).trans (by kernel_rfl)
theorem qkO (a0:(List qh)) (a1:Int):qba a0 a1=(bif (decide ((w64 (a1 - (length a0:Int))) < 0)) then some ((-1),()) else q4A a0 (w64 (a1 - (length a0:Int))) 0:Option (Int×Unit)):=(qo X rfl _).trans (by kernel_rfl)
theorem q9w (x0:(List qh)) (x1:Int) (x5:Int):q4A x0 x1 x5=(bif (decide (x5 < (length x0:Int))) then bif ((decide (0<=x5))&&(decide (x5 < (length x0:Int)))) then (qd0 ((getD x0 (toNat x5) (eB,(0,(0,0)))).1,(((getD x0 (toNat x5) (eB,(0,(0,0)))).2).1,(((getD x0 (toNat x5) (eB,(0,(0,0)))).2).2))) x1).bind fun r5=>bif (decide (r5.1 < 0)) then some ((-1),()) else q4A x0 r5.1 (w64 (x5+1)) else none else some (x1,()):Option (Int×Unit)):=(ql X 67 0 [] _ _ _).trans (by kernel_rfl)
theorem qlQ (a0:q8):qhN a0=((qbn a0).bind fun r3=>some (r3.1,()):Option (q8×Unit)):=(qo X rfl _).trans (by kernel_rfl)
theorem qkE (a0:(List qh)):qbM a0=(bif ((decide (0<=(length a0:Int)))&&((decide ((length a0:Int)<=(length a0:Int)))&&(lim (toNat (length a0:Int)) 40))) then q0X a0 (replicate (toNat (length a0:Int)) (eB,(0,(0,0)))) 0 else none:Option ((List qh)×Unit)):=(qo X rfl _).trans (by kernel_rfl)
theorem q91 (x0:(List qh)) (x3:(List qh)) (x4:Int):q0X x0 x3 x4=(bif (decide (x4 < (length x0:Int))) then bif ((decide (0<=x4))&&(decide (x4 < (length x0:Int)))) then (qhK ((getD x0 (toNat x4) (eB,(0,(0,0)))).1,(((getD x0 (toNat x4) (eB,(0,(0,0)))).2).1,(((getD x0 (toNat x4) (eB,(0,(0,0)))).2).2)))).bind fun r5=>bif ((decide (0<=x4))&&(decide (x4 < (length x3:Int)))) then q0X x0 (List.set x3 (toNat x4) (r5.1.1,(r5.1.2.1,(r5.1.2.2.1,r5.1.2.2.2)))) (w64 (x4+1)) else none else none else some (x3,()):Option ((List qh)×Unit)):=(ql X 71 0 [] _ _ _).trans (by kernel_rfl)
theorem qiK (a0:qd) (a1:qd):q9Y a0 a1=(bif (!((toList a0.1)==(toList a1.1))) then some (false,()) else bif (!((toList a0.2.1)==(toList a1.2.1))) then some (false,()) else bif (!(a0.2.2==a1.2.2)) then some (false,()) else some (true,()):Option (Bool×Unit)):=(qo X rfl _).trans (by kernel_rfl)
theorem ql7 (a0:q8) (a1:q8):qd7 a0 a1=((qc0 a0 a1).bind fun r4=>bif (!r4.1) then some (false,()) else some (true,()):Option (Bool×Unit)):=(qo X rfl _).trans (by kernel_rfl)
theorem qkm (a0:(List qh)) (a1:(List qh)):qbQ a0 a1=(bif ((length a0:Int) != (length a1:Int)) then some (false,()) else q4q a0 a1 0:Option (Bool×Unit)):=(qo X rfl _).trans (by kernel_rfl)
theorem q9j (x0:(List qh)) (x1:(List qh)) (x5:Int):q4q x0 x1 x5=(bif (decide (x5 < (length x0:Int))) then bif ((decide (0<=x5))&&(decide (x5 < (length x0:Int)))) then bif ((decide (0<=x5))&&(decide (x5 < (length x1:Int)))) then (qcQ ((getD x0 (toNat x5) (eB,(0,(0,0)))).1,(((getD x0 (toNat x5) (eB,(0,(0,0)))).2).1,(((getD x0 (toNat x5) (eB,(0,(0,0)))).2).2))) ((getD x1 (toNat x5) (eB,(0,(0,0)))).1,(((getD x1 (toNat x5) (eB,(0,(0,0)))).2).1,(((getD x1 (toNat x5) (eB,(0,(0,0)))).2).2)))).bind fun r5=>bif (!r5.1) then some (false,()) else q4q x0 x1 (w64 (x5+1)) else none else none else some (true,()):Option (Bool×Unit)):=(ql X 75 0 [] _ _ _).trans (by kernel_rfl)
theorem qiF (a0:q8) (a1:Int):qfg a0 a1=((q8t a0 a1).bind fun r4=>some (r4.1,(r4.2.1,())):Option (Int×(q8×Unit))):=(qo X rfl _).trans (by kernel_rfl)
theorem qhg (a0:(List qh)) (a1:Int):q8M a0 a1=(q37 a1 0 a0:Option (Int×((List qh)×Unit))):=(qo X rfl _).trans (by kernel_rfl)
theorem q7H (x1:Int) (x5:Int) (r_a:(List qh)):q37 x1 x5 r_a=(bif (decide (x5 < (length r_a:Int))) then (yK x1).bind fun r5=>bif ((decide (0<=x5))&&(decide (x5 < (length r_a:Int)))) then bif ((decide (0<=x5))&&(decide (x5 < (length (List.set r_a (toNat x5) (r5.1,(getD r_a (toNat x5) (eB,(0,(0,0)))).2)):Int)))) then bif ((decide (0<=x5))&&(decide (x5 < (length (List.set (List.set r_a (toNat x5) (r5.1,(getD r_a (toNat x5) (eB,(0,(0,0)))).2)) (toNat x5) ((getD (List.set r_a (toNat x5) (r5.1,(getD r_a (toNat x5) (eB,(0,(0,0)))).2)) (toNat x5) (eB,(0,(0,0)))).1,((w64 (x1+1)),((getD (List.set r_a (toNat x5) (r5.1,(getD r_a (toNat x5) (eB,(0,(0,0)))).2)) (toNat x5) (eB,(0,(0,0)))).2).2))):Int)))) then bif ((decide (0<=x5))&&(decide (x5 < (length (List.set (List.set (List.set r_a (toNat x5) (r5.1,(getD r_a (toNat x5) (eB,(0,(0,0)))).2)) (toNat x5) ((getD (List.set r_a (toNat x5) (r5.1,(getD r_a (toNat x5) (eB,(0,(0,0)))).2)) (toNat x5) (eB,(0,(0,0)))).1,((w64 (x1+1)),((getD (List.set r_a (toNat x5) (r5.1,(getD r_a (toNat x5) (eB,(0,(0,0)))).2)) (toNat x5) (eB,(0,(0,0)))).2).2))) (toNat x5) ((getD (List.set (List.set r_a (toNat x5) (r5.1,(getD r_a (toNat x5) (eB,(0,(0,0)))).2)) (toNat x5) ((getD (List.set r_a (toNat x5) (r5.1,(getD r_a (toNat x5) (eB,(0,(0,0)))).2)) (toNat x5) (eB,(0,(0,0)))).1,((w64 (x1+1)),((getD (List.set r_a (toNat x5) (r5.1,(getD r_a (toNat x5) (eB,(0,(0,0)))).2)) (toNat x5) (eB,(0,(0,0)))).2).2))) (toNat x5) (eB,(0,(0,0)))).1,(((getD (List.set (List.set r_a (toNat x5) (r5.1,(getD r_a (toNat x5) (eB,(0,(0,0)))).2)) (toNat x5) ((getD (List.set r_a (toNat x5) (r5.1,(getD r_a (toNat x5) (eB,(0,(0,0)))).2)) (toNat x5) (eB,(0,(0,0)))).1,((w64 (x1+1)),((getD (List.set r_a (toNat x5) (r5.1,(getD r_a (toNat x5) (eB,(0,(0,0)))).2)) (toNat x5) (eB,(0,(0,0)))).2).2))) (toNat x5) (eB,(0,(0,0)))).2).1,((w64 ((w64 (x1+1))+1)),(((getD (List.set (List.set r_a (toNat x5) (r5.1,(getD r_a (toNat x5) (eB,(0,(0,0)))).2)) (toNat x5) ((getD (List.set r_a (toNat x5) (r5.1,(getD r_a (toNat x5) (eB,(0,(0,0)))).2)) (toNat x5) (eB,(0,(0,0)))).1,((w64 (x1+1)),((getD (List.set r_a (toNat x5) (r5.1,(getD r_a (toNat x5) (eB,(0,(0,0)))).2)) (toNat x5) (eB,(0,(0,0)))).2).2))) (toNat x5) (eB,(0,(0,0)))).2).2).2)))):Int)))) then q37 (w64 ((w64 ((w64 ((w64 (x1+1))+1))+1))+1)) (w64 (x5+1)) (List.set (List.set (List.set (List.set r_a (toNat x5) (r5.1,(getD r_a (toNat x5) (eB,(0,(0,0)))).2)) (toNat x5) ((getD (List.set r_a (toNat x5) (r5.1,(getD r_a (toNat x5) (eB,(0,(0,0)))).2)) (toNat x5) (eB,(0,(0,0)))).1,((w64 (x1+1)),((getD (List.set r_a (toNat x5) (r5.1,(getD r_a (toNat x5) (eB,(0,(0,0)))).2)) (toNat x5) (eB,(0,(0,0)))).2).2))) (toNat x5) ((getD (List.set (List.set r_a (toNat x5) (r5.1,(getD r_a (toNat x5) (eB,(0,(0,0)))).2)) (toNat x5) ((getD (List.set r_a (toNat x5) (r5.1,(getD r_a (toNat x5) (eB,(0,(0,0)))).2)) (toNat x5) (eB,(0,(0,0)))).1,((w64 (x1+1)),((getD (List.set r_a (toNat x5) (r5.1,(getD r_a (toNat x5) (eB,(0,(0,0)))).2)) (toNat x5) (eB,(0,(0,0)))).2).2))) (toNat x5) (eB,(0,(0,0)))).1,(((getD (List.set (List.set r_a (toNat x5) (r5.1,(getD r_a (toNat x5) (eB,(0,(0,0)))).2)) (toNat x5) ((getD (List.set r_a (toNat x5) (r5.1,(getD r_a (toNat x5) (eB,(0,(0,0)))).2)) (toNat x5) (eB,(0,(0,0)))).1,((w64 (x1+1)),((getD (List.set r_a (toNat x5) (r5.1,(getD r_a (toNat x5) (eB,(0,(0,0)))).2)) (toNat x5) (eB,(0,(0,0)))).2).2))) (toNat x5) (eB,(0,(0,0)))).2).1,((w64 ((w64 (x1+1))+1)),(((getD (List.set (List.set r_a (toNat x5) (r5.1,(getD r_a (toNat x5) (eB,(0,(0,0)))).2)) (toNat x5) ((getD (List.set r_a (toNat x5) (r5.1,(getD r_a (toNat x5) (eB,(0,(0,0)))).2)) (toNat x5) (eB,(0,(0,0)))).1,((w64 (x1+1)),((getD (List.set r_a (toNat x5) (r5.1,(getD r_a (toNat x5) (eB,(0,(0,0)))).2)) (toNat x5) (eB,(0,(0,0)))).2).2))) (toNat x5) (eB,(0,(0,0)))).2).2).2)))) (toNat x5) ((getD (List.set (List.set (List.set r_a (toNat x5) (r5.1,(getD r_a (toNat x5) (eB,(0,(0,0)))).2)) (toNat x5) ((getD (List.set r_a (toNat x5) (r5.1,(getD r_a (toNat x5) (eB,(0,(0,0)))).2)) (toNat x5) (eB,(0,(0,0)))).1,((w64 (x1+1)),((getD (List.set r_a (toNat x5) (r5.1,(getD r_a (toNat x5) (eB,(0,(0,0)))).2)) (toNat x5) (eB,(0,(0,0)))).2).2))) (toNat x5) ((getD (List.set (List.set r_a (toNat x5) (r5.1,(getD r_a (toNat x5) (eB,(0,(0,0)))).2)) (toNat x5) ((getD (List.set r_a (toNat x5) (r5.1,(getD r_a (toNat x5) (eB,(0,(0,0)))).2)) (toNat x5) (eB,(0,(0,0)))).1,((w64 (x1+1)),((getD (List.set r_a (toNat x5) (r5.1,(getD r_a (toNat x5) (eB,(0,(0,0)))).2)) (toNat x5) (eB,(0,(0,0)))).2).2))) (toNat x5) (eB,(0,(0,0)))).1,(((getD (List.set (List.set r_a (toNat x5) (r5.1,(getD r_a (toNat x5) (eB,(0,(0,0)))).2)) (toNat x5) ((getD (List.set r_a (toNat x5) (r5.1,(getD r_a (toNat x5) (eB,(0,(0,0)))).2)) (toNat x5) (eB,(0,(0,0)))).1,((w64 (x1+1)),((getD (List.set r_a (toNat x5) (r5.1,(getD r_a (toNat x5) (eB,(0,(0,0)))).2)) (toNat x5) (eB,(0,(0,0)))).2).2))) (toNat x5) (eB,(0,(0,0)))).2).1,((w64 ((w64 (x1+1))+1)),(((getD (List.set (List.set r_a (toNat x5) (r5.1,(getD r_a (toNat x5) (eB,(0,(0,0)))).2)) (toNat x5) ((getD (List.set r_a (toNat x5) (r5.1,(getD r_a (toNat x5) (eB,(0,(0,0)))).2)) (toNat x5) (eB,(0,(0,0)))).1,((w64 (x1+1)),((getD (List.set r_a (toNat x5) (r5.1,(getD r_a (toNat x5) (eB,(0,(0,0)))).2)) (toNat x5) (eB,(0,(0,0)))).2).2))) (toNat x5) (eB,(0,(0,0)))).2).2).2)))) (toNat x5) (eB,(0,(0,0)))).1,(((getD (List.set (List.set (List.set r_a (toNat x5) (r5.1,(getD r_a (toNat x5) (eB,(0,(0,0)))).2)) (toNat x5) ((getD (List.set r_a (toNat x5) (r5.1,(getD r_a (toNat x5) (eB,(0,(0,0)))).2)) (toNat x5) (eB,(0,(0,0)))).1,((w64 (x1+1)),((getD (List.set r_a (toNat x5) (r5.1,(getD r_a (toNat x5) (eB,(0,(0,0)))).2)) (toNat x5) (eB,(0,(0,0)))).2).2))) (toNat x5) ((getD (List.set (List.set r_a (toNat x5) (r5.1,(getD r_a (toNat x5) (eB,(0,(0,0)))).2)) (toNat x5) ((getD (List.set r_a (toNat x5) (r5.1,(getD r_a (toNat x5) (eB,(0,(0,0)))).2)) (toNat x5) (eB,(0,(0,0)))).1,((w64 (x1+1)),((getD (List.set r_a (toNat x5) (r5.1,(getD r_a (toNat x5) (eB,(0,(0,0)))).2)) (toNat x5) (eB,(0,(0,0)))).2).2))) (toNat x5) (eB,(0,(0,0)))).1,(((getD (List.set (List.set r_a (toNat x5) (r5.1,(getD r_a (toNat x5) (eB,(0,(0,0)))).2)) (toNat x5) ((getD (List.set r_a (toNat x5) (r5.1,(getD r_a (toNat x5) (eB,(0,(0,0)))).2)) (toNat x5) (eB,(0,(0,0)))).1,((w64 (x1+1)),((getD (List.set r_a (toNat x5) (r5.1,(getD r_a (toNat x5) (eB,(0,(0,0)))).2)) (toNat x5) (eB,(0,(0,0)))).2).2))) (toNat x5) (eB,(0,(0,0)))).2).1,((w64 ((w64 (x1+1))+1)),(((getD (List.set (List.set r_a (toNat x5) (r5.1,(getD r_a (toNat x5) (eB,(0,(0,0)))).2)) (toNat x5) ((getD (List.set r_a (toNat x5) (r5.1,(getD r_a (toNat x5) (eB,(0,(0,0)))).2)) (toNat x5) (eB,(0,(0,0)))).1,((w64 (x1+1)),((getD (List.set r_a (toNat x5) (r5.1,(getD r_a (toNat x5) (eB,(0,(0,0)))).2)) (toNat x5) (eB,(0,(0,0)))).2).2))) (toNat x5) (eB,(0,(0,0)))).2).2).2)))) (toNat x5) (eB,(0,(0,0)))).2).1,((((getD (List.set (List.set (List.set r_a (toNat x5) (r5.1,(getD r_a (toNat x5) (eB,(0,(0,0)))).2)) (toNat x5) ((getD (List.set r_a (toNat x5) (r5.1,(getD r_a (toNat x5) (eB,(0,(0,0)))).2)) (toNat x5) (eB,(0,(0,0)))).1,((w64 (x1+1)),((getD (List.set r_a (toNat x5) (r5.1,(getD r_a (toNat x5) (eB,(0,(0,0)))).2)) (toNat x5) (eB,(0,(0,0)))).2).2))) (toNat x5) ((getD (List.set (List.set r_a (toNat x5) (r5.1,(getD r_a (toNat x5) (eB,(0,(0,0)))).2)) (toNat x5) ((getD (List.set r_a (toNat x5) (r5.1,(getD r_a (toNat x5) (eB,(0,(0,0)))).2)) (toNat x5) (eB,(0,(0,0)))).1,((w64 (x1+1)),((getD (List.set r_a (toNat x5) (r5.1,(getD r_a (toNat x5) (eB,(0,(0,0)))).2)) (toNat x5) (eB,(0,(0,0)))).2).2))) (toNat x5) (eB,(0,(0,0)))).1,(((getD (List.set (List.set r_a (toNat x5) (r5.1,(getD r_a (toNat x5) (eB,(0,(0,0)))).2)) (toNat x5) ((getD (List.set r_a (toNat x5) (r5.1,(getD r_a (toNat x5) (eB,(0,(0,0)))).2)) (toNat x5) (eB,(0,(0,0)))).1,((w64 (x1+1)),((getD (List.set r_a (toNat x5) (r5.1,(getD r_a (toNat x5) (eB,(0,(0,0)))).2)) (toNat x5) (eB,(0,(0,0)))).2).2))) (toNat x5) (eB,(0,(0,0)))).2).1,((w64 ((w64 (x1+1))+1)),(((getD (List.set (List.set r_a (toNat x5) (r5.1,(getD r_a (toNat x5) (eB,(0,(0,0)))).2)) (toNat x5) ((getD (List.set r_a (toNat x5) (r5.1,(getD r_a (toNat x5) (eB,(0,(0,0)))).2)) (toNat x5) (eB,(0,(0,0)))).1,((w64 (x1+1)),((getD (List.set r_a (toNat x5) (r5.1,(getD r_a (toNat x5) (eB,(0,(0,0)))).2)) (toNat x5) (eB,(0,(0,0)))).2).2))) (toNat x5) (eB,(0,(0,0)))).2).2).2)))) (toNat x5) (eB,(0,(0,0)))).2).2).1,(w64 ((w64 ((w64 (x1+1))+1))+1)))))) else none else none else none else none else some (x1,(r_a,())):Option (Int×((List qh)×Unit))):=(ql X 77 0 [] _ _ _).trans (by kernel_rfl)
theorem qiE (a0:Int):yK a0=(bif (decide (a0<=0)) then some (c_m0,()) else q3x a0 eB:Option (BA×Unit)):=(qo X rfl _).trans (by kernel_rfl)
theorem q81 (x0:Int) (x3:BA):q3x x0 x3=(bif (decide (x0 > 0)) then bif (limS ((size (⟨(toArray (map (fun n=>(UInt8.ofNat (toNat n))) ([(Go.IntKind.u8.wrap (w64 (48+(tmod x0 10))))])))⟩:BA))+(size x3))) then q3x (w64 (tdiv x0 10)) ((⟨(toArray (map (fun n=>(UInt8.ofNat (toNat n))) ([(Go.IntKind.u8.wrap (w64 (48+(tmod x0 10))))])))⟩:BA)++x3) else none else bif (limS ((size c_m)+(size x3))) then some ((c_m++x3),()) else none:Option (BA×Unit)):=(ql X 78 0 [] _ _ _).trans (by kernel_rfl)
theorem qmh (a0:qp) (a1:Int) (a2:zf):q4c a0 a1 a2=(q1C a1 [] a2.1.2 (length a2.1.2:Int) 0 a0.1 a0.2.1 a0.2.2.1 a0.2.2.2.1 a0.2.2.2.2 a2.1.1 a2.1.2 a2.2.1 a2.2.2:Option ((List qd)×Unit)):=(qo X rfl _).trans (by kernel_rfl)
theorem qas (x1:Int) (x7:(List qd)) (x12:(List qd)) (x13:Int) (x14:Int) (b0_0:q8) (b0_1:Int) (b0_2:Int) (b0_3:Int) (b0_4:(List qh)) (b16_0:Int) (b16_1:(List qd)) (b16_2:Int) (b16_3:Int):q1C x1 x7 x12 x13 x14 b0_0 b0_1 b0_2 b0_3 b0_4 b16_0 b16_1 b16_2 b16_3=(bif (decide (x14 < x13)) then bif ((decide (0<=x14))&&(decide (x14 < (length x12:Int)))) then bif (!((getD x12 (toNat x14) (eB,(eB,false))).2).2) then (yC b0_4 ((getD x12 (toNat x14) (eB,(eB,false))).1,(x1,(b16_2,b16_0)))).bind fun r16=>bif r16.1 then bif (lim ((length x7)+1) 40) then q1C x1 (x7++[((getD x12 (toNat x14) (eB,(eB,false))).1,(((getD x12 (toNat x14) (eB,(eB,false))).2).1,((getD x12 (toNat x14) (eB,(eB,false))).2).2))]) x12 x13 (w64 (x14+1)) b0_0 b0_1 b0_2 b0_3 b0_4 b16_0 b16_1 b16_2 b16_3 else none else q1C x1 x7 x12 x13 (w64 (x14+1)) b0_0 b0_1 b0_2 b0_3 b0_4 b16_0 b16_1 b16_2 b16_3 else q1C x1 x7 x12 x13 (w64 (x14+1)) b0_0 b0_1 b0_2 b0_3 b0_4 b16_0 b16_1 b16_2 b16_3 else none else some (x7,()):Option ((List qd)×Unit)):=(ql X 87 0 [] _ _ _).trans (by kernel_rfl)
theorem qja (a0:(List qh)) (a1:Int) (a2:Int):qbl a0 a1 a2=(q2l a0 a1 a2 0:Option (Bool×Unit)):=(qo X rfl _).trans (by kernel_rfl)
theorem q9K (x0:(List qh)) (x1:Int) (x2:Int) (x7:Int):q2l x0 x1 x2 x7=(bif (decide (x7 < (length x0:Int))) then bif ((decide (0<=x7))&&(decide (x7 < (length x0:Int)))) then bif (((getD x0 (toNat x7) (eB,(0,(0,0)))).2).1==x1) then bif ((decide (0<=x7))&&(decide (x7 < (length x0:Int)))) then bif ((((getD x0 (toNat x7) (eB,(0,(0,0)))).2).2).1==x2) then some (true,()) else q2l x0 x1 x2 (w64 (x7+1)) else none else q2l x0 x1 x2 (w64 (x7+1)) else none else some (false,()):Option (Bool×Unit)):=(ql X 94 0 [] _ _ _).trans (by kernel_rfl)
theorem qjU (a0:(List qh)) (a1:qQ) (a2:Int) (a3:Int):qbs a0 a1 a2 a3=(q2D a0 a2 a3 [] 0 a1.1 a1.2:Option ((List qd)×Unit)):=(qo X rfl _).trans (by kernel_rfl)
theorem q9H (x0:(List qh)) (x2:Int) (x3:Int) (x9:(List qd)) (x10:Int) (b0_0:Int) (b0_1:(List qd)):q2D x0 x2 x3 x9 x10 b0_0 b0_1=(bif (decide (x10 < (length b0_1:Int))) then q0o x0 x2 x3 x9 x10 0 b0_0 b0_1 else some (x9,()):Option ((List qd)×Unit)):=(ql X 96 0 [] _ _ _).trans (by kernel_rfl)
theorem q9k (x0:(List qh)) (x2:Int) (x3:Int) (x9:(List qd)) (x10:Int) (x11:Int) (b0_0:Int) (b0_1:(List qd)):q0o x0 x2 x3 x9 x10 x11 b0_0 b0_1=(bif (decide (x11 < (length x0:Int))) then bif ((decide (0<=x11))&&(decide (x11 < (length x0:Int)))) then bif ((decide (0<=x10))&&(decide (x10 < (length b0_1:Int)))) then bif ((toList ((getD x0 (toNat x11) (eB,(0,(0,0)))).1))==(toList ((getD b0_1 (toNat x10) (eB,(eB,false))).1))) then bif ((decide (0<=x11))&&(decide (x11 < (length x0:Int)))) then bif (((getD x0 (toNat x11) (eB,(0,(0,0)))).2).1==x2) then bif ((decide (0<=x11))&&(decide (x11 < (length x0:Int)))) then bif ((((getD x0 (toNat x11) (eB,(0,(0,0)))).2).2).1==x3) then bif ((decide (0<=x10))&&(decide (x10 < (length b0_1:Int)))) then bif (lim ((length x9)+1) 40) then q0o x0 x2 x3 (x9++[((getD b0_1 (toNat x10) (eB,(eB,false))).1,(((getD b0_1 (toNat x10) (eB,(eB,false))).2).1,((getD b0_1 (toNat x10) (eB,(eB,false))).2).2))]) x10 (w64 (x11+1)) b0_0 b0_1 else none else none else q0o x0 x2 x3 x9 x10 (w64 (x11+1)) b0_0 b0_1 else none else q0o x0 x2 x3 x9 x10 (w64 (x11+1)) b0_0 b0_1 else none else q0o x0 x2 x3 x9 x10 (w64 (x11+1)) b0_0 b0_1 else none else none else q2D x0 x2 x3 x9 (w64 (x10+1)) b0_0 b0_1:Option ((List qd)×Unit)):=(ql X 96 2 [0] _ _ _).trans (by kernel_rfl)
theorem qji (a0:q8):q4L a0=(q4y 0 a0 (length a0:Int) 0:Option (Int×Unit)):=(qo X rfl _).trans (by kernel_rfl)
theorem q9R (x3:Int) (x7:q8) (x8:Int) (x9:Int):q4y x3 x7 x8 x9=(bif (decide (x9 < x8)) then bif ((decide (0<=x9))&&(decide (x9 < (length x7:Int)))) then q4y (w64 (x3+(size (((getD x7 (toNat x9) (eB,(eB,0))).2).1):Int))) x7 x8 (w64 (x9+1)) else none else some (x3,()):Option (Int×Unit)):=(ql X 103 0 [] _ _ _).trans (by kernel_rfl)
theorem qnz (a0:qz) (a1:qz):qe7 a0 a1=(bif (a0.1 != a1.1) then some (false,()) else bif (!((toList a0.2.1)==(toList a1.2.1))) then some (false,()) else bif (!((toList a0.2.2.1)==(toList a1.2.2.1))) then some (false,()) else bif (!((toList a0.2.2.2)==(toList a1.2.2.2))) then some (false,()) else some (true,()):Option (Bool×Unit)):=(qo X rfl _).trans (by kernel_rfl)
theorem qkn (a0:q8):q0S a0=(q4w 0 0 a0:Option (Int×Unit)):=(qo X rfl _).trans (by kernel_rfl)
theorem q9E (x3:Int) (x4:Int) (b0_0:q8):q4w x3 x4 b0_0=(bif (decide (x4 < (length b0_0:Int))) then bif ((decide (0<=x4))&&(decide (x4 < (length b0_0:Int)))) then q4w (w64 (x3+(size (((getD b0_0 (toNat x4) (eB,(eB,0))).2).1):Int))) (w64 (x4+1)) b0_0 else none else some (x3,()):Option (Int×Unit)):=(ql X 108 0 [] _ _ _).trans (by kernel_rfl)
theorem qir (a0:q8) (a1:Int):qfm a0 a1=((q8G a0 a1).bind fun r4=>bif (decide (r4.1 < 0)) then some ((-1),()) else some (r4.1,()):Option (Int×Unit)):=(qo X rfl _).trans (by kernel_rfl)
theorem qhe (a0:(List qh)) (a1:Int):q8p a0 a1=(q33 a0 a1 0:Option (Int×Unit)):=(qo X rfl _).trans (by kernel_rfl)
theorem q7m (x0:(List qh)) (x1:Int) (x5:Int):q33 x0 x1 x5=(bif (decide (x5 < (length x0:Int))) then bif ((decide (0<=x5))&&(decide (x5 < (length x0:Int)))) then (yK x1).bind fun r5=>bif (!((toList ((getD x0 (toNat x5) (eB,(0,(0,0)))).1))==(toList r5.1))) then some ((-1),()) else bif ((decide (0<=x5))&&(decide (x5 < (length x0:Int)))) then bif (((getD x0 (toNat x5) (eB,(0,(0,0)))).2).1 != (w64 (x1+1))) then some ((-1),()) else bif ((decide (0<=x5))&&(decide (x5 < (length x0:Int)))) then bif ((((getD x0 (toNat x5) (eB,(0,(0,0)))).2).2).1 != (w64 ((w64 (x1+1))+1))) then some ((-1),()) else bif ((decide (0<=x5))&&(decide (x5 < (length x0:Int)))) then bif ((((getD x0 (toNat x5) (eB,(0,(0,0)))).2).2).2 != (w64 ((w64 ((w64 (x1+1))+1))+1))) then some ((-1),()) else q33 x0 (w64 ((w64 ((w64 ((w64 (x1+1))+1))+1))+1)) (w64 (x5+1)) else none else none else none else none else some (x1,()):Option (Int×Unit)):=(ql X 125 0 [] _ _ _).trans (by kernel_rfl)
theorem qjX (a0:q8) (a1:Int):qb5 a0 a1=(bif (decide ((w64 (a1 - (length a0:Int))) < 0)) then some ((-1),()) else q4r a0 (w64 (a1 - (length a0:Int))) 0:Option (Int×Unit)):=(qo X rfl _).trans (by kernel_rfl)
theorem q9s (x0:q8) (x1:Int) (x5:Int):q4r x0 x1 x5=(bif (decide (x5 < (length x0:Int))) then bif ((decide (0<=x5))&&(decide (x5 < (length x0:Int)))) then (qcT ((getD x0 (toNat x5) (eB,(eB,0))).1,((getD x0 (toNat x5) (eB,(eB,0))).2)) x1).bind fun r5=>bif (decide (r5.1 < 0)) then some ((-1),()) else q4r x0 r5.1 (w64 (x5+1)) else none else some (x1,()):Option (Int×Unit)):=(ql X 146 0 [] _ _ _).trans (by kernel_rfl)
theorem ql5 (a0:qh) (a1:Int):qd0 a0 a1=(bif (decide ((w64 (a1 - (size a0.1:Int))) < 0)) then some ((-1),()) else some ((w64 (a1 - (size a0.1:Int))),()):Option (Int×Unit)):=(qo X rfl _).trans (by kernel_rfl)
theorem qjA (a0:q8):qbn a0=(bif ((decide (0<=(length a0:Int)))&&((decide ((length a0:Int)<=(length a0:Int)))&&(lim (toNat (length a0:Int)) 40))) then q0Y a0 (replicate (toNat (length a0:Int)) (eB,(eB,0))) 0 else none:Option (q8×Unit)):=(qo X rfl _).trans (by kernel_rfl)
theorem q9g (x0:q8) (x3:q8) (x4:Int):q0Y x0 x3 x4=(bif (decide (x4 < (length x0:Int))) then bif ((decide (0<=x4))&&(decide (x4 < (length x0:Int)))) then (qhX ((getD x0 (toNat x4) (eB,(eB,0))).1,((getD x0 (toNat x4) (eB,(eB,0))).2))).bind fun r5=>bif ((decide (0<=x4))&&(decide (x4 < (length x3:Int)))) then q0Y x0 (List.set x3 (toNat x4) (r5.1.1,(r5.1.2.1,r5.1.2.2))) (w64 (x4+1)) else none else none else some (x3,()):Option (q8×Unit)):=(ql X 149 0 [] _ _ _).trans (by kernel_rfl)
theorem qla (a0:qh):qhK a0=(some (a0,()):Option (qh×Unit)):=(qo X rfl _).trans (by kernel_rfl)
theorem qk0 (a0:q8) (a1:q8):qc0 a0 a1=(bif ((length a0:Int) != (length a1:Int)) then some (false,()) else q4l a0 a1 0:Option (Bool×Unit)):=(qo X rfl _).trans (by kernel_rfl)
theorem q96 (x0:q8) (x1:q8) (x5:Int):q4l x0 x1 x5=(bif (decide (x5 < (length x0:Int))) then bif ((decide (0<=x5))&&(decide (x5 < (length x0:Int)))) then bif ((decide (0<=x5))&&(decide (x5 < (length x1:Int)))) then (qcZ ((getD x0 (toNat x5) (eB,(eB,0))).1,((getD x0 (toNat x5) (eB,(eB,0))).2)) ((getD x1 (toNat x5) (eB,(eB,0))).1,((getD x1 (toNat x5) (eB,(eB,0))).2))).bind fun r5=>bif (!r5.1) then some (false,()) else q4l x0 x1 (w64 (x5+1)) else none else none else some (true,()):Option (Bool×Unit)):=(ql X 154 0 [] _ _ _).trans (by kernel_rfl)
theorem qlf (a0:qh) (a1:qh):qcQ a0 a1=(bif (!((toList a0.1)==(toList a1.1))) then some (false,()) else bif (a0.2.1 != a1.2.1) then some (false,()) else bif (a0.2.2.1 != a1.2.2.1) then some (false,()) else bif (a0.2.2.2 != a1.2.2.2) then some (false,()) else some (true,()):Option (Bool×Unit)):=(qo X rfl _).trans (by kernel_rfl)
theorem qhu (a0:q8) (a1:Int):q8t a0 a1=(q36 a1 0 a0:Option (Int×(q8×Unit))):=(qo X rfl _).trans (by kernel_rfl)
theorem q7f (x1:Int) (x5:Int) (r_a:q8):q36 x1 x5 r_a=(bif (decide (x5 < (length r_a:Int))) then (yK x1).bind fun r5=>bif ((decide (0<=x5))&&(decide (x5 < (length r_a:Int)))) then (yK (w64 (x1+1))).bind fun r6=>bif ((decide (0<=x5))&&(decide (x5 < (length (List.set r_a (toNat x5) (r5.1,(getD r_a (toNat x5) (eB,(eB,0))).2)):Int)))) then bif ((decide (0<=x5))&&(decide (x5 < (length (List.set (List.set r_a (toNat x5) (r5.1,(getD r_a (toNat x5) (eB,(eB,0))).2)) (toNat x5) ((getD (List.set r_a (toNat x5) (r5.1,(getD r_a (toNat x5) (eB,(eB,0))).2)) (toNat x5) (eB,(eB,0))).1,(r6.1,((getD (List.set r_a (toNat x5) (r5.1,(getD r_a (toNat x5) (eB,(eB,0))).2)) (toNat x5) (eB,(eB,0))).2).2))):Int)))) then q36 (w64 ((w64 ((w64 (x1+1))+1))+1)) (w64 (x5+1)) (List.set (List.set (List.set r_a (toNat x5) (r5.1,(getD r_a (toNat x5) (eB,(eB,0))).2)) (toNat x5) ((getD (List.set r_a (toNat x5) (r5.1,(getD r_a (toNat x5) (eB,(eB,0))).2)) (toNat x5) (eB,(eB,0))).1,(r6.1,((getD (List.set r_a (toNat x5) (r5.1,(getD r_a (toNat x5) (eB,(eB,0))).2)) (toNat x5) (eB,(eB,0))).2).2))) (toNat x5) ((getD (List.set (List.set r_a (toNat x5) (r5.1,(getD r_a (toNat x5) (eB,(eB,0))).2)) (toNat x5) ((getD (List.set r_a (toNat x5) (r5.1,(getD r_a (toNat x5) (eB,(eB,0))).2)) (toNat x5) (eB,(eB,0))).1,(r6.1,((getD (List.set r_a (toNat x5) (r5.1,(getD r_a (toNat x5) (eB,(eB,0))).2)) (toNat x5) (eB,(eB,0))).2).2))) (toNat x5) (eB,(eB,0))).1,(((getD (List.set (List.set r_a (toNat x5) (r5.1,(getD r_a (toNat x5) (eB,(eB,0))).2)) (toNat x5) ((getD (List.set r_a (toNat x5) (r5.1,(getD r_a (toNat x5) (eB,(eB,0))).2)) (toNat x5) (eB,(eB,0))).1,(r6.1,((getD (List.set r_a (toNat x5) (r5.1,(getD r_a (toNat x5) (eB,(eB,0))).2)) (toNat x5) (eB,(eB,0))).2).2))) (toNat x5) (eB,(eB,0))).2).1,(w64 ((w64 (x1+1))+1))))) else none else none else none else some (x1,(r_a,())):Option (Int×(q8×Unit))):=(ql X 156 0 [] _ _ _).trans (by kernel_rfl)
theorem zA (a0:(List qh)) (a1:qh):yC a0 a1=((w9 a0 a1).bind fun r4=>some ((decide (r4.1>=0)),()):Option (Bool×Unit)):=(qo X rfl _).trans (by kernel_rfl)
theorem qhy (a0:q8) (a1:Int):q8G a0 a1=(q2V a0 a1 0:Option (Int×Unit)):=(qo X rfl _).trans (by kernel_rfl)
theorem q7c (x0:q8) (x1:Int) (x5:Int):q2V x0 x1 x5=(bif (decide (x5 < (length x0:Int))) then bif ((decide (0<=x5))&&(decide (x5 < (length x0:Int)))) then (yK x1).bind fun r5=>bif (!((toList ((getD x0 (toNat x5) (eB,(eB,0))).1))==(toList r5.1))) then some ((-1),()) else bif ((decide (0<=x5))&&(decide (x5 < (length x0:Int)))) then (yK (w64 (x1+1))).bind fun r6=>bif (!((toList (((getD x0 (toNat x5) (eB,(eB,0))).2).1))==(toList r6.1))) then some ((-1),()) else bif ((decide (0<=x5))&&(decide (x5 < (length x0:Int)))) then bif (((getD x0 (toNat x5) (eB,(eB,0))).2).2 != (w64 ((w64 (x1+1))+1))) then some ((-1),()) else q2V x0 (w64 ((w64 ((w64 (x1+1))+1))+1)) (w64 (x5+1)) else none else none else none else some (x1,()):Option (Int×Unit)):=(ql X 203 0 [] _ _ _).trans (by kernel_rfl)
theorem qlI (a0:wm) (a1:Int):qcT a0 a1=(bif (decide ((w64 (a1 - (size a0.1:Int))) < 0)) then some ((-1),()) else bif (decide ((w64 ((w64 (a1 - (size a0.1:Int))) - (size a0.2.1:Int))) < 0)) then some ((-1),()) else some ((w64 ((w64 (a1 - (size a0.1:Int))) - (size a0.2.1:Int))),()):Option (Int×Unit)):=(qo X rfl _).trans (by kernel_rfl)
theorem qlU (a0:wm):qhX a0=(some (a0,()):Option (wm×Unit)):=(qo X rfl _).trans (by kernel_rfl)
theorem qlV (a0:wm) (a1:wm):qcZ a0 a1=(bif (!((toList a0.1)==(toList a1.1))) then some (false,()) else bif (!((toList a0.2.1)==(toList a1.2.1))) then some (false,()) else bif (a0.2.2 != a1.2.2) then some (false,()) else some (true,()):Option (Bool×Unit)):=(qo X rfl _).trans (by kernel_rfl)
theorem zL (a0:(List qh)) (a1:qh):w9 a0 a1=(qL a0 (length a0:Int) 0 a1.1 a1.2.1 a1.2.2.1 a1.2.2.2:Option (Int×Unit)):=(qo X rfl _).trans (by kernel_rfl)
theorem yU (x0:(List qh)) (x7:Int) (x8:Int) (b0_0:BA) (b0_1:Int) (b0_2:Int) (b0_3:Int):qL x0 x7 x8 b0_0 b0_1 b0_2 b0_3=(bif (decide (x8 < x7)) then bif ((decide (0<=x8))&&(decide (x8 < (length x0:Int)))) then bif (((toList b0_0)==(toList ((getD x0 (toNat x8) (eB,(0,(0,0)))).1)))&&((b0_1==((getD x0 (toNat x8) (eB,(0,(0,0)))).2).1)&&((b0_2==(((getD x0 (toNat x8) (eB,(0,(0,0)))).2).2).1)&&((b0_3==(((getD x0 (toNat x8) (eB,(0,(0,0)))).2).2).2)&&true)))) then some (x8,()) else qL x0 x7 (w64 (x8+1)) b0_0 b0_1 b0_2 b0_3 else none else some ((-1),()):Option (Int×Unit)):=(ql X 238 0 [] _ _ _).trans (by kernel_rfl)
end Go.Den.S
namespace Go.Den
open Go
theorem q9D {α:Type} {R:Type} (F:List α->Int->Option R) (b:List α) (d:α) (out:List α) (hl:out.length=b.length)
  (hF:∀ (out:List α) (i:Nat),i < b.length->out.length=b.length->F out (i:Int)=F (out.set i (b.getD i d)) ((i:Int)+1)):F out 0=F b (b.length:Int):=by
 have key:∀ (n i:Nat) (out:List α),i+n=b.length->out.length=b.length->(∀ j,j < i->out[j]?=b[j]?)->F out (i:Int)=F b (b.length:Int):=by
  intro n;induction n with
  | zero=>
   intro i out hi hl hj;have:out=b:=List.ext_getElem? fun j=>by
    by_cases h:j < i
    ·exact hj j h
    ·rw [List.getElem?_eq_none (by omega),List.getElem?_eq_none (by omega)]
   rw [this,show i=b.length by omega]
  | succ n ih=>
   intro i out hi hl hj;rw [hF out i (by omega) hl]
   refine ih (i+1) _ (by omega) (by simpa using hl) fun j h=>?_
   by_cases e:j=i
   ·subst e;rw [List.getElem?_set_self (by omega),getD_eq_getElem?_getD,List.getElem?_eq_getElem (by omega)]
    rfl
   ·rw [List.getElem?_set_ne (by omega)]
    exact hj j (by omega)
 exact key b.length 0 out (by omega) hl fun j h=>by omega
def wl {α:Type} (f:α->Nat) (xs:List α):Nat:=xs.length+(xs.map f).sum
theorem qfE {α:Type} {f:α->Nat} {xs:List α} {n:Nat} (h:wl f xs<=n):xs.length<=n:=by unfold wl at h; omega
def szv (n:Nat) (left:Int):Int:=if (n:Int)<=left then left - n else -1
theorem q0j {n:Nat} {left:Int} (h:left < n):szv n left=-1:=by unfold szv; rw [if_neg (by omega)]
theorem q7j {n:Nat} {left:Int} (h:(n:Int)<=left):szv n left=left - n:=by unfold szv; rw [if_pos h]
theorem qle {n:Nat} {left:Int} (h:szv n left < 0) (h0:0<=left):left < n:=by unfold szv at h; split at h<;>omega
theorem q5p {n:Nat} {left:Int} (h:¬ szv n left < 0):(n:Int)<=left/\szv n left=left - n:=by
 unfold szv at h ⊢;split<;>simp_all
end Go.Den
namespace Go.Den.S
open Go Go.Den
section
variable {β γ:Type}
theorem q6f (ops:List (BA×Option β)):AscK (runK ops):=qcv ops qdm
end
theorem q6p:∀ (bs:List Bat) (a:Nat),(posB a bs).map (·.1)=bs
 | [],_=>rfl
 | b::bs,a=>by simp only [posB,map_cons,q6p bs]
end Go.Den.S
namespace Go.Den.S
open Go Go.Den
open Classical
noncomputable section
def yO (dir:List Spt) (n:Nat) (p:Bat×Nat):List Chg:=p.1.2.filter fun c=>!c.2.2&&decide ((c.1,((n:Int),((p.2:Int),p.1.1)))∈dir)
def j5 (dir:List Spt) (n:Nat) (p:Bat×Nat):Option Bat:=if (yO dir n p).isEmpty then none else some (p.1.1,yO dir n p)
def q3A (d:List Fil) (dir:List Spt) (n:Nat):List Bat:=(zo d n).filterMap (j5 dir n)
def yM (d:List Fil) (dir:List Spt) (old:List Nat):List Bat:=old.flatMap (q3A d dir)
theorem qcc (P:Chg->Bool):∀ cs:List Chg,((cs.filter P).flatMap chL).length<=(cs.flatMap chL).length
 | []=>le_refl _
 | c::cs=>by
  have:=qcc P cs;rw [filter_cons];split<;>simp only [List.flatMap_cons,length_append]<;>omega
theorem qex {dir:List Spt} {n:Nat} {p:Bat×Nat} (hp:batT p.1=true) {b:Bat} (hb:j5 dir n p=some b):batT b=true/\(bTL b).length<=(bTL p.1).length:=by
 unfold j5 at hb;split at hb
 ·cases hb
 ·rename_i hne;cases hb
  obtain ⟨h1,h2,h3,h4,h5,h6⟩:=jQ.1 (qdp hp);have hsub:(yO dir n p).Sublist p.1.2:=List.filter_sublist;have hlen:=hsub.length_le;have hpos:1<=(yO dir n p).length:=by
   cases ht:yO dir n p with
   | nil=>rw [ht] at hne; simp at hne
   | cons a t=>simp
  have hok:q0E (p.1.1,yO dir n p)=true:=jQ.2 ⟨h1,h2,hpos,le_trans hlen h4,fun c hc=>h5 c (hsub.subset hc),q8w.2 ((q8w.1 h6).sublist hsub)⟩
  have hl:(bTL (p.1.1,yO dir n p)).length<=(bTL p.1).length:=by
   unfold bTL;simp only [length_cons,length_append];rw [qdz (show (yO dir n p).length < 128 from Nat.lt_of_le_of_lt (le_trans hlen h4) (by decide)),qdz (show p.1.2.length < 128 from Nat.lt_of_le_of_lt h4 (by decide))]
   have:((yO dir n p).flatMap chL).length<=(p.1.2.flatMap chL).length:=qcc _ _;omega
  refine ⟨?_,hl⟩;simp only [batT,and_eq_true,decide_eq_true_eq] at hp ⊢;exact ⟨hok,le_trans hl hp.2⟩
end
noncomputable def jd (d:List Fil) (l i:List Nat) (top:Nat):List Act:=
 (adA qB (bOf (qU top top))::(yM d (dirD d l) (i++[top])).map fun b=>adA qB (bOf (batL b)))++(kpA qB::mvA qB (nmL top)::i.map fun n=>drA (nmL n))
end Go.Den.S
namespace Go.Den.S
open Go Go.Den
open Classical
set_option maxRecDepth 4000
theorem q5i (f:Fil) (d:List Fil):yR (f::d)=f.2.1.size+yR d:=by simp [yR]
theorem qov {d:List Fil} (h:dOkB d=true):yR d<=600000:=by
 obtain ⟨h1,h2,_⟩:=qG.1 h;have:∀ l:List Fil,(∀ f∈l,q0W f=true)->yR l<=20000 * l.length:=by
  intro l;induction l with
  | nil=>intro _; exact le_refl _
  | cons f l ih=>
   intro hl;have a:=ih fun g hg=>hl g (mem_cons_of_mem _ hg)
   have b:=(jg.1 (hl f (mem_cons_self ..))).2.2.1;rw [q5i,length_cons]; omega
 have:=this d h2;omega
theorem qby (d:List Fil) (hn:d.length<=1000000000):∀ (r:List Fil) (i a:Nat),d.drop i=r->i<=d.length->a+yR r<=1000000000->
  q4y (a:Int) d (d.length:Int) (i:Int)=some (((a+yR r:Nat):Int),())
 | [],i,a,hd',hi,ha=>by
  have:=drop_eq_nil_iff.1 hd';rw [q9R];have k1:decide ((i:Int) < (d.length:Int))=false:=dYF (by omega)
  simp only [k1,cF]; rfl
 | f::r,i,a,hd',hi,ha=>by
  obtain ⟨e1,hlt,e2⟩:=qK dF hd';rw [q5i] at ha;rw [q9R];have k1:decide ((i:Int) < (d.length:Int))=true:=dYT (by omega)
  have k2:decide (0<=(i:Int))=true:=dYT (by omega)
  have k4:w64 ((i:Int)+1)=((i+1:Nat):Int):=qw (by omega)
  have k5:w64 ((a:Int)+(f.2.1.size:Int))=((a+f.2.1.size:Nat):Int):=qg (by omega) (by omega)
  simp only [k1,k2,Bool.and_self,cT,toNat_natCast,e1,k4,k5];rw [qby d hn r (i+1) _ e2 hlt (by omega),q5i,Nat.add_assoc]
theorem qbX (d:List Fil) (hn:d.length<=1000000000):∀ (r:List Fil) (i a:Nat),d.drop i=r->i<=d.length->a+yR r<=1000000000->
  q4w (a:Int) (i:Int) d=some (((a+yR r:Nat):Int),())
 | [],i,a,hd',hi,ha=>by
  have:=drop_eq_nil_iff.1 hd';rw [q9E];have k1:decide ((i:Int) < (d.length:Int))=false:=dYF (by omega)
  simp only [k1,cF]; rfl
 | f::r,i,a,hd',hi,ha=>by
  obtain ⟨e1,hlt,e2⟩:=qK dF hd';rw [q5i] at ha;rw [q9E];have k1:decide ((i:Int) < (d.length:Int))=true:=dYT (by omega)
  have k2:decide (0<=(i:Int))=true:=dYT (by omega)
  have k4:w64 ((i:Int)+1)=((i+1:Nat):Int):=qw (by omega)
  have k5:w64 ((a:Int)+(f.2.1.size:Int))=((a+f.2.1.size:Nat):Int):=qg (by omega) (by omega)
  simp only [k1,k2,Bool.and_self,cT,toNat_natCast,e1,k4,k5];rw [qbX d hn r (i+1) _ e2 hlt (by omega),q5i,Nat.add_assoc]
theorem qeq {d:List Fil} (h:dOkB d=true):q4L d=some ((yR d:Int),()):=by
 have h1:=(qG.1 h).1;have h2:=qov h;rw [qji];have:=qby d (by omega) d 0 0 rfl (zero_le _) (by omega)
 rw [zero_add] at this;exact this
theorem qjl {d:List Fil} (h:dOkB d=true):q0S d=some ((yR d:Int),()):=by
 have h1:=(qG.1 h).1;have h2:=qov h;rw [qkn];have:=qbX d (by omega) d 0 0 rfl (zero_le _) (by omega)
 rw [zero_add] at this;exact this
theorem qnq (l:List Spt) (x:Spt) (hl:l.length<=1000000000):yC l x=some (decide (x∈l),()):=by
 rw [zA,zL];have hi:=q69 (fun i=>qL l (l.length:Int) i x.1 x.2.1 x.2.2.1 x.2.2.2) (fun y:Spt=>decide (x=y)) dS l (fun n=>some (n,()))
  (fun i hi=>by
   conv=>lhs; rw [yU]
   have e1:decide ((i:Int) < (l.length:Int))=true:=dYT (by omega)
   have e2:decide (0<=(i:Int))=true:=dYT (by omega)
   have e3:w64 ((i:Int)+1)=((i+1:Nat):Int):=qw (by omega)
   simp only [e1,e2,e3,Bool.and_self,cT,toNat_natCast,y8,qoN])
  (by
   show qL l (l.length:Int) (l.length:Int) x.1 x.2.1 x.2.2.1 x.2.2.2=_;rw [yU];simp only [Int.lt_irrefl,decide_false,cF])
 rw [hi];simp only [oB];congr 2
 rcases q6B (fun y:Spt=>decide (x=y)) l 0 with ⟨h1,h2⟩ | ⟨j,h1,h2,h3,_⟩
 ·rw [h1,dYF (by omega),eq_comm,dYF]
  intro hm;have:=h2 x hm;simp at this
 ·rw [h2,dYT (by omega),eq_comm,dYT]
  have e:=List.getElem?_eq_getElem h1;have:=of_decide_eq_true (h3 _ e);rw [this];exact List.getElem_mem h1
noncomputable def q7J (dir:List Spt) (n:Nat) (p:Bat×Nat) (c:Chg):Bool:=!c.2.2&&decide ((c.1,((n:Int),((p.2:Int),p.1.1)))∈dir)
theorem q8j (dir:List Spt) (n:Nat) (p:Bat×Nat):yO dir n p=p.1.2.filter (q7J dir n p):=rfl
theorem qcm (e:Eng) (hdl:e.2.2.2.2.length<=1000000000) (n a:Nat) (b:Bat) (z:Int) (hb:b.2.length<=1000000):∀ (r:List Chg) (i:Nat) (acc:List Chg),b.2.drop i=r->i<=b.2.length->acc.length<=i->
  q1C (n:Int) acc b.2 (b.2.length:Int) (i:Int) e.1 e.2.1 e.2.2.1 e.2.2.2.1 e.2.2.2.2 b.1 b.2 (a:Int) z=some (acc++r.filter (q7J e.2.2.2.2 n (b,a)),())
 | [],i,acc,hd,hi,ha=>by
  have:=drop_eq_nil_iff.1 hd;rw [qas];have k1:decide ((i:Int) < (b.2.length:Int))=false:=dYF (by omega)
  simp only [k1,cF,List.filter_nil,append_nil]
 | c::r,i,acc,hd,hi,ha=>by
  obtain ⟨e1,hlt,e2⟩:=qK dC hd;have ih:=qcm e hdl n a b z hb r (i+1);rw [qas];have k1:decide ((i:Int) < (b.2.length:Int))=true:=dYT (by omega)
  have k2:decide (0<=(i:Int))=true:=dYT (by omega)
  have k4:w64 ((i:Int)+1)=((i+1:Nat):Int):=qw (by omega)
  have kl:lim (acc.length+1) 40=true:=qJ (by omega)
  rw [k1,k2];simp only [Bool.and_self,cT,k4,toNat_natCast,e1,pmk];rw [qnq _ _ hdl];simp only [oB];rw [kl,ih acc e2 hlt (by omega),ih (acc++[c]) e2 hlt (by rw [length_append,length_singleton]; omega),filter_cons]
  have hp:q7J e.2.2.2.2 n (b,a) c=(!c.2.2&&decide ((c.1,((n:Int),((a:Int),b.1)))∈e.2.2.2.2)):=rfl;rw [hp];cases !c.2.2 with
  | false=>rfl
  | true=>
   cases decide ((c.1,((n:Int),((a:Int),b.1)))∈e.2.2.2.2) with
   | false=>rfl
   | true=>
    simp only [Bool.and_self,cT,if_true];rw [append_assoc]; rfl
theorem qni (e:Eng) (hdl:e.2.2.2.2.length<=1000000000) (n a:Nat) (b:Bat) (z:Int) (hb:b.2.length<=1000000):q4c e (n:Int) (b,((a:Int),z))=some (yO e.2.2.2.2 n (b,a),()):=by
 rw [qmh,q8j];exact qcm e hdl n a b z hb b.2 0 [] rfl (zero_le _) (le_refl _)
def atP (n a:Int) (s:Spt):Bool:=(s.2.1==n)&&(s.2.2.1==a)
theorem qjF (dir:List Spt) (hn:dir.length<=1000000000) (n a:Int):∀ (r:List Spt) (i:Nat),dir.drop i=r->i<=dir.length->q2l dir n a (i:Int)=some (r.any (atP n a),())
 | [],i,hd,hi=>by
  have:=drop_eq_nil_iff.1 hd;rw [q9K];have k1:decide ((i:Int) < (dir.length:Int))=false:=dYF (by omega)
  simp only [k1,cF]; rfl
 | s::r,i,hd,hi=>by
  obtain ⟨e1,hlt,e2⟩:=qK dS hd;rw [q9K];have k1:decide ((i:Int) < (dir.length:Int))=true:=dYT (by omega)
  have k2:decide (0<=(i:Int))=true:=dYT (by omega)
  have k4:w64 ((i:Int)+1)=((i+1:Nat):Int):=qw (by omega)
  rw [k1,k2];simp only [Bool.and_self,cT,k4,toNat_natCast,e1,qjF dir hn n a r (i+1) e2 hlt,List.any_cons,atP];cases (s.2.1==n)<;>cases (s.2.2.1==a)<;>rfl
def keyP (n a:Int) (c:Chg) (s:Spt):Bool:=decide (s.1=c.1)&&atP n a s
theorem qjc (dir:List Spt) (hn:dir.length<=100000000) (n a q:Int) (cs:List Chg) (c:Chg) (i:Nat) (hi:i < cs.length) (hc:cs.getD i dC=c) (hcs:cs.length<=40):∀ (r:List Spt) (k:Nat) (acc:List Chg),dir.drop k=r->k<=dir.length->acc.length<=i * 100000000+k->
  q0o dir n a acc (i:Int) (k:Int) q cs=q2D dir n a (acc++(r.filter (keyP n a c)).map fun _=>c) ((i+1:Nat):Int) q cs
 | [],k,acc,hd,hk,ha=>by
  have:=drop_eq_nil_iff.1 hd;rw [q9k];have k1:decide ((k:Int) < (dir.length:Int))=false:=dYF (by omega)
  have k4:w64 ((i:Int)+1)=((i+1:Nat):Int):=qw (by omega)
  simp only [k1,cF,List.filter_nil,map_nil,append_nil,k4]
 | s::r,k,acc,hd,hk,ha=>by
  obtain ⟨e1,hlt,e2⟩:=qK dS hd;have ih:=qjc dir hn n a q cs c i hi hc hcs r (k+1);rw [q9k];have k1:decide ((k:Int) < (dir.length:Int))=true:=dYT (by omega)
  have k2:decide (0<=(k:Int))=true:=dYT (by omega)
  have j1:decide ((i:Int) < (cs.length:Int))=true:=dYT (by omega)
  have j2:decide (0<=(i:Int))=true:=dYT (by omega)
  have k4:w64 ((k:Int)+1)=((k+1:Nat):Int):=qw (by omega)
  have kl:lim (acc.length+1) 40=true:=qJ (by omega)
  rw [k1,k2,j1,j2];simp only [Bool.and_self,cT,k4,toNat_natCast,e1,hc,pmk,y8];rw [kl,ih acc e2 hlt (by omega),ih (acc++[c]) e2 hlt (by rw [length_append,length_singleton]; omega),filter_cons]
  have hp:keyP n a c s=(decide (s.1=c.1)&&((s.2.1==n)&&(s.2.2.1==a))):=rfl;rw [hp];cases decide (s.1=c.1) with
  | false=>rfl
  | true=>
   cases (s.2.1==n) with
   | false=>rfl
   | true=>
    cases (s.2.2.1==a) with
    | false=>rfl
    | true=>
     simp only [Bool.and_self,cT,if_true,map_cons];rw [append_assoc]; rfl
theorem qk8 (dir:List Spt) (hn:dir.length<=100000000) (n a q:Int) (cs:List Chg) (hcs:cs.length<=40):∀ (r:List Chg) (i:Nat) (acc:List Chg),cs.drop i=r->i<=cs.length->acc.length<=i * 100000000->
  q2D dir n a acc (i:Int) q cs=some (acc++r.flatMap fun c=>(dir.filter (keyP n a c)).map fun _=>c,())
 | [],i,acc,hd,hi,ha=>by
  have:=drop_eq_nil_iff.1 hd;rw [q9H];have k1:decide ((i:Int) < (cs.length:Int))=false:=dYF (by omega)
  simp only [k1,cF,flatMap_nil,append_nil]
 | c::r,i,acc,hd,hi,ha=>by
  obtain ⟨e1,hlt,e2⟩:=qK dC hd;rw [q9H];have k1:decide ((i:Int) < (cs.length:Int))=true:=dYT (by omega)
  rw [k1,cT];refine (qjc dir hn n a q cs c i hlt e1 hcs dir 0 acc rfl (zero_le _) (by rw [Nat.add_zero]; exact ha)).trans ?_
  have hf:=List.length_filter_le (keyP n a c) dir;rw [qk8 dir hn n a q cs hcs r (i+1) _ e2 hlt (by rw [length_append,length_map]; omega),List.flatMap_cons,append_assoc]
theorem qme:∀ {bs:List Bat} {a:Nat} {p:Bat×Nat},p∈posB a bs->a<=p.2
 | b::bs,a,p,h=>by
  rcases mem_cons.1 h with rfl | h
  ·exact le_refl _
  ·have:=qme h; omega
theorem qo7:∀ {bs:List Bat} {a:Nat} {p p':Bat×Nat},p∈posB a bs->p'∈posB a bs->p.2=p'.2->p=p'
 | b::bs,a,p,p',h,h',e=>by
  have hl:0 < (batL b).length:=qb1 _;rcases mem_cons.1 h with rfl | h
  ·rcases mem_cons.1 h' with rfl | h'
   ·rfl
   ·have:=qme h';have e:a=p'.2:=e;omega
  ·rcases mem_cons.1 h' with rfl | h'
   ·have:=qme h;have e:p.2=a:=e;omega
   ·exact qo7 h h' e
theorem qnY {d:List Fil} {l:List Nat} {n:Nat} {p:Bat×Nat} (hp:p∈zo d n) {s:Spt} (hs:s∈dirD d l) (h1:s.2.1=(n:Int)) (h2:s.2.2.1=(p.2:Int)):∃ c∈p.1.2,c.2.2=false/\s=(c.1,((n:Int),((p.2:Int),p.1.1))):=by
 unfold dirD at hs;obtain ⟨x,hx,rfl⟩:=List.mem_map.1 hs;have h:=qeC hx;unfold jO at h;obtain ⟨n',hn,h⟩:=List.mem_flatMap.1 h;obtain ⟨p',hp',h⟩:=List.mem_flatMap.1 h;unfold q4t at h;obtain ⟨c,hc,h⟩:=List.mem_map.1 h;simp only [Prod.mk.injEq] at h;obtain ⟨e1,e2⟩:=h;cases hg:c.2.2 with
 | true=>rw [hg] at e2; cases e2
 | false=>
  rw [hg] at e2;simp only [cF,Option.some.injEq] at e2;have e3:((n':Int),((p'.2:Int),p'.1.1))=x.2.1:=by rw [<- e2]
  have h1:x.2.1.1=(n:Int):=h1;have h2:x.2.1.2.1=(p.2:Int):=h2;rw [<- e3] at h1 h2;have h1:(n':Int)=(n:Int):=h1;have h2:(p'.2:Int)=(p.2:Int):=h2;have hn':n'=n:=by omega
  have hp2:p'.2=p.2:=by omega
  subst hn';have hpp:=qo7 hp' hp hp2;subst hpp;exact ⟨c,hc,hg,by show (x.1,x.2.1)=_; rw [<- e3,e1]⟩
theorem qw6 {l:List Spt} (h:AscK l) {s:Spt} (hs:s∈l):l.filter (fun x=>decide (x.1=s.1))=[s]:=by
 refine q3N (h.filter _) (List.pairwise_singleton ..) fun x=>?_
 rw [mem_filter,List.mem_singleton,decide_eq_true_eq];exact ⟨fun c=>q6D h c.1 hs c.2,fun c=>by rw [c]; exact ⟨hs,rfl⟩⟩
theorem qvv (d:List Fil) (l:List Nat):AscK (dirD d l):=by rw [qb3]; exact q6f _
theorem qvJ {b:Bat} (h:batT b=true):AscK b.2:=q8w.1 (jQ.1 (qdp h)).2.2.2.2.2
theorem qtM {d:List Fil} {l:List Nat} {n:Nat} {p:Bat×Nat} (hp:p∈zo d n) (hb:batT p.1=true):(p.1.2.flatMap fun c=>((dirD d l).filter (keyP (n:Int) (p.2:Int) c)).map fun _=>c)=yO (dirD d l) n p:=by
 rw [q8j];have one:∀ c∈p.1.2,(((dirD d l).filter (keyP (n:Int) (p.2:Int) c)).map fun _=>c)=if q7J (dirD d l) n p c=true then [c] else []:=fun c hc=>by
  by_cases h:q7J (dirD d l) n p c=true
  ·rw [if_pos h];unfold q7J at h;rw [and_eq_true,decide_eq_true_eq] at h;have e:(dirD d l).filter (keyP (n:Int) (p.2:Int) c)=[(c.1,((n:Int),((p.2:Int),p.1.1)))]:=by
    have:keyP (n:Int) (p.2:Int) c=fun s=>atP (n:Int) (p.2:Int) s&&decide (s.1=c.1):=funext fun s=>Bool.and_comm ..
    rw [this,<- List.filter_filter,qw6 (s:=(c.1,((n:Int),((p.2:Int),p.1.1)))) (qvv d l) h.2];simp [atP]
   rw [e]; rfl
  ·rw [if_neg h];have e:(dirD d l).filter (keyP (n:Int) (p.2:Int) c)=[]:=by
    rw [List.filter_eq_nil_iff];intro s hs hk;refine h ?_;unfold keyP atP at hk;simp only [and_eq_true,decide_eq_true_eq,beq_iff_eq] at hk;obtain ⟨c',hc',hg,e⟩:=qnY hp hs hk.2.1 hk.2.2;have hcc:c'=c:=q6D (qvJ hb) hc' hc (by rw [<- hk.1,e])
    subst hcc;unfold q7J;rw [and_eq_true,decide_eq_true_eq,hg,<- e];exact ⟨rfl,hs⟩
   rw [e]; rfl
 generalize p.1.2=cs at one;induction cs with
 | nil=>rfl
 | cons c cs ih=>
  rw [List.flatMap_cons,one c (mem_cons_self ..),ih fun x hx=>one x (mem_cons_of_mem _ hx),filter_cons]
  split<;>rfl
theorem quy {d:List Fil} {l:List Nat} {n:Nat} {p:Bat×Nat} (hp:p∈zo d n):(dirD d l).any (atP (n:Int) (p.2:Int))=!(yO (dirD d l) n p).isEmpty:=by
 rw [Bool.eq_iff_iff,List.any_eq_true,Bool.not_eq_true',<- Bool.not_eq_true,List.isEmpty_iff];constructor
 ·rintro ⟨s,hs,ha⟩ h
  unfold atP at ha;simp only [and_eq_true,beq_iff_eq] at ha;obtain ⟨c,hc,hg,e⟩:=qnY hp hs ha.1 ha.2;have:c∈yO (dirD d l) n p:=by
   rw [q8j,mem_filter];unfold q7J;rw [and_eq_true,decide_eq_true_eq,hg,<- e];exact ⟨hc,rfl,hs⟩
  rw [h] at this; cases this
 ·intro h;obtain ⟨c,hc⟩:=List.exists_mem_of_ne_nil _ h;rw [q8j,mem_filter] at hc;unfold q7J at hc;simp only [and_eq_true,decide_eq_true_eq] at hc;exact ⟨_,hc.2.2,by simp [atP]⟩
noncomputable def addA (bs:List Bat):List Act:=bs.map fun b=>adA qB (bOf (batL b))
theorem qpv (a b:List Bat):addA (a++b)=addA a++addA b:=by simp [addA]
theorem qkb {dir:List Spt} {n:Nat} {p:Bat×Nat} (hp:batT p.1=true) (h:(yO dir n p).isEmpty=false):j5 dir n p=some (p.1.1,yO dir n p)/\batT (p.1.1,yO dir n p)=true:=by
 have:j5 dir n p=some (p.1.1,yO dir n p):=by unfold j5; rw [h]; rfl
 exact ⟨this,(qex hp this).1⟩
theorem qng (dir:List Spt) (n:Nat) (p:Bat×Nat):(yO dir n p).length<=p.1.2.length:=by
 rw [q8j]; exact List.length_filter_le ..
theorem quT {α:Type} (l:List α):((l.length:Int)==0)=l.isEmpty:=by
 cases l with
 | nil=>rfl
 | cons a l=>rw [List.isEmpty_cons,beq_eq_false_iff_ne,length_cons]; omega
theorem qf6 (e:Eng) (hdl:e.2.2.2.2.length<=1000000000) (n:Nat) (x6 x6h:Nat) (x7:Int) (x61 x61h:Nat) (x62 x63:Int) (rr:List Int) (ps:List Pla) (hps:ps.length<=1000000):∀ (bs:List Bat) (a k:Nat) (acc:List Act),ps.drop k=plB a bs->k<=ps.length->(∀ b∈bs,batT b=true)->acc.length+bs.length<=1000000000->
  q1h x6 x6h x7 acc (n:Int) x61 x61h x62 x63 ps (ps.length:Int) (k:Int) e.1 e.2.1 e.2.2.1 e.2.2.2.1 e.2.2.2.2 rr=q0p x6 x6h x7 (acc++addA ((posB a bs).filterMap (j5 e.2.2.2.2 n))) x61 x61h x62 (w64 (x63+1)) e.1 e.2.1 e.2.2.1 e.2.2.2.1 e.2.2.2.2 rr
 | [],a,k,acc,hd,hk,hb,ha=>by
  have:=drop_eq_nil_iff.1 hd;rw [q6W];have k1:decide ((k:Int) < (ps.length:Int))=false:=dYF (by omega)
  simp only [k1,cF];show _=q0p x6 x6h x7 (acc++[]) _ _ _ _ _ _ _ _ _ _;rw [append_nil]
 | b::bs,a,k,acc,hd,hk,hb,ha=>by
  have hd':ps.drop k=(b,((a:Int),((batL b).length:Int)))::plB (a+(batL b).length) bs:=hd;obtain ⟨e1,hlt,e2⟩:=qK dP hd';have hb0:=hb b (mem_cons_self ..);rw [length_cons] at ha;have ih:=fun acc h=>qf6 e hdl n x6 x6h x7 x61 x61h x62 x63 rr ps hps bs (a+(batL b).length) (k+1) acc e2 hlt (fun x hx=>hb x (mem_cons_of_mem _ hx)) h
  rw [q6W];have k1:decide ((k:Int) < (ps.length:Int))=true:=dYT (by omega)
  have k2:decide (0<=(k:Int))=true:=dYT (by omega)
  have k4:w64 ((k:Int)+1)=((k+1:Nat):Int):=qw (by omega)
  have kl:lim (acc.length+1) 56=true:=qJ (by omega)
  rw [k1,k2];simp only [Bool.and_self,cT,k4,toNat_natCast,e1];have h40:=qcD hb0;have hto:q4c (e.1,(e.2.1,(e.2.2.1,(e.2.2.2.1,e.2.2.2.2)))) (n:Int) (b,((a:Int),((batL b).length:Int)))=some (yO e.2.2.2.2 n (b,a),()):=qni e hdl n a b _ (by omega)
  rw [hto];simp only [oB,quT];have hpos:posB a (b::bs)=(b,a)::posB (a+(batL b).length) bs:=rfl;cases he:(yO e.2.2.2.2 n (b,a)).isEmpty with
  | true=>
   rw [cT,ih acc (by omega),hpos,filterMap_cons]
   have:j5 e.2.2.2.2 n (b,a)=none:=by unfold j5; rw [he]; rfl
   rw [this]
  | false=>
   obtain ⟨q1,q2⟩:=qkb hb0 he;have hl:=qng e.2.2.2.2 n (b,a);have hl:(yO e.2.2.2.2 n (b,a)).length<=b.2.length:=hl;have q2:batT (b.1,yO e.2.2.2.2 n (b,a))=true:=q2;rw [cF,q5y _ (by show (yO _ _ _).length<=_; omega)]
   unfold btO;rw [if_pos q2];simp only [oB];have hfr:frO (bOf (bTL (b.1,yO e.2.2.2.2 n (b,a))))=(bOf (batL (b.1,yO e.2.2.2.2 n (b,a))),true):=q9C (q6R q2);rw [q44,hfr,kl];simp only [oB,cT];rw [ih _ (by rw [length_append,length_singleton]; omega),hpos,filterMap_cons,q1,append_assoc]
   rfl
theorem qqT (ns:List Nat) (hn:ns.length<=1000) (h:∀ n∈ns,n < 100):∀ (r:List Nat) (i:Nat) (acc:List Act),ns.drop i=r->i<=ns.length->acc.length<=1000000000+i->
  q2Y acc (natI ns) (ns.length:Int) (i:Int)=some ((acc++r.map fun n=>drA (nmL n),true),())
 | [],i,acc,hd,hi,ha=>by
  have:=drop_eq_nil_iff.1 hd;rw [q7q];have k1:decide ((i:Int) < (ns.length:Int))=false:=dYF (by omega)
  simp only [k1,cF,map_nil,append_nil]
 | n::r,i,acc,hd,hi,ha=>by
  obtain ⟨e1,hlt,e2⟩:=qK 0 hd;have hn100:=h n (yL hd);have hll:(natI ns).length=ns.length:=length_map ..;have eI:(natI ns).getD i 0=(n:Int):=by rw [zh hlt,e1]
  rw [q7q,hll];have k1:decide ((i:Int) < (ns.length:Int))=true:=dYT (by omega)
  have k2:decide (0<=(i:Int))=true:=dYT (by omega)
  have k4:w64 ((i:Int)+1)=((i+1:Nat):Int):=qw (by omega)
  have kl:lim (acc.length+1) 56=true:=qJ (by omega)
  rw [k1,k2];simp only [Bool.and_self,cT,k4,toNat_natCast,eI,wP,zl hn100,oB];rw [kl,cT,qqT ns hn h r (i+1) _ e2 hlt (by rw [length_append,length_singleton]; omega),append_assoc]
  rfl
theorem qrk (ns:List Nat) (top:Nat) (hn:ns.length<=1000) (h:∀ n∈ns,n < 100):∀ (r:List Nat) (i:Nat) (acc:List Act),ns.drop i=r->i<=ns.length->acc.length<=1000000000+i->
  q35 (natI (ns++[top])) acc (i:Int)=some ((acc++r.map fun n=>drA (nmL n),true),())
 | [],i,acc,hd,hi,ha=>by
  have:=drop_eq_nil_iff.1 hd;have hll:(natI (ns++[top])).length=ns.length+1:=by unfold natI; rw [length_map,length_append,length_singleton]
  rw [q7C,hll];have k4:w64 ((i:Int)+1)=((i+1:Nat):Int):=qw (by omega)
  have k1:decide (((i+1:Nat):Int) < ((ns.length+1:Nat):Int))=false:=dYF (by omega)
  simp only [k4,k1,cF,map_nil,append_nil]
 | n::r,i,acc,hd,hi,ha=>by
  obtain ⟨e1,hlt,e2⟩:=qK 0 hd;have hn100:=h n (yL hd);have hll:(natI (ns++[top])).length=ns.length+1:=by unfold natI; rw [length_map,length_append,length_singleton]
  have eI:(natI (ns++[top])).getD i 0=(n:Int):=by
   rw [zh (by rw [length_append]; omega),getD_eq_getElem?_getD,List.getElem?_append_left hlt,<- getD_eq_getElem?_getD,e1]
  rw [q7C,hll];have k4:w64 ((i:Int)+1)=((i+1:Nat):Int):=qw (by omega)
  have k1:decide (((i+1:Nat):Int) < ((ns.length+1:Nat):Int))=true:=dYT (by omega)
  have k3:decide ((i:Int) < ((ns.length+1:Nat):Int))=true:=dYT (by omega)
  have k2:decide (0<=(i:Int))=true:=dYT (by omega)
  have kl:lim (acc.length+1) 56=true:=qJ (by omega)
  rw [k4,k1,k2,k3];simp only [Bool.and_self,cT,toNat_natCast,eI,wH,zl hn100,oB];rw [kl,cT,qrk ns top hn h r (i+1) _ e2 hlt (by rw [length_append,length_singleton]; omega),append_assoc]
  rfl
theorem qiR (d:List Fil) (dir:List Spt) (n:Nat) (hn:n<=99):(q3A d dir n).length<=20000:=by
 have h1:=q1X d hn;have h2:=List.length_filterMap_le (j5 dir n) (zo d n);have h3:(zo d n).length=(batD d n).length:=by
  have:=congrArg length (q6p (batD d n) (wo d n));rw [length_map] at this;exact this
 unfold q3A;omega
theorem qoT (bs:List Bat):(addA bs).length=bs.length:=by simp [addA]
section
variable {e:Eng} {ini:List Nat} {top act:Nat}
noncomputable def endA (e:Eng) (ini:List Nat) (top:Nat) (acc:List Act):List Act:=acc++(kpA qB::mvA qB (nmL top)::ini.map fun n=>drA (nmL n))
theorem qfa (C:Clean e.1 ((ini++[top])++[act])) (hdl:e.2.2.2.2.length<=1000000000):∀ (r:List Nat) (i:Nat) (acc:List Act),(ini++[top]).drop i=r->i<=(ini++[top]).length->acc.length<=20000 * i+1->
  q0p 0 (ini++[top]).length (top:Int) acc 0 (ini++[top]).length ((ini++[top]).length:Int) (i:Int) e.1 e.2.1 e.2.2.1 e.2.2.2.1 e.2.2.2.2 (natI ((ini++[top])++[act]))=some ((endA e ini top (acc++addA (yM e.1 e.2.2.2.2 r)),true),())
 | [],i,acc,hd,hi,ha=>by
  have:=drop_eq_nil_iff.1 hd;have hlen:=jU C.segs;have hol:(ini++[top]).length=ini.length+1:=by rw [length_append,length_singleton]
  have hll:((ini++[top])++[act]).length=ini.length+2:=by rw [length_append,length_singleton,hol]
  have htop:top < 100:=(C.mem.1 (by simp)).1
  rw [q7i,hol];have k1:decide ((i:Int) < ((ini.length+1:Nat):Int))=false:=dYF (by omega)
  have w1:w64 (((ini.length+1 - 0:Nat):Int) - 1)=((ini.length:Nat):Int):=(qg (by omega) (by omega)).trans (by omega)
  have kl:lim (acc.length+2) 56=true:=qJ (by omega)
  rw [k1,w1,cF,wP,zl htop];simp only [oB];rw [kl,show decide ((0:Int)<=0)=true from rfl,dYT (show (0:Int)<=(ini.length:Int) by omega),dYT (show ((ini.length:Nat):Int)<=((ini.length+1 - 0:Nat):Int) by omega)]
  simp only [Bool.and_self,cT,toNat_natCast];have htk:take (0+ini.length - (0+toNat 0)) (drop (0+toNat 0) (natI ((ini++[top])++[act])))=natI ini:=by
   show take (0+ini.length) (natI ((ini++[top])++[act]))=natI ini;rw [zero_add];unfold natI;rw [append_assoc,List.map_append];have:(map (fun n:Nat=>(n:Int)) ini).length=ini.length:=length_map ..
   rw [<- this,List.take_left]
  have hln:((0+ini.length - (0+toNat 0):Nat):Int)=((ini.length:Nat):Int):=by
   show ((0+ini.length:Nat):Int)=_;rw [zero_add]
  rw [htk,hln];refine (qqT ini (by omega) (fun n hn=>(C.mem.1 (by simp [hn])).1) ini 0 _ rfl (zero_le _) (by rw [length_append]; simp only [length_cons,length_nil]; omega)).trans ?_
  unfold endA yM addA;rw [flatMap_nil,map_nil,append_nil,append_assoc]; rfl
 | n::r,i,acc,hd,hi,ha=>by
  obtain ⟨e1,hlt,e2⟩:=qK 0 hd;have hlen:=jU C.segs;have hol:(ini++[top]).length=ini.length+1:=by rw [length_append,length_singleton]
  have hll:((ini++[top])++[act]).length=ini.length+2:=by rw [length_append,length_singleton,hol]
  have hnl:n∈(ini++[top])++[act]:=List.mem_append_left _ (yL hd);have hn:=(C.mem.1 hnl).1;have hh:=(C.mem.1 hnl).2.1;have hl30:=C.len;have eI:(natI ((ini++[top])++[act])).getD (0+i) 0=(n:Int):=by
   rw [zero_add,zh (by omega),getD_eq_getElem?_getD,List.getElem?_append_left hlt,<- getD_eq_getElem?_getD,e1]
  rw [q7i];have k1:decide ((i:Int) < ((ini++[top]).length:Int))=true:=dYT (by omega)
  have k2:decide (0<=(i:Int))=true:=dYT (by omega)
  have k3:decide ((i:Int) < (((ini++[top]).length - 0:Nat):Int))=true:=dYT (by omega)
  have k4:w64 ((i:Int)+1)=((i+1:Nat):Int):=qw (by omega)
  rw [k1,k2,k3];simp only [Bool.and_self,cT,toNat_natCast,eI,wP,zl hn,oB];rw [q05 e.1 (by omega)]
  simp only [oB];rw [q5J n (by omega)]
  simp only [oB,qgQ hn hh];have hbl:=q1X e.1 (show n<=99 by omega)
  have hz:=qdO (batD e.1 n) (wo e.1 n);have hi100:i<=100:=by omega
  refine (qf6 e hdl n _ _ _ _ _ _ _ _ (plB (wo e.1 n) (batD e.1 n)) (by omega) (batD e.1 n) (wo e.1 n) 0 acc rfl (zero_le _) q4f (by omega)).trans ?_
  rw [k4];have hkl:=qiR e.1 e.2.2.2.2 n (by omega)
  have hkN:(posB (wo e.1 n) (batD e.1 n)).filterMap (j5 e.2.2.2.2 n)=q3A e.1 e.2.2.2.2 n:=rfl;rw [hkN];refine (qfa C hdl r (i+1) _ e2 hlt (by rw [length_append,qoT]; omega)).trans ?_
  have:yM e.1 e.2.2.2.2 (n::r)=q3A e.1 e.2.2.2.2 n++yM e.1 e.2.2.2.2 r:=rfl;rw [this,qpv,append_assoc]
end
noncomputable def maO (e:Eng):List Act×Bool:=if eOkP e/\2<=(segN e.1).length then (jd e.1 (segN e.1) (segN e.1).dropLast.dropLast ((segN e.1).dropLast.getLastD 0),true) else ([],false)
theorem qdj {l:List Nat} (h:2<=l.length):∃ ini top act,l=(ini++[top])++[act]:=by
 have h1:l≠[]:=by intro e; rw [e] at h; simp at h
 have h2:l.dropLast≠[]:=by
  intro e;have:=congrArg length e;rw [List.length_dropLast,length_nil] at this; omega
 exact ⟨_,_,_,by rw [List.dropLast_concat_getLast h2,List.dropLast_concat_getLast h1]⟩
theorem qkl (e:Eng) (l:List Nat) (hd:e.2.2.2.2=dirD e.1 l) (ini:List Nat) (top:Nat):endA e ini top ([adA qB (bOf (qU top top))]++addA (yM e.1 e.2.2.2.2 (ini++[top])))=jd e.1 l ini top:=by
 unfold endA jd addA;rw [hd]; rfl
theorem q6A {e:Eng} (h:eOkP e) {ini:List Nat} {top act:Nat} (hl:segN e.1=(ini++[top])++[act]):maO e=(jd e.1 ((ini++[top])++[act]) ini top,true):=by
 unfold maO;rw [hl,if_pos ⟨h,by simp⟩,List.dropLast_concat,List.dropLast_concat]
 simp
theorem q9i {e:Eng} (h:¬ (eOkP e/\2<=(segN e.1).length)):maO e=([],false):=by
 unfold maO; rw [if_neg h]
theorem q5w (e:Eng) (hn:e.1.length<=2000000):q1E e=some (maO e,()):=by
 rw [qhr,q0L e.1 (by omega),q0H e hn]
 simp only [oB];by_cases h:eOkP e
 ·obtain ⟨r1,r2,C,hact,hq,hdir,_⟩:=jJ h;have hsg:sgO e.1=(natI (segN e.1),true):=by unfold sgO; rw [C.segs]
  have hll:(natI (segN e.1)).length=(segN e.1).length:=length_map ..;rw [dYT h,hsg];simp only [Bool.not_true,cF,hll];by_cases h2:2<=(segN e.1).length
  ·rw [dYF (show ¬ ((segN e.1).length:Int) < 2 by omega),cF]
   obtain ⟨ini,top,act,hl⟩:=qdj h2;rw [q6A h hl];rw [hl] at C hdir ⊢;have hlen:=jU C.segs;have hol:(ini++[top]).length=ini.length+1:=by rw [length_append,length_singleton]
   have hls:((ini++[top])++[act]).length=ini.length+2:=by rw [length_append,length_singleton,hol]
   have htop:top < 100:=(C.mem.1 (by simp)).1
   have w1:w64 ((((ini++[top])++[act]).length:Int) - 1)=((ini.length+1:Nat):Int):=(qg (by omega) (by omega)).trans (by omega)
   rw [w1];have t0:toNat 0=0:=rfl;have w2:w64 ((((toNat ((ini.length+1:Nat):Int)) - toNat 0:Nat):Int) - 1)=((ini.length:Nat):Int):=by
    rw [toNat_natCast,t0];exact (qg (by omega) (by omega)).trans (by omega)
   rw [w2];simp only [toNat_natCast,t0];rw [show decide ((0:Int)<=0)=true from rfl,dYT (show (0:Int)<=((ini.length+1:Nat):Int) by omega),dYT (show ((ini.length+1:Nat):Int)<=(((ini++[top])++[act]).length:Int) by omega),dYT (show (0:Int)<=((ini.length:Nat):Int) by omega),dYT (show ((ini.length:Nat):Int) < ((ini.length+1 - 0:Nat):Int) by omega)]
   simp only [Bool.and_self,cT];have eT:(natI ((ini++[top])++[act])).getD (0+ini.length) 0=(top:Int):=by
    rw [zero_add,zh (by omega),getD_eq_getElem?_getD,List.getElem?_append_left (by omega),List.getElem?_append_right (le_refl _),Nat.sub_self]; rfl
   rw [eT,q6j];simp only [oB];have hht:htO (top:Int) (top:Int)=(bOf (qU top top),true):=by
    unfold htO;rw [if_pos (by omega)]; rfl
   rw [hht];obtain ⟨_,f2,_⟩:=q6w h;have:=qfa C (by omega) (ini++[top]) 0 [adA qB (bOf (qU top top))] rfl (zero_le _) (le_refl _)
   rw [qkl e _ hdir,hol] at this;exact this
  ·rw [dYT (show ((segN e.1).length:Int) < 2 by omega),cT,q9i (fun c=>h2 c.2)]
 ·rw [dYF h,q9i (fun c=>h c.1)]; rfl
theorem qeX (e:Eng) (l:List Nat) (C:Clean e.1 l) (hdir:e.2.2.2.2=dirD e.1 l) (hdl:e.2.2.2.2.length<=100000000) (old:List Nat) (x8:Int) (n i:Nat) (hi:i < old.length) (hin:old.getD i 0=n) (hi9:i<=1000) (bb:List Bat) (hbb:bb.length<=1000000):∀ (bs:List Bat) (a k:Nat) (acc:List Act),bb.drop k=bs->k<=bb.length->(∀ p∈posB a bs,p∈zo e.1 n)->(∀ b∈bs,batT b=true)->acc.length+bs.length<=1000000000->a+bs.length * 10000<=1000000000->
  q1k (natI old) x8 acc (i:Int) bb (a:Int) (k:Int) e.1 e.2.1 e.2.2.1 e.2.2.2.1 e.2.2.2.2=q0s (natI old) x8 (acc++addA ((posB a bs).filterMap (j5 e.2.2.2.2 n))) ((i+1:Nat):Int) e.1 e.2.1 e.2.2.1 e.2.2.2.1 e.2.2.2.2
 | [],a,k,acc,hd,hk,hp,hb,ha,hz=>by
  have:=drop_eq_nil_iff.1 hd;rw [q7b];have k1:decide ((k:Int) < (bb.length:Int))=false:=dYF (by omega)
  have k4:w64 ((i:Int)+1)=((i+1:Nat):Int):=qw (by omega)
  simp only [k1,cF,k4];show _=q0s (natI old) x8 (acc++[]) _ _ _ _ _ _;rw [append_nil]
 | b::bs,a,k,acc,hd,hk,hp,hb,ha,hz=>by
  obtain ⟨e1,hlt,e2⟩:=qK dB hd;have hb0:=hb b (mem_cons_self ..);have hp0:(b,a)∈zo e.1 n:=hp _ (mem_cons_self ..);have hbl:=q8C hb0;rw [length_cons] at ha hz;have hpos:posB a (b::bs)=(b,a)::posB (a+(batL b).length) bs:=rfl;have ih:=fun acc h=>qeX e l C hdir hdl old x8 n i hi hin hi9 bb hbb bs (a+(batL b).length) (k+1) acc e2 hlt (fun p h=>hp p (mem_cons_of_mem _ h)) (fun x hx=>hb x (mem_cons_of_mem _ hx)) h (by omega)
  have hll:(natI old).length=old.length:=length_map ..;have eI:(natI old).getD i 0=(n:Int):=by rw [zh hi,hin]
  rw [q7b,hll];have k1:decide ((k:Int) < (bb.length:Int))=true:=dYT (by omega)
  have k2:decide (0<=(k:Int))=true:=dYT (by omega)
  have k3:decide ((i:Int) < (old.length:Int))=true:=dYT (by omega)
  have k5:decide (0<=(i:Int))=true:=dYT (by omega)
  have k4:w64 ((k:Int)+1)=((k+1:Nat):Int):=qw (by omega)
  have k6:w64 ((a:Int)+((batL b).length:Int))=((a+(batL b).length:Nat):Int):=qg (by omega) (by omega)
  have kl:lim (acc.length+1) 56=true:=qJ (by omega)
  rw [k1,k2,k3,k5];simp only [Bool.and_self,cT,k4,toNat_natCast,e1,eI];have hto:qbl e.2.2.2.2 (n:Int) (a:Int)=some (!(yO e.2.2.2.2 n (b,a)).isEmpty,()):=by
   rw [qja];refine (qjF e.2.2.2.2 (by omega) n a e.2.2.2.2 0 rfl (zero_le _)).trans ?_
   rw [hdir];exact congrArg (fun b=>some (b,())) (quy hp0)
  have h40:=qcD hb0;have hke:qbs e.2.2.2.2 b (n:Int) (a:Int)=some (yO e.2.2.2.2 n (b,a),()):=by
   rw [qjU];refine (qk8 e.2.2.2.2 (by omega) n a b.1 b.2 h40 b.2 0 [] rfl (zero_le _) (zero_le _)).trans ?_
   rw [hdir];exact congrArg (fun b=>some (b,())) (qtM hp0 hb0)
  rw [hto];simp only [oB];rw [hke,qk7 hb0];simp only [oB,k6];cases he:(yO e.2.2.2.2 n (b,a)).isEmpty with
  | true=>
   rw [Bool.not_true,cF,ih acc (by omega),hpos,filterMap_cons]
   have:j5 e.2.2.2.2 n (b,a)=none:=by unfold j5; rw [he]; rfl
   rw [this]
  | false=>
   obtain ⟨q1,q2⟩:=qkb hb0 he;have hl:=qng e.2.2.2.2 n (b,a);have hl:(yO e.2.2.2.2 n (b,a)).length<=b.2.length:=hl;have q2:batT (b.1,yO e.2.2.2.2 n (b,a))=true:=q2;rw [Bool.not_false,cT,q38 _ (by show (yO _ _ _).length<=_; omega)]
   unfold btO;rw [if_pos q2];simp only [oB];have hfr:frO (bOf (bTL (b.1,yO e.2.2.2.2 n (b,a))))=(bOf (batL (b.1,yO e.2.2.2.2 n (b,a))),true):=q9C (q6R q2);rw [q18,hfr,kl];simp only [oB,cT];rw [ih _ (by rw [length_append,length_singleton]; omega),hpos,filterMap_cons,q1,append_assoc]
   rfl
section
variable {e:Eng} {ini:List Nat} {top act:Nat}
theorem qfd (C:Clean e.1 ((ini++[top])++[act])) (hdir:e.2.2.2.2=dirD e.1 ((ini++[top])++[act])) (hdl:e.2.2.2.2.length<=100000000):∀ (r:List Nat) (i:Nat) (acc:List Act),(ini++[top]).drop i=r->i<=(ini++[top]).length->acc.length<=20000 * i+1->
  q0s (natI (ini++[top])) (top:Int) acc (i:Int) e.1 e.2.1 e.2.2.1 e.2.2.2.1 e.2.2.2.2=some ((endA e ini top (acc++addA (yM e.1 e.2.2.2.2 r)),true),())
 | [],i,acc,hd,hi,ha=>by
  have:=drop_eq_nil_iff.1 hd;have hlen:=jU C.segs;have hol:(ini++[top]).length=ini.length+1:=by rw [length_append,length_singleton]
  have hls:((ini++[top])++[act]).length=ini.length+2:=by rw [length_append,length_singleton,hol]
  have hll:(natI (ini++[top])).length=ini.length+1:=by unfold natI; rw [length_map,hol]
  have htop:top < 100:=(C.mem.1 (by simp)).1
  rw [q6Z,hll];have k1:decide ((i:Int) < ((ini.length+1:Nat):Int))=false:=dYF (by omega)
  have kl:lim (acc.length+2) 56=true:=qJ (by omega)
  rw [k1,cF,wH,zl htop];simp only [oB];rw [kl,cT];refine (qrk ini top (by omega) (fun n hn=>(C.mem.1 (by simp [hn])).1) ini 0 _ rfl (zero_le _) (by rw [length_append]; simp only [length_cons,length_nil]; omega)).trans ?_
  unfold endA yM addA;rw [flatMap_nil,map_nil,append_nil,append_assoc]; rfl
 | n::r,i,acc,hd,hi,ha=>by
  obtain ⟨e1,hlt,e2⟩:=qK 0 hd;have hlen:=jU C.segs;have hol:(ini++[top]).length=ini.length+1:=by rw [length_append,length_singleton]
  have hls:((ini++[top])++[act]).length=ini.length+2:=by rw [length_append,length_singleton,hol]
  have hll:(natI (ini++[top])).length=(ini++[top]).length:=length_map ..;have hnl:n∈(ini++[top])++[act]:=List.mem_append_left _ (yL hd);have hn:=(C.mem.1 hnl).1;have hh:=(C.mem.1 hnl).2.1;have hl30:=C.len;have eI:(natI (ini++[top])).getD i 0=(n:Int):=by rw [zh hlt,e1]
  rw [q6Z,hll];have k1:decide ((i:Int) < ((ini++[top]).length:Int))=true:=dYT (by omega)
  have k2:decide (0<=(i:Int))=true:=dYT (by omega)
  rw [k1,k2];simp only [Bool.and_self,cT,toNat_natCast,eI,wH,zl hn,oB];rw [q1F e.1 (by omega)]
  simp only [oB];rw [jH n (by omega)]
  simp only [oB,qh8 hn hh];have hrs:(rsO n (faO e.1 (nmL n)).1).1=((hdD e.1 n:Nat):Int):=by
   rw [(qdE n _).2,<- q8o hn hh]; rfl
  have hhd:=qdg e.1 n;rw [hrs,q1V];have hht:htO (n:Int) ((hdD e.1 n:Nat):Int)=(bOf (qU n (hdD e.1 n)),true):=by
   unfold htO;rw [if_pos (by omega)]; rfl
  rw [hht];simp only [oB];have hst:((bOf (qU n (hdD e.1 n))).size:Int)=((wo e.1 n:Nat):Int):=by rw [qD]; rfl
  rw [hst];have hbl:=q1X e.1 (show n<=99 by omega)
  have hs8:wo e.1 n=8:=q1v hn (by omega)
  refine (qeX e _ C hdir hdl (ini++[top]) (top:Int) n i hlt e1 (by omega) (batD e.1 n) (by omega) (batD e.1 n) (wo e.1 n) 0 acc rfl (zero_le _) (fun p hp=>hp) q4f (by omega) (by omega)).trans ?_
  have hkl:=qiR e.1 e.2.2.2.2 n (by omega)
  have hkN:(posB (wo e.1 n) (batD e.1 n)).filterMap (j5 e.2.2.2.2 n)=q3A e.1 e.2.2.2.2 n:=rfl;rw [hkN];refine (qfd C hdir hdl r (i+1) _ e2 hlt (by rw [length_append,qoT]; omega)).trans ?_
  have:yM e.1 e.2.2.2.2 (n::r)=q3A e.1 e.2.2.2.2 n++yM e.1 e.2.2.2.2 r:=rfl;rw [this,qpv,append_assoc]
end
theorem q5x (e:Eng) (hn:e.1.length<=2000000):q3b e=some (maO e,()):=by
 rw [qhA,q0F e.1 (by omega),q6k e hn]
 simp only [oB];by_cases h:eOkP e
 ·obtain ⟨r1,r2,C,hact,hq,hdir,_⟩:=jJ h;have hsg:sgO e.1=(natI (segN e.1),true):=by unfold sgO; rw [C.segs]
  have hll:(natI (segN e.1)).length=(segN e.1).length:=length_map ..;rw [dYT h,hsg];simp only [Bool.not_true,cF,hll];by_cases h2:2<=(segN e.1).length
  ·rw [dYF (show ¬ ((segN e.1).length:Int) < 2 by omega),cF]
   obtain ⟨ini,top,act,hl⟩:=qdj h2;rw [q6A h hl];rw [hl] at C hdir ⊢;have hlen:=jU C.segs;have hol:(ini++[top]).length=ini.length+1:=by rw [length_append,length_singleton]
   have hls:((ini++[top])++[act]).length=ini.length+2:=by rw [length_append,length_singleton,hol]
   have htop:top < 100:=(C.mem.1 (by simp)).1
   have w1:w64 ((((ini++[top])++[act]).length:Int) - 1)=((ini.length+1:Nat):Int):=(qg (by omega) (by omega)).trans (by omega)
   rw [w1];have t0:toNat 0=0:=rfl;have w2:w64 ((((toNat ((ini.length+1:Nat):Int)) - toNat 0:Nat):Int) - 1)=((ini.length:Nat):Int):=by
    rw [toNat_natCast,t0];exact (qg (by omega) (by omega)).trans (by omega)
   rw [w2];simp only [toNat_natCast,t0];rw [show decide ((0:Int)<=0)=true from rfl,dYT (show (0:Int)<=((ini.length+1:Nat):Int) by omega),dYT (show ((ini.length+1:Nat):Int)<=(((ini++[top])++[act]).length:Int) by omega),dYT (show (0:Int)<=((ini.length:Nat):Int) by omega),dYT (show ((ini.length:Nat):Int) < ((ini.length+1 - 0:Nat):Int) by omega)]
   simp only [Bool.and_self,cT];have eT:(natI ((ini++[top])++[act])).getD (0+ini.length) 0=(top:Int):=by
    rw [zero_add,zh (by omega),getD_eq_getElem?_getD,List.getElem?_append_left (by omega),List.getElem?_append_right (le_refl _),Nat.sub_self]; rfl
   rw [eT,q1V];simp only [oB];have hht:htO (top:Int) (top:Int)=(bOf (qU top top),true):=by
    unfold htO;rw [if_pos (by omega)]; rfl
   rw [hht];have htk:take (ini.length+1 - 0) (drop 0 (natI ((ini++[top])++[act])))=natI (ini++[top]):=by
    show take (ini.length+1) (natI ((ini++[top])++[act]))=_;unfold natI;rw [List.map_append];have:(map (fun n:Nat=>(n:Int)) (ini++[top])).length=ini.length+1:=by rw [length_map,hol]
    rw [<- this,List.take_left]
   rw [htk];obtain ⟨_,f2,_⟩:=q6w h;have:=qfd C hdir (by omega) (ini++[top]) 0 [adA qB (bOf (qU top top))] rfl (zero_le _) (le_refl _)
   rw [qkl e _ hdir] at this;exact this
  ·rw [dYT (show ((segN e.1).length:Int) < 2 by omega),cT,q9i (fun c=>h2 c.2)]
 ·rw [dYF h,q9i (fun c=>h c.1)]; rfl
theorem qgH {d:List Fil} {dir:List Spt}:∀ {old:List Nat},(∀ n∈old,n < 100)->(yM d dir old).length<=20000 * old.length
 | [],_=>le_refl _
 | n::old,h=>by
  have h1:=qgH (d:=d) (dir:=dir) fun x hx=>h x (mem_cons_of_mem _ hx)
  have hn:=h n (mem_cons_self ..);have h2:=qiR d dir n (by omega)
  have:yM d dir (n::old)=q3A d dir n++yM d dir old:=rfl;rw [this,length_append,length_cons]; omega
end Go.Den.S
namespace Go.Den.S
open Go Go.Den
set_option maxRecDepth 4000
theorem qeZ:∀ (n:Nat) (x:Int) (s:BA),0<=x->x < 10 ^ n->x<=9223372036854775807->s.size+n<=1000000->∃ r,q3x x s=some (r,())
 | 0,x,s,h0,h1,hx,hs=>by
  rw [q81];have:¬ x > 0:=by simp at h1; omega
  have e1:(c_m:BA).size=1:=rfl;simp only [dYF this,cF,yA (show c_m.size+s.size<=9223372036854775807 by omega),cT]
  exact ⟨_,rfl⟩
 | n+1,x,s,h0,h1,hx,hs=>by
  rw [q81];by_cases h:x > 0
  ·have hd:w64 (tdiv x 10)=x / 10:=by
    show IntKind.i64.wrap _=_;rw [Int.tdiv_eq_ediv_of_nonneg h0,qg (by omega) (by omega)]
   have e1:∀ (b:UInt8),(⟨toArray [b]⟩:BA).size=1:=fun _=>rfl
   simp only [dYT h,cT,map_cons,map_nil,e1,yA (show 1+s.size<=9223372036854775807 by omega),hd]
   refine qeZ n (x / 10) _ (by omega) ?_ (by omega) ?_
   ·rw [Int.pow_succ] at h1; omega
   ·rw [ByteArray.size_append,e1]; omega
  ·have e1:(c_m:BA).size=1:=rfl;simp only [dYF h,cF,yA (show c_m.size+s.size<=9223372036854775807 by omega),cT]
   exact ⟨_,rfl⟩
theorem qny (k:Int) (h:k<=9223372036854775807):∃ r,yK k=some (r,()):=by
 rw [qiE];by_cases h0:k<=0
 ·exact ⟨_,by simp only [dYT h0,cT]; rfl⟩
 ·simp only [dYF h0,cF];exact qeZ 19 k _ (by omega) (by omega) h (by decide)
noncomputable def mkT (k:Int):BA:=((yK k).getD (eB,())).1
theorem wW (k:Int) (h:k<=9223372036854775807):yK k=some (mkT k,()):=by
 obtain ⟨r,hr⟩:=qny k h;unfold mkT;rw [hr]; rfl
def q3w (x:Fil):Nat:=x.1.size+x.2.1.size
theorem qtq (x:Fil) (left:Int) (h0:0<=left) (h1:left<=2097152) (hs:x.1.size<=9223372036854775807/\x.2.1.size<=9223372036854775807):qcT x left=some (szv (q3w x) left,()):=by
 have ew:q3w x=x.1.size+x.2.1.size:=rfl;obtain ⟨s0,s1⟩:=hs;rw [qlI];rw [show w64 (left - (x.1.size:Int))=left - (x.1.size:Int) from qg (by omega) (by omega)]
 by_cases h2:left - (x.1.size:Int) < 0
 ·rw [q0j (by omega)]
  simp only [dYT h2,cT]
 simp only [dYF h2,cF];rw [show w64 (left - (x.1.size:Int) - (x.2.1.size:Int))=left - (x.1.size:Int) - (x.2.1.size:Int) from qg (by omega) (by omega)]
 by_cases h3:left - (x.1.size:Int) - (x.2.1.size:Int) < 0
 ·rw [q0j (by omega)]
  simp only [dYT h3,cT]
 simp only [dYF h3,cF];rw [q7j (by omega)]
 congr 2; omega
theorem qsb (a:List Fil) (left:Int) (h0:0<=left) (h1:left<=2097152) (hl:a.length<=9223372036854775807) (hs:∀ x∈a,x.1.size<=9223372036854775807/\x.2.1.size<=9223372036854775807) :
  qb5 a left=some (szv (wl q3w a) left,()):=by
 rw [qjX];have e:w64 (left - (a.length:Int))=left - (a.length:Int):=qg (by omega) (by omega)
 rw [e];rw [show wl q3w a=a.length+(a.map q3w).sum from rfl]
 by_cases h:left - (a.length:Int) < 0
 ·simp only [dYT h,cT];unfold szv;rw [if_neg (by omega)]
 ·simp only [dYF h,cF];have key:=q8L a ((eB,(eB,0)):Fil) (fun i r=>∀ left:Int,0<=left->left<=2097152->q4r a left (i:Int)=some (szv ((r.map q3w).sum) left,())) (fun left h0 h1=>by
   rw [q9s];simp [szv,h0]) (fun i x r hi hx hm ih left h0 h1=>by
   rw [q9s];have k1:decide ((i:Int) < (a.length:Int))=true:=dYT (by omega)
   have k2:decide (0<=(i:Int))=true:=dYT (by omega)
   have k4:w64 ((i:Int)+1)=((i+1:Nat):Int):=qw (by omega)
   simp only [k1,k2,Bool.and_self,cT,toNat_natCast,hx,k4,map_cons,List.sum_cons,pmk];rw [qtq x left h0 h1 (hs x hm),oB];by_cases hn:(q3w x:Int)<=left
   ·rw [q7j hn];simp only [dYF (show ¬ left - (q3w x:Int) < 0 by omega),cF]
    rw [ih _ (by omega) (by omega)]
    unfold szv;split<;>split<;>first | rfl | omega | (congr 2; omega)
   ·rw [q0j (by omega),q0j (by omega)]
    rfl)
  refine (key _ (by omega) (by omega)).trans ?_
  unfold szv;split<;>split<;>first | rfl | omega | (congr 2; omega)
theorem qrY (a:List Fil) (ha:a.length<=2097152):qbn a=some (a,()):=by
 rw [qjA];have e:lim a.length 40=true:=qJ (by omega)
 simp only [Int.le_refl,decide_true,Int.natCast_nonneg,toNat_natCast,e,Bool.and_self,cT];refine (q9D (fun out i=>q0Y a out i) a ((eB,(eB,0)):Fil) (replicate a.length (eB,(eB,0))) (by simp) fun out i hi' hl=>?_).trans ?_
 ·show q0Y a out i=_;rw [q9g];have e:w64 ((i:Int)+1)=(i:Int)+1:=qg (by omega) (by omega)
  have h1:decide ((i:Int) < (a.length:Int))=true:=dYT (by omega)
  have h2:decide ((i:Int) < (out.length:Int))=true:=dYT (by omega)
  have h3:decide (0<=(i:Int))=true:=dYT (by omega)
  simp only [h1,h2,h3,e,Bool.and_self,cT,toNat_natCast,qlU,oB,pmk]
 ·show q0Y a a (a.length:Int)=_;rw [q9g];simp
theorem qtw (a b:Fil):qcZ a b=some (decide (a=b),()):=by
 rw [qlV];obtain ⟨a0,a1,a2⟩:=a;obtain ⟨b0,b1,b2⟩:=b;simp only [y8,Prod.mk.injEq,q8m];by_cases h0:a0=b0<;>by_cases h1:a1=b1<;>by_cases h2:a2=b2<;>simp [h0,h1,h2]
theorem qsv (a b:List Fil) (ha:a.length<=200000000):qc0 a b=some (decide (a=b),()):=by
 rw [qk0];by_cases hl:a.length=b.length
 ·have e:((a.length:Int) != (b.length:Int))=false:=by simp [hl]
  simp only [e,cF];refine q8v (fun i=>q4l a b i) a b ((eB,(eB,0)):Fil) hl (fun i hi'=>?_) ?_
  ·rw [q96];have e:w64 ((i:Int)+1)=(i:Int)+1:=qg (by omega) (by omega)
   have h1:decide ((i:Int) < (a.length:Int))=true:=dYT (by omega)
   have h2:decide ((i:Int) < (b.length:Int))=true:=dYT (by omega)
   have h3:decide (0<=(i:Int))=true:=dYT (by omega)
   simp only [h1,h2,h3,e,Bool.and_self,cT,toNat_natCast,pmk];rw [qtw,oB];by_cases h:a.getD i (eB,(eB,0))=b.getD i (eB,(eB,0))
   ·rw [dYT h,if_pos h,Bool.not_true,cF]
   ·rw [dYF h,if_neg h,Bool.not_false,cT]
  ·rw [q96];simp
 ·have e:((a.length:Int) != (b.length:Int))=true:=by simp; omega
  simp only [e,cT];rw [dYF fun h=>hl (by rw [h])]
noncomputable def mFile (k:Int):Fil:=(mkT k,(mkT (k+1),k+2))
noncomputable def q02 (k:Int):Nat->List Fil
 | 0=>[]
 | n+1=>mFile k::q02 (k+3) n
theorem qp3 (a:List Fil) (k:Int) (h0:0<=k) (hl:a.length<=200000000) (hk:k<=1000000000):q8t a k=some (k+3 * (a.length:Int),q02 k a.length,()):=by
 rw [qhu];have key:∀ (r pre:List Fil) (k:Int),0<=k->k+3 * (r.length:Int)<=2000000000->pre.length+r.length<=200000000->q36 k (pre.length:Int) (pre++r)=some (k+3 * (r.length:Int),pre++q02 k r.length,()):=by
  intro r;induction r with
  | nil=>
   intro pre k h0 hk hp;rw [q7f];have k1:decide ((pre.length:Int) < ((pre++([]:List Fil)).length:Int))=false:=dYF (by simp)
   simp only [k1,cF];simp [q02]
  | cons x r ih=>
   intro pre k h0 hk hp;simp only [length_cons] at hp hk;have hset:∀ x y:Fil,(pre++x::r).set pre.length y=pre++y::r:=fun x y=>by simp
   have hget:∀ x:Fil,(pre++x::r).getD pre.length (eB,(eB,0))=x:=fun x=>by simp [getD_eq_getElem?_getD]
   have hlt:∀ x:Fil,decide ((pre.length:Int) < ((pre++x::r).length:Int))=true:=fun x=>dYT (by simp; omega)
   have k2:decide (0<=(pre.length:Int))=true:=dYT (by omega)
   have k3:w64 ((pre.length:Int)+1)=((pre.length+1:Nat):Int):=qw (by omega)
   have w1:w64 (k+1)=k+1:=(qg (by omega) (by omega)).trans (by omega)
   have w2:w64 (k+1+1)=k+2:=(qg (by omega) (by omega)).trans (by omega)
   have w3:w64 (k+2+1)=k+3:=(qg (by omega) (by omega)).trans (by omega)
   rw [q7f];simp only [hlt,k2,k3,w1,w2,w3,Bool.and_self,cT,toNat_natCast,wW k (by omega),wW (k+1) (by omega),oB,hset,hget]
   have:=ih (pre++[mFile k]) (k+3) (by omega) (by omega) (by simp only [length_append,length_singleton]; omega)
   rw [show (pre++[mFile k]).length=pre.length+1 by simp,append_assoc,singleton_append] at this
   refine this.trans ?_;rw [length_cons,q02,append_assoc,singleton_append];rw [show k+3+3 * (r.length:Int)=k+3 * ((r.length+1:Nat):Int) by omega]
 have:=key a [] k h0 (by omega) (by simpa using hl)
 simpa using this
theorem qpA (n:Nat) (k:Int) (h0:0<=k) (hl:n<=200000000) (hk:k<=1000000000):q8G (q02 k n) k=some (k+3 * (n:Int),()):=by
 rw [qhy];have key:∀ (n:Nat) (pre:List Fil) (k:Int),0<=k->k+3 * (n:Int)<=2000000000->pre.length+n<=200000000->q2V (pre++q02 k n) k (pre.length:Int)=some (k+3 * (n:Int),()):=by
  intro n;induction n with
  | zero=>
   intro pre k h0 hk hp;rw [q7c];have k1:decide ((pre.length:Int) < ((pre++q02 k 0).length:Int))=false:=dYF (by simp [q02])
   simp only [k1,cF];simp
  | succ n ih=>
   intro pre k h0 hk hp;rw [q7c];have k1:decide ((pre.length:Int) < ((pre++q02 k (n+1)).length:Int))=true:=dYT (by simp [q02]; omega)
   have k2:decide (0<=(pre.length:Int))=true:=dYT (by omega)
   have k3:w64 ((pre.length:Int)+1)=((pre.length+1:Nat):Int):=qw (by omega)
   have hg:(pre++q02 k (n+1)).getD pre.length (eB,(eB,0))=mFile k:=by simp [getD_eq_getElem?_getD,q02]
   have w1:w64 (k+1)=k+1:=(qg (by omega) (by omega)).trans (by omega)
   have w2:w64 (k+1+1)=k+2:=(qg (by omega) (by omega)).trans (by omega)
   have w3:w64 (k+2+1)=k+3:=(qg (by omega) (by omega)).trans (by omega)
   simp only [k1,k2,k3,w1,w2,w3,Bool.and_self,cT,toNat_natCast,hg,show (mFile k).1=mkT k from rfl,show (mFile k).2.1=mkT (k+1) from rfl,show (mFile k).2.2=k+2 from rfl,wW k (by omega),wW (k+1) (by omega),oB,y8,decide_true,Bool.not_true,cF,bne_self_eq_false,beq_self_eq_true]
   have e':pre++q02 k (n+1)=(pre++[mFile k])++q02 (k+3) n:=by simp [q02]
   rw [e'];have:=ih (pre++[mFile k]) (k+3) (by omega) (by omega) (by simp only [length_append,length_singleton]; omega)
   rw [show (pre++[mFile k]).length=pre.length+1 by simp] at this
   refine this.trans ?_;rw [show k+3+3 * (n:Int)=k+3 * ((n+1:Nat):Int) by omega]
 have:=key n [] k h0 (by omega) (by simpa using hl)
 simpa using this
def q5X (x:Spt):Nat:=x.1.size
theorem qtA (x:Spt) (left:Int) (h0:0<=left) (h1:left<=2097152) (hs:x.1.size<=9223372036854775807):qd0 x left=some (szv (q5X x) left,()):=by
 have ew:q5X x=x.1.size:=rfl;have s0:=hs;rw [ql5];rw [show w64 (left - (x.1.size:Int))=left - (x.1.size:Int) from qg (by omega) (by omega)]
 by_cases h2:left - (x.1.size:Int) < 0
 ·rw [q0j (by omega)]
  simp only [dYT h2,cT]
 simp only [dYF h2,cF];rw [q7j (by omega)]
 rw [ew]
theorem qrN (a:List Spt) (left:Int) (h0:0<=left) (h1:left<=2097152) (hl:a.length<=9223372036854775807) (hs:∀ x∈a,x.1.size<=9223372036854775807) :
  qba a left=some (szv (wl q5X a) left,()):=by
 rw [qkO];have e:w64 (left - (a.length:Int))=left - (a.length:Int):=qg (by omega) (by omega)
 rw [e];rw [show wl q5X a=a.length+(a.map q5X).sum from rfl]
 by_cases h:left - (a.length:Int) < 0
 ·simp only [dYT h,cT];unfold szv;rw [if_neg (by omega)]
 ·simp only [dYF h,cF];have key:=q8L a ((eB,(0,(0,0))):Spt) (fun i r=>∀ left:Int,0<=left->left<=2097152->q4A a left (i:Int)=some (szv ((r.map q5X).sum) left,())) (fun left h0 h1=>by
   rw [q9w];simp [szv,h0]) (fun i x r hi hx hm ih left h0 h1=>by
   rw [q9w];have k1:decide ((i:Int) < (a.length:Int))=true:=dYT (by omega)
   have k2:decide (0<=(i:Int))=true:=dYT (by omega)
   have k4:w64 ((i:Int)+1)=((i+1:Nat):Int):=qw (by omega)
   simp only [k1,k2,Bool.and_self,cT,toNat_natCast,hx,k4,map_cons,List.sum_cons,pmk];rw [qtA x left h0 h1 (hs x hm),oB];by_cases hn:(q5X x:Int)<=left
   ·rw [q7j hn];simp only [dYF (show ¬ left - (q5X x:Int) < 0 by omega),cF]
    rw [ih _ (by omega) (by omega)]
    unfold szv;split<;>split<;>first | rfl | omega | (congr 2; omega)
   ·rw [q0j (by omega),q0j (by omega)]
    rfl)
  refine (key _ (by omega) (by omega)).trans ?_
  unfold szv;split<;>split<;>first | rfl | omega | (congr 2; omega)
theorem qrV (a:List Spt) (ha:a.length<=2097152):qbM a=some (a,()):=by
 rw [qkE];have e:lim a.length 40=true:=qJ (by omega)
 simp only [Int.le_refl,decide_true,Int.natCast_nonneg,toNat_natCast,e,Bool.and_self,cT];refine (q9D (fun out i=>q0X a out i) a ((eB,(0,(0,0))):Spt) (replicate a.length (eB,(0,(0,0)))) (by simp) fun out i hi' hl=>?_).trans ?_
 ·show q0X a out i=_;rw [q91];have e:w64 ((i:Int)+1)=(i:Int)+1:=qg (by omega) (by omega)
  have h1:decide ((i:Int) < (a.length:Int))=true:=dYT (by omega)
  have h2:decide ((i:Int) < (out.length:Int))=true:=dYT (by omega)
  have h3:decide (0<=(i:Int))=true:=dYT (by omega)
  simp only [h1,h2,h3,e,Bool.and_self,cT,toNat_natCast,qla,oB,pmk]
 ·show q0X a a (a.length:Int)=_;rw [q91];simp
theorem qte (a b:Spt):qcQ a b=some (decide (a=b),()):=by
 rw [qlf];obtain ⟨a0,a1,a2,a3⟩:=a;obtain ⟨b0,b1,b2,b3⟩:=b;simp only [y8,Prod.mk.injEq,q8m];by_cases h0:a0=b0<;>by_cases h1:a1=b1<;>by_cases h2:a2=b2<;>by_cases h3:a3=b3<;>simp [h0,h1,h2,h3]
theorem qrD (a b:List Spt) (ha:a.length<=200000000):qbQ a b=some (decide (a=b),()):=by
 rw [qkm];by_cases hl:a.length=b.length
 ·have e:((a.length:Int) != (b.length:Int))=false:=by simp [hl]
  simp only [e,cF];refine q8v (fun i=>q4q a b i) a b ((eB,(0,(0,0))):Spt) hl (fun i hi'=>?_) ?_
  ·rw [q9j];have e:w64 ((i:Int)+1)=(i:Int)+1:=qg (by omega) (by omega)
   have h1:decide ((i:Int) < (a.length:Int))=true:=dYT (by omega)
   have h2:decide ((i:Int) < (b.length:Int))=true:=dYT (by omega)
   have h3:decide (0<=(i:Int))=true:=dYT (by omega)
   simp only [h1,h2,h3,e,Bool.and_self,cT,toNat_natCast,pmk];rw [qte,oB];by_cases h:a.getD i (eB,(0,(0,0)))=b.getD i (eB,(0,(0,0)))
   ·rw [dYT h,if_pos h,Bool.not_true,cF]
   ·rw [dYF h,if_neg h,Bool.not_false,cT]
  ·rw [q9j];simp
 ·have e:((a.length:Int) != (b.length:Int))=true:=by simp; omega
  simp only [e,cT];rw [dYF fun h=>hl (by rw [h])]
noncomputable def q7g (k:Int):Spt:=(mkT k,(k+1,(k+2,k+3)))
noncomputable def q07 (k:Int):Nat->List Spt
 | 0=>[]
 | n+1=>q7g k::q07 (k+4) n
theorem qot (a:List Spt) (k:Int) (h0:0<=k) (hl:a.length<=200000000) (hk:k<=1000000000):q8M a k=some (k+4 * (a.length:Int),q07 k a.length,()):=by
 rw [qhg];have key:∀ (r pre:List Spt) (k:Int),0<=k->k+4 * (r.length:Int)<=2000000000->pre.length+r.length<=200000000->q37 k (pre.length:Int) (pre++r)=some (k+4 * (r.length:Int),pre++q07 k r.length,()):=by
  intro r;induction r with
  | nil=>
   intro pre k h0 hk hp;rw [q7H];have k1:decide ((pre.length:Int) < ((pre++([]:List Spt)).length:Int))=false:=dYF (by simp)
   simp only [k1,cF];simp [q07]
  | cons x r ih=>
   intro pre k h0 hk hp;simp only [length_cons] at hp hk;have hset:∀ x y:Spt,(pre++x::r).set pre.length y=pre++y::r:=fun x y=>by simp
   have hget:∀ x:Spt,(pre++x::r).getD pre.length (eB,(0,(0,0)))=x:=fun x=>by simp [getD_eq_getElem?_getD]
   have hlt:∀ x:Spt,decide ((pre.length:Int) < ((pre++x::r).length:Int))=true:=fun x=>dYT (by simp; omega)
   have k2:decide (0<=(pre.length:Int))=true:=dYT (by omega)
   have k3:w64 ((pre.length:Int)+1)=((pre.length+1:Nat):Int):=qw (by omega)
   have w1:w64 (k+1)=k+1:=(qg (by omega) (by omega)).trans (by omega)
   have w2:w64 (k+1+1)=k+2:=(qg (by omega) (by omega)).trans (by omega)
   have w3:w64 (k+2+1)=k+3:=(qg (by omega) (by omega)).trans (by omega)
   have w4:w64 (k+3+1)=k+4:=(qg (by omega) (by omega)).trans (by omega)
   rw [q7H];simp only [hlt,k2,k3,w1,w2,w3,w4,Bool.and_self,cT,toNat_natCast,wW k (by omega),oB,hset,hget]
   have:=ih (pre++[q7g k]) (k+4) (by omega) (by omega) (by simp only [length_append,length_singleton]; omega)
   rw [show (pre++[q7g k]).length=pre.length+1 by simp,append_assoc,singleton_append] at this
   refine this.trans ?_;rw [length_cons,q07,append_assoc,singleton_append];rw [show k+4+4 * (r.length:Int)=k+4 * ((r.length+1:Nat):Int) by omega]
 have:=key a [] k h0 (by omega) (by simpa using hl)
 simpa using this
theorem qoC (n:Nat) (k:Int) (h0:0<=k) (hl:n<=200000000) (hk:k<=1000000000):q8p (q07 k n) k=some (k+4 * (n:Int),()):=by
 rw [qhe];have key:∀ (n:Nat) (pre:List Spt) (k:Int),0<=k->k+4 * (n:Int)<=2000000000->pre.length+n<=200000000->q33 (pre++q07 k n) k (pre.length:Int)=some (k+4 * (n:Int),()):=by
  intro n;induction n with
  | zero=>
   intro pre k h0 hk hp;rw [q7m];have k1:decide ((pre.length:Int) < ((pre++q07 k 0).length:Int))=false:=dYF (by simp [q07])
   simp only [k1,cF];simp
  | succ n ih=>
   intro pre k h0 hk hp;rw [q7m];have k1:decide ((pre.length:Int) < ((pre++q07 k (n+1)).length:Int))=true:=dYT (by simp [q07]; omega)
   have k2:decide (0<=(pre.length:Int))=true:=dYT (by omega)
   have k3:w64 ((pre.length:Int)+1)=((pre.length+1:Nat):Int):=qw (by omega)
   have hg:(pre++q07 k (n+1)).getD pre.length (eB,(0,(0,0)))=q7g k:=by simp [getD_eq_getElem?_getD,q07]
   have w1:w64 (k+1)=k+1:=(qg (by omega) (by omega)).trans (by omega)
   have w2:w64 (k+1+1)=k+2:=(qg (by omega) (by omega)).trans (by omega)
   have w3:w64 (k+2+1)=k+3:=(qg (by omega) (by omega)).trans (by omega)
   have w4:w64 (k+3+1)=k+4:=(qg (by omega) (by omega)).trans (by omega)
   simp only [k1,k2,k3,w1,w2,w3,w4,Bool.and_self,cT,toNat_natCast,hg,show (q7g k).1=mkT k from rfl,show (q7g k).2.1=k+1 from rfl,show (q7g k).2.2.1=k+2 from rfl,show (q7g k).2.2.2=k+3 from rfl,wW k (by omega),oB,y8,decide_true,Bool.not_true,cF,bne_self_eq_false,beq_self_eq_true]
   have e':pre++q07 k (n+1)=(pre++[q7g k])++q07 (k+4) n:=by simp [q07]
   rw [e'];have:=ih (pre++[q7g k]) (k+4) (by omega) (by omega) (by simp only [length_append,length_singleton]; omega)
   rw [show (pre++[q7g k]).length=pre.length+1 by simp] at this
   refine this.trans ?_;rw [show k+4+4 * (n:Int)=k+4 * ((n+1:Nat):Int) by omega]
 have:=key n [] k h0 (by omega) (by simpa using hl)
 simpa using this
theorem qql (a b:Chg):q9Y a b=some (decide (a=b),()):=by
 rw [qiK];obtain ⟨a0,a1,a2⟩:=a;obtain ⟨b0,b1,b2⟩:=b;simp only [y8,Prod.mk.injEq,q8m];by_cases h0:a0=b0<;>by_cases h1:a1=b1<;>cases a2<;>cases b2<;>simp [h0,h1]
theorem qg5 (a b:List Chg) (ha:a.length<=200000000):q1G a b=some (decide (a=b),()):=by
 rw [qhC];by_cases hl:a.length=b.length
 ·have e:((a.length:Int) != (b.length:Int))=false:=by simp [hl]
  simp only [e,cF];refine q8v (fun i=>q30 a b i) a b ((eB,(eB,false)):Chg) hl (fun i hi'=>?_) ?_
  ·rw [q7D];have e:w64 ((i:Int)+1)=(i:Int)+1:=qg (by omega) (by omega)
   have h1:decide ((i:Int) < (a.length:Int))=true:=dYT (by omega)
   have h2:decide ((i:Int) < (b.length:Int))=true:=dYT (by omega)
   have h3:decide (0<=(i:Int))=true:=dYT (by omega)
   simp only [h1,h2,h3,e,Bool.and_self,cT,toNat_natCast,pmk];rw [qql,oB];by_cases h:a.getD i (eB,(eB,false))=b.getD i (eB,(eB,false))
   ·rw [dYT h,if_pos h,Bool.not_true,cF]
   ·rw [dYF h,if_neg h,Bool.not_false,cT]
  ·rw [q7D];simp
 ·have e:((a.length:Int) != (b.length:Int))=true:=by simp; omega
  simp only [e,cT];rw [dYF fun h=>hl (by rw [h])]
noncomputable def q49 (k:Int):Chg:=(mkT k,(mkT (k+1),(tmod (k+2) 3==0)))
noncomputable def zQ (k:Int):Nat->List Chg
 | 0=>[]
 | n+1=>q49 k::zQ (k+3) n
theorem qdq (a:List Chg) (k:Int) (h0:0<=k) (hl:a.length<=200000000) (hk:k<=1000000000):q3T a k=some (k+3 * (a.length:Int),zQ k a.length,()):=by
 rw [qfs];have key:∀ (r pre:List Chg) (k:Int),0<=k->k+3 * (r.length:Int)<=2000000000->pre.length+r.length<=200000000->q28 k (pre.length:Int) (pre++r)=some (k+3 * (r.length:Int),pre++zQ k r.length,()):=by
  intro r;induction r with
  | nil=>
   intro pre k h0 hk hp;rw [q5S];have k1:decide ((pre.length:Int) < ((pre++([]:List Chg)).length:Int))=false:=dYF (by simp)
   simp only [k1,cF];simp [zQ]
  | cons x r ih=>
   intro pre k h0 hk hp;simp only [length_cons] at hp hk;have hset:∀ x y:Chg,(pre++x::r).set pre.length y=pre++y::r:=fun x y=>by simp
   have hget:∀ x:Chg,(pre++x::r).getD pre.length (eB,(eB,false))=x:=fun x=>by simp [getD_eq_getElem?_getD]
   have hlt:∀ x:Chg,decide ((pre.length:Int) < ((pre++x::r).length:Int))=true:=fun x=>dYT (by simp; omega)
   have k2:decide (0<=(pre.length:Int))=true:=dYT (by omega)
   have k3:w64 ((pre.length:Int)+1)=((pre.length+1:Nat):Int):=qw (by omega)
   have w1:w64 (k+1)=k+1:=(qg (by omega) (by omega)).trans (by omega)
   have w2:w64 (k+1+1)=k+2:=(qg (by omega) (by omega)).trans (by omega)
   have w3:w64 (k+2+1)=k+3:=(qg (by omega) (by omega)).trans (by omega)
   rw [q5S];simp only [hlt,k2,k3,w1,w2,w3,Bool.and_self,cT,toNat_natCast,wW k (by omega),wW (k+1) (by omega),oB,hset,hget]
   have:=ih (pre++[q49 k]) (k+3) (by omega) (by omega) (by simp only [length_append,length_singleton]; omega)
   rw [show (pre++[q49 k]).length=pre.length+1 by simp,append_assoc,singleton_append] at this
   refine this.trans ?_;rw [length_cons,zQ,append_assoc,singleton_append];rw [show k+3+3 * (r.length:Int)=k+3 * ((r.length+1:Nat):Int) by omega]
 have:=key a [] k h0 (by omega) (by simpa using hl)
 simpa using this
theorem quL (a b:Act):qe7 a b=some (decide (a=b),()):=by
 rw [qnz];obtain ⟨a0,a1,a2,a3⟩:=a;obtain ⟨b0,b1,b2,b3⟩:=b;simp only [y8,Prod.mk.injEq,q8m];by_cases h0:a0=b0<;>by_cases h1:a1=b1<;>by_cases h2:a2=b2<;>by_cases h3:a3=b3<;>simp [h0,h1,h2,h3]
theorem qcN (a b:List Act) (ha:a.length<=200000000):jf a b=some (decide (a=b),()):=by
 rw [qlS];by_cases hl:a.length=b.length
 ·have e:((a.length:Int) != (b.length:Int))=false:=by simp [hl]
  simp only [e,cF];refine q8v (fun i=>q5l a b i) a b ((0,(eB,(eB,eB))):Act) hl (fun i hi'=>?_) ?_
  ·rw [qaq];have e:w64 ((i:Int)+1)=(i:Int)+1:=qg (by omega) (by omega)
   have h1:decide ((i:Int) < (a.length:Int))=true:=dYT (by omega)
   have h2:decide ((i:Int) < (b.length:Int))=true:=dYT (by omega)
   have h3:decide (0<=(i:Int))=true:=dYT (by omega)
   simp only [h1,h2,h3,e,Bool.and_self,cT,toNat_natCast,pmk];rw [quL,oB];by_cases h:a.getD i (0,(eB,(eB,eB)))=b.getD i (0,(eB,(eB,eB)))
   ·rw [dYT h,if_pos h,Bool.not_true,cF]
   ·rw [dYF h,if_neg h,Bool.not_false,cT]
  ·rw [qaq];simp
 ·have e:((a.length:Int) != (b.length:Int))=true:=by simp; omega
  simp only [e,cT];rw [dYF fun h=>hl (by rw [h])]
noncomputable def mAct (k:Int):Act:=(k,(mkT (k+1),(mkT (k+2),mkT (k+3))))
noncomputable def q1j (k:Int):Nat->List Act
 | 0=>[]
 | n+1=>mAct k::q1j (k+4) n
theorem q8R (a:List Act) (k:Int) (h0:0<=k) (hl:a.length<=200000000) (hk:k<=1000000000):q2i a k=some (k+4 * (a.length:Int),q1j k a.length,()):=by
 rw [qi1];have key:∀ (r pre:List Act) (k:Int),0<=k->k+4 * (r.length:Int)<=2000000000->pre.length+r.length<=200000000->q3y k (pre.length:Int) (pre++r)=some (k+4 * (r.length:Int),pre++q1j k r.length,()):=by
  intro r;induction r with
  | nil=>
   intro pre k h0 hk hp;rw [q84];have k1:decide ((pre.length:Int) < ((pre++([]:List Act)).length:Int))=false:=dYF (by simp)
   simp only [k1,cF];simp [q1j]
  | cons x r ih=>
   intro pre k h0 hk hp;simp only [length_cons] at hp hk;have hset:∀ x y:Act,(pre++x::r).set pre.length y=pre++y::r:=fun x y=>by simp
   have hget:∀ x:Act,(pre++x::r).getD pre.length (0,(eB,(eB,eB)))=x:=fun x=>by simp [getD_eq_getElem?_getD]
   have hlt:∀ x:Act,decide ((pre.length:Int) < ((pre++x::r).length:Int))=true:=fun x=>dYT (by simp; omega)
   have k2:decide (0<=(pre.length:Int))=true:=dYT (by omega)
   have k3:w64 ((pre.length:Int)+1)=((pre.length+1:Nat):Int):=qw (by omega)
   have w1:w64 (k+1)=k+1:=(qg (by omega) (by omega)).trans (by omega)
   have w2:w64 (k+1+1)=k+2:=(qg (by omega) (by omega)).trans (by omega)
   have w3:w64 (k+2+1)=k+3:=(qg (by omega) (by omega)).trans (by omega)
   have w4:w64 (k+3+1)=k+4:=(qg (by omega) (by omega)).trans (by omega)
   rw [q84];simp only [hlt,k2,k3,w1,w2,w3,w4,Bool.and_self,cT,toNat_natCast,wW (k+1) (by omega),wW (k+2) (by omega),wW (k+3) (by omega),oB,hset,hget]
   have:=ih (pre++[mAct k]) (k+4) (by omega) (by omega) (by simp only [length_append,length_singleton]; omega)
   rw [show (pre++[mAct k]).length=pre.length+1 by simp,append_assoc,singleton_append] at this
   refine this.trans ?_;rw [length_cons,q1j,append_assoc,singleton_append];rw [show k+4+4 * (r.length:Int)=k+4 * ((r.length+1:Nat):Int) by omega]
 have:=key a [] k h0 (by omega) (by simpa using hl)
 simpa using this
theorem qd9 (n:Nat) (k:Int) (h0:0<=k) (hl:n<=200000000) (hk:k<=1000000000):q0y (q1j k n) k=some (k+4 * (n:Int),()):=by
 rw [qiP];have key:∀ (n:Nat) (pre:List Act) (k:Int),0<=k->k+4 * (n:Int)<=2000000000->pre.length+n<=200000000->q3P (pre++q1j k n) k (pre.length:Int)=some (k+4 * (n:Int),()):=by
  intro n;induction n with
  | zero=>
   intro pre k h0 hk hp;rw [q7S];have k1:decide ((pre.length:Int) < ((pre++q1j k 0).length:Int))=false:=dYF (by simp [q1j])
   simp only [k1,cF];simp
  | succ n ih=>
   intro pre k h0 hk hp;rw [q7S];have k1:decide ((pre.length:Int) < ((pre++q1j k (n+1)).length:Int))=true:=dYT (by simp [q1j]; omega)
   have k2:decide (0<=(pre.length:Int))=true:=dYT (by omega)
   have k3:w64 ((pre.length:Int)+1)=((pre.length+1:Nat):Int):=qw (by omega)
   have hg:(pre++q1j k (n+1)).getD pre.length (0,(eB,(eB,eB)))=mAct k:=by simp [getD_eq_getElem?_getD,q1j]
   have w1:w64 (k+1)=k+1:=(qg (by omega) (by omega)).trans (by omega)
   have w2:w64 (k+1+1)=k+2:=(qg (by omega) (by omega)).trans (by omega)
   have w3:w64 (k+2+1)=k+3:=(qg (by omega) (by omega)).trans (by omega)
   have w4:w64 (k+3+1)=k+4:=(qg (by omega) (by omega)).trans (by omega)
   simp only [k1,k2,k3,w1,w2,w3,w4,Bool.and_self,cT,toNat_natCast,hg,show (mAct k).1=k from rfl,show (mAct k).2.1=mkT (k+1) from rfl,show (mAct k).2.2.1=mkT (k+2) from rfl,show (mAct k).2.2.2=mkT (k+3) from rfl,wW (k+1) (by omega),wW (k+2) (by omega),wW (k+3) (by omega),oB,y8,decide_true,Bool.not_true,cF,bne_self_eq_false,beq_self_eq_true]
   have e':pre++q1j k (n+1)=(pre++[mAct k])++q1j (k+4) n:=by simp [q1j]
   rw [e'];have:=ih (pre++[mAct k]) (k+4) (by omega) (by omega) (by simp only [length_append,length_singleton]; omega)
   rw [show (pre++[mAct k]).length=pre.length+1 by simp] at this
   refine this.trans ?_;rw [show k+4+4 * (n:Int)=k+4 * ((n+1:Nat):Int) by omega]
 have:=key n [] k h0 (by omega) (by simpa using hl)
 simpa using this
end Go.Den.S
namespace Go.Den.S
open Go Go.Den
open Classical
set_option maxRecDepth 4000
theorem qtE (d:List Fil) (left:Int) (h0:0<=left) (h1:left<=2097152) (hl:d.length<=9223372036854775807) (hs:∀ x∈d,x.1.size<=9223372036854775807/\x.2.1.size<=9223372036854775807):qcW d left=some (szv (wl q3w d) left,()):=by
 rw [qlP,qsb d left h0 h1 hl hs,oB];by_cases h:szv (wl q3w d) left < 0
 ·rw [dYT h,cT,q0j (qle h h0)]
 ·rw [dYF h,cF]
def wEng (e:Eng):Nat:=wl q3w e.1+wl q5X e.2.2.2.2
theorem qgD {e:Eng} (h:Wf qP e):quZ e:=⟨h.1.1,fun x hx=>⟨(h.1.2 x hx).1,(h.1.2 x hx).2.1⟩,h.2.2.2.2.1,fun x hx=>(h.2.2.2.2.2 x hx).1⟩
theorem q5F (e:Eng) (left:Int) (h0:0<=left) (h1:left<=2097152) (h:quZ e):q15 e left=some (szv (wEng e) left,()):=by
 have ew:wEng e=wl q3w e.1+wl q5X e.2.2.2.2:=rfl;rw [qie,qtE e.1 left h0 h1 h.fl h.fs,oB];by_cases hn:szv (wl q3w e.1) left < 0
 ·have:=qle hn h0;rw [dYT hn,cT,q0j (by omega)]
 ·obtain ⟨k1,k2⟩:=q5p hn;rw [dYF hn,cF,k2,qrN _ _ (by omega) (by omega) h.sl h.ss,oB]
  by_cases hm:szv (wl q5X e.2.2.2.2) (left - (wl q3w e.1:Int)) < 0
  ·have:=qle hm (by omega)
   rw [dYT hm,cT,q0j (by omega)]
  ·obtain ⟨k3,k4⟩:=q5p hm;rw [dYF hm,cF,k4,q7j (by omega)]
   congr 2; omega
theorem q5L (e:Eng) (h1:e.1.length<=2097152) (h2:e.2.2.2.2.length<=2097152):yG e=some (e,()):=by
 rw [qiq,qlQ,qrY _ h1,qrV _ h2]; rfl
theorem qtX (a b:List Fil) (ha:a.length<=200000000):qd7 a b=some (decide (a=b),()):=by
 rw [ql7,qsv a b ha,oB];cases decide (a=b)<;>rfl
theorem q1u (a b:Eng) (h1:a.1.length<=200000000) (h2:a.2.2.2.2.length<=200000000):wu a b=some (decide (a=b),()):=by
 rw [qiS,qtX _ _ h1,qrD _ _ h2];obtain ⟨a0,a1,a2,a3,a4⟩:=a;obtain ⟨b0,b1,b2,b3,b4⟩:=b;simp only [oB,Prod.mk.injEq,q8m];by_cases h0:a0=b0<;>by_cases h1:a1=b1<;>by_cases h2:a2=b2<;>by_cases h3:a3=b3<;>by_cases h4:a4=b4<;>simp [h0,h1,h2,h3,h4]
noncomputable def qjC (k:Int) (n m:Nat) (r a q:Int):Eng:=(q02 k n,(r,(a,(q,q07 (k+3 * (n:Int)) m))))
theorem q0x (e:Eng) (k:Int) (h0:0<=k) (h1:e.1.length<=100000000) (h2:e.2.2.2.2.length<=100000000) (hk:k<=100000000):zu e k=some (k+3 * (e.1.length:Int)+4 * (e.2.2.2.2.length:Int),qjC k e.1.length e.2.2.2.2.length 0 0 0,()):=by
 rw [qgm,qiF,qp3 e.1 k h0 (by omega) (by omega)]
 simp only [oB];rw [qot e.2.2.2.2 (k+3 * (e.1.length:Int)) (by omega) (by omega) (by omega)]
 rfl
theorem qnP (k:Int) (n m:Nat) (r a q:Int) (h0:0<=k) (h1:n<=100000000) (h2:m<=100000000) (hk:k<=100000000):zX (qjC k n m r a q) k=some (k+3 * (n:Int)+4 * (m:Int),()):=by
 unfold qjC;rw [qfZ,qir,qpA n k h0 (by omega) (by omega)]
 simp only [oB,dYF (show ¬ k+3 * (n:Int) < 0 by omega),cF]
 rw [qoC m (k+3 * (n:Int)) (by omega) (by omega) (by omega)]
 simp only [oB,dYF (show ¬ k+3 * (n:Int)+4 * (m:Int) < 0 by omega),cF]
theorem qkI {e:Eng} {n:Nat} (h:wEng e<=n):e.1.length<=n/\e.2.2.2.2.length<=n:=by
 unfold wEng at h;exact ⟨qfE (f:=q3w) (by omega),qfE (f:=q5X) (by omega)⟩
theorem qju {d:List Fil} {l ini:List Nat} {top act:Nat} (C:Clean d l) (hl:l=(ini++[top])++[act]):(jd d l ini top).length<=3000000:=by
 have hlen:=jU C.segs;have hls:l.length=ini.length+2:=by rw [hl,length_append,length_append,length_singleton,length_singleton]
 have hold:∀ n∈ini++[top],n∈l:=fun n hn=>by rw [hl]; exact List.mem_append_left _ hn
 have hkl:=qgH (d:=d) (dir:=dirD d l) (old:=ini++[top]) fun n hn=>(C.mem.1 (hold n hn)).1
 rw [length_append,length_singleton] at hkl;unfold jd;simp only [length_append,length_cons,length_map]; omega
theorem qqq (e:Eng):(maO e).1.length<=3000000:=by
 by_cases h:eOkP e/\2<=(segN e.1).length
 ·obtain ⟨_,_,C,_⟩:=jJ h.1;obtain ⟨ini,top,act,hl⟩:=qdj h.2;rw [q6A h.1 hl];rw [hl] at C;exact qju C rfl
 ·rw [q9i h]; exact zero_le _
theorem qiY (g:Eng) (h:SmE g):zX ((qjC 1 g.1.length g.2.2.2.2.length 0 0 0).1,(g.2.1,(g.2.2.1,(g.2.2.2.1,(qjC 1 g.1.length g.2.2.2.2.length 0 0 0).2.2.2.2)))) 1=some (1+3 * (g.1.length:Int)+4 * (g.2.2.2.2.length:Int),()):=by
 have h1:=h.f;have h2:=h.s;exact qnP 1 g.1.length g.2.2.2.2.length g.2.1 g.2.2.1 g.2.2.2.1 (by omega) (by omega) (by omega) (by omega)
end Go.Den.S
