/- EqD1: equations of the functions of this seat as the executor tells them, or plain facts about them. Conditions: none here. -/
import Derived.Test.YthfdlonnbkffnaaGreatDoorEqA
set_option linter.all false
set_option linter.unusedSimpArgs false
set_option linter.unusedVariables false
namespace Go.Den.S
open Go Go.Den Go.Proofs
set_option linter.unusedVariables false
theorem __loop_example_g00124_impl_desk__fault_eq (a0 : D_desk) (a1 : ByteArray) : __loop_example_g00124_impl_desk__fault a0 a1 =
  (bif (!a0.2.2)
  then (impl_Fault a1).bind fun r4 =>
   some ((), ((a0.1, (r4.1, true)), ()))
  else some ((), (a0, ())) : Option (Unit × (D_desk × Unit))) := (DF_eq X rfl _).trans (by kernel_rfl)
theorem laws_eqVal_eq (a0 : D_Val) (a1 : D_Val) : laws_eqVal a0 a1 =
  (bif (a0.1 != a1.1)
  then some (false, ())
  else bif (a0.2.1 != a1.2.1)
   then some (false, ())
   else bif (!((ByteArray.toList a0.2.2.1) == (ByteArray.toList a1.2.2.1)))
    then some (false, ())
    else (laws_eqStringS a0.2.2.2 a1.2.2.2).bind fun r4 =>
     bif (!r4.1)
     then some (false, ())
     else some (true, ()) : Option (Bool × Unit)) := (DF_eq X rfl _).trans (by kernel_rfl)
theorem impl_Bulk_eq (a0 : ByteArray) : impl_Bulk a0 =
  ((impl_Decimal (ByteArray.size a0 : Int)).bind fun r3 =>
  bif (limS ((ByteArray.size c___1_253) + (ByteArray.size r3.1)))
  then bif (limS ((ByteArray.size (c___1_253 ++ r3.1)) + (ByteArray.size c____2_7140)))
   then bif (limS ((ByteArray.size ((c___1_253 ++ r3.1) ++ c____2_7140)) + (ByteArray.size a0)))
    then bif (limS ((ByteArray.size (((c___1_253 ++ r3.1) ++ c____2_7140) ++ a0)) + (ByteArray.size c____2_7140)))
     then some (((((c___1_253 ++ r3.1) ++ c____2_7140) ++ a0) ++ c____2_7140), ())
     else none
    else none
   else none
  else none : Option (ByteArray × Unit)) := (DF_eq X rfl _).trans (by kernel_rfl)
theorem spec_ReadDecimal_eq (a0 : ByteArray) : spec_ReadDecimal a0 =
  (bif (decide ((ByteArray.size a0 : Int) > 10))
  then some ((0, false), ())
  else spec_ReadDecimal_L0 a0 0 0 : Option ((Int × Bool) × Unit)) := (DF_eq X rfl _).trans (by kernel_rfl)
theorem spec_ReadDecimal_L0_eq (x0 : ByteArray) (x4 : Int) (x5 : Int) : spec_ReadDecimal_L0 x0 x4 x5 =
  (bif (decide (x5 < (ByteArray.size x0 : Int)))
  then bif ((decide (0 ≤ x5)) && (decide (x5 < (ByteArray.size x0 : Int))))
   then bif (decide ((bt x0 (Int.toNat x5)) < 48))
    then some ((0, false), ())
    else bif ((decide (0 ≤ x5)) && (decide (x5 < (ByteArray.size x0 : Int))))
     then bif (decide ((bt x0 (Int.toNat x5)) > 57))
      then some ((0, false), ())
      else bif ((decide (0 ≤ x5)) && (decide (x5 < (ByteArray.size x0 : Int))))
       then spec_ReadDecimal_L0 x0 (w64 ((w64 ((w64 (10 * x4)) + (w64 (bt x0 (Int.toNat x5))))) - 48)) (w64 (x5 + 1))
       else none
     else none
   else none
  else bif (decide (x4 > 1000000000))
   then some ((0, false), ())
   else (spec_Decimal x4).bind fun r5 =>
    bif (!((ByteArray.toList r5.1) == (ByteArray.toList x0)))
    then some ((0, false), ())
    else some ((x4, true), ()) : Option ((Int × Bool) × Unit)) := (loopAt_mk X 124 0 [] _ _ _).trans (by kernel_rfl)
theorem __loop_example_g00124_impl_desk__number_eq (a0 : D_desk) (a1 : ByteArray) : __loop_example_g00124_impl_desk__number a0 a1 =
  ((impl_ReadInt a1).bind fun r4 =>
  bif (!r4.1.2)
  then (__loop_example_g00124_impl_desk__fault a0 c_ERR_integer).bind fun r5 =>
   some (r4.1.1, (r5.2.1, ()))
  else some (r4.1.1, (a0, ())) : Option (Int × (D_desk × Unit))) := (DF_eq X rfl _).trans (by kernel_rfl)
theorem impl_Decimal_eq (a0 : Int) : impl_Decimal a0 =
  ((strconv_Itoa a0).bind fun r3 =>
  some (r3.1, ()) : Option (ByteArray × Unit)) := (DF_eq X rfl _).trans (by kernel_rfl)
theorem impl_Find_eq (a0 : (List D_Entry)) (a1 : ByteArray) : impl_Find a0 a1 =
  ((slices_IndexFunc_Entry_Find a0 (a1, ())).bind fun r4 =>
  bif (decide (r4.1 < 0))
  then some (((0, (0, (ByteArray.empty, []))), false), ())
  else bif ((decide (0 ≤ r4.1)) && (decide (r4.1 < (List.length a0 : Int))))
   then (impl_copyVal (((List.getD a0 (Int.toNat r4.1) (ByteArray.empty, (0, (0, (ByteArray.empty, []))))).2).1, ((((List.getD a0 (Int.toNat r4.1) (ByteArray.empty, (0, (0, (ByteArray.empty, []))))).2).2).1, ((((List.getD a0 (Int.toNat r4.1) (ByteArray.empty, (0, (0, (ByteArray.empty, []))))).2).2).2)))).bind fun r5 =>
    some ((r5.1, true), ())
   else none : Option ((D_Val × Bool) × Unit)) := (DF_eq X rfl _).trans (by kernel_rfl)
theorem __loop_example_g00124_impl_desk__counted_eq (a0 : D_desk) (a1 : (List ByteArray)) (a2 : Bool) : __loop_example_g00124_impl_desk__counted a0 a1 a2 =
  (__loop_example_g00124_impl_desk__counted_L0 a2 0 a1 (List.length a1 : Int) 0 a0.1 a0.2.1 a0.2.2 : Option (Int × (D_desk × Unit))) := (DF_eq X rfl _).trans (by kernel_rfl)
theorem __loop_example_g00124_impl_desk__counted_L0_eq (x2 : Bool) (x7 : Int) (x12 : (List ByteArray)) (x13 : Int) (x14 : Int) (b3000000_0 : (List D_Entry)) (b3000000_1 : ByteArray) (b3000000_2 : Bool) : __loop_example_g00124_impl_desk__counted_L0 x2 x7 x12 x13 x14 b3000000_0 b3000000_1 b3000000_2 =
  (bif (decide (x14 < x13))
  then bif ((decide (0 ≤ x14)) && (decide (x14 < (List.length x12 : Int))))
   then (impl_Find b3000000_0 (List.getD x12 (Int.toNat x14) ByteArray.empty)).bind fun r10 =>
    bif r10.1.2
    then bif x2
     then (__loop_example_g00124_impl_desk__drop (b3000000_0, (b3000000_1, b3000000_2)) (List.getD x12 (Int.toNat x14) ByteArray.empty)).bind fun r11 =>
      __loop_example_g00124_impl_desk__counted_L0 x2 (w64 (x7 + 1)) x12 x13 (w64 (x14 + 1)) r11.2.1.1 r11.2.1.2.1 r11.2.1.2.2
     else __loop_example_g00124_impl_desk__counted_L0 x2 (w64 (x7 + 1)) x12 x13 (w64 (x14 + 1)) b3000000_0 b3000000_1 b3000000_2
    else bif x2
     then (__loop_example_g00124_impl_desk__drop (b3000000_0, (b3000000_1, b3000000_2)) (List.getD x12 (Int.toNat x14) ByteArray.empty)).bind fun r11 =>
      __loop_example_g00124_impl_desk__counted_L0 x2 x7 x12 x13 (w64 (x14 + 1)) r11.2.1.1 r11.2.1.2.1 r11.2.1.2.2
     else __loop_example_g00124_impl_desk__counted_L0 x2 x7 x12 x13 (w64 (x14 + 1)) b3000000_0 b3000000_1 b3000000_2
   else none
  else some (x7, ((b3000000_0, (b3000000_1, b3000000_2)), ())) : Option (Int × (D_desk × Unit))) := (loopAt_mk X 131 0 [] _ _ _).trans (by kernel_rfl)
theorem impl_typeName_eq (a0 : D_Val) (a1 : Bool) : impl_typeName a0 a1 =
  (bif (!a1)
  then some (c_none, ())
  else bif ((decide (0 ≤ (w64 (a0.1 - 1)))) && (decide ((w64 (a0.1 - 1)) < ((4 : Nat) : Int))))
   then some ((List.getD ([c_string, c_list, c_hash, c_set]) (Int.toNat (w64 (a0.1 - 1))) ByteArray.empty), ())
   else none : Option (ByteArray × Unit)) := (DF_eq X rfl _).trans (by kernel_rfl)
theorem __loop_example_g00124_impl_desk__expire_eq (a0 : D_desk) (a1 : Int) (a2 : ByteArray) (a3 : ByteArray) : __loop_example_g00124_impl_desk__expire a0 a1 a2 a3 =
  ((__loop_example_g00124_impl_desk__number a0 a3).bind fun r6 =>
  (impl_Find r6.2.1.1 a2).bind fun r7 =>
  bif r6.2.1.2.2
  then some ((), (r6.2.1, ()))
  else bif (!r7.1.2)
   then (impl_Number 0).bind fun r8 =>
    (__loop_example_g00124_impl_desk__say r6.2.1 r8.1).bind fun r9 =>
    some ((), (r9.2.1, ()))
   else bif (decide (r6.1 ≤ 0))
    then (__loop_example_g00124_impl_desk__drop r6.2.1 a2).bind fun r8 =>
     (impl_Number 1).bind fun r9 =>
     (__loop_example_g00124_impl_desk__say r8.2.1 r9.1).bind fun r10 =>
     some ((), (r10.2.1, ()))
    else bif (decide (a1 > (w64 (100000 - r6.1))))
     then (__loop_example_g00124_impl_desk__fault r6.2.1 c_ERR_limit).bind fun r8 =>
      some ((), (r8.2.1, ()))
     else (__loop_example_g00124_impl_desk__put r6.2.1 a2 (r7.1.1.1, ((w64 (a1 + r6.1)), r7.1.1.2.2))).bind fun r8 =>
      (impl_Number 1).bind fun r9 =>
      (__loop_example_g00124_impl_desk__say r8.2.1 r9.1).bind fun r10 =>
      some ((), (r10.2.1, ())) : Option (Unit × (D_desk × Unit))) := (DF_eq X rfl _).trans (by kernel_rfl)
theorem impl_left_eq (a0 : D_Val) (a1 : Bool) (a2 : Int) : impl_left a0 a1 a2 =
  (bif (!a1)
  then some ((-2), ())
  else bif (a0.2.1 == 0)
   then some ((-1), ())
   else some ((w64 (a0.2.1 - a2)), ()) : Option (Int × Unit)) := (DF_eq X rfl _).trans (by kernel_rfl)
theorem spec_ValOk_eq (a0 : D_Val) : spec_ValOk a0 =
  (spec_ValOk_L1700000 a0.1 a0.2.1 a0.2.2.1 a0.2.2.2 : Option (Bool × Unit)) := (DF_eq X rfl _).trans (by kernel_rfl)
theorem spec_ValOk_L0_eq (x3 : Int) (b0_0 : Int) (b0_1 : Int) (b0_2 : ByteArray) (b0_3 : (List ByteArray)) : spec_ValOk_L0 x3 b0_0 b0_1 b0_2 b0_3 =
  (spec_ValOk_L1700008 x3 (decide (x3 < (List.length b0_3 : Int))) b0_0 b0_1 b0_2 b0_3 : Option (Bool × Unit)) := (loopAt_mk X 135 0 [] _ _ _).trans (by kernel_rfl)
theorem spec_ValOk_L1700000_eq (b0_0 : Int) (b0_1 : Int) (b0_2 : ByteArray) (b0_3 : (List ByteArray)) : spec_ValOk_L1700000 b0_0 b0_1 b0_2 b0_3 =
  ((spec_l01In b0_0 1 4).bind fun r6 =>
  bif (!r6.1)
  then spec_ValOk_L1700001 true b0_0 b0_1 b0_2 b0_3
  else (spec_l01In b0_1 0 100000).bind fun r7 =>
   spec_ValOk_L1700001 (!r7.1) b0_0 b0_1 b0_2 b0_3 : Option (Bool × Unit)) := (loopAt_mk X 135 1700000 [] _ _ _).trans (by kernel_rfl)
theorem spec_ValOk_L1700001_eq (x13 : Bool) (b0_0 : Int) (b0_1 : Int) (b0_2 : ByteArray) (b0_3 : (List ByteArray)) : spec_ValOk_L1700001 x13 b0_0 b0_1 b0_2 b0_3 =
  (bif x13
  then spec_ValOk_L1700002 false
  else spec_ValOk_L1700003 (b0_0 == 1) b0_0 b0_1 b0_2 b0_3 : Option (Bool × Unit)) := (loopAt_mk X 135 1700001 [] _ _ _).trans (by kernel_rfl)
theorem spec_ValOk_L1700002_eq (x2 : Bool) : spec_ValOk_L1700002 x2 =
  (some (x2, ()) : Option (Bool × Unit)) := (loopAt_mk X 135 1700002 [] _ _ _).trans (by kernel_rfl)
theorem spec_ValOk_L1700003_eq (x16 : Bool) (b0_0 : Int) (b0_1 : Int) (b0_2 : ByteArray) (b0_3 : (List ByteArray)) : spec_ValOk_L1700003 x16 b0_0 b0_1 b0_2 b0_3 =
  (bif x16
  then bif (decide ((ByteArray.size b0_2 : Int) ≤ 60))
   then spec_ValOk_L1700004 ((List.length b0_3 : Int) == 0)
   else spec_ValOk_L1700004 false
  else bif (!((ByteArray.toList b0_2) == (ByteArray.toList ByteArray.empty)))
   then spec_ValOk_L1700005 true b0_0 b0_1 b0_2 b0_3
   else (spec_l01In (List.length b0_3 : Int) 1 24).bind fun r7 =>
    bif (!r7.1)
    then spec_ValOk_L1700005 true b0_0 b0_1 b0_2 b0_3
    else bif (b0_0 == 3)
     then spec_ValOk_L1700005 ((Int.tmod (List.length b0_3 : Int) 2) == 1) b0_0 b0_1 b0_2 b0_3
     else spec_ValOk_L1700005 false b0_0 b0_1 b0_2 b0_3 : Option (Bool × Unit)) := (loopAt_mk X 135 1700003 [] _ _ _).trans (by kernel_rfl)
theorem spec_ValOk_L1700004_eq (x2 : Bool) : spec_ValOk_L1700004 x2 =
  (some (x2, ()) : Option (Bool × Unit)) := (loopAt_mk X 135 1700004 [] _ _ _).trans (by kernel_rfl)
theorem spec_ValOk_L1700005_eq (x48 : Bool) (b0_0 : Int) (b0_1 : Int) (b0_2 : ByteArray) (b0_3 : (List ByteArray)) : spec_ValOk_L1700005 x48 b0_0 b0_1 b0_2 b0_3 =
  (bif x48
  then spec_ValOk_L1700006 false
  else spec_ValOk_L1700007 0 b0_0 b0_1 b0_2 b0_3 : Option (Bool × Unit)) := (loopAt_mk X 135 1700005 [] _ _ _).trans (by kernel_rfl)
theorem spec_ValOk_L1700006_eq (x2 : Bool) : spec_ValOk_L1700006 x2 =
  (some (x2, ()) : Option (Bool × Unit)) := (loopAt_mk X 135 1700006 [] _ _ _).trans (by kernel_rfl)
theorem spec_ValOk_L1700007_eq (x3 : Int) (b0_0 : Int) (b0_1 : Int) (b0_2 : ByteArray) (b0_3 : (List ByteArray)) : spec_ValOk_L1700007 x3 b0_0 b0_1 b0_2 b0_3 =
  (spec_ValOk_L0 x3 b0_0 b0_1 b0_2 b0_3 : Option (Bool × Unit)) := (loopAt_mk X 135 1700007 [] _ _ _).trans (by kernel_rfl)
theorem spec_ValOk_L1700008_eq (x3 : Int) (x53 : Bool) (b0_0 : Int) (b0_1 : Int) (b0_2 : ByteArray) (b0_3 : (List ByteArray)) : spec_ValOk_L1700008 x3 x53 b0_0 b0_1 b0_2 b0_3 =
  (bif x53
  then bif ((decide (0 ≤ x3)) && (decide (x3 < (List.length b0_3 : Int))))
   then spec_ValOk_L1700010 x3 (decide ((ByteArray.size (List.getD b0_3 (Int.toNat x3) ByteArray.empty) : Int) > 60)) b0_0 b0_1 b0_2 b0_3
   else none
  else spec_ValOk_L1700014 true : Option (Bool × Unit)) := (loopAt_mk X 135 1700008 [0] _ _ _).trans (by kernel_rfl)
theorem spec_ValOk_L1700010_eq (x3 : Int) (x62 : Bool) (b0_0 : Int) (b0_1 : Int) (b0_2 : ByteArray) (b0_3 : (List ByteArray)) : spec_ValOk_L1700010 x3 x62 b0_0 b0_1 b0_2 b0_3 =
  (bif x62
  then spec_ValOk_L1700011 false
  else bif (b0_0 == 4)
   then bif (decide (x3 > 0))
    then bif ((decide (0 ≤ (w64 (x3 - 1)))) && (decide ((w64 (x3 - 1)) < (List.length b0_3 : Int))))
     then bif ((decide (0 ≤ x3)) && (decide (x3 < (List.length b0_3 : Int))))
      then bif (!(Op.bytesLess (ByteArray.toList (List.getD b0_3 (Int.toNat (w64 (x3 - 1))) ByteArray.empty)) (ByteArray.toList (List.getD b0_3 (Int.toNat x3) ByteArray.empty))))
       then spec_ValOk_L1700012 x3 true b0_0 b0_1 b0_2 b0_3
       else bif (b0_0 == 3)
        then bif (decide (x3 > 1))
         then bif ((Int.tmod x3 2) == 0)
          then bif ((decide (0 ≤ (w64 (x3 - 2)))) && (decide ((w64 (x3 - 2)) < (List.length b0_3 : Int))))
           then bif ((decide (0 ≤ x3)) && (decide (x3 < (List.length b0_3 : Int))))
            then spec_ValOk_L1700012 x3 (!(Op.bytesLess (ByteArray.toList (List.getD b0_3 (Int.toNat (w64 (x3 - 2))) ByteArray.empty)) (ByteArray.toList (List.getD b0_3 (Int.toNat x3) ByteArray.empty)))) b0_0 b0_1 b0_2 b0_3
            else none
           else none
          else spec_ValOk_L1700012 x3 false b0_0 b0_1 b0_2 b0_3
         else spec_ValOk_L1700012 x3 false b0_0 b0_1 b0_2 b0_3
        else spec_ValOk_L1700012 x3 false b0_0 b0_1 b0_2 b0_3
      else none
     else none
    else bif (b0_0 == 3)
     then bif (decide (x3 > 1))
      then bif ((Int.tmod x3 2) == 0)
       then bif ((decide (0 ≤ (w64 (x3 - 2)))) && (decide ((w64 (x3 - 2)) < (List.length b0_3 : Int))))
        then bif ((decide (0 ≤ x3)) && (decide (x3 < (List.length b0_3 : Int))))
         then spec_ValOk_L1700012 x3 (!(Op.bytesLess (ByteArray.toList (List.getD b0_3 (Int.toNat (w64 (x3 - 2))) ByteArray.empty)) (ByteArray.toList (List.getD b0_3 (Int.toNat x3) ByteArray.empty)))) b0_0 b0_1 b0_2 b0_3
         else none
        else none
       else spec_ValOk_L1700012 x3 false b0_0 b0_1 b0_2 b0_3
      else spec_ValOk_L1700012 x3 false b0_0 b0_1 b0_2 b0_3
     else spec_ValOk_L1700012 x3 false b0_0 b0_1 b0_2 b0_3
   else bif (b0_0 == 3)
    then bif (decide (x3 > 1))
     then bif ((Int.tmod x3 2) == 0)
      then bif ((decide (0 ≤ (w64 (x3 - 2)))) && (decide ((w64 (x3 - 2)) < (List.length b0_3 : Int))))
       then bif ((decide (0 ≤ x3)) && (decide (x3 < (List.length b0_3 : Int))))
        then spec_ValOk_L1700012 x3 (!(Op.bytesLess (ByteArray.toList (List.getD b0_3 (Int.toNat (w64 (x3 - 2))) ByteArray.empty)) (ByteArray.toList (List.getD b0_3 (Int.toNat x3) ByteArray.empty)))) b0_0 b0_1 b0_2 b0_3
        else none
       else none
      else spec_ValOk_L1700012 x3 false b0_0 b0_1 b0_2 b0_3
     else spec_ValOk_L1700012 x3 false b0_0 b0_1 b0_2 b0_3
    else spec_ValOk_L1700012 x3 false b0_0 b0_1 b0_2 b0_3 : Option (Bool × Unit)) := (loopAt_mk X 135 1700010 [0] _ _ _).trans (by kernel_rfl)
theorem spec_ValOk_L1700011_eq (x2 : Bool) : spec_ValOk_L1700011 x2 =
  (some (x2, ()) : Option (Bool × Unit)) := (loopAt_mk X 135 1700011 [0] _ _ _).trans (by kernel_rfl)
theorem spec_ValOk_L1700012_eq (x3 : Int) (x111 : Bool) (b0_0 : Int) (b0_1 : Int) (b0_2 : ByteArray) (b0_3 : (List ByteArray)) : spec_ValOk_L1700012 x3 x111 b0_0 b0_1 b0_2 b0_3 =
  (bif x111
  then spec_ValOk_L1700013 false
  else spec_ValOk_L0 (w64 (x3 + 1)) b0_0 b0_1 b0_2 b0_3 : Option (Bool × Unit)) := (loopAt_mk X 135 1700012 [0] _ _ _).trans (by kernel_rfl)
theorem spec_ValOk_L1700013_eq (x2 : Bool) : spec_ValOk_L1700013 x2 =
  (some (x2, ()) : Option (Bool × Unit)) := (loopAt_mk X 135 1700013 [0] _ _ _).trans (by kernel_rfl)
theorem spec_ValOk_L1700014_eq (x2 : Bool) : spec_ValOk_L1700014 x2 =
  (some (x2, ()) : Option (Bool × Unit)) := (loopAt_mk X 135 1700014 [] _ _ _).trans (by kernel_rfl)
theorem spec_Commands_eq : spec_Commands =
  (some ([c_PING, c_ECHO, c_GET, c_SET, c_SETNX, c_GETSET, c_APPEND, c_STRLEN, c_INCR, c_DECR, c_INCRBY, c_DECRBY, c_MGET, c_MSET, c_DEL, c_EXISTS, c_TYPE, c_EXPIRE, c_TTL, c_PERSIST, c_KEYS, c_DBSIZE, c_FLUSHALL, c_LPUSH, c_RPUSH, c_LPOP, c_RPOP, c_LLEN, c_LRANGE, c_LINDEX, c_HSET, c_HGET, c_HDEL, c_HLEN, c_HGETALL, c_HKEYS, c_SADD, c_SREM, c_SISMEMBER, c_SCARD, c_SMEMBERS], ()) : Option ((List ByteArray) × Unit)) := (DF_eq X rfl _).trans (by kernel_rfl)
theorem impl_keyOk_eq (a0 : ByteArray) : impl_keyOk a0 =
  ((impl_within (ByteArray.size a0 : Int) 1 20).bind fun r3 =>
  some (r3.1, ()) : Option (Bool × Unit)) := (DF_eq X rfl _).trans (by kernel_rfl)
theorem impl_ValOk_eq (a0 : D_Val) : impl_ValOk a0 =
  ((impl_within a0.2.1 0 100000).bind fun r3 =>
  bif (!r3.1)
  then some (false, ())
  else bif (a0.1 == 1)
   then bif (decide ((ByteArray.size a0.2.2.1 : Int) ≤ 60))
    then some (((List.length a0.2.2.2 : Int) == 0), ())
    else some (false, ())
   else bif (a0.1 == 2)
    then bif ((ByteArray.toList a0.2.2.1) == (ByteArray.toList ByteArray.empty))
     then (impl_itemsOk a0.1 a0.2.2.2).bind fun r4 =>
      some (r4.1, ())
     else some (false, ())
    else bif (a0.1 == 3)
     then bif ((ByteArray.toList a0.2.2.1) == (ByteArray.toList ByteArray.empty))
      then (impl_itemsOk a0.1 a0.2.2.2).bind fun r4 =>
       some (r4.1, ())
      else some (false, ())
     else bif (a0.1 == 4)
      then bif ((ByteArray.toList a0.2.2.1) == (ByteArray.toList ByteArray.empty))
       then (impl_itemsOk a0.1 a0.2.2.2).bind fun r4 =>
        some (r4.1, ())
       else some (false, ())
      else some (false, ()) : Option (Bool × Unit)) := (DF_eq X rfl _).trans (by kernel_rfl)
theorem impl_copyVal_eq (a0 : D_Val) : impl_copyVal a0 =
  (bif (lim (0 + (List.length a0.2.2.2)) 16)
  then some ((a0.1, (a0.2.1, (a0.2.2.1, ([] ++ a0.2.2.2)))), ())
  else none : Option (D_Val × Unit)) := (DF_eq X rfl _).trans (by kernel_rfl)
theorem spec_l01Figure_eq (a0 : Int) : spec_l01Figure a0 =
  (bif (decide (a0 < 10))
  then some ((Go.IntKind.u8.wrap (w64 (48 + a0))), ())
  else some ((Go.IntKind.u8.wrap (w64 ((w64 (97 + a0)) - 10))), ()) : Option (Int × Unit)) := (DF_eq X rfl _).trans (by kernel_rfl)
theorem slices_BinarySearchFunc___loop_example_g00124_impl_Entry_loop_example_g00124_impl_Entry_string__eq (a0 : (List D_Entry)) (a1 : ByteArray) (a2 : Unit) : slices_BinarySearchFunc___loop_example_g00124_impl_Entry_loop_example_g00124_impl_Entry_string_ a0 a1 a2 =
  (slices_BinarySearchFunc___loop_example_g00124_impl_Entry_loop_example_g00124_impl_Entry_string__L0 a0 a1 (List.length a0 : Int) 0 (List.length a0 : Int) : Option ((Int × Bool) × ((Unit) × Unit))) := (DF_eq X rfl _).trans (by kernel_rfl)
theorem slices_BinarySearchFunc___loop_example_g00124_impl_Entry_loop_example_g00124_impl_Entry_string__L0_eq (x0 : (List D_Entry)) (x1 : ByteArray) (x8 : Int) (x9 : Int) (x10 : Int) : slices_BinarySearchFunc___loop_example_g00124_impl_Entry_loop_example_g00124_impl_Entry_string__L0 x0 x1 x8 x9 x10 =
  (bif (decide (x9 < x10))
  then bif ((decide (0 ≤ (w64 (shrI Go.IntKind.u64 (Go.IntKind.u64.wrap (w64 (x9 + x10))) 1)))) && (decide ((w64 (shrI Go.IntKind.u64 (Go.IntKind.u64.wrap (w64 (x9 + x10))) 1)) < (List.length x0 : Int))))
   then (__loop_example_g00124_impl_desk__put_1 ((List.getD x0 (Int.toNat (w64 (shrI Go.IntKind.u64 (Go.IntKind.u64.wrap (w64 (x9 + x10))) 1))) (ByteArray.empty, (0, (0, (ByteArray.empty, []))))).1, (((List.getD x0 (Int.toNat (w64 (shrI Go.IntKind.u64 (Go.IntKind.u64.wrap (w64 (x9 + x10))) 1))) (ByteArray.empty, (0, (0, (ByteArray.empty, []))))).2).1, ((((List.getD x0 (Int.toNat (w64 (shrI Go.IntKind.u64 (Go.IntKind.u64.wrap (w64 (x9 + x10))) 1))) (ByteArray.empty, (0, (0, (ByteArray.empty, []))))).2).2).1, ((((List.getD x0 (Int.toNat (w64 (shrI Go.IntKind.u64 (Go.IntKind.u64.wrap (w64 (x9 + x10))) 1))) (ByteArray.empty, (0, (0, (ByteArray.empty, []))))).2).2).2)))) x1).bind fun r7 =>
    bif (decide (r7.1 < 0))
    then slices_BinarySearchFunc___loop_example_g00124_impl_Entry_loop_example_g00124_impl_Entry_string__L0 x0 x1 x8 (w64 ((w64 (shrI Go.IntKind.u64 (Go.IntKind.u64.wrap (w64 (x9 + x10))) 1)) + 1)) x10
    else slices_BinarySearchFunc___loop_example_g00124_impl_Entry_loop_example_g00124_impl_Entry_string__L0 x0 x1 x8 x9 (w64 (shrI Go.IntKind.u64 (Go.IntKind.u64.wrap (w64 (x9 + x10))) 1))
   else none
  else bif (decide (x9 < x8))
   then bif ((decide (0 ≤ x9)) && (decide (x9 < (List.length x0 : Int))))
    then (__loop_example_g00124_impl_desk__put_1 ((List.getD x0 (Int.toNat x9) (ByteArray.empty, (0, (0, (ByteArray.empty, []))))).1, (((List.getD x0 (Int.toNat x9) (ByteArray.empty, (0, (0, (ByteArray.empty, []))))).2).1, ((((List.getD x0 (Int.toNat x9) (ByteArray.empty, (0, (0, (ByteArray.empty, []))))).2).2).1, ((((List.getD x0 (Int.toNat x9) (ByteArray.empty, (0, (0, (ByteArray.empty, []))))).2).2).2)))) x1).bind fun r7 =>
     some ((x9, (r7.1 == 0)), ((), ()))
    else none
   else some ((x9, false), ((), ())) : Option ((Int × Bool) × ((Unit) × Unit))) := (loopAt_mk X 154 0 [] _ _ _).trans (by kernel_rfl)
theorem __loop_example_g00124_impl_desk__put_1_eq (a0 : D_Entry) (a1 : ByteArray) : __loop_example_g00124_impl_desk__put_1 a0 a1 =
  ((strings_Compare a0.1 a1).bind fun r4 =>
  some (r4.1, ()) : Option (Int × Unit)) := (DF_eq X rfl _).trans (by kernel_rfl)
theorem slices_Index___string_string__eq (a0 : (List ByteArray)) (a1 : ByteArray) : slices_Index___string_string_ a0 a1 =
  (slices_Index___string_string__L0 a0 a1 (List.length a0 : Int) 0 : Option (Int × Unit)) := (DF_eq X rfl _).trans (by kernel_rfl)
theorem slices_Index___string_string__L0_eq (x0 : (List ByteArray)) (x1 : ByteArray) (x7 : Int) (x8 : Int) : slices_Index___string_string__L0 x0 x1 x7 x8 =
  (bif (decide (x8 < x7))
  then bif ((decide (0 ≤ x8)) && (decide (x8 < (List.length x0 : Int))))
   then bif ((ByteArray.toList x1) == (ByteArray.toList (List.getD x0 (Int.toNat x8) ByteArray.empty)))
    then some (x8, ())
    else slices_Index___string_string__L0 x0 x1 x7 (w64 (x8 + 1))
   else none
  else some ((-1), ()) : Option (Int × Unit)) := (loopAt_mk X 159 0 [] _ _ _).trans (by kernel_rfl)
theorem __loop_example_g00124_impl_desk__drop_eq (a0 : D_desk) (a1 : ByteArray) : __loop_example_g00124_impl_desk__drop a0 a1 =
  ((slices_DeleteFunc_Entry_drop a0.1 (a1, ())).bind fun r4 =>
  some ((decide ((List.length r4.1 : Int) < (List.length a0.1 : Int))), ((r4.1, a0.2), ())) : Option (Bool × (D_desk × Unit))) := (DF_eq X rfl _).trans (by kernel_rfl)
theorem impl_ReadInt_eq (a0 : ByteArray) : impl_ReadInt a0 =
  ((strconv_Atoi a0).bind fun r3 =>
  bif r3.1.2
  then some ((0, false), ())
  else (impl_Decimal r3.1.1).bind fun r4 =>
   bif (!((ByteArray.toList r4.1) == (ByteArray.toList a0)))
   then some ((0, false), ())
   else (impl_within r3.1.1 (-1000000000) 1000000000).bind fun r5 =>
    bif (!r5.1)
    then some ((0, false), ())
    else some ((r3.1.1, true), ()) : Option ((Int × Bool) × Unit)) := (DF_eq X rfl _).trans (by kernel_rfl)
theorem impl_Find_1_eq (a0 : D_Entry) (a1 : ByteArray) : impl_Find_1 a0 a1 =
  (some (((ByteArray.toList a0.1) == (ByteArray.toList a1)), ()) : Option (Bool × Unit)) := (DF_eq X rfl _).trans (by kernel_rfl)
theorem impl_itemsOk_eq (a0 : Int) (a1 : (List ByteArray)) : impl_itemsOk a0 a1 =
  (bif (a0 == 2)
  then impl_itemsOk_L1 a1 0 a1 (List.length a1 : Int) 0
  else bif (a0 == 3)
   then bif ((Int.tmod (List.length a1 : Int) 2) != 0)
    then some (false, ())
    else impl_itemsOk_L1 a1 2 a1 (List.length a1 : Int) 0
   else impl_itemsOk_L1 a1 1 a1 (List.length a1 : Int) 0 : Option (Bool × Unit)) := (DF_eq X rfl _).trans (by kernel_rfl)
theorem impl_itemsOk_L1_eq (x1 : (List ByteArray)) (x5 : Int) (x17 : (List ByteArray)) (x18 : Int) (x19 : Int) : impl_itemsOk_L1 x1 x5 x17 x18 x19 =
  (bif (decide (x19 < x18))
  then bif ((decide (0 ≤ x19)) && (decide (x19 < (List.length x17 : Int))))
   then bif (decide ((ByteArray.size (List.getD x17 (Int.toNat x19) ByteArray.empty) : Int) > 60))
    then some (false, ())
    else bif (decide (x5 > 0))
     then bif (x5 != 0)
      then bif ((Int.tmod x19 x5) == 0)
       then bif (decide (x19 ≥ x5))
        then bif ((decide (0 ≤ (w64 (x19 - x5)))) && (decide ((w64 (x19 - x5)) < (List.length x1 : Int))))
         then bif (!(Op.bytesLess (ByteArray.toList (List.getD x1 (Int.toNat (w64 (x19 - x5))) ByteArray.empty)) (ByteArray.toList (List.getD x17 (Int.toNat x19) ByteArray.empty))))
          then some (false, ())
          else impl_itemsOk_L1 x1 x5 x17 x18 (w64 (x19 + 1))
         else none
        else impl_itemsOk_L1 x1 x5 x17 x18 (w64 (x19 + 1))
       else impl_itemsOk_L1 x1 x5 x17 x18 (w64 (x19 + 1))
      else none
     else impl_itemsOk_L1 x1 x5 x17 x18 (w64 (x19 + 1))
   else none
  else (impl_within (List.length x1 : Int) 1 24).bind fun r7 =>
   some (r7.1, ()) : Option (Bool × Unit)) := (loopAt_mk X 165 1 [] _ _ _).trans (by kernel_rfl)
theorem __loop_example_g00124_impl_desk__drop_1_eq (a0 : D_Entry) (a1 : ByteArray) : __loop_example_g00124_impl_desk__drop_1 a0 a1 =
  (some (((ByteArray.toList a0.1) == (ByteArray.toList a1)), ()) : Option (Bool × Unit)) := (DF_eq X rfl _).trans (by kernel_rfl)
theorem slices_IndexFunc_Entry_Find_eq (a0 : (List D_Entry)) (a1 : ByteArray × Unit) : slices_IndexFunc_Entry_Find a0 a1 =
  (slices_IndexFunc_Entry_Find_L0 a0 (List.length a0 : Int) 0 a1.1 : Option (Int × ((Unit) × Unit))) := (DF_eq X rfl _).trans (by kernel_rfl)
theorem slices_IndexFunc_Entry_Find_L0_eq (x0 : (List D_Entry)) (x7 : Int) (x8 : Int) (b3000064_0 : ByteArray) : slices_IndexFunc_Entry_Find_L0 x0 x7 x8 b3000064_0 =
  (bif (decide (x8 < x7))
  then bif ((decide (0 ≤ x8)) && (decide (x8 < (List.length x0 : Int))))
   then (impl_Find_1 ((List.getD x0 (Int.toNat x8) (ByteArray.empty, (0, (0, (ByteArray.empty, []))))).1, (((List.getD x0 (Int.toNat x8) (ByteArray.empty, (0, (0, (ByteArray.empty, []))))).2).1, ((((List.getD x0 (Int.toNat x8) (ByteArray.empty, (0, (0, (ByteArray.empty, []))))).2).2).1, ((((List.getD x0 (Int.toNat x8) (ByteArray.empty, (0, (0, (ByteArray.empty, []))))).2).2).2)))) b3000064_0).bind fun r6 =>
    bif r6.1
    then some (x8, ((), ()))
    else slices_IndexFunc_Entry_Find_L0 x0 x7 (w64 (x8 + 1)) b3000064_0
   else none
  else some ((-1), ((), ())) : Option (Int × ((Unit) × Unit))) := (loopAt_mk X 1001 0 [] _ _ _).trans (by kernel_rfl)
theorem slices_IndexFunc_Entry_drop_eq (a0 : (List D_Entry)) (a1 : ByteArray × Unit) : slices_IndexFunc_Entry_drop a0 a1 =
  (slices_IndexFunc_Entry_drop_L0 a0 (List.length a0 : Int) 0 a1.1 : Option (Int × ((Unit) × Unit))) := (DF_eq X rfl _).trans (by kernel_rfl)
theorem slices_IndexFunc_Entry_drop_L0_eq (x0 : (List D_Entry)) (x7 : Int) (x8 : Int) (b3000064_0 : ByteArray) : slices_IndexFunc_Entry_drop_L0 x0 x7 x8 b3000064_0 =
  (bif (decide (x8 < x7))
  then bif ((decide (0 ≤ x8)) && (decide (x8 < (List.length x0 : Int))))
   then (__loop_example_g00124_impl_desk__drop_1 ((List.getD x0 (Int.toNat x8) (ByteArray.empty, (0, (0, (ByteArray.empty, []))))).1, (((List.getD x0 (Int.toNat x8) (ByteArray.empty, (0, (0, (ByteArray.empty, []))))).2).1, ((((List.getD x0 (Int.toNat x8) (ByteArray.empty, (0, (0, (ByteArray.empty, []))))).2).2).1, ((((List.getD x0 (Int.toNat x8) (ByteArray.empty, (0, (0, (ByteArray.empty, []))))).2).2).2)))) b3000064_0).bind fun r6 =>
    bif r6.1
    then some (x8, ((), ()))
    else slices_IndexFunc_Entry_drop_L0 x0 x7 (w64 (x8 + 1)) b3000064_0
   else none
  else some ((-1), ((), ())) : Option (Int × ((Unit) × Unit))) := (loopAt_mk X 1003 0 [] _ _ _).trans (by kernel_rfl)
theorem slices_DeleteFunc_Entry_drop_eq (a0 : (List D_Entry)) (a1 : ByteArray × Unit) : slices_DeleteFunc_Entry_drop a0 a1 =
  ((slices_IndexFunc_Entry_drop a0 (a1.1, ())).bind fun r4 =>
  bif (r4.1 == (-1))
  then some (a0, ((), ()))
  else slices_DeleteFunc_Entry_drop_L0 a0 r4.1 (w64 (r4.1 + 1)) a1.1 : Option ((List D_Entry) × ((Unit) × Unit))) := (DF_eq X rfl _).trans (by kernel_rfl)
theorem slices_DeleteFunc_Entry_drop_L0_eq (x0 : (List D_Entry)) (x5 : Int) (x6 : Int) (b3000064_0 : ByteArray) : slices_DeleteFunc_Entry_drop_L0 x0 x5 x6 b3000064_0 =
  (bif (decide (x6 < (List.length x0 : Int)))
  then bif ((decide (0 ≤ x6)) && (decide (x6 < (List.length x0 : Int))))
   then (__loop_example_g00124_impl_desk__drop_1 ((List.getD x0 (Int.toNat x6) (ByteArray.empty, (0, (0, (ByteArray.empty, []))))).1, (((List.getD x0 (Int.toNat x6) (ByteArray.empty, (0, (0, (ByteArray.empty, []))))).2).1, ((((List.getD x0 (Int.toNat x6) (ByteArray.empty, (0, (0, (ByteArray.empty, []))))).2).2).1, ((((List.getD x0 (Int.toNat x6) (ByteArray.empty, (0, (0, (ByteArray.empty, []))))).2).2).2)))) b3000064_0).bind fun r6 =>
    bif (!r6.1)
    then bif ((decide (0 ≤ x5)) && (decide (x5 < (List.length x0 : Int))))
     then slices_DeleteFunc_Entry_drop_L0 (List.set x0 (Int.toNat x5) ((List.getD x0 (Int.toNat x6) (ByteArray.empty, (0, (0, (ByteArray.empty, []))))).1, (((List.getD x0 (Int.toNat x6) (ByteArray.empty, (0, (0, (ByteArray.empty, []))))).2).1, ((((List.getD x0 (Int.toNat x6) (ByteArray.empty, (0, (0, (ByteArray.empty, []))))).2).2).1, (((((List.getD x0 (Int.toNat x6) (ByteArray.empty, (0, (0, (ByteArray.empty, []))))).2).2).2).1, ((((List.getD x0 (Int.toNat x6) (ByteArray.empty, (0, (0, (ByteArray.empty, []))))).2).2).2).2))))) (w64 (x5 + 1)) (w64 (x6 + 1)) b3000064_0
     else none
    else slices_DeleteFunc_Entry_drop_L0 x0 x5 (w64 (x6 + 1)) b3000064_0
   else none
  else bif ((decide (0 ≤ x5)) && ((decide (x5 ≤ (List.length x0 : Int))) && (decide ((List.length x0 : Int) ≤ (List.length x0 : Int)))))
   then bif ((decide ((0 : Int) ≤ 0)) && ((decide (0 ≤ x5)) && (decide (x5 ≤ (List.length (((List.take (Int.toNat x5) x0) ++ (List.replicate ((Int.toNat (List.length x0 : Int)) - (Int.toNat x5)) (ByteArray.empty, (0, (0, (ByteArray.empty, [])))))) ++ (List.drop (Int.toNat (List.length x0 : Int)) x0)) : Int)))))
    then some ((List.take ((Int.toNat x5) - (Int.toNat 0)) (List.drop (Int.toNat 0) (((List.take (Int.toNat x5) x0) ++ (List.replicate ((Int.toNat (List.length x0 : Int)) - (Int.toNat x5)) (ByteArray.empty, (0, (0, (ByteArray.empty, [])))))) ++ (List.drop (Int.toNat (List.length x0 : Int)) x0)))), ((), ()))
    else none
   else none : Option ((List D_Entry) × ((Unit) × Unit))) := (loopAt_mk X 1012 0 [] _ _ _).trans (by kernel_rfl)
end Go.Den.S
