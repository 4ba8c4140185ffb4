/- EqD0: equations of the functions of this seat as the executor tells them, or plain facts about them. Conditions: none here. -/
import Derived.Test.YtkpdhadfnanagaaDoorEqA
set_option linter.all false
namespace Go.Den.S
open Go Go.Den Go.Proofs
theorem laws_FnQueues_eq (a0 : (List Int)) : laws_FnQueues a0 =
  ((laws_big a0).bind fun r3 =>
  bif r3.1
  then some (true, ())
  else (spec_DrawWords a0).bind fun r4 =>
   (impl_Settle (c_rest, (false, (false, ([], false)))) [c_multi]).bind fun r5 =>
   bif (!((ByteArray.toList r5.1.2.2.1) == (ByteArray.toList c__OK___5_540711)))
   then some (false, ())
   else bif (r5.1.2.2.2 != 0)
    then some (false, ())
    else bif (!r5.1.1.2.1)
     then some (false, ())
     else laws_FnQueues_L0 r4.1 [] false 0 r5.1.1.1 r5.1.1.2.1 r5.1.1.2.2.1 r5.1.1.2.2.2.1 r5.1.1.2.2.2.2 : Option (Bool × Unit)) := (DF_eq X rfl _).trans (by kernel_rfl)
theorem laws_FnQueues_L0_eq (x3 : (List (List ByteArray))) (x8 : (List (List ByteArray))) (x9 : Bool) (x10 : Int) (b4224_0 : ByteArray) (b4224_1 : Bool) (b4224_2 : Bool) (b4224_3 : (List (List ByteArray))) (b4224_4 : Bool) : laws_FnQueues_L0 x3 x8 x9 x10 b4224_0 b4224_1 b4224_2 b4224_3 b4224_4 =
  (bif (decide (x10 < (List.length x3 : Int)))
  then bif ((decide (0 ≤ x10)) && (decide (x10 < (List.length x3 : Int))))
   then bif (decide ((List.length (List.getD x3 (Int.toNat x10) []) : Int) > 0))
    then bif ((decide (0 ≤ x10)) && (decide (x10 < (List.length x3 : Int))))
     then bif ((decide ((0 : Int) ≤ 0)) && (decide (0 < (List.length (List.getD x3 (Int.toNat x10) []) : Int))))
      then (spec_Upper (List.getD (List.getD x3 (Int.toNat x10) []) (Int.toNat 0) ByteArray.empty)).bind fun r11 =>
       laws_FnQueues_L1500014 x3 x8 x9 x10 r11.1 b4224_0 b4224_1 b4224_2 b4224_3 b4224_4
      else none
     else none
    else laws_FnQueues_L1500014 x3 x8 x9 x10 ByteArray.empty b4224_0 b4224_1 b4224_2 b4224_3 b4224_4
   else none
  else (impl_Settle (b4224_0, (b4224_1, (b4224_2, (b4224_3, b4224_4)))) [c_DISCARD]).bind fun r11 =>
   (impl_Settle (b4224_0, (b4224_1, (b4224_2, (b4224_3, b4224_4)))) [c_EXEC]).bind fun r12 =>
   bif r11.1.1.2.1
   then some (false, ())
   else bif ((List.length r11.1.2.1 : Int) != 0)
    then some (false, ())
    else bif r12.1.1.2.1
     then some (false, ())
     else bif r12.1.1.2.2.1
      then some (false, ())
      else bif ((List.length r12.1.1.2.2.2.1 : Int) != 0)
       then some (false, ())
       else bif (!((ByteArray.toList r12.1.1.1) == (ByteArray.toList c_rest)))
        then some (false, ())
        else (impl_ConnOk r12.1.1).bind fun r13 =>
         bif (!r13.1)
         then some (false, ())
         else bif x9
          then bif (r12.1.2.2.2 == 0)
           then bif ((ByteArray.toList r12.1.2.2.1) == (ByteArray.toList c__EXECABORT___12_584111))
            then some (((List.length r12.1.2.1 : Int) == 0), ())
            else some (false, ())
           else some (false, ())
          else bif (r12.1.2.2.2 != 2)
           then some (false, ())
           else bif ((List.length r12.1.2.1 : Int) != (List.length x8 : Int))
            then some (false, ())
            else laws_FnQueues_L2 x8 r12.1.2.1 0 : Option (Bool × Unit)) := (loopAt_mk X 4 0 [] _ _ _).trans (by kernel_rfl)
theorem laws_FnQueues_L2_eq (x8 : (List (List ByteArray))) (x22 : (List (List ByteArray))) (x25 : Int) : laws_FnQueues_L2 x8 x22 x25 =
  (bif (decide (x25 < (List.length x8 : Int)))
  then bif ((decide (0 ≤ x25)) && (decide (x25 < (List.length x22 : Int))))
   then bif ((decide (0 ≤ x25)) && (decide (x25 < (List.length x8 : Int))))
    then (laws_sameTexts (List.getD x22 (Int.toNat x25) []) (List.getD x8 (Int.toNat x25) [])).bind fun r5 =>
     bif (!r5.1)
     then some (false, ())
     else laws_FnQueues_L2 x8 x22 (w64 (x25 + 1))
    else none
   else none
  else some (true, ()) : Option (Bool × Unit)) := (loopAt_mk X 4 2 [] _ _ _).trans (by kernel_rfl)
theorem laws_FnQueues_L1000001_eq (x3 : (List (List ByteArray))) (x8 : (List (List ByteArray))) (x9 : Bool) (x10 : Int) (b4224_0 : ByteArray) (b4224_1 : Bool) (b4224_2 : Bool) (b4224_3 : (List (List ByteArray))) (b4224_4 : Bool) : laws_FnQueues_L1000001 x3 x8 x9 x10 b4224_0 b4224_1 b4224_2 b4224_3 b4224_4 =
  (laws_FnQueues_L0 x3 x8 x9 (w64 (x10 + 1)) b4224_0 b4224_1 b4224_2 b4224_3 b4224_4 : Option (Bool × Unit)) := (loopAt_mk X 4 1000001 [0] _ _ _).trans (by kernel_rfl)
theorem laws_FnQueues_L1500014_eq (x3 : (List (List ByteArray))) (x8 : (List (List ByteArray))) (x9 : Bool) (x10 : Int) (x11 : ByteArray) (b4224_0 : ByteArray) (b4224_1 : Bool) (b4224_2 : Bool) (b4224_3 : (List (List ByteArray))) (b4224_4 : Bool) : laws_FnQueues_L1500014 x3 x8 x9 x10 x11 b4224_0 b4224_1 b4224_2 b4224_3 b4224_4 =
  (bif ((decide (0 ≤ x10)) && (decide (x10 < (List.length x3 : Int))))
  then bif ((List.length (List.getD x3 (Int.toNat x10) []) : Int) == 0)
   then laws_FnQueues_L1000001 x3 x8 x9 x10 b4224_0 b4224_1 b4224_2 b4224_3 b4224_4
   else bif ((ByteArray.toList x11) == (ByteArray.toList c_MULTI))
    then laws_FnQueues_L1000001 x3 x8 x9 x10 b4224_0 b4224_1 b4224_2 b4224_3 b4224_4
    else bif ((ByteArray.toList x11) == (ByteArray.toList c_EXEC))
     then laws_FnQueues_L1000001 x3 x8 x9 x10 b4224_0 b4224_1 b4224_2 b4224_3 b4224_4
     else bif ((ByteArray.toList x11) == (ByteArray.toList c_DISCARD))
      then laws_FnQueues_L1000001 x3 x8 x9 x10 b4224_0 b4224_1 b4224_2 b4224_3 b4224_4
      else bif ((decide (0 ≤ x10)) && (decide (x10 < (List.length x3 : Int))))
       then (impl_Settle (b4224_0, (b4224_1, (b4224_2, (b4224_3, b4224_4)))) (List.getD x3 (Int.toNat x10) [])).bind fun r12 =>
        bif ((decide (0 ≤ x10)) && (decide (x10 < (List.length x3 : Int))))
        then (spec_Unknown (List.getD x3 (Int.toNat x10) [])).bind fun r13 =>
         bif (r12.1.2.2.2 != 0)
         then some (false, ())
         else bif ((List.length r12.1.2.1 : Int) != 0)
          then some (false, ())
          else bif (!((ByteArray.toList r13.1) == (ByteArray.toList ByteArray.empty)))
           then bif (!((ByteArray.toList r12.1.2.2.1) == (ByteArray.toList r13.1)))
            then some (false, ())
            else bif ((ByteArray.toList r13.1) == (ByteArray.toList ByteArray.empty))
             then bif (!((ByteArray.toList r12.1.2.2.1) == (ByteArray.toList c__QUEUED___9_151541)))
              then some (false, ())
              else laws_FnQueues_L1500019 x3 x8 x9 x10 r13.1 b4224_0 b4224_1 b4224_2 b4224_3 b4224_4 r12.1.1.1 r12.1.1.2.1 r12.1.1.2.2.1 r12.1.1.2.2.2.1 r12.1.1.2.2.2.2
             else laws_FnQueues_L1500019 x3 x8 x9 x10 r13.1 b4224_0 b4224_1 b4224_2 b4224_3 b4224_4 r12.1.1.1 r12.1.1.2.1 r12.1.1.2.2.1 r12.1.1.2.2.2.1 r12.1.1.2.2.2.2
           else bif ((ByteArray.toList r13.1) == (ByteArray.toList ByteArray.empty))
            then bif (!((ByteArray.toList r12.1.2.2.1) == (ByteArray.toList c__QUEUED___9_151541)))
             then some (false, ())
             else laws_FnQueues_L1500019 x3 x8 x9 x10 r13.1 b4224_0 b4224_1 b4224_2 b4224_3 b4224_4 r12.1.1.1 r12.1.1.2.1 r12.1.1.2.2.1 r12.1.1.2.2.2.1 r12.1.1.2.2.2.2
            else laws_FnQueues_L1500019 x3 x8 x9 x10 r13.1 b4224_0 b4224_1 b4224_2 b4224_3 b4224_4 r12.1.1.1 r12.1.1.2.1 r12.1.1.2.2.1 r12.1.1.2.2.2.1 r12.1.1.2.2.2.2
        else none
       else none
  else none : Option (Bool × Unit)) := (loopAt_mk X 4 1500014 [0] _ _ _).trans (by kernel_rfl)
theorem laws_FnQueues_L1500019_eq (x3 : (List (List ByteArray))) (x8 : (List (List ByteArray))) (x9 : Bool) (x10 : Int) (x16 : ByteArray) (b4224_0 : ByteArray) (b4224_1 : Bool) (b4224_2 : Bool) (b4224_3 : (List (List ByteArray))) (b4224_4 : Bool) (b16560_0 : ByteArray) (b16560_1 : Bool) (b16560_2 : Bool) (b16560_3 : (List (List ByteArray))) (b16560_4 : Bool) : laws_FnQueues_L1500019 x3 x8 x9 x10 x16 b4224_0 b4224_1 b4224_2 b4224_3 b4224_4 b16560_0 b16560_1 b16560_2 b16560_3 b16560_4 =
  (bif x9
  then bif ((ByteArray.toList x16) == (ByteArray.toList ByteArray.empty))
   then bif ((decide (0 ≤ x10)) && (decide (x10 < (List.length x3 : Int))))
    then bif (lim ((List.length x8) + 1) 24)
     then laws_FnQueues_L1500022 x3 (x8 ++ [(List.getD x3 (Int.toNat x10) [])]) true x10 b4224_0 b4224_1 b4224_2 b4224_3 b4224_4 b16560_0 b16560_1 b16560_2 b16560_3 b16560_4
     else none
    else none
   else laws_FnQueues_L1500022 x3 x8 true x10 b4224_0 b4224_1 b4224_2 b4224_3 b4224_4 b16560_0 b16560_1 b16560_2 b16560_3 b16560_4
  else bif ((ByteArray.toList x16) == (ByteArray.toList ByteArray.empty))
   then bif ((decide (0 ≤ x10)) && (decide (x10 < (List.length x3 : Int))))
    then bif (lim ((List.length x8) + 1) 24)
     then laws_FnQueues_L1500022 x3 (x8 ++ [(List.getD x3 (Int.toNat x10) [])]) (!((ByteArray.toList x16) == (ByteArray.toList ByteArray.empty))) x10 b4224_0 b4224_1 b4224_2 b4224_3 b4224_4 b16560_0 b16560_1 b16560_2 b16560_3 b16560_4
     else none
    else none
   else laws_FnQueues_L1500022 x3 x8 (!((ByteArray.toList x16) == (ByteArray.toList ByteArray.empty))) x10 b4224_0 b4224_1 b4224_2 b4224_3 b4224_4 b16560_0 b16560_1 b16560_2 b16560_3 b16560_4 : Option (Bool × Unit)) := (loopAt_mk X 4 1500019 [0] _ _ _).trans (by kernel_rfl)
theorem laws_FnQueues_L1500022_eq (x3 : (List (List ByteArray))) (x8 : (List (List ByteArray))) (x9 : Bool) (x10 : Int) (b4224_0 : ByteArray) (b4224_1 : Bool) (b4224_2 : Bool) (b4224_3 : (List (List ByteArray))) (b4224_4 : Bool) (b16560_0 : ByteArray) (b16560_1 : Bool) (b16560_2 : Bool) (b16560_3 : (List (List ByteArray))) (b16560_4 : Bool) : laws_FnQueues_L1500022 x3 x8 x9 x10 b4224_0 b4224_1 b4224_2 b4224_3 b4224_4 b16560_0 b16560_1 b16560_2 b16560_3 b16560_4 =
  (laws_FnQueues_L1000001 x3 x8 x9 x10 b16560_0 b16560_1 b16560_2 b16560_3 b16560_4 : Option (Bool × Unit)) := (loopAt_mk X 4 1500022 [0] _ _ _).trans (by kernel_rfl)
theorem impl_ConnOk_eq (a0 : D_Conn) : impl_ConnOk a0 =
  (bif (decide ((ByteArray.size a0.1 : Int) > 2000))
  then some (false, ())
  else bif (decide ((List.length a0.2.2.2.1 : Int) > 8))
   then some (false, ())
   else (slices_ContainsFunc_____string___string_ a0.2.2.2.1 ()).bind fun r3 =>
    bif r3.1
    then some (false, ())
    else bif a0.2.1
     then bif (!a0.2.2.2.2)
      then some (true, ())
      else bif ((ByteArray.toList a0.1) == (ByteArray.toList ByteArray.empty))
       then some ((!a0.2.1), ())
       else some (false, ())
     else bif ((List.length a0.2.2.2.1 : Int) == 0)
      then bif (!a0.2.2.1)
       then bif (!a0.2.2.2.2)
        then some (true, ())
        else bif ((ByteArray.toList a0.1) == (ByteArray.toList ByteArray.empty))
         then some ((!a0.2.1), ())
         else some (false, ())
       else some (false, ())
      else some (false, ()) : Option (Bool × Unit)) := (DF_eq X rfl _).trans (by kernel_rfl)
theorem laws_big_eq (a0 : (List Int)) : laws_big a0 =
  (some ((decide ((List.length a0 : Int) > 1048576)), ()) : Option (Bool × Unit)) := (DF_eq X rfl _).trans (by kernel_rfl)
theorem spec_DrawWords_eq (a0 : (List Int)) : spec_DrawWords a0 =
  ((spec_l01New a0).bind fun r3 =>
  spec_DrawWords_L0 [] 0 r3.1.1 r3.1.2.1 r3.1.2.2 : Option ((List (List ByteArray)) × Unit)) := (DF_eq X rfl _).trans (by kernel_rfl)
theorem spec_DrawWords_L0_eq (x4 : (List (List ByteArray))) (x5 : Int) (b1040_0 : (List Int)) (b1040_1 : Int) (b1040_2 : Int) : spec_DrawWords_L0 x4 x5 b1040_0 b1040_1 b1040_2 =
  ((spec_l01Below (b1040_0, (b1040_1, b1040_2)) 5).bind fun r7 =>
  bif (decide (x5 < r7.1))
  then (spec_l11Args r7.2.1).bind fun r8 =>
   bif (lim ((List.length x4) + 1) 24)
   then spec_DrawWords_L0 (x4 ++ [r8.1]) (w64 (x5 + 1)) r8.2.1.1 r8.2.1.2.1 r8.2.1.2.2
   else none
  else some (x4, ()) : Option ((List (List ByteArray)) × Unit)) := (loopAt_mk X 16 0 [] _ _ _).trans (by kernel_rfl)
theorem impl_Settle_eq (a0 : D_Conn) (a1 : (List ByteArray)) : impl_Settle a0 a1 =
  ((impl_copyConn a0).bind fun r4 =>
  bif ((List.length a1 : Int) == 0)
  then some ((r4.1, ([], (ByteArray.empty, 0))), ())
  else bif ((List.length a1 : Int) == 1)
   then bif ((decide ((0 : Int) ≤ 0)) && (decide (0 < (List.length a1 : Int))))
    then (impl_Upper (List.getD a1 (Int.toNat 0) ByteArray.empty)).bind fun r5 =>
     (impl_copyConn a0).bind fun r6 =>
     bif ((ByteArray.toList r5.1) == (ByteArray.toList c_MULTI))
     then bif a0.2.1
      then (impl_Fault c_ERR_nested).bind fun r7 =>
       some ((r4.1, ([], (r7.1, 0))), ())
      else bif ((ByteArray.toList r5.1) == (ByteArray.toList c_MULTI))
       then (impl_Simple c_OK).bind fun r7 =>
        some (((r4.1.1, (true, r4.1.2.2)), ([], (r7.1, 0))), ())
       else bif ((ByteArray.toList r5.1) == (ByteArray.toList c_DISCARD))
        then bif (!a0.2.1)
         then (impl_Fault c_ERR_no_multi).bind fun r7 =>
          some ((r4.1, ([], (r7.1, 0))), ())
         else bif ((ByteArray.toList r5.1) == (ByteArray.toList c_DISCARD))
          then (impl_Simple c_OK).bind fun r7 =>
           some (((r6.1.1, (false, (false, ([], r6.1.2.2.2.2)))), ([], (r7.1, 0))), ())
          else bif ((ByteArray.toList r5.1) == (ByteArray.toList c_EXEC))
           then bif a0.2.2.1
            then (impl_Fault c_EXECABORT).bind fun r7 =>
             some (((r6.1.1, (false, (false, ([], r6.1.2.2.2.2)))), ([], (r7.1, 0))), ())
            else bif ((ByteArray.toList r5.1) == (ByteArray.toList c_EXEC))
             then (impl_copyList a0.2.2.2.1).bind fun r7 =>
              some (((r6.1.1, (false, (false, ([], r6.1.2.2.2.2)))), (r7.1, (ByteArray.empty, 2))), ())
             else (impl_settleOne r4.1 a1).bind fun r7 =>
              some (r7.1, ())
           else bif ((ByteArray.toList r5.1) == (ByteArray.toList c_EXEC))
            then (impl_copyList a0.2.2.2.1).bind fun r7 =>
             some (((r6.1.1, (false, (false, ([], r6.1.2.2.2.2)))), (r7.1, (ByteArray.empty, 2))), ())
            else (impl_settleOne r4.1 a1).bind fun r7 =>
             some (r7.1, ())
        else bif ((ByteArray.toList r5.1) == (ByteArray.toList c_EXEC))
         then bif (!a0.2.1)
          then (impl_Fault c_ERR_no_multi).bind fun r7 =>
           some ((r4.1, ([], (r7.1, 0))), ())
          else bif ((ByteArray.toList r5.1) == (ByteArray.toList c_DISCARD))
           then (impl_Simple c_OK).bind fun r7 =>
            some (((r6.1.1, (false, (false, ([], r6.1.2.2.2.2)))), ([], (r7.1, 0))), ())
           else bif ((ByteArray.toList r5.1) == (ByteArray.toList c_EXEC))
            then bif a0.2.2.1
             then (impl_Fault c_EXECABORT).bind fun r7 =>
              some (((r6.1.1, (false, (false, ([], r6.1.2.2.2.2)))), ([], (r7.1, 0))), ())
             else bif ((ByteArray.toList r5.1) == (ByteArray.toList c_EXEC))
              then (impl_copyList a0.2.2.2.1).bind fun r7 =>
               some (((r6.1.1, (false, (false, ([], r6.1.2.2.2.2)))), (r7.1, (ByteArray.empty, 2))), ())
              else (impl_settleOne r4.1 a1).bind fun r7 =>
               some (r7.1, ())
            else bif ((ByteArray.toList r5.1) == (ByteArray.toList c_EXEC))
             then (impl_copyList a0.2.2.2.1).bind fun r7 =>
              some (((r6.1.1, (false, (false, ([], r6.1.2.2.2.2)))), (r7.1, (ByteArray.empty, 2))), ())
             else (impl_settleOne r4.1 a1).bind fun r7 =>
              some (r7.1, ())
         else bif ((ByteArray.toList r5.1) == (ByteArray.toList c_DISCARD))
          then (impl_Simple c_OK).bind fun r7 =>
           some (((r6.1.1, (false, (false, ([], r6.1.2.2.2.2)))), ([], (r7.1, 0))), ())
          else bif ((ByteArray.toList r5.1) == (ByteArray.toList c_EXEC))
           then bif a0.2.2.1
            then (impl_Fault c_EXECABORT).bind fun r7 =>
             some (((r6.1.1, (false, (false, ([], r6.1.2.2.2.2)))), ([], (r7.1, 0))), ())
            else bif ((ByteArray.toList r5.1) == (ByteArray.toList c_EXEC))
             then (impl_copyList a0.2.2.2.1).bind fun r7 =>
              some (((r6.1.1, (false, (false, ([], r6.1.2.2.2.2)))), (r7.1, (ByteArray.empty, 2))), ())
             else (impl_settleOne r4.1 a1).bind fun r7 =>
              some (r7.1, ())
           else bif ((ByteArray.toList r5.1) == (ByteArray.toList c_EXEC))
            then (impl_copyList a0.2.2.2.1).bind fun r7 =>
             some (((r6.1.1, (false, (false, ([], r6.1.2.2.2.2)))), (r7.1, (ByteArray.empty, 2))), ())
            else (impl_settleOne r4.1 a1).bind fun r7 =>
             some (r7.1, ())
     else bif ((ByteArray.toList r5.1) == (ByteArray.toList c_MULTI))
      then (impl_Simple c_OK).bind fun r7 =>
       some (((r4.1.1, (true, r4.1.2.2)), ([], (r7.1, 0))), ())
      else bif ((ByteArray.toList r5.1) == (ByteArray.toList c_DISCARD))
       then bif (!a0.2.1)
        then (impl_Fault c_ERR_no_multi).bind fun r7 =>
         some ((r4.1, ([], (r7.1, 0))), ())
        else bif ((ByteArray.toList r5.1) == (ByteArray.toList c_DISCARD))
         then (impl_Simple c_OK).bind fun r7 =>
          some (((r6.1.1, (false, (false, ([], r6.1.2.2.2.2)))), ([], (r7.1, 0))), ())
         else bif ((ByteArray.toList r5.1) == (ByteArray.toList c_EXEC))
          then bif a0.2.2.1
           then (impl_Fault c_EXECABORT).bind fun r7 =>
            some (((r6.1.1, (false, (false, ([], r6.1.2.2.2.2)))), ([], (r7.1, 0))), ())
           else bif ((ByteArray.toList r5.1) == (ByteArray.toList c_EXEC))
            then (impl_copyList a0.2.2.2.1).bind fun r7 =>
             some (((r6.1.1, (false, (false, ([], r6.1.2.2.2.2)))), (r7.1, (ByteArray.empty, 2))), ())
            else (impl_settleOne r4.1 a1).bind fun r7 =>
             some (r7.1, ())
          else bif ((ByteArray.toList r5.1) == (ByteArray.toList c_EXEC))
           then (impl_copyList a0.2.2.2.1).bind fun r7 =>
            some (((r6.1.1, (false, (false, ([], r6.1.2.2.2.2)))), (r7.1, (ByteArray.empty, 2))), ())
           else (impl_settleOne r4.1 a1).bind fun r7 =>
            some (r7.1, ())
       else bif ((ByteArray.toList r5.1) == (ByteArray.toList c_EXEC))
        then bif (!a0.2.1)
         then (impl_Fault c_ERR_no_multi).bind fun r7 =>
          some ((r4.1, ([], (r7.1, 0))), ())
         else bif ((ByteArray.toList r5.1) == (ByteArray.toList c_DISCARD))
          then (impl_Simple c_OK).bind fun r7 =>
           some (((r6.1.1, (false, (false, ([], r6.1.2.2.2.2)))), ([], (r7.1, 0))), ())
          else bif ((ByteArray.toList r5.1) == (ByteArray.toList c_EXEC))
           then bif a0.2.2.1
            then (impl_Fault c_EXECABORT).bind fun r7 =>
             some (((r6.1.1, (false, (false, ([], r6.1.2.2.2.2)))), ([], (r7.1, 0))), ())
            else bif ((ByteArray.toList r5.1) == (ByteArray.toList c_EXEC))
             then (impl_copyList a0.2.2.2.1).bind fun r7 =>
              some (((r6.1.1, (false, (false, ([], r6.1.2.2.2.2)))), (r7.1, (ByteArray.empty, 2))), ())
             else (impl_settleOne r4.1 a1).bind fun r7 =>
              some (r7.1, ())
           else bif ((ByteArray.toList r5.1) == (ByteArray.toList c_EXEC))
            then (impl_copyList a0.2.2.2.1).bind fun r7 =>
             some (((r6.1.1, (false, (false, ([], r6.1.2.2.2.2)))), (r7.1, (ByteArray.empty, 2))), ())
            else (impl_settleOne r4.1 a1).bind fun r7 =>
             some (r7.1, ())
        else bif ((ByteArray.toList r5.1) == (ByteArray.toList c_DISCARD))
         then (impl_Simple c_OK).bind fun r7 =>
          some (((r6.1.1, (false, (false, ([], r6.1.2.2.2.2)))), ([], (r7.1, 0))), ())
         else bif ((ByteArray.toList r5.1) == (ByteArray.toList c_EXEC))
          then bif a0.2.2.1
           then (impl_Fault c_EXECABORT).bind fun r7 =>
            some (((r6.1.1, (false, (false, ([], r6.1.2.2.2.2)))), ([], (r7.1, 0))), ())
           else bif ((ByteArray.toList r5.1) == (ByteArray.toList c_EXEC))
            then (impl_copyList a0.2.2.2.1).bind fun r7 =>
             some (((r6.1.1, (false, (false, ([], r6.1.2.2.2.2)))), (r7.1, (ByteArray.empty, 2))), ())
            else (impl_settleOne r4.1 a1).bind fun r7 =>
             some (r7.1, ())
          else bif ((ByteArray.toList r5.1) == (ByteArray.toList c_EXEC))
           then (impl_copyList a0.2.2.2.1).bind fun r7 =>
            some (((r6.1.1, (false, (false, ([], r6.1.2.2.2.2)))), (r7.1, (ByteArray.empty, 2))), ())
           else (impl_settleOne r4.1 a1).bind fun r7 =>
            some (r7.1, ())
    else none
   else (impl_copyConn a0).bind fun r5 =>
    (impl_settleOne r4.1 a1).bind fun r6 =>
    some (r6.1, ()) : Option ((D_Conn × (List (List ByteArray)) × ByteArray × Int) × Unit)) := (DF_eq X rfl _).trans (by kernel_rfl)
theorem spec_Upper_eq (a0 : ByteArray) : spec_Upper a0 =
  (spec_Upper_L0 (bytesL a0) 0 : Option (ByteArray × Unit)) := (DF_eq X rfl _).trans (by kernel_rfl)
theorem spec_Upper_L0_eq (x3 : (List Int)) (x4 : Int) : spec_Upper_L0 x3 x4 =
  (bif (decide (x4 < (List.length x3 : Int)))
  then bif ((decide (0 ≤ x4)) && (decide (x4 < (List.length x3 : Int))))
   then bif (decide ((List.getD x3 (Int.toNat x4) 0) ≥ 97))
    then bif ((decide (0 ≤ x4)) && (decide (x4 < (List.length x3 : Int))))
     then bif (decide ((List.getD x3 (Int.toNat x4) 0) ≤ 122))
      then bif ((decide (0 ≤ x4)) && (decide (x4 < (List.length x3 : Int))))
       then bif ((decide (0 ≤ x4)) && (decide (x4 < (List.length x3 : Int))))
        then spec_Upper_L0 (List.set x3 (Int.toNat x4) (Go.IntKind.u8.wrap ((List.getD x3 (Int.toNat x4) 0) - 32))) (w64 (x4 + 1))
        else none
       else none
      else spec_Upper_L0 x3 (w64 (x4 + 1))
     else none
    else spec_Upper_L0 x3 (w64 (x4 + 1))
   else none
  else some ((⟨(List.toArray (List.map (fun n => (UInt8.ofNat (Int.toNat n))) x3))⟩ : ByteArray), ()) : Option (ByteArray × Unit)) := (loopAt_mk X 18 0 [] _ _ _).trans (by kernel_rfl)
theorem spec_Unknown_eq (a0 : (List ByteArray)) : spec_Unknown a0 =
  (bif ((List.length a0 : Int) == 0)
  then (spec_Fault c_ERR_unknown).bind fun r3 =>
   some (r3.1, ())
  else (spec_Commands).bind fun r3 =>
   bif ((decide ((0 : Int) ≤ 0)) && (decide (0 < (List.length a0 : Int))))
   then (spec_Upper (List.getD a0 (Int.toNat 0) ByteArray.empty)).bind fun r4 =>
    (spec_l13In r3.1 r4.1).bind fun r5 =>
    bif (!r5.1)
    then (spec_Fault c_ERR_unknown).bind fun r6 =>
     some (r6.1, ())
    else (spec_ArityOk a0).bind fun r6 =>
     bif (!r6.1)
     then (spec_Fault c_ERR_arguments).bind fun r7 =>
      some (r7.1, ())
     else some (ByteArray.empty, ())
   else none : Option (ByteArray × Unit)) := (DF_eq X rfl _).trans (by kernel_rfl)
theorem laws_sameTexts_eq (a0 : (List ByteArray)) (a1 : (List ByteArray)) : laws_sameTexts a0 a1 =
  (bif ((List.length a0 : Int) != (List.length a1 : Int))
  then some (false, ())
  else laws_sameTexts_L0 a0 a1 0 : Option (Bool × Unit)) := (DF_eq X rfl _).trans (by kernel_rfl)
theorem laws_sameTexts_L0_eq (x0 : (List ByteArray)) (x1 : (List ByteArray)) (x5 : Int) : laws_sameTexts_L0 x0 x1 x5 =
  (bif (decide (x5 < (List.length x0 : Int)))
  then bif ((decide (0 ≤ x5)) && (decide (x5 < (List.length x0 : Int))))
   then bif ((decide (0 ≤ x5)) && (decide (x5 < (List.length x1 : Int))))
    then bif (!((ByteArray.toList (List.getD x0 (Int.toNat x5) ByteArray.empty)) == (ByteArray.toList (List.getD x1 (Int.toNat x5) ByteArray.empty))))
     then some (false, ())
     else laws_sameTexts_L0 x0 x1 (w64 (x5 + 1))
    else none
   else none
  else some (true, ()) : Option (Bool × Unit)) := (loopAt_mk X 20 0 [] _ _ _).trans (by kernel_rfl)
theorem slices_ContainsFunc_____string___string__eq (a0 : (List (List ByteArray))) (a1 : Unit) : slices_ContainsFunc_____string___string_ a0 a1 =
  ((slices_IndexFunc_____string___string_ a0 ()).bind fun r4 =>
  some ((decide (r4.1 ≥ 0)), ((), ())) : Option (Bool × ((Unit) × Unit))) := (DF_eq X rfl _).trans (by kernel_rfl)
theorem impl_ConnOk_1_eq (a0 : (List ByteArray)) : impl_ConnOk_1 a0 =
  ((impl_Unknown a0).bind fun r3 =>
  some ((!((ByteArray.toList r3.1) == (ByteArray.toList ByteArray.empty))), ()) : Option (Bool × Unit)) := (DF_eq X rfl _).trans (by kernel_rfl)
theorem impl_Unknown_eq (a0 : (List ByteArray)) : impl_Unknown a0 =
  ((impl_oneOf a0 c_PING_ECHO_GE_244_482754).bind fun r3 =>
  bif (!r3.1)
  then (impl_Fault c_ERR_unknown).bind fun r4 =>
   some (r4.1, ())
  else (impl_ArityOk a0).bind fun r4 =>
   bif (!r4.1)
   then (impl_Fault c_ERR_arguments).bind fun r5 =>
    some (r5.1, ())
   else some (ByteArray.empty, ()) : Option (ByteArray × Unit)) := (DF_eq X rfl _).trans (by kernel_rfl)
theorem spec_l01New_eq (a0 : (List Int)) : spec_l01New a0 =
  (spec_l01New_L0 a0 (w64 (12701 + (List.length a0 : Int))) 0 : Option (D_l01Cur × Unit)) := (DF_eq X rfl _).trans (by kernel_rfl)
theorem spec_l01New_L0_eq (x0 : (List Int)) (x3 : Int) (x4 : Int) : spec_l01New_L0 x0 x3 x4 =
  (bif (decide (x4 < (List.length x0 : Int)))
  then bif (decide (x4 < 4000))
   then bif ((decide (0 ≤ x4)) && (decide (x4 < (List.length x0 : Int))))
    then spec_l01New_L0 x0 (w64 (andI Go.IntKind.i64 (w64 ((w64 ((w64 (x3 * 131)) + (w64 (List.getD x0 (Int.toNat x4) 0)))) + 7)) 1073741823)) (w64 (x4 + 1))
    else none
   else some ((x0, (0, x3)), ())
  else some ((x0, (0, x3)), ()) : Option (D_l01Cur × Unit)) := (loopAt_mk X 49 0 [] _ _ _).trans (by kernel_rfl)
theorem spec_l01Below_eq (a0 : D_l01Cur) (a1 : Int) : spec_l01Below a0 a1 =
  (bif (decide (a1 ≤ 0))
  then some (0, (a0, ()))
  else bif (decide (a1 ≤ 256))
   then (spec_l01Byte a0).bind fun r4 =>
    bif (a1 != 0)
    then some ((Int.tmod r4.1 a1), (r4.2.1, ()))
    else none
   else (spec_l01Byte a0).bind fun r4 =>
    (spec_l01Byte r4.2.1).bind fun r5 =>
    (spec_l01Byte r5.2.1).bind fun r6 =>
    (spec_l01Byte r6.2.1).bind fun r7 =>
    bif (a1 != 0)
    then some ((Int.tmod (w64 ((w64 ((w64 ((w64 (r4.1 * 16777216)) + (w64 (r5.1 * 65536)))) + (w64 (r6.1 * 256)))) + r7.1)) a1), (r7.2.1, ()))
    else none : Option (Int × (D_l01Cur × Unit))) := (DF_eq X rfl _).trans (by kernel_rfl)
theorem spec_l11Args_eq (a0 : D_l01Cur) : spec_l11Args a0 =
  ((spec_Commands).bind fun r3 =>
  (spec_l01Below a0 (List.length r3.1 : Int)).bind fun r4 =>
  bif ((decide (0 ≤ r4.1)) && (decide (r4.1 < (List.length r3.1 : Int))))
  then (spec_l01Once r4.2.1 3).bind fun r5 =>
   bif r5.1
   then (spec_l01Pick r5.2.1 ([c_SET, c_GET, c_LPUSH, c_HSET, c_SADD, c_INCR, c_EXPIRE, c_DEL, c_TTL, c_APPEND])).bind fun r6 =>
    (spec_l01Once r6.2.1 8).bind fun r7 =>
    bif r7.1
    then (spec_l01Pick r7.2.1 ([c_get, c_Set, c_nope, c_MULTI, c_EXEC, ByteArray.empty])).bind fun r8 =>
     bif ((ByteArray.toList r6.1) == (ByteArray.toList c_PING))
     then (spec_l01Below r8.2.1 20).bind fun r9 =>
      bif (r9.1 == 0)
      then bif (lim ((1 : Nat) + 1) 16)
       then some (((List.set [r6.1] (Int.toNat 0) r8.1) ++ [c_x]), (r9.2.1, ()))
       else none
      else bif (r9.1 == 1)
       then some ((List.take ((Int.toNat (w64 (((1 : Nat) : Int) - 1))) - (Int.toNat 0)) (List.drop (Int.toNat 0) (List.set [r6.1] (Int.toNat 0) r8.1))), (r9.2.1, ()))
       else some ((List.set [r6.1] (Int.toNat 0) r8.1), (r9.2.1, ()))
     else bif ((ByteArray.toList r6.1) == (ByteArray.toList c_KEYS))
      then (spec_l01Below r8.2.1 20).bind fun r9 =>
       bif (r9.1 == 0)
       then bif (lim ((1 : Nat) + 1) 16)
        then some (((List.set [r6.1] (Int.toNat 0) r8.1) ++ [c_x]), (r9.2.1, ()))
        else none
       else bif (r9.1 == 1)
        then some ((List.take ((Int.toNat (w64 (((1 : Nat) : Int) - 1))) - (Int.toNat 0)) (List.drop (Int.toNat 0) (List.set [r6.1] (Int.toNat 0) r8.1))), (r9.2.1, ()))
        else some ((List.set [r6.1] (Int.toNat 0) r8.1), (r9.2.1, ()))
      else bif ((ByteArray.toList r6.1) == (ByteArray.toList c_DBSIZE))
       then (spec_l01Below r8.2.1 20).bind fun r9 =>
        bif (r9.1 == 0)
        then bif (lim ((1 : Nat) + 1) 16)
         then some (((List.set [r6.1] (Int.toNat 0) r8.1) ++ [c_x]), (r9.2.1, ()))
         else none
        else bif (r9.1 == 1)
         then some ((List.take ((Int.toNat (w64 (((1 : Nat) : Int) - 1))) - (Int.toNat 0)) (List.drop (Int.toNat 0) (List.set [r6.1] (Int.toNat 0) r8.1))), (r9.2.1, ()))
         else some ((List.set [r6.1] (Int.toNat 0) r8.1), (r9.2.1, ()))
       else bif ((ByteArray.toList r6.1) == (ByteArray.toList c_FLUSHALL))
        then (spec_l01Below r8.2.1 20).bind fun r9 =>
         bif (r9.1 == 0)
         then bif (lim ((1 : Nat) + 1) 16)
          then some (((List.set [r6.1] (Int.toNat 0) r8.1) ++ [c_x]), (r9.2.1, ()))
          else none
         else bif (r9.1 == 1)
          then some ((List.take ((Int.toNat (w64 (((1 : Nat) : Int) - 1))) - (Int.toNat 0)) (List.drop (Int.toNat 0) (List.set [r6.1] (Int.toNat 0) r8.1))), (r9.2.1, ()))
          else some ((List.set [r6.1] (Int.toNat 0) r8.1), (r9.2.1, ()))
        else bif ((ByteArray.toList r6.1) == (ByteArray.toList c_ECHO))
         then (spec_l10Word r8.2.1).bind fun r9 =>
          bif (lim ((1 : Nat) + 1) 16)
          then (spec_l01Below r9.2.1 20).bind fun r10 =>
           bif (r10.1 == 0)
           then bif (lim ((2 : Nat) + 1) 16)
            then some ((((List.set [r6.1] (Int.toNat 0) r8.1) ++ [r9.1]) ++ [c_x]), (r10.2.1, ()))
            else none
           else bif (r10.1 == 1)
            then some ((List.take ((Int.toNat (w64 (((2 : Nat) : Int) - 1))) - (Int.toNat 0)) (List.drop (Int.toNat 0) ((List.set [r6.1] (Int.toNat 0) r8.1) ++ [r9.1]))), (r10.2.1, ()))
            else some (((List.set [r6.1] (Int.toNat 0) r8.1) ++ [r9.1]), (r10.2.1, ()))
          else none
         else bif ((ByteArray.toList r6.1) == (ByteArray.toList c_MGET))
          then spec_l11Args_L1 (List.set [r6.1] (Int.toNat 0) r8.1) 0 r8.2.1.1 r8.2.1.2.1 r8.2.1.2.2
          else bif ((ByteArray.toList r6.1) == (ByteArray.toList c_DEL))
           then spec_l11Args_L1 (List.set [r6.1] (Int.toNat 0) r8.1) 0 r8.2.1.1 r8.2.1.2.1 r8.2.1.2.2
           else bif ((ByteArray.toList r6.1) == (ByteArray.toList c_EXISTS))
            then spec_l11Args_L1 (List.set [r6.1] (Int.toNat 0) r8.1) 0 r8.2.1.1 r8.2.1.2.1 r8.2.1.2.2
            else bif ((ByteArray.toList r6.1) == (ByteArray.toList c_MSET))
             then spec_l11Args_L3 (List.set [r6.1] (Int.toNat 0) r8.1) 0 r8.2.1.1 r8.2.1.2.1 r8.2.1.2.2
             else (spec_l05Key r8.2.1).bind fun r9 =>
              bif (lim ((1 : Nat) + 1) 16)
              then (spec_l11Rest r9.2.1 r6.1).bind fun r10 =>
               bif (lim (2 + (List.length r10.1)) 16)
               then (spec_l01Below r10.2.1 20).bind fun r11 =>
                bif (r11.1 == 0)
                then bif (lim ((List.length (((List.set [r6.1] (Int.toNat 0) r8.1) ++ [r9.1]) ++ r10.1)) + 1) 16)
                 then some (((((List.set [r6.1] (Int.toNat 0) r8.1) ++ [r9.1]) ++ r10.1) ++ [c_x]), (r11.2.1, ()))
                 else none
                else bif (r11.1 == 1)
                 then bif ((decide ((0 : Int) ≤ 0)) && ((decide (0 ≤ (w64 ((List.length (((List.set [r6.1] (Int.toNat 0) r8.1) ++ [r9.1]) ++ r10.1) : Int) - 1)))) && (decide ((w64 ((List.length (((List.set [r6.1] (Int.toNat 0) r8.1) ++ [r9.1]) ++ r10.1) : Int) - 1)) ≤ (List.length (((List.set [r6.1] (Int.toNat 0) r8.1) ++ [r9.1]) ++ r10.1) : Int)))))
                  then some ((List.take ((Int.toNat (w64 ((List.length (((List.set [r6.1] (Int.toNat 0) r8.1) ++ [r9.1]) ++ r10.1) : Int) - 1))) - (Int.toNat 0)) (List.drop (Int.toNat 0) (((List.set [r6.1] (Int.toNat 0) r8.1) ++ [r9.1]) ++ r10.1))), (r11.2.1, ()))
                  else none
                 else some ((((List.set [r6.1] (Int.toNat 0) r8.1) ++ [r9.1]) ++ r10.1), (r11.2.1, ()))
               else none
              else none
    else bif ((ByteArray.toList r6.1) == (ByteArray.toList c_PING))
     then (spec_l01Below r7.2.1 20).bind fun r8 =>
      bif (r8.1 == 0)
      then bif (lim ((1 : Nat) + 1) 16)
       then some (([r6.1] ++ [c_x]), (r8.2.1, ()))
       else none
      else bif (r8.1 == 1)
       then some ((List.take ((Int.toNat (w64 (((1 : Nat) : Int) - 1))) - (Int.toNat 0)) (List.drop (Int.toNat 0) [r6.1])), (r8.2.1, ()))
       else some ([r6.1], (r8.2.1, ()))
     else bif ((ByteArray.toList r6.1) == (ByteArray.toList c_KEYS))
      then (spec_l01Below r7.2.1 20).bind fun r8 =>
       bif (r8.1 == 0)
       then bif (lim ((1 : Nat) + 1) 16)
        then some (([r6.1] ++ [c_x]), (r8.2.1, ()))
        else none
       else bif (r8.1 == 1)
        then some ((List.take ((Int.toNat (w64 (((1 : Nat) : Int) - 1))) - (Int.toNat 0)) (List.drop (Int.toNat 0) [r6.1])), (r8.2.1, ()))
        else some ([r6.1], (r8.2.1, ()))
      else bif ((ByteArray.toList r6.1) == (ByteArray.toList c_DBSIZE))
       then (spec_l01Below r7.2.1 20).bind fun r8 =>
        bif (r8.1 == 0)
        then bif (lim ((1 : Nat) + 1) 16)
         then some (([r6.1] ++ [c_x]), (r8.2.1, ()))
         else none
        else bif (r8.1 == 1)
         then some ((List.take ((Int.toNat (w64 (((1 : Nat) : Int) - 1))) - (Int.toNat 0)) (List.drop (Int.toNat 0) [r6.1])), (r8.2.1, ()))
         else some ([r6.1], (r8.2.1, ()))
       else bif ((ByteArray.toList r6.1) == (ByteArray.toList c_FLUSHALL))
        then (spec_l01Below r7.2.1 20).bind fun r8 =>
         bif (r8.1 == 0)
         then bif (lim ((1 : Nat) + 1) 16)
          then some (([r6.1] ++ [c_x]), (r8.2.1, ()))
          else none
         else bif (r8.1 == 1)
          then some ((List.take ((Int.toNat (w64 (((1 : Nat) : Int) - 1))) - (Int.toNat 0)) (List.drop (Int.toNat 0) [r6.1])), (r8.2.1, ()))
          else some ([r6.1], (r8.2.1, ()))
        else bif ((ByteArray.toList r6.1) == (ByteArray.toList c_ECHO))
         then (spec_l10Word r7.2.1).bind fun r8 =>
          bif (lim ((1 : Nat) + 1) 16)
          then (spec_l01Below r8.2.1 20).bind fun r9 =>
           bif (r9.1 == 0)
           then bif (lim ((2 : Nat) + 1) 16)
            then some ((([r6.1] ++ [r8.1]) ++ [c_x]), (r9.2.1, ()))
            else none
           else bif (r9.1 == 1)
            then some ((List.take ((Int.toNat (w64 (((2 : Nat) : Int) - 1))) - (Int.toNat 0)) (List.drop (Int.toNat 0) ([r6.1] ++ [r8.1]))), (r9.2.1, ()))
            else some (([r6.1] ++ [r8.1]), (r9.2.1, ()))
          else none
         else bif ((ByteArray.toList r6.1) == (ByteArray.toList c_MGET))
          then spec_l11Args_L1 [r6.1] 0 r7.2.1.1 r7.2.1.2.1 r7.2.1.2.2
          else bif ((ByteArray.toList r6.1) == (ByteArray.toList c_DEL))
           then spec_l11Args_L1 [r6.1] 0 r7.2.1.1 r7.2.1.2.1 r7.2.1.2.2
           else bif ((ByteArray.toList r6.1) == (ByteArray.toList c_EXISTS))
            then spec_l11Args_L1 [r6.1] 0 r7.2.1.1 r7.2.1.2.1 r7.2.1.2.2
            else bif ((ByteArray.toList r6.1) == (ByteArray.toList c_MSET))
             then spec_l11Args_L3 [r6.1] 0 r7.2.1.1 r7.2.1.2.1 r7.2.1.2.2
             else (spec_l05Key r7.2.1).bind fun r8 =>
              bif (lim ((1 : Nat) + 1) 16)
              then (spec_l11Rest r8.2.1 r6.1).bind fun r9 =>
               bif (lim (2 + (List.length r9.1)) 16)
               then (spec_l01Below r9.2.1 20).bind fun r10 =>
                bif (r10.1 == 0)
                then bif (lim ((List.length (([r6.1] ++ [r8.1]) ++ r9.1)) + 1) 16)
                 then some (((([r6.1] ++ [r8.1]) ++ r9.1) ++ [c_x]), (r10.2.1, ()))
                 else none
                else bif (r10.1 == 1)
                 then bif ((decide ((0 : Int) ≤ 0)) && ((decide (0 ≤ (w64 ((List.length (([r6.1] ++ [r8.1]) ++ r9.1) : Int) - 1)))) && (decide ((w64 ((List.length (([r6.1] ++ [r8.1]) ++ r9.1) : Int) - 1)) ≤ (List.length (([r6.1] ++ [r8.1]) ++ r9.1) : Int)))))
                  then some ((List.take ((Int.toNat (w64 ((List.length (([r6.1] ++ [r8.1]) ++ r9.1) : Int) - 1))) - (Int.toNat 0)) (List.drop (Int.toNat 0) (([r6.1] ++ [r8.1]) ++ r9.1))), (r10.2.1, ()))
                  else none
                 else some ((([r6.1] ++ [r8.1]) ++ r9.1), (r10.2.1, ()))
               else none
              else none
   else (spec_l01Once r5.2.1 8).bind fun r6 =>
    bif r6.1
    then (spec_l01Pick r6.2.1 ([c_get, c_Set, c_nope, c_MULTI, c_EXEC, ByteArray.empty])).bind fun r7 =>
     bif ((ByteArray.toList (List.getD r3.1 (Int.toNat r4.1) ByteArray.empty)) == (ByteArray.toList c_PING))
     then (spec_l01Below r7.2.1 20).bind fun r8 =>
      bif (r8.1 == 0)
      then bif (lim ((1 : Nat) + 1) 16)
       then some (((List.set ([(List.getD r3.1 (Int.toNat r4.1) ByteArray.empty)]) (Int.toNat 0) r7.1) ++ [c_x]), (r8.2.1, ()))
       else none
      else bif (r8.1 == 1)
       then some ((List.take ((Int.toNat (w64 (((1 : Nat) : Int) - 1))) - (Int.toNat 0)) (List.drop (Int.toNat 0) (List.set ([(List.getD r3.1 (Int.toNat r4.1) ByteArray.empty)]) (Int.toNat 0) r7.1))), (r8.2.1, ()))
       else some ((List.set ([(List.getD r3.1 (Int.toNat r4.1) ByteArray.empty)]) (Int.toNat 0) r7.1), (r8.2.1, ()))
     else bif ((ByteArray.toList (List.getD r3.1 (Int.toNat r4.1) ByteArray.empty)) == (ByteArray.toList c_KEYS))
      then (spec_l01Below r7.2.1 20).bind fun r8 =>
       bif (r8.1 == 0)
       then bif (lim ((1 : Nat) + 1) 16)
        then some (((List.set ([(List.getD r3.1 (Int.toNat r4.1) ByteArray.empty)]) (Int.toNat 0) r7.1) ++ [c_x]), (r8.2.1, ()))
        else none
       else bif (r8.1 == 1)
        then some ((List.take ((Int.toNat (w64 (((1 : Nat) : Int) - 1))) - (Int.toNat 0)) (List.drop (Int.toNat 0) (List.set ([(List.getD r3.1 (Int.toNat r4.1) ByteArray.empty)]) (Int.toNat 0) r7.1))), (r8.2.1, ()))
        else some ((List.set ([(List.getD r3.1 (Int.toNat r4.1) ByteArray.empty)]) (Int.toNat 0) r7.1), (r8.2.1, ()))
      else bif ((ByteArray.toList (List.getD r3.1 (Int.toNat r4.1) ByteArray.empty)) == (ByteArray.toList c_DBSIZE))
       then (spec_l01Below r7.2.1 20).bind fun r8 =>
        bif (r8.1 == 0)
        then bif (lim ((1 : Nat) + 1) 16)
         then some (((List.set ([(List.getD r3.1 (Int.toNat r4.1) ByteArray.empty)]) (Int.toNat 0) r7.1) ++ [c_x]), (r8.2.1, ()))
         else none
        else bif (r8.1 == 1)
         then some ((List.take ((Int.toNat (w64 (((1 : Nat) : Int) - 1))) - (Int.toNat 0)) (List.drop (Int.toNat 0) (List.set ([(List.getD r3.1 (Int.toNat r4.1) ByteArray.empty)]) (Int.toNat 0) r7.1))), (r8.2.1, ()))
         else some ((List.set ([(List.getD r3.1 (Int.toNat r4.1) ByteArray.empty)]) (Int.toNat 0) r7.1), (r8.2.1, ()))
       else bif ((ByteArray.toList (List.getD r3.1 (Int.toNat r4.1) ByteArray.empty)) == (ByteArray.toList c_FLUSHALL))
        then (spec_l01Below r7.2.1 20).bind fun r8 =>
         bif (r8.1 == 0)
         then bif (lim ((1 : Nat) + 1) 16)
          then some (((List.set ([(List.getD r3.1 (Int.toNat r4.1) ByteArray.empty)]) (Int.toNat 0) r7.1) ++ [c_x]), (r8.2.1, ()))
          else none
         else bif (r8.1 == 1)
          then some ((List.take ((Int.toNat (w64 (((1 : Nat) : Int) - 1))) - (Int.toNat 0)) (List.drop (Int.toNat 0) (List.set ([(List.getD r3.1 (Int.toNat r4.1) ByteArray.empty)]) (Int.toNat 0) r7.1))), (r8.2.1, ()))
          else some ((List.set ([(List.getD r3.1 (Int.toNat r4.1) ByteArray.empty)]) (Int.toNat 0) r7.1), (r8.2.1, ()))
        else bif ((ByteArray.toList (List.getD r3.1 (Int.toNat r4.1) ByteArray.empty)) == (ByteArray.toList c_ECHO))
         then (spec_l10Word r7.2.1).bind fun r8 =>
          bif (lim ((1 : Nat) + 1) 16)
          then (spec_l01Below r8.2.1 20).bind fun r9 =>
           bif (r9.1 == 0)
           then bif (lim ((2 : Nat) + 1) 16)
            then some ((((List.set ([(List.getD r3.1 (Int.toNat r4.1) ByteArray.empty)]) (Int.toNat 0) r7.1) ++ [r8.1]) ++ [c_x]), (r9.2.1, ()))
            else none
           else bif (r9.1 == 1)
            then some ((List.take ((Int.toNat (w64 (((2 : Nat) : Int) - 1))) - (Int.toNat 0)) (List.drop (Int.toNat 0) ((List.set ([(List.getD r3.1 (Int.toNat r4.1) ByteArray.empty)]) (Int.toNat 0) r7.1) ++ [r8.1]))), (r9.2.1, ()))
            else some (((List.set ([(List.getD r3.1 (Int.toNat r4.1) ByteArray.empty)]) (Int.toNat 0) r7.1) ++ [r8.1]), (r9.2.1, ()))
          else none
         else bif ((ByteArray.toList (List.getD r3.1 (Int.toNat r4.1) ByteArray.empty)) == (ByteArray.toList c_MGET))
          then spec_l11Args_L1 (List.set ([(List.getD r3.1 (Int.toNat r4.1) ByteArray.empty)]) (Int.toNat 0) r7.1) 0 r7.2.1.1 r7.2.1.2.1 r7.2.1.2.2
          else bif ((ByteArray.toList (List.getD r3.1 (Int.toNat r4.1) ByteArray.empty)) == (ByteArray.toList c_DEL))
           then spec_l11Args_L1 (List.set ([(List.getD r3.1 (Int.toNat r4.1) ByteArray.empty)]) (Int.toNat 0) r7.1) 0 r7.2.1.1 r7.2.1.2.1 r7.2.1.2.2
           else bif ((ByteArray.toList (List.getD r3.1 (Int.toNat r4.1) ByteArray.empty)) == (ByteArray.toList c_EXISTS))
            then spec_l11Args_L1 (List.set ([(List.getD r3.1 (Int.toNat r4.1) ByteArray.empty)]) (Int.toNat 0) r7.1) 0 r7.2.1.1 r7.2.1.2.1 r7.2.1.2.2
            else bif ((ByteArray.toList (List.getD r3.1 (Int.toNat r4.1) ByteArray.empty)) == (ByteArray.toList c_MSET))
             then spec_l11Args_L3 (List.set ([(List.getD r3.1 (Int.toNat r4.1) ByteArray.empty)]) (Int.toNat 0) r7.1) 0 r7.2.1.1 r7.2.1.2.1 r7.2.1.2.2
             else (spec_l05Key r7.2.1).bind fun r8 =>
              bif (lim ((1 : Nat) + 1) 16)
              then (spec_l11Rest r8.2.1 (List.getD r3.1 (Int.toNat r4.1) ByteArray.empty)).bind fun r9 =>
               bif (lim (2 + (List.length r9.1)) 16)
               then (spec_l01Below r9.2.1 20).bind fun r10 =>
                bif (r10.1 == 0)
                then bif (lim ((List.length (((List.set ([(List.getD r3.1 (Int.toNat r4.1) ByteArray.empty)]) (Int.toNat 0) r7.1) ++ [r8.1]) ++ r9.1)) + 1) 16)
                 then some (((((List.set ([(List.getD r3.1 (Int.toNat r4.1) ByteArray.empty)]) (Int.toNat 0) r7.1) ++ [r8.1]) ++ r9.1) ++ [c_x]), (r10.2.1, ()))
                 else none
                else bif (r10.1 == 1)
                 then bif ((decide ((0 : Int) ≤ 0)) && ((decide (0 ≤ (w64 ((List.length (((List.set ([(List.getD r3.1 (Int.toNat r4.1) ByteArray.empty)]) (Int.toNat 0) r7.1) ++ [r8.1]) ++ r9.1) : Int) - 1)))) && (decide ((w64 ((List.length (((List.set ([(List.getD r3.1 (Int.toNat r4.1) ByteArray.empty)]) (Int.toNat 0) r7.1) ++ [r8.1]) ++ r9.1) : Int) - 1)) ≤ (List.length (((List.set ([(List.getD r3.1 (Int.toNat r4.1) ByteArray.empty)]) (Int.toNat 0) r7.1) ++ [r8.1]) ++ r9.1) : Int)))))
                  then some ((List.take ((Int.toNat (w64 ((List.length (((List.set ([(List.getD r3.1 (Int.toNat r4.1) ByteArray.empty)]) (Int.toNat 0) r7.1) ++ [r8.1]) ++ r9.1) : Int) - 1))) - (Int.toNat 0)) (List.drop (Int.toNat 0) (((List.set ([(List.getD r3.1 (Int.toNat r4.1) ByteArray.empty)]) (Int.toNat 0) r7.1) ++ [r8.1]) ++ r9.1))), (r10.2.1, ()))
                  else none
                 else some ((((List.set ([(List.getD r3.1 (Int.toNat r4.1) ByteArray.empty)]) (Int.toNat 0) r7.1) ++ [r8.1]) ++ r9.1), (r10.2.1, ()))
               else none
              else none
    else bif ((ByteArray.toList (List.getD r3.1 (Int.toNat r4.1) ByteArray.empty)) == (ByteArray.toList c_PING))
     then (spec_l01Below r6.2.1 20).bind fun r7 =>
      bif (r7.1 == 0)
      then bif (lim ((1 : Nat) + 1) 16)
       then some (([(List.getD r3.1 (Int.toNat r4.1) ByteArray.empty)] ++ [c_x]), (r7.2.1, ()))
       else none
      else bif (r7.1 == 1)
       then some ((List.take ((Int.toNat (w64 (((1 : Nat) : Int) - 1))) - (Int.toNat 0)) (List.drop (Int.toNat 0) ([(List.getD r3.1 (Int.toNat r4.1) ByteArray.empty)]))), (r7.2.1, ()))
       else some ([(List.getD r3.1 (Int.toNat r4.1) ByteArray.empty)], (r7.2.1, ()))
     else bif ((ByteArray.toList (List.getD r3.1 (Int.toNat r4.1) ByteArray.empty)) == (ByteArray.toList c_KEYS))
      then (spec_l01Below r6.2.1 20).bind fun r7 =>
       bif (r7.1 == 0)
       then bif (lim ((1 : Nat) + 1) 16)
        then some (([(List.getD r3.1 (Int.toNat r4.1) ByteArray.empty)] ++ [c_x]), (r7.2.1, ()))
        else none
       else bif (r7.1 == 1)
        then some ((List.take ((Int.toNat (w64 (((1 : Nat) : Int) - 1))) - (Int.toNat 0)) (List.drop (Int.toNat 0) ([(List.getD r3.1 (Int.toNat r4.1) ByteArray.empty)]))), (r7.2.1, ()))
        else some ([(List.getD r3.1 (Int.toNat r4.1) ByteArray.empty)], (r7.2.1, ()))
      else bif ((ByteArray.toList (List.getD r3.1 (Int.toNat r4.1) ByteArray.empty)) == (ByteArray.toList c_DBSIZE))
       then (spec_l01Below r6.2.1 20).bind fun r7 =>
        bif (r7.1 == 0)
        then bif (lim ((1 : Nat) + 1) 16)
         then some (([(List.getD r3.1 (Int.toNat r4.1) ByteArray.empty)] ++ [c_x]), (r7.2.1, ()))
         else none
        else bif (r7.1 == 1)
         then some ((List.take ((Int.toNat (w64 (((1 : Nat) : Int) - 1))) - (Int.toNat 0)) (List.drop (Int.toNat 0) ([(List.getD r3.1 (Int.toNat r4.1) ByteArray.empty)]))), (r7.2.1, ()))
         else some ([(List.getD r3.1 (Int.toNat r4.1) ByteArray.empty)], (r7.2.1, ()))
       else bif ((ByteArray.toList (List.getD r3.1 (Int.toNat r4.1) ByteArray.empty)) == (ByteArray.toList c_FLUSHALL))
        then (spec_l01Below r6.2.1 20).bind fun r7 =>
         bif (r7.1 == 0)
         then bif (lim ((1 : Nat) + 1) 16)
          then some (([(List.getD r3.1 (Int.toNat r4.1) ByteArray.empty)] ++ [c_x]), (r7.2.1, ()))
          else none
         else bif (r7.1 == 1)
          then some ((List.take ((Int.toNat (w64 (((1 : Nat) : Int) - 1))) - (Int.toNat 0)) (List.drop (Int.toNat 0) ([(List.getD r3.1 (Int.toNat r4.1) ByteArray.empty)]))), (r7.2.1, ()))
          else some ([(List.getD r3.1 (Int.toNat r4.1) ByteArray.empty)], (r7.2.1, ()))
        else bif ((ByteArray.toList (List.getD r3.1 (Int.toNat r4.1) ByteArray.empty)) == (ByteArray.toList c_ECHO))
         then (spec_l10Word r6.2.1).bind fun r7 =>
          bif (lim ((1 : Nat) + 1) 16)
          then (spec_l01Below r7.2.1 20).bind fun r8 =>
           bif (r8.1 == 0)
           then bif (lim ((2 : Nat) + 1) 16)
            then some ((([(List.getD r3.1 (Int.toNat r4.1) ByteArray.empty)] ++ [r7.1]) ++ [c_x]), (r8.2.1, ()))
            else none
           else bif (r8.1 == 1)
            then some ((List.take ((Int.toNat (w64 (((2 : Nat) : Int) - 1))) - (Int.toNat 0)) (List.drop (Int.toNat 0) ([(List.getD r3.1 (Int.toNat r4.1) ByteArray.empty)] ++ [r7.1]))), (r8.2.1, ()))
            else some (([(List.getD r3.1 (Int.toNat r4.1) ByteArray.empty)] ++ [r7.1]), (r8.2.1, ()))
          else none
         else bif ((ByteArray.toList (List.getD r3.1 (Int.toNat r4.1) ByteArray.empty)) == (ByteArray.toList c_MGET))
          then spec_l11Args_L1 ([(List.getD r3.1 (Int.toNat r4.1) ByteArray.empty)]) 0 r6.2.1.1 r6.2.1.2.1 r6.2.1.2.2
          else bif ((ByteArray.toList (List.getD r3.1 (Int.toNat r4.1) ByteArray.empty)) == (ByteArray.toList c_DEL))
           then spec_l11Args_L1 ([(List.getD r3.1 (Int.toNat r4.1) ByteArray.empty)]) 0 r6.2.1.1 r6.2.1.2.1 r6.2.1.2.2
           else bif ((ByteArray.toList (List.getD r3.1 (Int.toNat r4.1) ByteArray.empty)) == (ByteArray.toList c_EXISTS))
            then spec_l11Args_L1 ([(List.getD r3.1 (Int.toNat r4.1) ByteArray.empty)]) 0 r6.2.1.1 r6.2.1.2.1 r6.2.1.2.2
            else bif ((ByteArray.toList (List.getD r3.1 (Int.toNat r4.1) ByteArray.empty)) == (ByteArray.toList c_MSET))
             then spec_l11Args_L3 ([(List.getD r3.1 (Int.toNat r4.1) ByteArray.empty)]) 0 r6.2.1.1 r6.2.1.2.1 r6.2.1.2.2
             else (spec_l05Key r6.2.1).bind fun r7 =>
              bif (lim ((1 : Nat) + 1) 16)
              then (spec_l11Rest r7.2.1 (List.getD r3.1 (Int.toNat r4.1) ByteArray.empty)).bind fun r8 =>
               bif (lim (2 + (List.length r8.1)) 16)
               then (spec_l01Below r8.2.1 20).bind fun r9 =>
                bif (r9.1 == 0)
                then bif (lim ((List.length (([(List.getD r3.1 (Int.toNat r4.1) ByteArray.empty)] ++ [r7.1]) ++ r8.1)) + 1) 16)
                 then some (((([(List.getD r3.1 (Int.toNat r4.1) ByteArray.empty)] ++ [r7.1]) ++ r8.1) ++ [c_x]), (r9.2.1, ()))
                 else none
                else bif (r9.1 == 1)
                 then bif ((decide ((0 : Int) ≤ 0)) && ((decide (0 ≤ (w64 ((List.length (([(List.getD r3.1 (Int.toNat r4.1) ByteArray.empty)] ++ [r7.1]) ++ r8.1) : Int) - 1)))) && (decide ((w64 ((List.length (([(List.getD r3.1 (Int.toNat r4.1) ByteArray.empty)] ++ [r7.1]) ++ r8.1) : Int) - 1)) ≤ (List.length (([(List.getD r3.1 (Int.toNat r4.1) ByteArray.empty)] ++ [r7.1]) ++ r8.1) : Int)))))
                  then some ((List.take ((Int.toNat (w64 ((List.length (([(List.getD r3.1 (Int.toNat r4.1) ByteArray.empty)] ++ [r7.1]) ++ r8.1) : Int) - 1))) - (Int.toNat 0)) (List.drop (Int.toNat 0) (([(List.getD r3.1 (Int.toNat r4.1) ByteArray.empty)] ++ [r7.1]) ++ r8.1))), (r9.2.1, ()))
                  else none
                 else some ((([(List.getD r3.1 (Int.toNat r4.1) ByteArray.empty)] ++ [r7.1]) ++ r8.1), (r9.2.1, ()))
               else none
              else none
  else none : Option ((List ByteArray) × (D_l01Cur × Unit))) := (DF_eq X rfl _).trans (by kernel_rfl)
theorem spec_l11Args_L1_eq (x5 : (List ByteArray)) (x6 : Int) (b3000000_0 : (List Int)) (b3000000_1 : Int) (b3000000_2 : Int) : spec_l11Args_L1 x5 x6 b3000000_0 b3000000_1 b3000000_2 =
  ((spec_l01Below (b3000000_0, (b3000000_1, b3000000_2)) 3).bind fun r7 =>
  bif (decide (x6 < (w64 (1 + r7.1))))
  then (spec_l05Key r7.2.1).bind fun r8 =>
   bif (lim ((List.length x5) + 1) 16)
   then spec_l11Args_L1 (x5 ++ [r8.1]) (w64 (x6 + 1)) r8.2.1.1 r8.2.1.2.1 r8.2.1.2.2
   else none
  else (spec_l01Below r7.2.1 20).bind fun r8 =>
   bif (r8.1 == 0)
   then bif (lim ((List.length x5) + 1) 16)
    then some ((x5 ++ [c_x]), (r8.2.1, ()))
    else none
   else bif (r8.1 == 1)
    then bif ((decide ((0 : Int) ≤ 0)) && ((decide (0 ≤ (w64 ((List.length x5 : Int) - 1)))) && (decide ((w64 ((List.length x5 : Int) - 1)) ≤ (List.length x5 : Int)))))
     then some ((List.take ((Int.toNat (w64 ((List.length x5 : Int) - 1))) - (Int.toNat 0)) (List.drop (Int.toNat 0) x5)), (r8.2.1, ()))
     else none
    else some (x5, (r8.2.1, ())) : Option ((List ByteArray) × (D_l01Cur × Unit))) := (loopAt_mk X 51 1 [] _ _ _).trans (by kernel_rfl)
theorem spec_l11Args_L3_eq (x5 : (List ByteArray)) (x7 : Int) (b3000000_0 : (List Int)) (b3000000_1 : Int) (b3000000_2 : Int) : spec_l11Args_L3 x5 x7 b3000000_0 b3000000_1 b3000000_2 =
  ((spec_l01Below (b3000000_0, (b3000000_1, b3000000_2)) 3).bind fun r7 =>
  bif (decide (x7 < (w64 (1 + r7.1))))
  then (spec_l05Key r7.2.1).bind fun r8 =>
   (spec_l10Word r8.2.1).bind fun r9 =>
   bif (lim ((List.length x5) + 2) 16)
   then spec_l11Args_L3 (x5 ++ [r8.1, r9.1]) (w64 (x7 + 1)) r9.2.1.1 r9.2.1.2.1 r9.2.1.2.2
   else none
  else (spec_l01Below r7.2.1 20).bind fun r8 =>
   bif (r8.1 == 0)
   then bif (lim ((List.length x5) + 1) 16)
    then some ((x5 ++ [c_x]), (r8.2.1, ()))
    else none
   else bif (r8.1 == 1)
    then bif ((decide ((0 : Int) ≤ 0)) && ((decide (0 ≤ (w64 ((List.length x5 : Int) - 1)))) && (decide ((w64 ((List.length x5 : Int) - 1)) ≤ (List.length x5 : Int)))))
     then some ((List.take ((Int.toNat (w64 ((List.length x5 : Int) - 1))) - (Int.toNat 0)) (List.drop (Int.toNat 0) x5)), (r8.2.1, ()))
     else none
    else some (x5, (r8.2.1, ())) : Option ((List ByteArray) × (D_l01Cur × Unit))) := (loopAt_mk X 51 3 [] _ _ _).trans (by kernel_rfl)
theorem impl_copyConn_eq (a0 : D_Conn) : impl_copyConn a0 =
  ((impl_copyList a0.2.2.2.1).bind fun r3 =>
  some ((a0.1, (a0.2.1, (a0.2.2.1, (r3.1, a0.2.2.2.2)))), ()) : Option (D_Conn × Unit)) := (DF_eq X rfl _).trans (by kernel_rfl)
theorem impl_Upper_eq (a0 : ByteArray) : impl_Upper a0 =
  (impl_Upper_L0 (List.length (bytesL a0) : Int) 0 (bytesL a0) : Option (ByteArray × Unit)) := (DF_eq X rfl _).trans (by kernel_rfl)
theorem impl_Upper_L0_eq (x9 : Int) (x10 : Int) (r1040 : (List Int)) : impl_Upper_L0 x9 x10 r1040 =
  (bif (decide (x10 < x9))
  then bif ((decide (0 ≤ x10)) && (decide (x10 < (List.length r1040 : Int))))
   then bif (decide ((List.getD r1040 (Int.toNat x10) 0) ≥ 97))
    then bif (decide ((List.getD r1040 (Int.toNat x10) 0) ≤ 122))
     then bif ((decide (0 ≤ x10)) && (decide (x10 < (List.length r1040 : Int))))
      then impl_Upper_L0 x9 (w64 (x10 + 1)) (List.set r1040 (Int.toNat x10) (Go.IntKind.u8.wrap ((List.getD r1040 (Int.toNat x10) 0) - 32)))
      else none
     else impl_Upper_L0 x9 (w64 (x10 + 1)) r1040
    else impl_Upper_L0 x9 (w64 (x10 + 1)) r1040
   else none
  else some ((⟨(List.toArray (List.map (fun n => (UInt8.ofNat (Int.toNat n))) r1040))⟩ : ByteArray), ()) : Option (ByteArray × Unit)) := (loopAt_mk X 53 0 [] _ _ _).trans (by kernel_rfl)
theorem impl_Fault_eq (a0 : ByteArray) : impl_Fault a0 =
  (bif (limS ((ByteArray.size c___1_262) + (ByteArray.size a0)))
  then bif (limS ((ByteArray.size (c___1_262 ++ a0)) + (ByteArray.size c____2_7140)))
   then some (((c___1_262 ++ a0) ++ c____2_7140), ())
   else none
  else none : Option (ByteArray × Unit)) := (DF_eq X rfl _).trans (by kernel_rfl)
theorem impl_Simple_eq (a0 : ByteArray) : impl_Simple a0 =
  (bif (limS ((ByteArray.size c___1_260) + (ByteArray.size a0)))
  then bif (limS ((ByteArray.size (c___1_260 ++ a0)) + (ByteArray.size c____2_7140)))
   then some (((c___1_260 ++ a0) ++ c____2_7140), ())
   else none
  else none : Option (ByteArray × Unit)) := (DF_eq X rfl _).trans (by kernel_rfl)
theorem impl_copyList_eq (a0 : (List (List ByteArray))) : impl_copyList a0 =
  (impl_copyList_L0 [] a0 (List.length a0 : Int) 0 : Option ((List (List ByteArray)) × Unit)) := (DF_eq X rfl _).trans (by kernel_rfl)
theorem impl_copyList_L0_eq (x3 : (List (List ByteArray))) (x6 : (List (List ByteArray))) (x7 : Int) (x8 : Int) : impl_copyList_L0 x3 x6 x7 x8 =
  (bif (decide (x8 < x7))
  then bif ((decide (0 ≤ x8)) && (decide (x8 < (List.length x6 : Int))))
   then bif (lim (0 + (List.length (List.getD x6 (Int.toNat x8) []))) 16)
    then bif (lim ((List.length x3) + 1) 24)
     then impl_copyList_L0 (x3 ++ [([] ++ (List.getD x6 (Int.toNat x8) []))]) x6 x7 (w64 (x8 + 1))
     else none
    else none
   else none
  else some (x3, ()) : Option ((List (List ByteArray)) × Unit)) := (loopAt_mk X 56 0 [] _ _ _).trans (by kernel_rfl)
theorem impl_settleOne_eq (a0 : D_Conn) (a1 : (List ByteArray)) : impl_settleOne a0 a1 =
  (bif (!a0.2.1)
  then (impl_copyList [a1]).bind fun r4 =>
   some ((a0, (r4.1, (ByteArray.empty, 1))), ())
  else (impl_Unknown a1).bind fun r4 =>
   bif (!((ByteArray.toList r4.1) == (ByteArray.toList ByteArray.empty)))
   then some (((a0.1, (a0.2.1, (true, a0.2.2.2))), ([], (r4.1, 0))), ())
   else bif (decide ((List.length a0.2.2.2.1 : Int) ≥ 8))
    then (impl_Fault c_ERR_limit).bind fun r5 =>
     some (((a0.1, (a0.2.1, (true, a0.2.2.2))), ([], (r5.1, 0))), ())
    else bif (lim (0 + (List.length a1)) 16)
     then bif (lim ((List.length a0.2.2.2.1) + 1) 24)
      then (impl_Simple c_QUEUED).bind fun r5 =>
       some (((a0.1, (a0.2.1, (a0.2.2.1, ((a0.2.2.2.1 ++ [([] ++ a1)]), a0.2.2.2.2)))), ([], (r5.1, 0))), ())
      else none
     else none : Option ((D_Conn × (List (List ByteArray)) × ByteArray × Int) × Unit)) := (DF_eq X rfl _).trans (by kernel_rfl)
theorem spec_l13In_eq (a0 : (List ByteArray)) (a1 : ByteArray) : spec_l13In a0 a1 =
  (spec_l13In_L0 a0 a1 0 : Option (Bool × Unit)) := (DF_eq X rfl _).trans (by kernel_rfl)
theorem spec_l13In_L0_eq (x0 : (List ByteArray)) (x1 : ByteArray) (x5 : Int) : spec_l13In_L0 x0 x1 x5 =
  (bif (decide (x5 < (List.length x0 : Int)))
  then bif ((decide (0 ≤ x5)) && (decide (x5 < (List.length x0 : Int))))
   then bif ((ByteArray.toList (List.getD x0 (Int.toNat x5) ByteArray.empty)) == (ByteArray.toList x1))
    then some (true, ())
    else spec_l13In_L0 x0 x1 (w64 (x5 + 1))
   else none
  else some (false, ()) : Option (Bool × Unit)) := (loopAt_mk X 58 0 [] _ _ _).trans (by kernel_rfl)
theorem spec_Commands_eq : spec_Commands =
  (some ([c_PING, c_ECHO, c_GET, c_SET, c_SETNX, c_GETSET, c_APPEND, c_STRLEN, c_INCR, c_DECR, c_INCRBY, c_DECRBY, c_MGET, c_MSET, c_DEL, c_EXISTS, c_TYPE, c_EXPIRE, c_TTL, c_PERSIST, c_KEYS, c_DBSIZE, c_FLUSHALL, c_LPUSH, c_RPUSH, c_LPOP, c_RPOP, c_LLEN, c_LRANGE, c_LINDEX, c_HSET, c_HGET, c_HDEL, c_HLEN, c_HGETALL, c_HKEYS, c_SADD, c_SREM, c_SISMEMBER, c_SCARD, c_SMEMBERS], ()) : Option ((List ByteArray) × Unit)) := (DF_eq X rfl _).trans (by kernel_rfl)
theorem spec_Fault_eq (a0 : ByteArray) : spec_Fault a0 =
  (bif (limS ((ByteArray.size c___1_262) + (ByteArray.size a0)))
  then bif (limS ((ByteArray.size (c___1_262 ++ a0)) + (ByteArray.size c____2_7140)))
   then some (((c___1_262 ++ a0) ++ c____2_7140), ())
   else none
  else none : Option (ByteArray × Unit)) := (DF_eq X rfl _).trans (by kernel_rfl)
theorem spec_ArityOk_eq (a0 : (List ByteArray)) : spec_ArityOk a0 =
  (bif ((List.length a0 : Int) == 0)
  then some (false, ())
  else (spec_Commands).bind fun r3 =>
   bif ((decide ((0 : Int) ≤ 0)) && (decide (0 < (List.length a0 : Int))))
   then (spec_Upper (List.getD a0 (Int.toNat 0) ByteArray.empty)).bind fun r4 =>
    (spec_l13In r3.1 r4.1).bind fun r5 =>
    bif (!r5.1)
    then some (false, ())
    else bif ((decide ((0 : Int) ≤ 0)) && (decide (0 < (List.length a0 : Int))))
     then (spec_Upper (List.getD a0 (Int.toNat 0) ByteArray.empty)).bind fun r6 =>
      (spec_l13In ([c_PING, c_KEYS, c_DBSIZE, c_FLUSHALL]) r6.1).bind fun r7 =>
      bif r7.1
      then some (((w64 ((List.length a0 : Int) - 1)) == 0), ())
      else (spec_l13In ([c_SET, c_SETNX, c_GETSET, c_APPEND, c_INCRBY, c_DECRBY, c_EXPIRE, c_LINDEX, c_HGET, c_SISMEMBER]) r6.1).bind fun r8 =>
       bif r8.1
       then some (((w64 ((List.length a0 : Int) - 1)) == 2), ())
       else (spec_l13In ([c_LRANGE, c_HSET]) r6.1).bind fun r9 =>
        bif r9.1
        then some (((w64 ((List.length a0 : Int) - 1)) == 3), ())
        else (spec_l13In ([c_MGET, c_DEL, c_EXISTS]) r6.1).bind fun r10 =>
         bif r10.1
         then some ((decide ((w64 ((List.length a0 : Int) - 1)) ≥ 1)), ())
         else (spec_l13In ([c_LPUSH, c_RPUSH, c_HDEL, c_SADD, c_SREM]) r6.1).bind fun r11 =>
          bif r11.1
          then some ((decide ((w64 ((List.length a0 : Int) - 1)) ≥ 2)), ())
          else bif ((ByteArray.toList r6.1) == (ByteArray.toList c_MSET))
           then bif ((w64 ((List.length a0 : Int) - 1)) == 2)
            then some (true, ())
            else bif ((w64 ((List.length a0 : Int) - 1)) == 4)
             then some (true, ())
             else some (((w64 ((List.length a0 : Int) - 1)) == 6), ())
           else some (((w64 ((List.length a0 : Int) - 1)) == 1), ())
     else none
   else none : Option (Bool × Unit)) := (DF_eq X rfl _).trans (by kernel_rfl)
theorem spec_Decimal_eq (a0 : Int) : spec_Decimal a0 =
  (bif (a0 == 0)
  then some (c_0, ())
  else spec_Decimal_L0 a0 (decide (a0 < 0)) ByteArray.empty : Option (ByteArray × Unit)) := (DF_eq X rfl _).trans (by kernel_rfl)
theorem spec_Decimal_L0_eq (x0 : Int) (x3 : Bool) (x4 : ByteArray) : spec_Decimal_L0 x0 x3 x4 =
  (bif (x0 != 0)
  then bif (decide ((Int.tmod x0 10) < 0))
   then (spec_l01Figure (w64 (0 - (Int.tmod x0 10)))).bind fun r5 =>
    bif (limS ((ByteArray.size (⟨(List.toArray (List.map (fun n => (UInt8.ofNat (Int.toNat n))) [r5.1]))⟩ : ByteArray)) + (ByteArray.size x4)))
    then spec_Decimal_L0 (w64 (Int.tdiv x0 10)) x3 ((⟨(List.toArray (List.map (fun n => (UInt8.ofNat (Int.toNat n))) [r5.1]))⟩ : ByteArray) ++ x4)
    else none
   else (spec_l01Figure (Int.tmod x0 10)).bind fun r5 =>
    bif (limS ((ByteArray.size (⟨(List.toArray (List.map (fun n => (UInt8.ofNat (Int.toNat n))) [r5.1]))⟩ : ByteArray)) + (ByteArray.size x4)))
    then spec_Decimal_L0 (w64 (Int.tdiv x0 10)) x3 ((⟨(List.toArray (List.map (fun n => (UInt8.ofNat (Int.toNat n))) [r5.1]))⟩ : ByteArray) ++ x4)
    else none
  else bif x3
   then bif (limS ((ByteArray.size c___1_262) + (ByteArray.size x4)))
    then some ((c___1_262 ++ x4), ())
    else none
   else some (x4, ()) : Option (ByteArray × Unit)) := (loopAt_mk X 66 0 [] _ _ _).trans (by kernel_rfl)
theorem spec_l01Byte_eq (a0 : D_l01Cur) : spec_l01Byte a0 =
  (bif (decide (a0.2.1 < (List.length a0.1 : Int)))
  then bif ((decide (0 ≤ a0.2.1)) && (decide (a0.2.1 < (List.length a0.1 : Int))))
   then some ((w64 (andI Go.IntKind.i64 (w64 ((w64 (andI Go.IntKind.i64 (w64 (xorI Go.IntKind.i64 (shrI Go.IntKind.i64 (w64 ((w64 (a0.2.2 * 6364136223846793005)) + 1442695040888963407)) 33) (shrI Go.IntKind.i64 (w64 ((w64 (a0.2.2 * 6364136223846793005)) + 1442695040888963407)) 45))) 255)) + (w64 (List.getD a0.1 (Int.toNat a0.2.1) 0)))) 255)), ((a0.1, ((w64 (a0.2.1 + 1)), (w64 ((w64 (a0.2.2 * 6364136223846793005)) + 1442695040888963407)))), ()))
   else none
  else some ((w64 (andI Go.IntKind.i64 (w64 (xorI Go.IntKind.i64 (shrI Go.IntKind.i64 (w64 ((w64 (a0.2.2 * 6364136223846793005)) + 1442695040888963407)) 33) (shrI Go.IntKind.i64 (w64 ((w64 (a0.2.2 * 6364136223846793005)) + 1442695040888963407)) 45))) 255)), ((a0.1, (a0.2.1, (w64 ((w64 (a0.2.2 * 6364136223846793005)) + 1442695040888963407)))), ())) : Option (Int × (D_l01Cur × Unit))) := (DF_eq X rfl _).trans (by kernel_rfl)
theorem slices_IndexFunc_____string___string__eq (a0 : (List (List ByteArray))) (a1 : Unit) : slices_IndexFunc_____string___string_ a0 a1 =
  (slices_IndexFunc_____string___string__L0 a0 (List.length a0 : Int) 0 : Option (Int × ((Unit) × Unit))) := (DF_eq X rfl _).trans (by kernel_rfl)
theorem slices_IndexFunc_____string___string__L0_eq (x0 : (List (List ByteArray))) (x7 : Int) (x8 : Int) : slices_IndexFunc_____string___string__L0 x0 x7 x8 =
  (bif (decide (x8 < x7))
  then bif ((decide (0 ≤ x8)) && (decide (x8 < (List.length x0 : Int))))
   then (impl_ConnOk_1 (List.getD x0 (Int.toNat x8) [])).bind fun r5 =>
    bif r5.1
    then some (x8, ((), ()))
    else slices_IndexFunc_____string___string__L0 x0 x7 (w64 (x8 + 1))
   else none
  else some ((-1), ((), ())) : Option (Int × ((Unit) × Unit))) := (loopAt_mk X 84 0 [] _ _ _).trans (by kernel_rfl)
theorem impl_oneOf_eq (a0 : (List ByteArray)) (a1 : ByteArray) : impl_oneOf a0 a1 =
  (bif (decide ((List.length a0 : Int) > 0))
  then (strings_Fields a1).bind fun r4 =>
   bif ((decide ((0 : Int) ≤ 0)) && (decide (0 < (List.length a0 : Int))))
   then (impl_Upper (List.getD a0 (Int.toNat 0) ByteArray.empty)).bind fun r5 =>
    (slices_Contains___string_string_ r4.1 r5.1).bind fun r6 =>
    some (r6.1, ())
   else none
  else some (false, ()) : Option (Bool × Unit)) := (DF_eq X rfl _).trans (by kernel_rfl)
theorem impl_ArityOk_eq (a0 : (List ByteArray)) : impl_ArityOk a0 =
  ((impl_oneOf a0 c_PING_ECHO_GE_244_482754).bind fun r3 =>
  bif (!r3.1)
  then some (false, ())
  else (impl_oneOf a0 c_PING_KEYS_DB_25_770361).bind fun r4 =>
   bif r4.1
   then some (((w64 ((List.length a0 : Int) - 1)) == 0), ())
   else (impl_oneOf a0 c_ECHO_GET_STR_91_76732).bind fun r5 =>
    bif r5.1
    then some (((w64 ((List.length a0 : Int) - 1)) == 1), ())
    else (impl_oneOf a0 c_SET_SETNX_GE_66_689460).bind fun r6 =>
     bif r6.1
     then some (((w64 ((List.length a0 : Int) - 1)) == 2), ())
     else (impl_oneOf a0 c_LRANGE_HSET).bind fun r7 =>
      bif r7.1
      then some (((w64 ((List.length a0 : Int) - 1)) == 3), ())
      else (impl_oneOf a0 c_MGET_DEL_EXISTS).bind fun r8 =>
       bif r8.1
       then some ((decide ((w64 ((List.length a0 : Int) - 1)) ≥ 1)), ())
       else (impl_oneOf a0 c_LPUSH_RPUSH__26_457431).bind fun r9 =>
        bif r9.1
        then some ((decide ((w64 ((List.length a0 : Int) - 1)) ≥ 2)), ())
        else bif ((w64 ((List.length a0 : Int) - 1)) == 2)
         then some (true, ())
         else bif ((w64 ((List.length a0 : Int) - 1)) == 4)
          then some (true, ())
          else some (((w64 ((List.length a0 : Int) - 1)) == 6), ()) : Option (Bool × Unit)) := (DF_eq X rfl _).trans (by kernel_rfl)
theorem spec_l01Once_eq (a0 : D_l01Cur) (a1 : Int) : spec_l01Once a0 a1 =
  ((spec_l01Below a0 a1).bind fun r4 =>
  some ((r4.1 == 0), (r4.2.1, ())) : Option (Bool × (D_l01Cur × Unit))) := (DF_eq X rfl _).trans (by kernel_rfl)
theorem spec_l01Pick_eq (a0 : D_l01Cur) (a1 : (List ByteArray)) : spec_l01Pick a0 a1 =
  ((spec_l01Below a0 (List.length a1 : Int)).bind fun r4 =>
  bif ((decide (0 ≤ r4.1)) && (decide (r4.1 < (List.length a1 : Int))))
  then some ((List.getD a1 (Int.toNat r4.1) ByteArray.empty), (r4.2.1, ()))
  else none : Option (ByteArray × (D_l01Cur × Unit))) := (DF_eq X rfl _).trans (by kernel_rfl)
theorem spec_l10Word_eq (a0 : D_l01Cur) : spec_l10Word a0 =
  ((spec_l01Pick a0 ([ByteArray.empty, c_1, c__7_2_8177, c_x, c_yy, c_hello, c_12, c_a_b])).bind fun r3 =>
  some (r3.1, (r3.2.1, ())) : Option (ByteArray × (D_l01Cur × Unit))) := (DF_eq X rfl _).trans (by kernel_rfl)
theorem spec_l05Key_eq (a0 : D_l01Cur) : spec_l05Key a0 =
  ((spec_l01Pick a0 ([c_a, c_b, c_c, c_d, c_key, c_kk])).bind fun r3 =>
  some (r3.1, (r3.2.1, ())) : Option (ByteArray × (D_l01Cur × Unit))) := (DF_eq X rfl _).trans (by kernel_rfl)
theorem spec_l11Rest_eq (a0 : D_l01Cur) (a1 : ByteArray) : spec_l11Rest a0 a1 =
  ((spec_l01Pick a0 ([c_f, c_g, c_h, c_z])).bind fun r4 =>
  (spec_l01Below r4.2.1 12).bind fun r5 =>
  (spec_Decimal (w64 (r5.1 - 4))).bind fun r6 =>
  bif ((ByteArray.toList a1) == (ByteArray.toList c_SET))
  then (spec_l10Word r5.2.1).bind fun r7 =>
   some ([r7.1], (r7.2.1, ()))
  else bif ((ByteArray.toList a1) == (ByteArray.toList c_SETNX))
   then (spec_l10Word r5.2.1).bind fun r7 =>
    some ([r7.1], (r7.2.1, ()))
   else bif ((ByteArray.toList a1) == (ByteArray.toList c_GETSET))
    then (spec_l10Word r5.2.1).bind fun r7 =>
     some ([r7.1], (r7.2.1, ()))
    else bif ((ByteArray.toList a1) == (ByteArray.toList c_APPEND))
     then (spec_l10Word r5.2.1).bind fun r7 =>
      some ([r7.1], (r7.2.1, ()))
     else bif ((ByteArray.toList a1) == (ByteArray.toList c_INCRBY))
      then (spec_l01Once r5.2.1 12).bind fun r7 =>
       bif r7.1
       then (spec_l01Pick r7.2.1 ([c_x, c_01, c_999999999999999, c__0_2_8170, c_100001])).bind fun r8 =>
        some ([r8.1], (r8.2.1, ()))
       else some ([r6.1], (r7.2.1, ()))
      else bif ((ByteArray.toList a1) == (ByteArray.toList c_DECRBY))
       then (spec_l01Once r5.2.1 12).bind fun r7 =>
        bif r7.1
        then (spec_l01Pick r7.2.1 ([c_x, c_01, c_999999999999999, c__0_2_8170, c_100001])).bind fun r8 =>
         some ([r8.1], (r8.2.1, ()))
        else some ([r6.1], (r7.2.1, ()))
       else bif ((ByteArray.toList a1) == (ByteArray.toList c_LINDEX))
        then (spec_l01Once r5.2.1 12).bind fun r7 =>
         bif r7.1
         then (spec_l01Pick r7.2.1 ([c_x, c_01, c_999999999999999, c__0_2_8170, c_100001])).bind fun r8 =>
          some ([r8.1], (r8.2.1, ()))
         else some ([r6.1], (r7.2.1, ()))
        else bif ((ByteArray.toList a1) == (ByteArray.toList c_EXPIRE))
         then (spec_l01Once r5.2.1 12).bind fun r7 =>
          bif r7.1
          then (spec_l01Pick r7.2.1 ([c_x, c_01, c_999999999999999, c__0_2_8170, c_100001])).bind fun r8 =>
           some ([r8.1], (r8.2.1, ()))
          else some ([r6.1], (r7.2.1, ()))
         else bif ((ByteArray.toList a1) == (ByteArray.toList c_LRANGE))
          then (spec_l01Below r5.2.1 12).bind fun r7 =>
           (spec_Decimal (w64 (r7.1 - 4))).bind fun r8 =>
           some ([r6.1, r8.1], (r7.2.1, ()))
          else bif ((ByteArray.toList a1) == (ByteArray.toList c_HSET))
           then (spec_l10Word r5.2.1).bind fun r7 =>
            some ([r4.1, r7.1], (r7.2.1, ()))
           else bif ((ByteArray.toList a1) == (ByteArray.toList c_HGET))
            then some ([r4.1], (r5.2.1, ()))
            else bif ((ByteArray.toList a1) == (ByteArray.toList c_SISMEMBER))
             then some ([r4.1], (r5.2.1, ()))
             else bif ((ByteArray.toList a1) == (ByteArray.toList c_LPUSH))
              then spec_l11Rest_L1 [r4.1] 0 r5.2.1.1 r5.2.1.2.1 r5.2.1.2.2
              else bif ((ByteArray.toList a1) == (ByteArray.toList c_RPUSH))
               then spec_l11Rest_L1 [r4.1] 0 r5.2.1.1 r5.2.1.2.1 r5.2.1.2.2
               else bif ((ByteArray.toList a1) == (ByteArray.toList c_SADD))
                then spec_l11Rest_L1 [r4.1] 0 r5.2.1.1 r5.2.1.2.1 r5.2.1.2.2
                else bif ((ByteArray.toList a1) == (ByteArray.toList c_SREM))
                 then spec_l11Rest_L1 [r4.1] 0 r5.2.1.1 r5.2.1.2.1 r5.2.1.2.2
                 else bif ((ByteArray.toList a1) == (ByteArray.toList c_HDEL))
                  then spec_l11Rest_L1 [r4.1] 0 r5.2.1.1 r5.2.1.2.1 r5.2.1.2.2
                  else some ([], (r5.2.1, ())) : Option ((List ByteArray) × (D_l01Cur × Unit))) := (DF_eq X rfl _).trans (by kernel_rfl)
theorem spec_l11Rest_L1_eq (x7 : (List ByteArray)) (x8 : Int) (b3000000_0 : (List Int)) (b3000000_1 : Int) (b3000000_2 : Int) : spec_l11Rest_L1 x7 x8 b3000000_0 b3000000_1 b3000000_2 =
  ((spec_l01Below (b3000000_0, (b3000000_1, b3000000_2)) 3).bind fun r7 =>
  bif (decide (x8 < r7.1))
  then (spec_l01Pick r7.2.1 ([c_f, c_g, c_h, c_z, c_1])).bind fun r8 =>
   bif (lim ((List.length x7) + 1) 16)
   then spec_l11Rest_L1 (x7 ++ [r8.1]) (w64 (x8 + 1)) r8.2.1.1 r8.2.1.2.1 r8.2.1.2.2
   else none
  else some (x7, (r7.2.1, ())) : Option ((List ByteArray) × (D_l01Cur × Unit))) := (loopAt_mk X 91 1 [] _ _ _).trans (by kernel_rfl)
theorem spec_l01Figure_eq (a0 : Int) : spec_l01Figure a0 =
  (bif (decide (a0 < 10))
  then some ((Go.IntKind.u8.wrap (w64 (48 + a0))), ())
  else some ((Go.IntKind.u8.wrap (w64 ((w64 (97 + a0)) - 10))), ()) : Option (Int × Unit)) := (DF_eq X rfl _).trans (by kernel_rfl)
theorem slices_Contains___string_string__eq (a0 : (List ByteArray)) (a1 : ByteArray) : slices_Contains___string_string_ a0 a1 =
  ((slices_Index___string_string_ a0 a1).bind fun r4 =>
  some ((decide (r4.1 ≥ 0)), ()) : Option (Bool × Unit)) := (DF_eq X rfl _).trans (by kernel_rfl)
end Go.Den.S
