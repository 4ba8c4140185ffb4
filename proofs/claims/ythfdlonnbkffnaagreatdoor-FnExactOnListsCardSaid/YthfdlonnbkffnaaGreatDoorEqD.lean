/- EqD: equations of the functions of this seat as the executor tells them, or plain facts about them. Conditions: none here. -/
import Derived.Test.YthfdlonnbkffnaaGreatDoorEqA
set_option linter.all false
set_option linter.unusedSimpArgs false
set_option linter.unusedVariables false
namespace Go.Den.S
open Go Go.Den Go.Proofs
set_option linter.unusedVariables false
theorem laws_FnExactOnLists_eq (a0 : (List D_Entry)) (a1 : (List ByteArray)) : laws_FnExactOnLists a0 a1 =
  ((laws_szEntryS a0 1048576).bind fun r4 =>
  bif (decide (r4.1 < 0))
  then some (true, ())
  else (laws_szStringS a1 r4.1).bind fun r5 =>
   bif (decide (r5.1 < 0))
   then some (true, ())
   else (laws_toEntryS a0).bind fun r6 =>
    (laws_toStringS a1).bind fun r7 =>
    (spec_OnLists r6.1 r7.1).bind fun r8 =>
    (laws_toEntryS a0).bind fun r9 =>
    (laws_toStringS a1).bind fun r10 =>
    (impl_OnLists r9.1 r10.1).bind fun r11 =>
    (laws_eqEntryS r11.1.1 r8.1.1).bind fun r12 =>
    bif (!r12.1)
    then some (false, ())
    else bif (!((ByteArray.toList r11.1.2.1) == (ByteArray.toList r8.1.2.1)))
     then some (false, ())
     else bif (!(r11.1.2.2 == r8.1.2.2))
      then some (false, ())
      else (laws_toEntryS a0).bind fun r13 =>
       (laws_eqEntryS r9.1 r13.1).bind fun r14 =>
       bif (!r14.1)
       then some (false, ())
       else (laws_toStringS a1).bind fun r15 =>
        (laws_eqStringS r10.1 r15.1).bind fun r16 =>
        bif (!r16.1)
        then some (false, ())
        else (laws_markEntryS r9.1 1).bind fun r17 =>
         (laws_markStringS r10.1 r17.1).bind fun r18 =>
         bif (decide (r18.1 < 0))
         then some (false, ())
         else (laws_eqEntryS r11.1.1 r8.1.1).bind fun r19 =>
          bif (!r19.1)
          then some (false, ())
          else bif (!((ByteArray.toList r11.1.2.1) == (ByteArray.toList r8.1.2.1)))
           then some (false, ())
           else bif (!(r11.1.2.2 == r8.1.2.2))
            then some (false, ())
            else (laws_markEntryS r11.1.1 1).bind fun r20 =>
             (laws_heldEntryS r20.2.1 1).bind fun r21 =>
             bif (decide (r21.1 < 0))
             then some (false, ())
             else bif (r21.1 != r20.1)
              then some (false, ())
              else (laws_toEntryS a0).bind fun r22 =>
               (laws_toStringS a1).bind fun r23 =>
               (impl_OnLists r22.1 r23.1).bind fun r24 =>
               (laws_eqEntryS r24.1.1 r8.1.1).bind fun r25 =>
               bif (!r25.1)
               then some (false, ())
               else bif (!((ByteArray.toList r24.1.2.1) == (ByteArray.toList r8.1.2.1)))
                then some (false, ())
                else bif (!(r24.1.2.2 == r8.1.2.2))
                 then some (false, ())
                 else (laws_heldEntryS r20.2.1 1).bind fun r26 =>
                  bif (decide (r26.1 < 0))
                  then some (false, ())
                  else bif (r26.1 != r20.1)
                   then some (false, ())
                   else some (true, ()) : Option (Bool × Unit)) := (DF_eq X rfl _).trans (by kernel_rfl)
theorem laws_szEntryS_eq (a0 : (List D_Entry)) (a1 : Int) : laws_szEntryS a0 a1 =
  (bif (decide ((w64 (a1 - (List.length a0 : Int))) < 0))
  then some ((-1), ())
  else laws_szEntryS_L0 a0 (w64 (a1 - (List.length a0 : Int))) 0 : Option (Int × Unit)) := (DF_eq X rfl _).trans (by kernel_rfl)
theorem laws_szEntryS_L0_eq (x0 : (List D_Entry)) (x1 : Int) (x5 : Int) : laws_szEntryS_L0 x0 x1 x5 =
  (bif (decide (x5 < (List.length x0 : Int)))
  then bif ((decide (0 ≤ x5)) && (decide (x5 < (List.length x0 : Int))))
   then (laws_szEntry ((List.getD x0 (Int.toNat x5) (ByteArray.empty, (0, (0, (ByteArray.empty, []))))).1, (((List.getD x0 (Int.toNat x5) (ByteArray.empty, (0, (0, (ByteArray.empty, []))))).2).1, ((((List.getD x0 (Int.toNat x5) (ByteArray.empty, (0, (0, (ByteArray.empty, []))))).2).2).1, ((((List.getD x0 (Int.toNat x5) (ByteArray.empty, (0, (0, (ByteArray.empty, []))))).2).2).2)))) x1).bind fun r5 =>
    bif (decide (r5.1 < 0))
    then some ((-1), ())
    else laws_szEntryS_L0 x0 r5.1 (w64 (x5 + 1))
   else none
  else some (x1, ()) : Option (Int × Unit)) := (loopAt_mk X 11 0 [] _ _ _).trans (by kernel_rfl)
theorem laws_szStringS_eq (a0 : (List ByteArray)) (a1 : Int) : laws_szStringS a0 a1 =
  (bif (decide ((w64 (a1 - (List.length a0 : Int))) < 0))
  then some ((-1), ())
  else laws_szStringS_L0 a0 (w64 (a1 - (List.length a0 : Int))) 0 : Option (Int × Unit)) := (DF_eq X rfl _).trans (by kernel_rfl)
theorem laws_szStringS_L0_eq (x0 : (List ByteArray)) (x1 : Int) (x5 : Int) : laws_szStringS_L0 x0 x1 x5 =
  (bif (decide (x5 < (List.length x0 : Int)))
  then bif ((decide (0 ≤ x5)) && (decide (x5 < (List.length x0 : Int))))
   then bif (decide ((w64 (x1 - (ByteArray.size (List.getD x0 (Int.toNat x5) ByteArray.empty) : Int))) < 0))
    then some ((-1), ())
    else laws_szStringS_L0 x0 (w64 (x1 - (ByteArray.size (List.getD x0 (Int.toNat x5) ByteArray.empty) : Int))) (w64 (x5 + 1))
   else none
  else some (x1, ()) : Option (Int × Unit)) := (loopAt_mk X 12 0 [] _ _ _).trans (by kernel_rfl)
theorem spec_OnSets_eq (a0 : (List D_Entry)) (a1 : (List ByteArray)) : spec_OnSets a0 a1 =
  ((spec_l14Is a0 a1 ([c_SADD, c_SREM, c_SISMEMBER, c_SCARD, c_SMEMBERS])).bind fun r4 =>
  bif (!r4.1)
  then some (([], (ByteArray.empty, false)), ())
  else bif ((decide ((0 : Int) ≤ 1)) && (decide (1 < (List.length a1 : Int))))
   then (spec_l15Items a0 (List.getD a1 (Int.toNat 1) ByteArray.empty) 4).bind fun r5 =>
    bif (!r5.1.2)
    then (spec_l14No a0 c_WRONGTYPE).bind fun r6 =>
     some (r6.1, ())
    else bif ((decide ((0 : Int) ≤ 0)) && (decide (0 < (List.length a1 : Int))))
     then (spec_Upper (List.getD a1 (Int.toNat 0) ByteArray.empty)).bind fun r6 =>
      bif ((ByteArray.toList r6.1) == (ByteArray.toList c_SADD))
      then spec_OnSets_L1 a0 a1 (List.getD a1 (Int.toNat 1) ByteArray.empty) 0 2 r5.1.1.1 r5.1.1.2.1 r5.1.1.2.2.1 r5.1.1.2.2.2
      else bif ((ByteArray.toList r6.1) == (ByteArray.toList c_SREM))
       then spec_OnSets_L3 a0 a1 (List.getD a1 (Int.toNat 1) ByteArray.empty) 0 2 r5.1.1.1 r5.1.1.2.1 r5.1.1.2.2.1 r5.1.1.2.2.2
       else bif ((ByteArray.toList r6.1) == (ByteArray.toList c_SISMEMBER))
        then bif ((decide ((0 : Int) ≤ 2)) && (decide (2 < (List.length a1 : Int))))
         then (spec_l16At r5.1.1.2.2.2 1 (List.getD a1 (Int.toNat 2) ByteArray.empty)).bind fun r7 =>
          bif r7.1.2
          then (spec_l10CopyTable a0).bind fun r8 =>
           (spec_Number 1).bind fun r9 =>
           some ((r8.1, (r9.1, true)), ())
          else (spec_l10CopyTable a0).bind fun r8 =>
           (spec_Number 0).bind fun r9 =>
           some ((r8.1, (r9.1, true)), ())
         else none
        else bif ((ByteArray.toList r6.1) == (ByteArray.toList c_SCARD))
         then (spec_l10CopyTable a0).bind fun r7 =>
          (spec_Number (List.length r5.1.1.2.2.2 : Int)).bind fun r8 =>
          some ((r7.1, (r8.1, true)), ())
         else (spec_l10CopyTable a0).bind fun r7 =>
          (spec_l15Bulks r5.1.1.2.2.2).bind fun r8 =>
          some ((r7.1, (r8.1, true)), ())
     else none
   else none : Option (((List D_Entry) × ByteArray × Bool) × Unit)) := (DF_eq X rfl _).trans (by kernel_rfl)
theorem spec_OnSets_L1_eq (x0 : (List D_Entry)) (x1 : (List ByteArray)) (x7 : ByteArray) (x10 : Int) (x11 : Int) (b4192_0 : Int) (b4192_1 : Int) (b4192_2 : ByteArray) (b4192_3 : (List ByteArray)) : spec_OnSets_L1 x0 x1 x7 x10 x11 b4192_0 b4192_1 b4192_2 b4192_3 =
  (bif (decide (x11 < (List.length x1 : Int)))
  then bif ((decide (0 ≤ x11)) && (decide (x11 < (List.length x1 : Int))))
   then (spec_l16At b4192_3 1 (List.getD x1 (Int.toNat x11) ByteArray.empty)).bind fun r11 =>
    bif (!r11.1.2)
    then bif ((decide (0 ≤ x11)) && (decide (x11 < (List.length x1 : Int))))
     then (spec_l16In b4192_3 r11.1.1 ([(List.getD x1 (Int.toNat x11) ByteArray.empty)])).bind fun r12 =>
      spec_OnSets_L1 x0 x1 x7 (w64 (x10 + 1)) (w64 (x11 + 1)) b4192_0 b4192_1 b4192_2 r12.1
     else none
    else spec_OnSets_L1 x0 x1 x7 x10 (w64 (x11 + 1)) b4192_0 b4192_1 b4192_2 b4192_3
   else none
  else (spec_Number x10).bind fun r11 =>
   (spec_l15Keep x0 x7 (b4192_0, (b4192_1, (b4192_2, b4192_3))) r11.1).bind fun r12 =>
   some (r12.1, ()) : Option (((List D_Entry) × ByteArray × Bool) × Unit)) := (loopAt_mk X 13 1 [] _ _ _).trans (by kernel_rfl)
theorem spec_OnSets_L3_eq (x0 : (List D_Entry)) (x1 : (List ByteArray)) (x7 : ByteArray) (x10 : Int) (x14 : Int) (b4192_0 : Int) (b4192_1 : Int) (b4192_2 : ByteArray) (b4192_3 : (List ByteArray)) : spec_OnSets_L3 x0 x1 x7 x10 x14 b4192_0 b4192_1 b4192_2 b4192_3 =
  (bif (decide (x14 < (List.length x1 : Int)))
  then bif ((decide (0 ≤ x14)) && (decide (x14 < (List.length x1 : Int))))
   then (spec_l16At b4192_3 1 (List.getD x1 (Int.toNat x14) ByteArray.empty)).bind fun r11 =>
    bif r11.1.2
    then (spec_l16Cut b4192_3 r11.1.1 1).bind fun r12 =>
     spec_OnSets_L3 x0 x1 x7 (w64 (x10 + 1)) (w64 (x14 + 1)) b4192_0 b4192_1 b4192_2 r12.1
    else spec_OnSets_L3 x0 x1 x7 x10 (w64 (x14 + 1)) b4192_0 b4192_1 b4192_2 b4192_3
   else none
  else (spec_Number x10).bind fun r11 =>
   (spec_l15Keep x0 x7 (b4192_0, (b4192_1, (b4192_2, b4192_3))) r11.1).bind fun r12 =>
   some (r12.1, ()) : Option (((List D_Entry) × ByteArray × Bool) × Unit)) := (loopAt_mk X 13 3 [] _ _ _).trans (by kernel_rfl)
theorem laws_toEntryS_eq (a0 : (List D_Entry)) : laws_toEntryS a0 =
  (bif ((decide (0 ≤ (List.length a0 : Int))) && ((decide ((List.length a0 : Int) ≤ (List.length a0 : Int))) && (lim (Int.toNat (List.length a0 : Int)) 72)))
  then laws_toEntryS_L0 a0 (List.replicate (Int.toNat (List.length a0 : Int)) (ByteArray.empty, (0, (0, (ByteArray.empty, []))))) 0
  else none : Option ((List D_Entry) × Unit)) := (DF_eq X rfl _).trans (by kernel_rfl)
theorem laws_toEntryS_L0_eq (x0 : (List D_Entry)) (x3 : (List D_Entry)) (x4 : Int) : laws_toEntryS_L0 x0 x3 x4 =
  (bif (decide (x4 < (List.length x0 : Int)))
  then bif ((decide (0 ≤ x4)) && (decide (x4 < (List.length x0 : Int))))
   then (laws_toEntry ((List.getD x0 (Int.toNat x4) (ByteArray.empty, (0, (0, (ByteArray.empty, []))))).1, (((List.getD x0 (Int.toNat x4) (ByteArray.empty, (0, (0, (ByteArray.empty, []))))).2).1, ((((List.getD x0 (Int.toNat x4) (ByteArray.empty, (0, (0, (ByteArray.empty, []))))).2).2).1, ((((List.getD x0 (Int.toNat x4) (ByteArray.empty, (0, (0, (ByteArray.empty, []))))).2).2).2))))).bind fun r5 =>
    bif ((decide (0 ≤ x4)) && (decide (x4 < (List.length x3 : Int))))
    then laws_toEntryS_L0 x0 (List.set x3 (Int.toNat x4) (r5.1.1, (r5.1.2.1, (r5.1.2.2.1, (r5.1.2.2.2.1, r5.1.2.2.2.2))))) (w64 (x4 + 1))
    else none
   else none
  else some (x3, ()) : Option ((List D_Entry) × Unit)) := (loopAt_mk X 14 0 [] _ _ _).trans (by kernel_rfl)
theorem laws_toStringS_eq (a0 : (List ByteArray)) : laws_toStringS a0 =
  (bif ((decide (0 ≤ (List.length a0 : Int))) && ((decide ((List.length a0 : Int) ≤ (List.length a0 : Int))) && (lim (Int.toNat (List.length a0 : Int)) 16)))
  then laws_toStringS_L0 a0 (List.replicate (Int.toNat (List.length a0 : Int)) ByteArray.empty) 0
  else none : Option ((List ByteArray) × Unit)) := (DF_eq X rfl _).trans (by kernel_rfl)
theorem laws_toStringS_L0_eq (x0 : (List ByteArray)) (x3 : (List ByteArray)) (x4 : Int) : laws_toStringS_L0 x0 x3 x4 =
  (bif (decide (x4 < (List.length x0 : Int)))
  then bif ((decide (0 ≤ x4)) && (decide (x4 < (List.length x0 : Int))))
   then bif ((decide (0 ≤ x4)) && (decide (x4 < (List.length x3 : Int))))
    then laws_toStringS_L0 x0 (List.set x3 (Int.toNat x4) (List.getD x0 (Int.toNat x4) ByteArray.empty)) (w64 (x4 + 1))
    else none
   else none
  else some (x3, ()) : Option ((List ByteArray) × Unit)) := (loopAt_mk X 15 0 [] _ _ _).trans (by kernel_rfl)
theorem impl_OnSets_eq (a0 : (List D_Entry)) (a1 : (List ByteArray)) : impl_OnSets a0 a1 =
  ((impl_begun a0 a1 c_SADD_SREM_SI_34_842407).bind fun r4 =>
  match r4.1.1 with
  | none => bif (!r4.1.2)
   then some (([], (ByteArray.empty, false)), ())
   else bif ((decide ((0 : Int) ≤ 0)) && (decide (0 < (List.length a1 : Int))))
    then (impl_Upper (List.getD a1 (Int.toNat 0) ByteArray.empty)).bind fun r6 =>
     bif ((decide ((0 : Int) ≤ 1)) && (decide (1 < (List.length a1 : Int))))
     then bif ((decide ((0 : Int) ≤ 2)) && ((decide (2 ≤ (List.length a1 : Int))) && (decide ((List.length a1 : Int) ≤ (List.length a1 : Int)))))
      then none
      else none
     else none
    else none
  | some r5 => bif (!r4.1.2)
  then some (([], (ByteArray.empty, false)), ())
  else bif ((decide ((0 : Int) ≤ 0)) && (decide (0 < (List.length a1 : Int))))
   then (impl_Upper (List.getD a1 (Int.toNat 0) ByteArray.empty)).bind fun r6 =>
    bif ((decide ((0 : Int) ≤ 1)) && (decide (1 < (List.length a1 : Int))))
    then bif ((decide ((0 : Int) ≤ 2)) && ((decide (2 ≤ (List.length a1 : Int))) && (decide ((List.length a1 : Int) ≤ (List.length a1 : Int)))))
     then (__loop_example_g00124_impl_desk__set r5 r6.1 (List.getD a1 (Int.toNat 1) ByteArray.empty) (List.take ((Int.toNat (List.length a1 : Int)) - (Int.toNat 2)) (List.drop (Int.toNat 2) a1))).bind fun r7 =>
      (__loop_example_g00124_impl_desk__over r7.2.1 a0).bind fun r8 =>
      some (r8.1, ())
     else none
    else none
   else none : Option (((List D_Entry) × ByteArray × Bool) × Unit)) := (DF_eq X rfl _).trans (by kernel_rfl)
theorem laws_eqEntryS_eq (a0 : (List D_Entry)) (a1 : (List D_Entry)) : laws_eqEntryS a0 a1 =
  (bif ((List.length a0 : Int) != (List.length a1 : Int))
  then some (false, ())
  else laws_eqEntryS_L0 a0 a1 0 : Option (Bool × Unit)) := (DF_eq X rfl _).trans (by kernel_rfl)
theorem laws_eqEntryS_L0_eq (x0 : (List D_Entry)) (x1 : (List D_Entry)) (x5 : Int) : laws_eqEntryS_L0 x0 x1 x5 =
  (bif (decide (x5 < (List.length x0 : Int)))
  then bif ((decide (0 ≤ x5)) && (decide (x5 < (List.length x0 : Int))))
   then bif ((decide (0 ≤ x5)) && (decide (x5 < (List.length x1 : Int))))
    then (laws_eqEntry ((List.getD x0 (Int.toNat x5) (ByteArray.empty, (0, (0, (ByteArray.empty, []))))).1, (((List.getD x0 (Int.toNat x5) (ByteArray.empty, (0, (0, (ByteArray.empty, []))))).2).1, ((((List.getD x0 (Int.toNat x5) (ByteArray.empty, (0, (0, (ByteArray.empty, []))))).2).2).1, ((((List.getD x0 (Int.toNat x5) (ByteArray.empty, (0, (0, (ByteArray.empty, []))))).2).2).2)))) ((List.getD x1 (Int.toNat x5) (ByteArray.empty, (0, (0, (ByteArray.empty, []))))).1, (((List.getD x1 (Int.toNat x5) (ByteArray.empty, (0, (0, (ByteArray.empty, []))))).2).1, ((((List.getD x1 (Int.toNat x5) (ByteArray.empty, (0, (0, (ByteArray.empty, []))))).2).2).1, ((((List.getD x1 (Int.toNat x5) (ByteArray.empty, (0, (0, (ByteArray.empty, []))))).2).2).2))))).bind fun r5 =>
     bif (!r5.1)
     then some (false, ())
     else laws_eqEntryS_L0 x0 x1 (w64 (x5 + 1))
    else none
   else none
  else some (true, ()) : Option (Bool × Unit)) := (loopAt_mk X 17 0 [] _ _ _).trans (by kernel_rfl)
theorem laws_eqStringS_eq (a0 : (List ByteArray)) (a1 : (List ByteArray)) : laws_eqStringS a0 a1 =
  (bif ((List.length a0 : Int) != (List.length a1 : Int))
  then some (false, ())
  else laws_eqStringS_L0 a0 a1 0 : Option (Bool × Unit)) := (DF_eq X rfl _).trans (by kernel_rfl)
theorem laws_eqStringS_L0_eq (x0 : (List ByteArray)) (x1 : (List ByteArray)) (x5 : Int) : laws_eqStringS_L0 x0 x1 x5 =
  (bif (decide (x5 < (List.length x0 : Int)))
  then bif ((decide (0 ≤ x5)) && (decide (x5 < (List.length x0 : Int))))
   then bif ((decide (0 ≤ x5)) && (decide (x5 < (List.length x1 : Int))))
    then bif (!((ByteArray.toList (List.getD x0 (Int.toNat x5) ByteArray.empty)) == (ByteArray.toList (List.getD x1 (Int.toNat x5) ByteArray.empty))))
     then some (false, ())
     else laws_eqStringS_L0 x0 x1 (w64 (x5 + 1))
    else none
   else none
  else some (true, ()) : Option (Bool × Unit)) := (loopAt_mk X 18 0 [] _ _ _).trans (by kernel_rfl)
theorem laws_markEntryS_eq (a0 : (List D_Entry)) (a1 : Int) : laws_markEntryS a0 a1 =
  (laws_markEntryS_L1700000 a1 a0 : Option (Int × ((List D_Entry) × Unit))) := (DF_eq X rfl _).trans (by kernel_rfl)
theorem laws_markEntryS_L0_eq (x1 : Int) (x5 : Int) (r3000000 : (List D_Entry)) : laws_markEntryS_L0 x1 x5 r3000000 =
  (laws_markEntryS_L1700002 x1 x5 (decide (x5 < (List.length r3000000 : Int))) r3000000 : Option (Int × ((List D_Entry) × Unit))) := (loopAt_mk X 19 0 [] _ _ _).trans (by kernel_rfl)
theorem laws_markEntryS_L1700000_eq (x1 : Int) (r3000000 : (List D_Entry)) : laws_markEntryS_L1700000 x1 r3000000 =
  (laws_markEntryS_L1700001 x1 0 r3000000 : Option (Int × ((List D_Entry) × Unit))) := (loopAt_mk X 19 1700000 [] _ _ _).trans (by kernel_rfl)
theorem laws_markEntryS_L1700001_eq (x1 : Int) (x5 : Int) (r3000000 : (List D_Entry)) : laws_markEntryS_L1700001 x1 x5 r3000000 =
  (laws_markEntryS_L0 x1 x5 r3000000 : Option (Int × ((List D_Entry) × Unit))) := (loopAt_mk X 19 1700001 [] _ _ _).trans (by kernel_rfl)
theorem laws_markEntryS_L1700002_eq (x1 : Int) (x5 : Int) (x9 : Bool) (r3000000 : (List D_Entry)) : laws_markEntryS_L1700002 x1 x5 x9 r3000000 =
  (bif x9
  then (laws_markText x1).bind fun r6 =>
   bif ((decide (0 ≤ x5)) && (decide (x5 < (List.length r3000000 : Int))))
   then laws_markEntryS_L1700004 x1 x5 (List.set r3000000 (Int.toNat x5) (r6.1, (List.getD r3000000 (Int.toNat x5) (ByteArray.empty, (0, (0, (ByteArray.empty, []))))).2))
   else none
  else laws_markEntryS_L1700013 x1 r3000000 : Option (Int × ((List D_Entry) × Unit))) := (loopAt_mk X 19 1700002 [0] _ _ _).trans (by kernel_rfl)
theorem laws_markEntryS_L1700004_eq (x1 : Int) (x5 : Int) (r3000000 : (List D_Entry)) : laws_markEntryS_L1700004 x1 x5 r3000000 =
  (laws_markEntryS_L1700005 (w64 (x1 + 1)) x5 r3000000 : Option (Int × ((List D_Entry) × Unit))) := (loopAt_mk X 19 1700004 [0] _ _ _).trans (by kernel_rfl)
theorem laws_markEntryS_L1700005_eq (x1 : Int) (x5 : Int) (r3000000 : (List D_Entry)) : laws_markEntryS_L1700005 x1 x5 r3000000 =
  (bif ((decide (0 ≤ x5)) && (decide (x5 < (List.length r3000000 : Int))))
  then laws_markEntryS_L1700006 x1 x5 (List.set r3000000 (Int.toNat x5) ((List.getD r3000000 (Int.toNat x5) (ByteArray.empty, (0, (0, (ByteArray.empty, []))))).1, (x1, ((List.getD r3000000 (Int.toNat x5) (ByteArray.empty, (0, (0, (ByteArray.empty, []))))).2).2)))
  else none : Option (Int × ((List D_Entry) × Unit))) := (loopAt_mk X 19 1700005 [0] _ _ _).trans (by kernel_rfl)
theorem laws_markEntryS_L1700006_eq (x1 : Int) (x5 : Int) (r3000000 : (List D_Entry)) : laws_markEntryS_L1700006 x1 x5 r3000000 =
  (laws_markEntryS_L1700007 (w64 (x1 + 1)) x5 r3000000 : Option (Int × ((List D_Entry) × Unit))) := (loopAt_mk X 19 1700006 [0] _ _ _).trans (by kernel_rfl)
theorem laws_markEntryS_L1700007_eq (x1 : Int) (x5 : Int) (r3000000 : (List D_Entry)) : laws_markEntryS_L1700007 x1 x5 r3000000 =
  (bif ((decide (0 ≤ x5)) && (decide (x5 < (List.length r3000000 : Int))))
  then laws_markEntryS_L1700008 x1 x5 (List.set r3000000 (Int.toNat x5) ((List.getD r3000000 (Int.toNat x5) (ByteArray.empty, (0, (0, (ByteArray.empty, []))))).1, (((List.getD r3000000 (Int.toNat x5) (ByteArray.empty, (0, (0, (ByteArray.empty, []))))).2).1, (x1, (((List.getD r3000000 (Int.toNat x5) (ByteArray.empty, (0, (0, (ByteArray.empty, []))))).2).2).2))))
  else none : Option (Int × ((List D_Entry) × Unit))) := (loopAt_mk X 19 1700007 [0] _ _ _).trans (by kernel_rfl)
theorem laws_markEntryS_L1700008_eq (x1 : Int) (x5 : Int) (r3000000 : (List D_Entry)) : laws_markEntryS_L1700008 x1 x5 r3000000 =
  (laws_markEntryS_L1700009 (w64 (x1 + 1)) x5 r3000000 : Option (Int × ((List D_Entry) × Unit))) := (loopAt_mk X 19 1700008 [0] _ _ _).trans (by kernel_rfl)
theorem laws_markEntryS_L1700009_eq (x1 : Int) (x5 : Int) (r3000000 : (List D_Entry)) : laws_markEntryS_L1700009 x1 x5 r3000000 =
  ((laws_markText x1).bind fun r5 =>
  bif ((decide (0 ≤ x5)) && (decide (x5 < (List.length r3000000 : Int))))
  then laws_markEntryS_L1700010 x1 x5 (List.set r3000000 (Int.toNat x5) ((List.getD r3000000 (Int.toNat x5) (ByteArray.empty, (0, (0, (ByteArray.empty, []))))).1, (((List.getD r3000000 (Int.toNat x5) (ByteArray.empty, (0, (0, (ByteArray.empty, []))))).2).1, ((((List.getD r3000000 (Int.toNat x5) (ByteArray.empty, (0, (0, (ByteArray.empty, []))))).2).2).1, (r5.1, ((((List.getD r3000000 (Int.toNat x5) (ByteArray.empty, (0, (0, (ByteArray.empty, []))))).2).2).2).2)))))
  else none : Option (Int × ((List D_Entry) × Unit))) := (loopAt_mk X 19 1700009 [0] _ _ _).trans (by kernel_rfl)
theorem laws_markEntryS_L1700010_eq (x1 : Int) (x5 : Int) (r3000000 : (List D_Entry)) : laws_markEntryS_L1700010 x1 x5 r3000000 =
  (laws_markEntryS_L1700011 (w64 (x1 + 1)) x5 r3000000 : Option (Int × ((List D_Entry) × Unit))) := (loopAt_mk X 19 1700010 [0] _ _ _).trans (by kernel_rfl)
theorem laws_markEntryS_L1700011_eq (x1 : Int) (x5 : Int) (r3000000 : (List D_Entry)) : laws_markEntryS_L1700011 x1 x5 r3000000 =
  (bif ((decide (0 ≤ x5)) && (decide (x5 < (List.length r3000000 : Int))))
  then (laws_markStringS (((((List.getD r3000000 (Int.toNat x5) (ByteArray.empty, (0, (0, (ByteArray.empty, []))))).2).2).2).2) x1).bind fun r5 =>
   laws_markEntryS_L0 r5.1 (w64 (x5 + 1)) (List.set r3000000 (Int.toNat x5) ((List.getD r3000000 (Int.toNat x5) (ByteArray.empty, (0, (0, (ByteArray.empty, []))))).1, (((List.getD r3000000 (Int.toNat x5) (ByteArray.empty, (0, (0, (ByteArray.empty, []))))).2).1, ((((List.getD r3000000 (Int.toNat x5) (ByteArray.empty, (0, (0, (ByteArray.empty, []))))).2).2).1, (((((List.getD r3000000 (Int.toNat x5) (ByteArray.empty, (0, (0, (ByteArray.empty, []))))).2).2).2).1, r5.2.1)))))
  else none : Option (Int × ((List D_Entry) × Unit))) := (loopAt_mk X 19 1700011 [0] _ _ _).trans (by kernel_rfl)
theorem laws_markEntryS_L1700013_eq (x4 : Int) (r3000000 : (List D_Entry)) : laws_markEntryS_L1700013 x4 r3000000 =
  (some (x4, (r3000000, ())) : Option (Int × ((List D_Entry) × Unit))) := (loopAt_mk X 19 1700013 [] _ _ _).trans (by kernel_rfl)
theorem laws_markStringS_eq (a0 : (List ByteArray)) (a1 : Int) : laws_markStringS a0 a1 =
  (laws_markStringS_L0 a1 0 a0 : Option (Int × ((List ByteArray) × Unit))) := (DF_eq X rfl _).trans (by kernel_rfl)
theorem laws_markStringS_L0_eq (x1 : Int) (x5 : Int) (r3000000 : (List ByteArray)) : laws_markStringS_L0 x1 x5 r3000000 =
  (bif (decide (x5 < (List.length r3000000 : Int)))
  then (laws_markText x1).bind fun r5 =>
   bif ((decide (0 ≤ x5)) && (decide (x5 < (List.length r3000000 : Int))))
   then laws_markStringS_L0 (w64 (x1 + 1)) (w64 (x5 + 1)) (List.set r3000000 (Int.toNat x5) r5.1)
   else none
  else some (x1, (r3000000, ())) : Option (Int × ((List ByteArray) × Unit))) := (loopAt_mk X 20 0 [] _ _ _).trans (by kernel_rfl)
theorem laws_heldEntryS_eq (a0 : (List D_Entry)) (a1 : Int) : laws_heldEntryS a0 a1 =
  (laws_heldEntryS_L0 a0 a1 0 : Option (Int × Unit)) := (DF_eq X rfl _).trans (by kernel_rfl)
theorem laws_heldEntryS_L0_eq (x0 : (List D_Entry)) (x1 : Int) (x5 : Int) : laws_heldEntryS_L0 x0 x1 x5 =
  (bif (decide (x5 < (List.length x0 : Int)))
  then bif ((decide (0 ≤ x5)) && (decide (x5 < (List.length x0 : Int))))
   then (laws_markText x1).bind fun r5 =>
    bif (!((ByteArray.toList ((List.getD x0 (Int.toNat x5) (ByteArray.empty, (0, (0, (ByteArray.empty, []))))).1)) == (ByteArray.toList r5.1)))
    then some ((-1), ())
    else bif ((decide (0 ≤ x5)) && (decide (x5 < (List.length x0 : Int))))
     then bif (((List.getD x0 (Int.toNat x5) (ByteArray.empty, (0, (0, (ByteArray.empty, []))))).2).1 != (w64 (x1 + 1)))
      then some ((-1), ())
      else bif ((decide (0 ≤ x5)) && (decide (x5 < (List.length x0 : Int))))
       then bif ((((List.getD x0 (Int.toNat x5) (ByteArray.empty, (0, (0, (ByteArray.empty, []))))).2).2).1 != (w64 ((w64 (x1 + 1)) + 1)))
        then some ((-1), ())
        else bif ((decide (0 ≤ x5)) && (decide (x5 < (List.length x0 : Int))))
         then (laws_markText (w64 ((w64 ((w64 (x1 + 1)) + 1)) + 1))).bind fun r6 =>
          bif (!((ByteArray.toList (((((List.getD x0 (Int.toNat x5) (ByteArray.empty, (0, (0, (ByteArray.empty, []))))).2).2).2).1)) == (ByteArray.toList r6.1)))
          then some ((-1), ())
          else bif ((decide (0 ≤ x5)) && (decide (x5 < (List.length x0 : Int))))
           then (laws_heldStringS (((((List.getD x0 (Int.toNat x5) (ByteArray.empty, (0, (0, (ByteArray.empty, []))))).2).2).2).2) (w64 ((w64 ((w64 ((w64 (x1 + 1)) + 1)) + 1)) + 1))).bind fun r7 =>
            bif (decide (r7.1 < 0))
            then some ((-1), ())
            else laws_heldEntryS_L0 x0 r7.1 (w64 (x5 + 1))
           else none
         else none
       else none
     else none
   else none
  else some (x1, ()) : Option (Int × Unit)) := (loopAt_mk X 21 0 [] _ _ _).trans (by kernel_rfl)
theorem spec_OnFields_eq (a0 : (List D_Entry)) (a1 : (List ByteArray)) : spec_OnFields a0 a1 =
  ((spec_l14Is a0 a1 ([c_HSET, c_HGET, c_HDEL, c_HLEN, c_HGETALL, c_HKEYS])).bind fun r4 =>
  bif (!r4.1)
  then some (([], (ByteArray.empty, false)), ())
  else bif ((decide ((0 : Int) ≤ 1)) && (decide (1 < (List.length a1 : Int))))
   then (spec_l15Items a0 (List.getD a1 (Int.toNat 1) ByteArray.empty) 3).bind fun r5 =>
    bif (!r5.1.2)
    then (spec_l14No a0 c_WRONGTYPE).bind fun r6 =>
     some (r6.1, ())
    else bif ((decide ((0 : Int) ≤ 0)) && (decide (0 < (List.length a1 : Int))))
     then (spec_Upper (List.getD a1 (Int.toNat 0) ByteArray.empty)).bind fun r6 =>
      bif ((ByteArray.toList r6.1) == (ByteArray.toList c_HSET))
      then bif ((decide ((0 : Int) ≤ 2)) && (decide (2 < (List.length a1 : Int))))
       then (spec_l16At r5.1.1.2.2.2 2 (List.getD a1 (Int.toNat 2) ByteArray.empty)).bind fun r7 =>
        bif r7.1.2
        then (spec_l16Cut r5.1.1.2.2.2 r7.1.1 2).bind fun r8 =>
         bif ((decide ((0 : Int) ≤ 2)) && (decide (2 < (List.length a1 : Int))))
         then bif ((decide ((0 : Int) ≤ 3)) && (decide (3 < (List.length a1 : Int))))
          then (spec_l16In r8.1 r7.1.1 ([(List.getD a1 (Int.toNat 2) ByteArray.empty), (List.getD a1 (Int.toNat 3) ByteArray.empty)])).bind fun r9 =>
           (spec_Number 0).bind fun r10 =>
           (spec_l15Keep a0 (List.getD a1 (Int.toNat 1) ByteArray.empty) (r5.1.1.1, (r5.1.1.2.1, (r5.1.1.2.2.1, r9.1))) r10.1).bind fun r11 =>
           some (r11.1, ())
          else none
         else none
        else bif ((decide ((0 : Int) ≤ 2)) && (decide (2 < (List.length a1 : Int))))
         then bif ((decide ((0 : Int) ≤ 3)) && (decide (3 < (List.length a1 : Int))))
          then (spec_l16In r5.1.1.2.2.2 r7.1.1 ([(List.getD a1 (Int.toNat 2) ByteArray.empty), (List.getD a1 (Int.toNat 3) ByteArray.empty)])).bind fun r8 =>
           (spec_Number 1).bind fun r9 =>
           (spec_l15Keep a0 (List.getD a1 (Int.toNat 1) ByteArray.empty) (r5.1.1.1, (r5.1.1.2.1, (r5.1.1.2.2.1, r8.1))) r9.1).bind fun r10 =>
           some (r10.1, ())
          else none
         else none
       else none
      else bif ((ByteArray.toList r6.1) == (ByteArray.toList c_HGET))
       then bif ((decide ((0 : Int) ≤ 2)) && (decide (2 < (List.length a1 : Int))))
        then (spec_l16At r5.1.1.2.2.2 2 (List.getD a1 (Int.toNat 2) ByteArray.empty)).bind fun r7 =>
         bif (!r7.1.2)
         then (spec_l10CopyTable a0).bind fun r8 =>
          (spec_Nil).bind fun r9 =>
          some ((r8.1, (r9.1, true)), ())
         else (spec_l10CopyTable a0).bind fun r8 =>
          bif ((decide (0 ≤ (w64 (r7.1.1 + 1)))) && (decide ((w64 (r7.1.1 + 1)) < (List.length r5.1.1.2.2.2 : Int))))
          then (spec_Bulk (List.getD r5.1.1.2.2.2 (Int.toNat (w64 (r7.1.1 + 1))) ByteArray.empty)).bind fun r9 =>
           some ((r8.1, (r9.1, true)), ())
          else none
        else none
       else bif ((ByteArray.toList r6.1) == (ByteArray.toList c_HDEL))
        then spec_OnFields_L1 a0 a1 (List.getD a1 (Int.toNat 1) ByteArray.empty) 0 2 r5.1.1.1 r5.1.1.2.1 r5.1.1.2.2.1 r5.1.1.2.2.2
        else bif ((ByteArray.toList r6.1) == (ByteArray.toList c_HLEN))
         then (spec_l10CopyTable a0).bind fun r7 =>
          (spec_Number (w64 (Int.tdiv (List.length r5.1.1.2.2.2 : Int) 2))).bind fun r8 =>
          some ((r7.1, (r8.1, true)), ())
         else bif ((ByteArray.toList r6.1) == (ByteArray.toList c_HGETALL))
          then (spec_l10CopyTable a0).bind fun r7 =>
           (spec_l15Bulks r5.1.1.2.2.2).bind fun r8 =>
           some ((r7.1, (r8.1, true)), ())
          else spec_OnFields_L3 a0 [] 0 r5.1.1.1 r5.1.1.2.1 r5.1.1.2.2.1 r5.1.1.2.2.2
     else none
   else none : Option (((List D_Entry) × ByteArray × Bool) × Unit)) := (DF_eq X rfl _).trans (by kernel_rfl)
theorem spec_OnFields_L1_eq (x0 : (List D_Entry)) (x1 : (List ByteArray)) (x7 : ByteArray) (x15 : Int) (x16 : Int) (b4192_0 : Int) (b4192_1 : Int) (b4192_2 : ByteArray) (b4192_3 : (List ByteArray)) : spec_OnFields_L1 x0 x1 x7 x15 x16 b4192_0 b4192_1 b4192_2 b4192_3 =
  (bif (decide (x16 < (List.length x1 : Int)))
  then bif ((decide (0 ≤ x16)) && (decide (x16 < (List.length x1 : Int))))
   then (spec_l16At b4192_3 2 (List.getD x1 (Int.toNat x16) ByteArray.empty)).bind fun r11 =>
    bif r11.1.2
    then (spec_l16Cut b4192_3 r11.1.1 2).bind fun r12 =>
     spec_OnFields_L1 x0 x1 x7 (w64 (x15 + 1)) (w64 (x16 + 1)) b4192_0 b4192_1 b4192_2 r12.1
    else spec_OnFields_L1 x0 x1 x7 x15 (w64 (x16 + 1)) b4192_0 b4192_1 b4192_2 b4192_3
   else none
  else (spec_Number x15).bind fun r11 =>
   (spec_l15Keep x0 x7 (b4192_0, (b4192_1, (b4192_2, b4192_3))) r11.1).bind fun r12 =>
   some (r12.1, ()) : Option (((List D_Entry) × ByteArray × Bool) × Unit)) := (loopAt_mk X 22 1 [] _ _ _).trans (by kernel_rfl)
theorem spec_OnFields_L3_eq (x0 : (List D_Entry)) (x19 : (List ByteArray)) (x20 : Int) (b4192_0 : Int) (b4192_1 : Int) (b4192_2 : ByteArray) (b4192_3 : (List ByteArray)) : spec_OnFields_L3 x0 x19 x20 b4192_0 b4192_1 b4192_2 b4192_3 =
  (bif (decide (x20 < (List.length b4192_3 : Int)))
  then bif ((decide (0 ≤ x20)) && (decide (x20 < (List.length b4192_3 : Int))))
   then bif (lim ((List.length x19) + 1) 16)
    then spec_OnFields_L3 x0 (x19 ++ [(List.getD b4192_3 (Int.toNat x20) ByteArray.empty)]) (w64 (x20 + 2)) b4192_0 b4192_1 b4192_2 b4192_3
    else none
   else none
  else (spec_l10CopyTable x0).bind fun r9 =>
   (spec_l15Bulks x19).bind fun r10 =>
   some ((r9.1, (r10.1, true)), ()) : Option (((List D_Entry) × ByteArray × Bool) × Unit)) := (loopAt_mk X 22 3 [] _ _ _).trans (by kernel_rfl)
theorem impl_OnFields_eq (a0 : (List D_Entry)) (a1 : (List ByteArray)) : impl_OnFields a0 a1 =
  ((impl_begun a0 a1 c_HSET_HGET_HD_33_340175).bind fun r4 =>
  match r4.1.1 with
  | none => bif (!r4.1.2)
   then some (([], (ByteArray.empty, false)), ())
   else bif ((decide ((0 : Int) ≤ 0)) && (decide (0 < (List.length a1 : Int))))
    then (impl_Upper (List.getD a1 (Int.toNat 0) ByteArray.empty)).bind fun r6 =>
     bif ((decide ((0 : Int) ≤ 1)) && (decide (1 < (List.length a1 : Int))))
     then bif ((decide ((0 : Int) ≤ 2)) && ((decide (2 ≤ (List.length a1 : Int))) && (decide ((List.length a1 : Int) ≤ (List.length a1 : Int)))))
      then none
      else none
     else none
    else none
  | some r5 => bif (!r4.1.2)
  then some (([], (ByteArray.empty, false)), ())
  else bif ((decide ((0 : Int) ≤ 0)) && (decide (0 < (List.length a1 : Int))))
   then (impl_Upper (List.getD a1 (Int.toNat 0) ByteArray.empty)).bind fun r6 =>
    bif ((decide ((0 : Int) ≤ 1)) && (decide (1 < (List.length a1 : Int))))
    then bif ((decide ((0 : Int) ≤ 2)) && ((decide (2 ≤ (List.length a1 : Int))) && (decide ((List.length a1 : Int) ≤ (List.length a1 : Int)))))
     then (__loop_example_g00124_impl_desk__field r5 r6.1 (List.getD a1 (Int.toNat 1) ByteArray.empty) (List.take ((Int.toNat (List.length a1 : Int)) - (Int.toNat 2)) (List.drop (Int.toNat 2) a1))).bind fun r7 =>
      (__loop_example_g00124_impl_desk__over r7.2.1 a0).bind fun r8 =>
      some (r8.1, ())
     else none
    else none
   else none : Option (((List D_Entry) × ByteArray × Bool) × Unit)) := (DF_eq X rfl _).trans (by kernel_rfl)
theorem spec_OnLists_eq (a0 : (List D_Entry)) (a1 : (List ByteArray)) : spec_OnLists a0 a1 =
  ((spec_l14Is a0 a1 ([c_LPUSH, c_RPUSH, c_LPOP, c_RPOP, c_LLEN, c_LRANGE, c_LINDEX])).bind fun r4 =>
  bif (!r4.1)
  then some (([], (ByteArray.empty, false)), ())
  else bif ((decide ((0 : Int) ≤ 1)) && (decide (1 < (List.length a1 : Int))))
   then (spec_l15Items a0 (List.getD a1 (Int.toNat 1) ByteArray.empty) 2).bind fun r5 =>
    bif (!r5.1.2)
    then (spec_l14No a0 c_WRONGTYPE).bind fun r6 =>
     some (r6.1, ())
    else bif ((decide ((0 : Int) ≤ 0)) && (decide (0 < (List.length a1 : Int))))
     then (spec_Upper (List.getD a1 (Int.toNat 0) ByteArray.empty)).bind fun r6 =>
      bif ((ByteArray.toList r6.1) == (ByteArray.toList c_LPUSH))
      then spec_OnLists_L1 a0 a1 (List.getD a1 (Int.toNat 1) ByteArray.empty) 2 r5.1.1.1 r5.1.1.2.1 r5.1.1.2.2.1 r5.1.1.2.2.2
      else bif ((ByteArray.toList r6.1) == (ByteArray.toList c_RPUSH))
       then bif ((decide ((0 : Int) ≤ 2)) && ((decide (2 ≤ (List.length a1 : Int))) && (decide ((List.length a1 : Int) ≤ (List.length a1 : Int)))))
        then bif (lim ((List.length r5.1.1.2.2.2) + (List.length (List.take ((Int.toNat (List.length a1 : Int)) - (Int.toNat 2)) (List.drop (Int.toNat 2) a1)))) 16)
         then (spec_Number (List.length (r5.1.1.2.2.2 ++ (List.take ((Int.toNat (List.length a1 : Int)) - (Int.toNat 2)) (List.drop (Int.toNat 2) a1))) : Int)).bind fun r7 =>
          (spec_l15Keep a0 (List.getD a1 (Int.toNat 1) ByteArray.empty) (r5.1.1.1, (r5.1.1.2.1, (r5.1.1.2.2.1, (r5.1.1.2.2.2 ++ (List.take ((Int.toNat (List.length a1 : Int)) - (Int.toNat 2)) (List.drop (Int.toNat 2) a1)))))) r7.1).bind fun r8 =>
          some (r8.1, ())
         else none
        else none
       else bif ((ByteArray.toList r6.1) == (ByteArray.toList c_LPOP))
        then bif ((List.length r5.1.1.2.2.2 : Int) == 0)
         then (spec_l10CopyTable a0).bind fun r7 =>
          (spec_Nil).bind fun r8 =>
          some ((r7.1, (r8.1, true)), ())
         else bif ((decide ((0 : Int) ≤ 0)) && (decide (0 < (List.length r5.1.1.2.2.2 : Int))))
          then bif ((decide ((0 : Int) ≤ 1)) && ((decide (1 ≤ (List.length r5.1.1.2.2.2 : Int))) && (decide ((List.length r5.1.1.2.2.2 : Int) ≤ (List.length r5.1.1.2.2.2 : Int)))))
           then (spec_Bulk (List.getD r5.1.1.2.2.2 (Int.toNat 0) ByteArray.empty)).bind fun r7 =>
            (spec_l15Keep a0 (List.getD a1 (Int.toNat 1) ByteArray.empty) (r5.1.1.1, (r5.1.1.2.1, (r5.1.1.2.2.1, (List.take ((Int.toNat (List.length r5.1.1.2.2.2 : Int)) - (Int.toNat 1)) (List.drop (Int.toNat 1) r5.1.1.2.2.2))))) r7.1).bind fun r8 =>
            some (r8.1, ())
           else none
          else none
        else bif ((ByteArray.toList r6.1) == (ByteArray.toList c_RPOP))
         then bif ((List.length r5.1.1.2.2.2 : Int) == 0)
          then (spec_l10CopyTable a0).bind fun r7 =>
           (spec_Nil).bind fun r8 =>
           some ((r7.1, (r8.1, true)), ())
          else bif ((decide (0 ≤ (w64 ((List.length r5.1.1.2.2.2 : Int) - 1)))) && (decide ((w64 ((List.length r5.1.1.2.2.2 : Int) - 1)) < (List.length r5.1.1.2.2.2 : Int))))
           then bif ((decide ((0 : Int) ≤ 0)) && ((decide (0 ≤ (w64 ((List.length r5.1.1.2.2.2 : Int) - 1)))) && (decide ((w64 ((List.length r5.1.1.2.2.2 : Int) - 1)) ≤ (List.length r5.1.1.2.2.2 : Int)))))
            then (spec_Bulk (List.getD r5.1.1.2.2.2 (Int.toNat (w64 ((List.length r5.1.1.2.2.2 : Int) - 1))) ByteArray.empty)).bind fun r7 =>
             (spec_l15Keep a0 (List.getD a1 (Int.toNat 1) ByteArray.empty) (r5.1.1.1, (r5.1.1.2.1, (r5.1.1.2.2.1, (List.take ((Int.toNat (w64 ((List.length r5.1.1.2.2.2 : Int) - 1))) - (Int.toNat 0)) (List.drop (Int.toNat 0) r5.1.1.2.2.2))))) r7.1).bind fun r8 =>
             some (r8.1, ())
            else none
           else none
         else bif ((ByteArray.toList r6.1) == (ByteArray.toList c_LLEN))
          then (spec_l10CopyTable a0).bind fun r7 =>
           (spec_Number (List.length r5.1.1.2.2.2 : Int)).bind fun r8 =>
           some ((r7.1, (r8.1, true)), ())
          else bif ((ByteArray.toList r6.1) == (ByteArray.toList c_LINDEX))
           then bif ((decide ((0 : Int) ≤ 2)) && (decide (2 < (List.length a1 : Int))))
            then (spec_l15Index r5.1.1.2.2.2 (List.getD a1 (Int.toNat 2) ByteArray.empty)).bind fun r7 =>
             bif (!r7.1.2)
             then (spec_l14No a0 c_ERR_integer).bind fun r8 =>
              some (r8.1, ())
             else (spec_l10CopyTable a0).bind fun r8 =>
              some ((r8.1, (r7.1.1, true)), ())
            else none
           else bif ((decide ((0 : Int) ≤ 2)) && (decide (2 < (List.length a1 : Int))))
            then (spec_ReadInt (List.getD a1 (Int.toNat 2) ByteArray.empty)).bind fun r7 =>
             bif ((decide ((0 : Int) ≤ 3)) && (decide (3 < (List.length a1 : Int))))
             then (spec_ReadInt (List.getD a1 (Int.toNat 3) ByteArray.empty)).bind fun r8 =>
              bif (!r7.1.2)
              then (spec_l14No a0 c_ERR_integer).bind fun r9 =>
               some (r9.1, ())
              else bif (!r8.1.2)
               then (spec_l14No a0 c_ERR_integer).bind fun r9 =>
                some (r9.1, ())
               else (spec_Bounds r7.1.1 r8.1.1 (List.length r5.1.1.2.2.2 : Int)).bind fun r9 =>
                (spec_l10CopyTable a0).bind fun r10 =>
                bif ((decide (0 ≤ r9.1.1)) && ((decide (r9.1.1 ≤ r9.1.2)) && (decide (r9.1.2 ≤ (List.length r5.1.1.2.2.2 : Int)))))
                then (spec_l15Bulks (List.take ((Int.toNat r9.1.2) - (Int.toNat r9.1.1)) (List.drop (Int.toNat r9.1.1) r5.1.1.2.2.2))).bind fun r11 =>
                 some ((r10.1, (r11.1, true)), ())
                else none
             else none
            else none
     else none
   else none : Option (((List D_Entry) × ByteArray × Bool) × Unit)) := (DF_eq X rfl _).trans (by kernel_rfl)
theorem spec_OnLists_L1_eq (x0 : (List D_Entry)) (x1 : (List ByteArray)) (x7 : ByteArray) (x11 : Int) (b4192_0 : Int) (b4192_1 : Int) (b4192_2 : ByteArray) (b4192_3 : (List ByteArray)) : spec_OnLists_L1 x0 x1 x7 x11 b4192_0 b4192_1 b4192_2 b4192_3 =
  (bif (decide (x11 < (List.length x1 : Int)))
  then bif ((decide (0 ≤ x11)) && (decide (x11 < (List.length x1 : Int))))
   then bif (lim (1 + (List.length b4192_3)) 16)
    then spec_OnLists_L1 x0 x1 x7 (w64 (x11 + 1)) b4192_0 b4192_1 b4192_2 ([(List.getD x1 (Int.toNat x11) ByteArray.empty)] ++ b4192_3)
    else none
   else none
  else (spec_Number (List.length b4192_3 : Int)).bind fun r10 =>
   (spec_l15Keep x0 x7 (b4192_0, (b4192_1, (b4192_2, b4192_3))) r10.1).bind fun r11 =>
   some (r11.1, ()) : Option (((List D_Entry) × ByteArray × Bool) × Unit)) := (loopAt_mk X 24 1 [] _ _ _).trans (by kernel_rfl)
theorem impl_OnLists_eq (a0 : (List D_Entry)) (a1 : (List ByteArray)) : impl_OnLists a0 a1 =
  ((impl_begun a0 a1 c_LPUSH_RPUSH__40_57527).bind fun r4 =>
  match r4.1.1 with
  | none => bif (!r4.1.2)
   then some (([], (ByteArray.empty, false)), ())
   else bif ((decide ((0 : Int) ≤ 0)) && (decide (0 < (List.length a1 : Int))))
    then (impl_Upper (List.getD a1 (Int.toNat 0) ByteArray.empty)).bind fun r6 =>
     bif ((decide ((0 : Int) ≤ 1)) && (decide (1 < (List.length a1 : Int))))
     then bif ((decide ((0 : Int) ≤ 2)) && ((decide (2 ≤ (List.length a1 : Int))) && (decide ((List.length a1 : Int) ≤ (List.length a1 : Int)))))
      then none
      else none
     else none
    else none
  | some r5 => bif (!r4.1.2)
  then some (([], (ByteArray.empty, false)), ())
  else bif ((decide ((0 : Int) ≤ 0)) && (decide (0 < (List.length a1 : Int))))
   then (impl_Upper (List.getD a1 (Int.toNat 0) ByteArray.empty)).bind fun r6 =>
    bif ((decide ((0 : Int) ≤ 1)) && (decide (1 < (List.length a1 : Int))))
    then bif ((decide ((0 : Int) ≤ 2)) && ((decide (2 ≤ (List.length a1 : Int))) && (decide ((List.length a1 : Int) ≤ (List.length a1 : Int)))))
     then (__loop_example_g00124_impl_desk__list r5 r6.1 (List.getD a1 (Int.toNat 1) ByteArray.empty) (List.take ((Int.toNat (List.length a1 : Int)) - (Int.toNat 2)) (List.drop (Int.toNat 2) a1))).bind fun r7 =>
      (__loop_example_g00124_impl_desk__over r7.2.1 a0).bind fun r8 =>
      some (r8.1, ())
     else none
    else none
   else none : Option (((List D_Entry) × ByteArray × Bool) × Unit)) := (DF_eq X rfl _).trans (by kernel_rfl)
theorem laws_szStringSS_eq (a0 : (List (List ByteArray))) (a1 : Int) : laws_szStringSS a0 a1 =
  (bif (decide ((w64 (a1 - (List.length a0 : Int))) < 0))
  then some ((-1), ())
  else laws_szStringSS_L0 a0 (w64 (a1 - (List.length a0 : Int))) 0 : Option (Int × Unit)) := (DF_eq X rfl _).trans (by kernel_rfl)
theorem laws_szStringSS_L0_eq (x0 : (List (List ByteArray))) (x1 : Int) (x5 : Int) : laws_szStringSS_L0 x0 x1 x5 =
  (bif (decide (x5 < (List.length x0 : Int)))
  then bif ((decide (0 ≤ x5)) && (decide (x5 < (List.length x0 : Int))))
   then (laws_szStringS (List.getD x0 (Int.toNat x5) []) x1).bind fun r5 =>
    bif (decide (r5.1 < 0))
    then some ((-1), ())
    else laws_szStringSS_L0 x0 r5.1 (w64 (x5 + 1))
   else none
  else some (x1, ()) : Option (Int × Unit)) := (loopAt_mk X 30 0 [] _ _ _).trans (by kernel_rfl)
theorem laws_toStringSS_eq (a0 : (List (List ByteArray))) : laws_toStringSS a0 =
  (bif ((decide (0 ≤ (List.length a0 : Int))) && ((decide ((List.length a0 : Int) ≤ (List.length a0 : Int))) && (lim (Int.toNat (List.length a0 : Int)) 24)))
  then laws_toStringSS_L0 a0 (List.replicate (Int.toNat (List.length a0 : Int)) []) 0
  else none : Option ((List (List ByteArray)) × Unit)) := (DF_eq X rfl _).trans (by kernel_rfl)
theorem laws_toStringSS_L0_eq (x0 : (List (List ByteArray))) (x3 : (List (List ByteArray))) (x4 : Int) : laws_toStringSS_L0 x0 x3 x4 =
  (bif (decide (x4 < (List.length x0 : Int)))
  then bif ((decide (0 ≤ x4)) && (decide (x4 < (List.length x0 : Int))))
   then (laws_toStringS (List.getD x0 (Int.toNat x4) [])).bind fun r5 =>
    bif ((decide (0 ≤ x4)) && (decide (x4 < (List.length x3 : Int))))
    then laws_toStringSS_L0 x0 (List.set x3 (Int.toNat x4) r5.1) (w64 (x4 + 1))
    else none
   else none
  else some (x3, ()) : Option ((List (List ByteArray)) × Unit)) := (loopAt_mk X 32 0 [] _ _ _).trans (by kernel_rfl)
theorem laws_eqStringSS_eq (a0 : (List (List ByteArray))) (a1 : (List (List ByteArray))) : laws_eqStringSS a0 a1 =
  (bif ((List.length a0 : Int) != (List.length a1 : Int))
  then some (false, ())
  else laws_eqStringSS_L0 a0 a1 0 : Option (Bool × Unit)) := (DF_eq X rfl _).trans (by kernel_rfl)
theorem laws_eqStringSS_L0_eq (x0 : (List (List ByteArray))) (x1 : (List (List ByteArray))) (x5 : Int) : laws_eqStringSS_L0 x0 x1 x5 =
  (bif (decide (x5 < (List.length x0 : Int)))
  then bif ((decide (0 ≤ x5)) && (decide (x5 < (List.length x0 : Int))))
   then bif ((decide (0 ≤ x5)) && (decide (x5 < (List.length x1 : Int))))
    then (laws_eqStringS (List.getD x0 (Int.toNat x5) []) (List.getD x1 (Int.toNat x5) [])).bind fun r5 =>
     bif (!r5.1)
     then some (false, ())
     else laws_eqStringSS_L0 x0 x1 (w64 (x5 + 1))
    else none
   else none
  else some (true, ()) : Option (Bool × Unit)) := (loopAt_mk X 34 0 [] _ _ _).trans (by kernel_rfl)
theorem laws_markStringSS_eq (a0 : (List (List ByteArray))) (a1 : Int) : laws_markStringSS a0 a1 =
  (laws_markStringSS_L0 a1 0 a0 : Option (Int × ((List (List ByteArray)) × Unit))) := (DF_eq X rfl _).trans (by kernel_rfl)
theorem laws_markStringSS_L0_eq (x1 : Int) (x5 : Int) (r3000000 : (List (List ByteArray))) : laws_markStringSS_L0 x1 x5 r3000000 =
  (bif (decide (x5 < (List.length r3000000 : Int)))
  then bif ((decide (0 ≤ x5)) && (decide (x5 < (List.length r3000000 : Int))))
   then (laws_markStringS (List.getD r3000000 (Int.toNat x5) []) x1).bind fun r5 =>
    laws_markStringSS_L0 r5.1 (w64 (x5 + 1)) (List.set r3000000 (Int.toNat x5) r5.2.1)
   else none
  else some (x1, (r3000000, ())) : Option (Int × ((List (List ByteArray)) × Unit))) := (loopAt_mk X 35 0 [] _ _ _).trans (by kernel_rfl)
theorem laws_heldStringS_eq (a0 : (List ByteArray)) (a1 : Int) : laws_heldStringS a0 a1 =
  (laws_heldStringS_L0 a0 a1 0 : Option (Int × Unit)) := (DF_eq X rfl _).trans (by kernel_rfl)
theorem laws_heldStringS_L0_eq (x0 : (List ByteArray)) (x1 : Int) (x5 : Int) : laws_heldStringS_L0 x0 x1 x5 =
  (bif (decide (x5 < (List.length x0 : Int)))
  then bif ((decide (0 ≤ x5)) && (decide (x5 < (List.length x0 : Int))))
   then (laws_markText x1).bind fun r5 =>
    bif (!((ByteArray.toList (List.getD x0 (Int.toNat x5) ByteArray.empty)) == (ByteArray.toList r5.1)))
    then some ((-1), ())
    else laws_heldStringS_L0 x0 (w64 (x1 + 1)) (w64 (x5 + 1))
   else none
  else some (x1, ()) : Option (Int × Unit)) := (loopAt_mk X 36 0 [] _ _ _).trans (by kernel_rfl)
theorem laws_szEntry_eq (a0 : D_Entry) (a1 : Int) : laws_szEntry a0 a1 =
  (bif (decide ((w64 (a1 - (ByteArray.size a0.1 : Int))) < 0))
  then some ((-1), ())
  else (laws_szVal a0.2 (w64 (a1 - (ByteArray.size a0.1 : Int)))).bind fun r4 =>
   bif (decide (r4.1 < 0))
   then some ((-1), ())
   else some (r4.1, ()) : Option (Int × Unit)) := (DF_eq X rfl _).trans (by kernel_rfl)
theorem spec_l14Is_eq (a0 : (List D_Entry)) (a1 : (List ByteArray)) (a2 : (List ByteArray)) : spec_l14Is a0 a1 a2 =
  ((spec_TableOk a0).bind fun r5 =>
  bif r5.1
  then (spec_ArityOk a1).bind fun r6 =>
   bif r6.1
   then bif ((decide ((0 : Int) ≤ 0)) && (decide (0 < (List.length a1 : Int))))
    then (spec_Upper (List.getD a1 (Int.toNat 0) ByteArray.empty)).bind fun r7 =>
     (spec_l13In a2 r7.1).bind fun r8 =>
     some (r8.1, ())
    else none
   else some (false, ())
  else some (false, ()) : Option (Bool × Unit)) := (DF_eq X rfl _).trans (by kernel_rfl)
theorem spec_l15Items_eq (a0 : (List D_Entry)) (a1 : ByteArray) (a2 : Int) : spec_l15Items a0 a1 a2 =
  ((spec_Find a0 a1).bind fun r5 =>
  bif (!r5.1.2)
  then some (((a2, (0, (ByteArray.empty, []))), true), ())
  else some ((r5.1.1, (r5.1.1.1 == a2)), ()) : Option ((D_Val × Bool) × Unit)) := (DF_eq X rfl _).trans (by kernel_rfl)
theorem spec_l14No_eq (a0 : (List D_Entry)) (a1 : ByteArray) : spec_l14No a0 a1 =
  ((spec_l10CopyTable a0).bind fun r4 =>
  (spec_Fault a1).bind fun r5 =>
  some ((r4.1, (r5.1, true)), ()) : Option (((List D_Entry) × ByteArray × Bool) × Unit)) := (DF_eq X rfl _).trans (by kernel_rfl)
theorem spec_Upper_eq (a0 : ByteArray) : spec_Upper a0 =
  (spec_Upper_L0 (bytesL a0) 0 : Option (ByteArray × Unit)) := (DF_eq X rfl _).trans (by kernel_rfl)
theorem spec_Upper_L0_eq (x3 : (List Int)) (x4 : Int) : spec_Upper_L0 x3 x4 =
  (bif (decide (x4 < (List.length x3 : Int)))
  then bif ((decide (0 ≤ x4)) && (decide (x4 < (List.length x3 : Int))))
   then bif (decide ((List.getD x3 (Int.toNat x4) 0) ≥ 97))
    then bif ((decide (0 ≤ x4)) && (decide (x4 < (List.length x3 : Int))))
     then bif (decide ((List.getD x3 (Int.toNat x4) 0) ≤ 122))
      then bif ((decide (0 ≤ x4)) && (decide (x4 < (List.length x3 : Int))))
       then bif ((decide (0 ≤ x4)) && (decide (x4 < (List.length x3 : Int))))
        then spec_Upper_L0 (List.set x3 (Int.toNat x4) (Go.IntKind.u8.wrap ((List.getD x3 (Int.toNat x4) 0) - 32))) (w64 (x4 + 1))
        else none
       else none
      else spec_Upper_L0 x3 (w64 (x4 + 1))
     else none
    else spec_Upper_L0 x3 (w64 (x4 + 1))
   else none
  else some ((⟨(List.toArray (List.map (fun n => (UInt8.ofNat (Int.toNat n))) x3))⟩ : ByteArray), ()) : Option (ByteArray × Unit)) := (loopAt_mk X 49 0 [] _ _ _).trans (by kernel_rfl)
theorem spec_l16At_eq (a0 : (List ByteArray)) (a1 : Int) (a2 : ByteArray) : spec_l16At a0 a1 a2 =
  (spec_l16At_L0 a0 a1 a2 0 : Option ((Int × Bool) × Unit)) := (DF_eq X rfl _).trans (by kernel_rfl)
theorem spec_l16At_L0_eq (x0 : (List ByteArray)) (x1 : Int) (x2 : ByteArray) (x8 : Int) : spec_l16At_L0 x0 x1 x2 x8 =
  (bif (decide (x8 < (List.length x0 : Int)))
  then bif ((decide (0 ≤ x8)) && (decide (x8 < (List.length x0 : Int))))
   then bif (Op.bytesLess (ByteArray.toList (List.getD x0 (Int.toNat x8) ByteArray.empty)) (ByteArray.toList x2))
    then spec_l16At_L0 x0 x1 x2 (w64 (x8 + x1))
    else bif (decide (x8 < (List.length x0 : Int)))
     then bif ((decide (0 ≤ x8)) && (decide (x8 < (List.length x0 : Int))))
      then some ((x8, ((ByteArray.toList (List.getD x0 (Int.toNat x8) ByteArray.empty)) == (ByteArray.toList x2))), ())
      else none
     else some ((x8, false), ())
   else none
  else bif (decide (x8 < (List.length x0 : Int)))
   then bif ((decide (0 ≤ x8)) && (decide (x8 < (List.length x0 : Int))))
    then some ((x8, ((ByteArray.toList (List.getD x0 (Int.toNat x8) ByteArray.empty)) == (ByteArray.toList x2))), ())
    else none
   else some ((x8, false), ()) : Option ((Int × Bool) × Unit)) := (loopAt_mk X 50 0 [] _ _ _).trans (by kernel_rfl)
theorem spec_l16In_eq (a0 : (List ByteArray)) (a1 : Int) (a2 : (List ByteArray)) : spec_l16In a0 a1 a2 =
  (bif ((decide ((0 : Int) ≤ 0)) && ((decide (0 ≤ a1)) && (decide (a1 ≤ (List.length a0 : Int)))))
  then bif (lim (0 + (List.length (List.take ((Int.toNat a1) - (Int.toNat 0)) (List.drop (Int.toNat 0) a0)))) 16)
   then bif (lim ((List.length ([] ++ (List.take ((Int.toNat a1) - (Int.toNat 0)) (List.drop (Int.toNat 0) a0)))) + (List.length a2)) 16)
    then bif ((decide (0 ≤ a1)) && ((decide (a1 ≤ (List.length a0 : Int))) && (decide ((List.length a0 : Int) ≤ (List.length a0 : Int)))))
     then bif (lim ((List.length (([] ++ (List.take ((Int.toNat a1) - (Int.toNat 0)) (List.drop (Int.toNat 0) a0))) ++ a2)) + (List.length (List.take ((Int.toNat (List.length a0 : Int)) - (Int.toNat a1)) (List.drop (Int.toNat a1) a0)))) 16)
      then some (((([] ++ (List.take ((Int.toNat a1) - (Int.toNat 0)) (List.drop (Int.toNat 0) a0))) ++ a2) ++ (List.take ((Int.toNat (List.length a0 : Int)) - (Int.toNat a1)) (List.drop (Int.toNat a1) a0))), ())
      else none
     else none
    else none
   else none
  else none : Option ((List ByteArray) × Unit)) := (DF_eq X rfl _).trans (by kernel_rfl)
theorem spec_l15Keep_eq (a0 : (List D_Entry)) (a1 : ByteArray) (a2 : D_Val) (a3 : ByteArray) : spec_l15Keep a0 a1 a2 a3 =
  (bif ((List.length a2.2.2.2 : Int) == 0)
  then (spec_l14Put a0 a1 (0, (0, (ByteArray.empty, [])))).bind fun r6 =>
   (spec_l14Done a0 r6.1 a3).bind fun r7 =>
   some (r7.1, ())
  else (spec_l14Put a0 a1 a2).bind fun r6 =>
   (spec_l14Done a0 r6.1 a3).bind fun r7 =>
   some (r7.1, ()) : Option (((List D_Entry) × ByteArray × Bool) × Unit)) := (DF_eq X rfl _).trans (by kernel_rfl)
theorem spec_Number_eq (a0 : Int) : spec_Number a0 =
  ((spec_Decimal a0).bind fun r3 =>
  bif (limS ((ByteArray.size c___1_275) + (ByteArray.size r3.1)))
  then bif (limS ((ByteArray.size (c___1_275 ++ r3.1)) + (ByteArray.size c____2_7140)))
   then some (((c___1_275 ++ r3.1) ++ c____2_7140), ())
   else none
  else none : Option (ByteArray × Unit)) := (DF_eq X rfl _).trans (by kernel_rfl)
theorem spec_l16Cut_eq (a0 : (List ByteArray)) (a1 : Int) (a2 : Int) : spec_l16Cut a0 a1 a2 =
  (bif ((decide ((0 : Int) ≤ 0)) && ((decide (0 ≤ a1)) && (decide (a1 ≤ (List.length a0 : Int)))))
  then bif (lim (0 + (List.length (List.take ((Int.toNat a1) - (Int.toNat 0)) (List.drop (Int.toNat 0) a0)))) 16)
   then bif ((decide (0 ≤ (w64 (a1 + a2)))) && ((decide ((w64 (a1 + a2)) ≤ (List.length a0 : Int))) && (decide ((List.length a0 : Int) ≤ (List.length a0 : Int)))))
    then bif (lim ((List.length ([] ++ (List.take ((Int.toNat a1) - (Int.toNat 0)) (List.drop (Int.toNat 0) a0)))) + (List.length (List.take ((Int.toNat (List.length a0 : Int)) - (Int.toNat (w64 (a1 + a2)))) (List.drop (Int.toNat (w64 (a1 + a2))) a0)))) 16)
     then some ((([] ++ (List.take ((Int.toNat a1) - (Int.toNat 0)) (List.drop (Int.toNat 0) a0))) ++ (List.take ((Int.toNat (List.length a0 : Int)) - (Int.toNat (w64 (a1 + a2)))) (List.drop (Int.toNat (w64 (a1 + a2))) a0))), ())
     else none
    else none
   else none
  else none : Option ((List ByteArray) × Unit)) := (DF_eq X rfl _).trans (by kernel_rfl)
theorem spec_l10CopyTable_eq (a0 : (List D_Entry)) : spec_l10CopyTable a0 =
  (spec_l10CopyTable_L0 a0 [] 0 : Option ((List D_Entry) × Unit)) := (DF_eq X rfl _).trans (by kernel_rfl)
theorem spec_l10CopyTable_L0_eq (x0 : (List D_Entry)) (x3 : (List D_Entry)) (x4 : Int) : spec_l10CopyTable_L0 x0 x3 x4 =
  (bif (decide (x4 < (List.length x0 : Int)))
  then bif ((decide (0 ≤ x4)) && (decide (x4 < (List.length x0 : Int))))
   then bif ((decide (0 ≤ x4)) && (decide (x4 < (List.length x0 : Int))))
    then (spec_l10Copy (((List.getD x0 (Int.toNat x4) (ByteArray.empty, (0, (0, (ByteArray.empty, []))))).2).1, ((((List.getD x0 (Int.toNat x4) (ByteArray.empty, (0, (0, (ByteArray.empty, []))))).2).2).1, ((((List.getD x0 (Int.toNat x4) (ByteArray.empty, (0, (0, (ByteArray.empty, []))))).2).2).2)))).bind fun r5 =>
     bif (lim ((List.length x3) + 1) 72)
     then spec_l10CopyTable_L0 x0 (x3 ++ [((List.getD x0 (Int.toNat x4) (ByteArray.empty, (0, (0, (ByteArray.empty, []))))).1, (r5.1.1, (r5.1.2.1, (r5.1.2.2.1, r5.1.2.2.2))))]) (w64 (x4 + 1))
     else none
    else none
   else none
  else some (x3, ()) : Option ((List D_Entry) × Unit)) := (loopAt_mk X 55 0 [] _ _ _).trans (by kernel_rfl)
theorem spec_l15Bulks_eq (a0 : (List ByteArray)) : spec_l15Bulks a0 =
  (spec_l15Bulks_L0 a0 [] 0 : Option (ByteArray × Unit)) := (DF_eq X rfl _).trans (by kernel_rfl)
theorem spec_l15Bulks_L0_eq (x0 : (List ByteArray)) (x3 : (List ByteArray)) (x4 : Int) : spec_l15Bulks_L0 x0 x3 x4 =
  (bif (decide (x4 < (List.length x0 : Int)))
  then bif ((decide (0 ≤ x4)) && (decide (x4 < (List.length x0 : Int))))
   then (spec_Bulk (List.getD x0 (Int.toNat x4) ByteArray.empty)).bind fun r5 =>
    bif (lim ((List.length x3) + 1) 16)
    then spec_l15Bulks_L0 x0 (x3 ++ [r5.1]) (w64 (x4 + 1))
    else none
   else none
  else (spec_Array x3).bind fun r5 =>
   some (r5.1, ()) : Option (ByteArray × Unit)) := (loopAt_mk X 56 0 [] _ _ _).trans (by kernel_rfl)
theorem laws_toEntry_eq (a0 : D_Entry) : laws_toEntry a0 =
  ((laws_toVal a0.2).bind fun r3 =>
  some ((a0.1, r3.1), ()) : Option (D_Entry × Unit)) := (DF_eq X rfl _).trans (by kernel_rfl)
theorem impl_begun_eq (a0 : (List D_Entry)) (a1 : (List ByteArray)) (a2 : ByteArray) : impl_begun a0 a1 a2 =
  ((impl_TableOk a0).bind fun r5 =>
  bif (!r5.1)
  then some ((none, false), ())
  else (impl_oneOf a1 a2).bind fun r6 =>
   bif (!r6.1)
   then some ((none, false), ())
   else (impl_ArityOk a1).bind fun r7 =>
    bif (!r7.1)
    then some ((none, false), ())
    else (impl_copyTable a0).bind fun r8 =>
     some (((some (r8.1, (ByteArray.empty, false))), true), ()) : Option (((Option D_desk) × Bool) × Unit)) := (DF_eq X rfl _).trans (by kernel_rfl)
theorem __loop_example_g00124_impl_desk__set_eq (a0 : D_desk) (a1 : ByteArray) (a2 : ByteArray) (a3 : (List ByteArray)) : __loop_example_g00124_impl_desk__set a0 a1 a2 a3 =
  ((__loop_example_g00124_impl_desk__find a0 a2 4).bind fun r6 =>
  bif r6.2.1.2.2
  then some ((), (r6.2.1, ()))
  else bif ((ByteArray.toList a1) == (ByteArray.toList c_SADD))
   then __loop_example_g00124_impl_desk__set_L1 a2 (List.length r6.1.1.2.2.2 : Int) a3 (List.length a3 : Int) 0 r6.2.1.1 r6.2.1.2.1 r6.2.1.2.2 4 r6.1.1.2.1 r6.1.1.2.2.1 r6.1.1.2.2.2
   else bif ((ByteArray.toList a1) == (ByteArray.toList c_SREM))
    then (slices_DeleteFunc___string_string_ r6.1.1.2.2.2 (a3, ())).bind fun r7 =>
     (__loop_example_g00124_impl_desk__keep r6.2.1 a2 (4, (r6.1.1.2.1, (r6.1.1.2.2.1, r7.1)))).bind fun r8 =>
     (impl_Number (w64 ((List.length r6.1.1.2.2.2 : Int) - (List.length r7.1 : Int)))).bind fun r9 =>
     (__loop_example_g00124_impl_desk__say r8.2.1 r9.1).bind fun r10 =>
     some ((), (r10.2.1, ()))
    else bif ((ByteArray.toList a1) == (ByteArray.toList c_SISMEMBER))
     then bif ((decide ((0 : Int) ≤ 0)) && (decide (0 < (List.length a3 : Int))))
      then (slices_Contains___string_string_ r6.1.1.2.2.2 (List.getD a3 (Int.toNat 0) ByteArray.empty)).bind fun r7 =>
       bif r7.1
       then (impl_Number 1).bind fun r8 =>
        (__loop_example_g00124_impl_desk__say r6.2.1 r8.1).bind fun r9 =>
        some ((), (r9.2.1, ()))
       else (impl_Number 0).bind fun r8 =>
        (__loop_example_g00124_impl_desk__say r6.2.1 r8.1).bind fun r9 =>
        some ((), (r9.2.1, ()))
      else none
     else bif ((ByteArray.toList a1) == (ByteArray.toList c_SCARD))
      then (impl_Number (List.length r6.1.1.2.2.2 : Int)).bind fun r7 =>
       (__loop_example_g00124_impl_desk__say r6.2.1 r7.1).bind fun r8 =>
       some ((), (r8.2.1, ()))
      else (impl_bulks r6.1.1.2.2.2).bind fun r7 =>
       (impl_Array r7.1).bind fun r8 =>
       (__loop_example_g00124_impl_desk__say r6.2.1 r8.1).bind fun r9 =>
       some ((), (r9.2.1, ())) : Option (Unit × (D_desk × Unit))) := (DF_eq X rfl _).trans (by kernel_rfl)
theorem __loop_example_g00124_impl_desk__set_L1_eq (x2 : ByteArray) (x10 : Int) (x39 : (List ByteArray)) (x40 : Int) (x41 : Int) (b3000000_0 : (List D_Entry)) (b3000000_1 : ByteArray) (b3000000_2 : Bool) (b1120_0 : Int) (b1120_1 : Int) (b1120_2 : ByteArray) (b1120_3 : (List ByteArray)) : __loop_example_g00124_impl_desk__set_L1 x2 x10 x39 x40 x41 b3000000_0 b3000000_1 b3000000_2 b1120_0 b1120_1 b1120_2 b1120_3 =
  (bif (decide (x41 < x40))
  then bif ((decide (0 ≤ x41)) && (decide (x41 < (List.length x39 : Int))))
   then (slices_BinarySearch___string_string_ b1120_3 (List.getD x39 (Int.toNat x41) ByteArray.empty)).bind fun r14 =>
    bif (!r14.1.2)
    then (slices_Insert___string_string_ b1120_3 r14.1.1 ([(List.getD x39 (Int.toNat x41) ByteArray.empty)])).bind fun r15 =>
     __loop_example_g00124_impl_desk__set_L1 x2 x10 x39 x40 (w64 (x41 + 1)) b3000000_0 b3000000_1 b3000000_2 b1120_0 b1120_1 b1120_2 r15.1
    else __loop_example_g00124_impl_desk__set_L1 x2 x10 x39 x40 (w64 (x41 + 1)) b3000000_0 b3000000_1 b3000000_2 b1120_0 b1120_1 b1120_2 b1120_3
   else none
  else (__loop_example_g00124_impl_desk__put (b3000000_0, (b3000000_1, b3000000_2)) x2 (b1120_0, (b1120_1, (b1120_2, b1120_3)))).bind fun r14 =>
   (impl_Number (w64 ((List.length b1120_3 : Int) - x10))).bind fun r15 =>
   (__loop_example_g00124_impl_desk__say r14.2.1 r15.1).bind fun r16 =>
   some ((), (r16.2.1, ())) : Option (Unit × (D_desk × Unit))) := (loopAt_mk X 59 1 [] _ _ _).trans (by kernel_rfl)
theorem impl_Upper_eq (a0 : ByteArray) : impl_Upper a0 =
  (impl_Upper_L0 (List.length (bytesL a0) : Int) 0 (bytesL a0) : Option (ByteArray × Unit)) := (DF_eq X rfl _).trans (by kernel_rfl)
theorem impl_Upper_L0_eq (x9 : Int) (x10 : Int) (r1040 : (List Int)) : impl_Upper_L0 x9 x10 r1040 =
  (bif (decide (x10 < x9))
  then bif ((decide (0 ≤ x10)) && (decide (x10 < (List.length r1040 : Int))))
   then bif (decide ((List.getD r1040 (Int.toNat x10) 0) ≥ 97))
    then bif (decide ((List.getD r1040 (Int.toNat x10) 0) ≤ 122))
     then bif ((decide (0 ≤ x10)) && (decide (x10 < (List.length r1040 : Int))))
      then impl_Upper_L0 x9 (w64 (x10 + 1)) (List.set r1040 (Int.toNat x10) (Go.IntKind.u8.wrap ((List.getD r1040 (Int.toNat x10) 0) - 32)))
      else none
     else impl_Upper_L0 x9 (w64 (x10 + 1)) r1040
    else impl_Upper_L0 x9 (w64 (x10 + 1)) r1040
   else none
  else some ((⟨(List.toArray (List.map (fun n => (UInt8.ofNat (Int.toNat n))) r1040))⟩ : ByteArray), ()) : Option (ByteArray × Unit)) := (loopAt_mk X 60 0 [] _ _ _).trans (by kernel_rfl)
theorem __loop_example_g00124_impl_desk__over_eq (a0 : D_desk) (a1 : (List D_Entry)) : __loop_example_g00124_impl_desk__over a0 a1 =
  (bif (!a0.2.2)
  then (impl_TableOk a0.1).bind fun r4 =>
   bif (!r4.1)
   then (__loop_example_g00124_impl_desk__fault a0 c_ERR_limit).bind fun r5 =>
    bif r5.2.1.2.2
    then (impl_copyTable a1).bind fun r6 =>
     some ((r6.1, (r5.2.1.2.1, true)), (r5.2.1, ()))
    else (impl_copyTable r5.2.1.1).bind fun r6 =>
     some ((r6.1, (r5.2.1.2.1, true)), (r5.2.1, ()))
   else bif a0.2.2
    then (impl_copyTable a1).bind fun r5 =>
     some ((r5.1, (a0.2.1, true)), (a0, ()))
    else (impl_copyTable a0.1).bind fun r5 =>
     some ((r5.1, (a0.2.1, true)), (a0, ()))
  else bif a0.2.2
   then (impl_copyTable a1).bind fun r4 =>
    some ((r4.1, (a0.2.1, true)), (a0, ()))
   else (impl_copyTable a0.1).bind fun r4 =>
    some ((r4.1, (a0.2.1, true)), (a0, ())) : Option (((List D_Entry) × ByteArray × Bool) × (D_desk × Unit))) := (DF_eq X rfl _).trans (by kernel_rfl)
theorem laws_eqEntry_eq (a0 : D_Entry) (a1 : D_Entry) : laws_eqEntry a0 a1 =
  (bif (!((ByteArray.toList a0.1) == (ByteArray.toList a1.1)))
  then some (false, ())
  else (laws_eqVal a0.2 a1.2).bind fun r4 =>
   bif (!r4.1)
   then some (false, ())
   else some (true, ()) : Option (Bool × Unit)) := (DF_eq X rfl _).trans (by kernel_rfl)
theorem laws_markText_eq (a0 : Int) : laws_markText a0 =
  (bif (decide (a0 ≤ 0))
  then some (c_m0, ())
  else laws_markText_L0 a0 ByteArray.empty : Option (ByteArray × Unit)) := (DF_eq X rfl _).trans (by kernel_rfl)
theorem laws_markText_L0_eq (x0 : Int) (x3 : ByteArray) : laws_markText_L0 x0 x3 =
  (bif (decide (x0 > 0))
  then bif (limS ((ByteArray.size (⟨(List.toArray (List.map (fun n => (UInt8.ofNat (Int.toNat n))) ([(Go.IntKind.u8.wrap (w64 (48 + (Int.tmod x0 10))))])))⟩ : ByteArray)) + (ByteArray.size x3)))
   then laws_markText_L0 (w64 (Int.tdiv x0 10)) ((⟨(List.toArray (List.map (fun n => (UInt8.ofNat (Int.toNat n))) ([(Go.IntKind.u8.wrap (w64 (48 + (Int.tmod x0 10))))])))⟩ : ByteArray) ++ x3)
   else none
  else bif (limS ((ByteArray.size c_m) + (ByteArray.size x3)))
   then some ((c_m ++ x3), ())
   else none : Option (ByteArray × Unit)) := (loopAt_mk X 63 0 [] _ _ _).trans (by kernel_rfl)
theorem spec_Nil_eq : spec_Nil =
  (some (c___1___5_38205, ()) : Option (ByteArray × Unit)) := (DF_eq X rfl _).trans (by kernel_rfl)
theorem spec_Bulk_eq (a0 : ByteArray) : spec_Bulk a0 =
  ((spec_Decimal (ByteArray.size a0 : Int)).bind fun r3 =>
  bif (limS ((ByteArray.size c___1_253) + (ByteArray.size r3.1)))
  then bif (limS ((ByteArray.size (c___1_253 ++ r3.1)) + (ByteArray.size c____2_7140)))
   then bif (limS ((ByteArray.size ((c___1_253 ++ r3.1) ++ c____2_7140)) + (ByteArray.size a0)))
    then bif (limS ((ByteArray.size (((c___1_253 ++ r3.1) ++ c____2_7140) ++ a0)) + (ByteArray.size c____2_7140)))
     then some (((((c___1_253 ++ r3.1) ++ c____2_7140) ++ a0) ++ c____2_7140), ())
     else none
    else none
   else none
  else none : Option (ByteArray × Unit)) := (DF_eq X rfl _).trans (by kernel_rfl)
theorem __loop_example_g00124_impl_desk__field_eq (a0 : D_desk) (a1 : ByteArray) (a2 : ByteArray) (a3 : (List ByteArray)) : __loop_example_g00124_impl_desk__field a0 a1 a2 a3 =
  ((__loop_example_g00124_impl_desk__find a0 a2 3).bind fun r6 =>
  bif r6.2.1.2.2
  then some ((), (r6.2.1, ()))
  else bif ((ByteArray.toList a1) == (ByteArray.toList c_HSET))
   then bif ((decide ((0 : Int) ≤ 0)) && (decide (0 < (List.length a3 : Int))))
    then (impl_fieldNo r6.1.1.2.2.2 (List.getD a3 (Int.toNat 0) ByteArray.empty)).bind fun r7 =>
     bif r7.1.2
     then bif ((decide ((0 : Int) ≤ 1)) && (decide (1 < (List.length a3 : Int))))
      then bif ((decide (0 ≤ (w64 (r7.1.1 + 1)))) && (decide ((w64 (r7.1.1 + 1)) < (List.length r6.1.1.2.2.2 : Int))))
       then (impl_Number 0).bind fun r8 =>
        (__loop_example_g00124_impl_desk__say r6.2.1 r8.1).bind fun r9 =>
        (__loop_example_g00124_impl_desk__put r9.2.1 a2 (3, (r6.1.1.2.1, (r6.1.1.2.2.1, (List.set r6.1.1.2.2.2 (Int.toNat (w64 (r7.1.1 + 1))) (List.getD a3 (Int.toNat 1) ByteArray.empty)))))).bind fun r10 =>
        some ((), (r10.2.1, ()))
       else none
      else none
     else bif ((decide ((0 : Int) ≤ 0)) && (decide (0 < (List.length a3 : Int))))
      then bif ((decide ((0 : Int) ≤ 1)) && (decide (1 < (List.length a3 : Int))))
       then (slices_Insert___string_string_ r6.1.1.2.2.2 r7.1.1 ([(List.getD a3 (Int.toNat 0) ByteArray.empty), (List.getD a3 (Int.toNat 1) ByteArray.empty)])).bind fun r8 =>
        (impl_Number 1).bind fun r9 =>
        (__loop_example_g00124_impl_desk__say r6.2.1 r9.1).bind fun r10 =>
        (__loop_example_g00124_impl_desk__put r10.2.1 a2 (3, (r6.1.1.2.1, (r6.1.1.2.2.1, r8.1)))).bind fun r11 =>
        some ((), (r11.2.1, ()))
       else none
      else none
    else none
   else bif ((ByteArray.toList a1) == (ByteArray.toList c_HGET))
    then (impl_Nil).bind fun r7 =>
     (__loop_example_g00124_impl_desk__say r6.2.1 r7.1).bind fun r8 =>
     bif ((decide ((0 : Int) ≤ 0)) && (decide (0 < (List.length a3 : Int))))
     then (impl_fieldNo r6.1.1.2.2.2 (List.getD a3 (Int.toNat 0) ByteArray.empty)).bind fun r9 =>
      bif r9.1.2
      then bif ((decide (0 ≤ (w64 (r9.1.1 + 1)))) && (decide ((w64 (r9.1.1 + 1)) < (List.length r6.1.1.2.2.2 : Int))))
       then (impl_Bulk (List.getD r6.1.1.2.2.2 (Int.toNat (w64 (r9.1.1 + 1))) ByteArray.empty)).bind fun r10 =>
        (__loop_example_g00124_impl_desk__say r8.2.1 r10.1).bind fun r11 =>
        some ((), (r11.2.1, ()))
       else none
      else some ((), (r8.2.1, ()))
     else none
    else bif ((ByteArray.toList a1) == (ByteArray.toList c_HDEL))
     then __loop_example_g00124_impl_desk__field_L1 a2 0 a3 (List.length a3 : Int) 0 r6.2.1.1 r6.2.1.2.1 r6.2.1.2.2 3 r6.1.1.2.1 r6.1.1.2.2.1 r6.1.1.2.2.2
     else bif ((ByteArray.toList a1) == (ByteArray.toList c_HLEN))
      then (impl_Number (w64 (Int.tdiv (List.length r6.1.1.2.2.2 : Int) 2))).bind fun r7 =>
       (__loop_example_g00124_impl_desk__say r6.2.1 r7.1).bind fun r8 =>
       some ((), (r8.2.1, ()))
      else bif ((ByteArray.toList a1) == (ByteArray.toList c_HGETALL))
       then (impl_bulks r6.1.1.2.2.2).bind fun r7 =>
        (impl_Array r7.1).bind fun r8 =>
        (__loop_example_g00124_impl_desk__say r6.2.1 r8.1).bind fun r9 =>
        some ((), (r9.2.1, ()))
       else (impl_fieldsOf r6.1.1.2.2.2).bind fun r7 =>
        (impl_bulks r7.1).bind fun r8 =>
        (impl_Array r8.1).bind fun r9 =>
        (__loop_example_g00124_impl_desk__say r6.2.1 r9.1).bind fun r10 =>
        some ((), (r10.2.1, ())) : Option (Unit × (D_desk × Unit))) := (DF_eq X rfl _).trans (by kernel_rfl)
theorem __loop_example_g00124_impl_desk__field_L1_eq (x2 : ByteArray) (x14 : Int) (x106 : (List ByteArray)) (x107 : Int) (x108 : Int) (b3000000_0 : (List D_Entry)) (b3000000_1 : ByteArray) (b3000000_2 : Bool) (b96_0 : Int) (b96_1 : Int) (b96_2 : ByteArray) (b96_3 : (List ByteArray)) : __loop_example_g00124_impl_desk__field_L1 x2 x14 x106 x107 x108 b3000000_0 b3000000_1 b3000000_2 b96_0 b96_1 b96_2 b96_3 =
  (bif (decide (x108 < x107))
  then bif ((decide (0 ≤ x108)) && (decide (x108 < (List.length x106 : Int))))
   then (impl_fieldNo b96_3 (List.getD x106 (Int.toNat x108) ByteArray.empty)).bind fun r14 =>
    bif r14.1.2
    then (slices_Delete___string_string_ b96_3 r14.1.1 (w64 (r14.1.1 + 2))).bind fun r15 =>
     __loop_example_g00124_impl_desk__field_L1 x2 (w64 (x14 + 1)) x106 x107 (w64 (x108 + 1)) b3000000_0 b3000000_1 b3000000_2 b96_0 b96_1 b96_2 r15.1
    else __loop_example_g00124_impl_desk__field_L1 x2 x14 x106 x107 (w64 (x108 + 1)) b3000000_0 b3000000_1 b3000000_2 b96_0 b96_1 b96_2 b96_3
   else none
  else (__loop_example_g00124_impl_desk__keep (b3000000_0, (b3000000_1, b3000000_2)) x2 (b96_0, (b96_1, (b96_2, b96_3)))).bind fun r14 =>
   (impl_Number x14).bind fun r15 =>
   (__loop_example_g00124_impl_desk__say r14.2.1 r15.1).bind fun r16 =>
   some ((), (r16.2.1, ())) : Option (Unit × (D_desk × Unit))) := (loopAt_mk X 66 1 [] _ _ _).trans (by kernel_rfl)
theorem spec_l15Index_eq (a0 : (List ByteArray)) (a1 : ByteArray) : spec_l15Index a0 a1 =
  ((spec_ReadInt a1).bind fun r4 =>
  bif (!r4.1.2)
  then some ((ByteArray.empty, false), ())
  else bif (decide (r4.1.1 < 0))
   then (spec_l01In (w64 (r4.1.1 + (List.length a0 : Int))) 0 (w64 ((List.length a0 : Int) - 1))).bind fun r5 =>
    bif (!r5.1)
    then (spec_Nil).bind fun r6 =>
     some ((r6.1, true), ())
    else bif ((decide (0 ≤ (w64 (r4.1.1 + (List.length a0 : Int))))) && (decide ((w64 (r4.1.1 + (List.length a0 : Int))) < (List.length a0 : Int))))
     then (spec_Bulk (List.getD a0 (Int.toNat (w64 (r4.1.1 + (List.length a0 : Int)))) ByteArray.empty)).bind fun r6 =>
      some ((r6.1, true), ())
     else none
   else (spec_l01In r4.1.1 0 (w64 ((List.length a0 : Int) - 1))).bind fun r5 =>
    bif (!r5.1)
    then (spec_Nil).bind fun r6 =>
     some ((r6.1, true), ())
    else bif ((decide (0 ≤ r4.1.1)) && (decide (r4.1.1 < (List.length a0 : Int))))
     then (spec_Bulk (List.getD a0 (Int.toNat r4.1.1) ByteArray.empty)).bind fun r6 =>
      some ((r6.1, true), ())
     else none : Option ((ByteArray × Bool) × Unit)) := (DF_eq X rfl _).trans (by kernel_rfl)
theorem spec_ReadInt_eq (a0 : ByteArray) : spec_ReadInt a0 =
  (bif (decide ((ByteArray.size a0 : Int) > 1))
  then bif ((decide ((0 : Int) ≤ 0)) && (decide (0 < (ByteArray.size a0 : Int))))
   then bif ((bt a0 (Int.toNat 0)) == 45)
    then bif ((decide ((0 : Int) ≤ 1)) && ((decide (1 ≤ (ByteArray.size a0 : Int))) && (decide ((ByteArray.size a0 : Int) ≤ (ByteArray.size a0 : Int)))))
     then (spec_ReadDecimal (ByteArray.extract a0 (Int.toNat 1) (Int.toNat (ByteArray.size a0 : Int)))).bind fun r3 =>
      bif (!r3.1.2)
      then some ((0, false), ())
      else bif (r3.1.1 == 0)
       then some ((0, false), ())
       else some (((w64 (0 - r3.1.1)), true), ())
     else none
    else (spec_ReadDecimal a0).bind fun r3 =>
     some (r3.1, ())
   else none
  else (spec_ReadDecimal a0).bind fun r3 =>
   some (r3.1, ()) : Option ((Int × Bool) × Unit)) := (DF_eq X rfl _).trans (by kernel_rfl)
theorem spec_Bounds_eq (a0 : Int) (a1 : Int) (a2 : Int) : spec_Bounds a0 a1 a2 =
  ((spec_l01In a2 1 1000).bind fun r5 =>
  bif (!r5.1)
  then some ((0, 0), ())
  else bif (decide (a0 < 0))
   then bif (decide (a1 < 0))
    then bif (decide ((w64 (a0 + a2)) < 0))
     then bif (decide ((w64 (a1 + a2)) ≥ a2))
      then bif (decide (0 > (w64 (a2 - 1))))
       then some ((0, 0), ())
       else bif (decide ((w64 (a2 - 1)) < 0))
        then some ((0, 0), ())
        else bif (decide (0 ≥ a2))
         then some ((0, 0), ())
         else some ((0, (w64 ((w64 (a2 - 1)) + 1))), ())
      else bif (decide (0 > (w64 (a1 + a2))))
       then some ((0, 0), ())
       else bif (decide ((w64 (a1 + a2)) < 0))
        then some ((0, 0), ())
        else bif (decide (0 ≥ a2))
         then some ((0, 0), ())
         else some ((0, (w64 ((w64 (a1 + a2)) + 1))), ())
     else bif (decide ((w64 (a1 + a2)) ≥ a2))
      then bif (decide ((w64 (a0 + a2)) > (w64 (a2 - 1))))
       then some ((0, 0), ())
       else bif (decide ((w64 (a2 - 1)) < 0))
        then some ((0, 0), ())
        else bif (decide ((w64 (a0 + a2)) ≥ a2))
         then some ((0, 0), ())
         else some (((w64 (a0 + a2)), (w64 ((w64 (a2 - 1)) + 1))), ())
      else bif (decide ((w64 (a0 + a2)) > (w64 (a1 + a2))))
       then some ((0, 0), ())
       else bif (decide ((w64 (a1 + a2)) < 0))
        then some ((0, 0), ())
        else bif (decide ((w64 (a0 + a2)) ≥ a2))
         then some ((0, 0), ())
         else some (((w64 (a0 + a2)), (w64 ((w64 (a1 + a2)) + 1))), ())
    else bif (decide ((w64 (a0 + a2)) < 0))
     then bif (decide (a1 ≥ a2))
      then bif (decide (0 > (w64 (a2 - 1))))
       then some ((0, 0), ())
       else bif (decide ((w64 (a2 - 1)) < 0))
        then some ((0, 0), ())
        else bif (decide (0 ≥ a2))
         then some ((0, 0), ())
         else some ((0, (w64 ((w64 (a2 - 1)) + 1))), ())
      else bif (decide (0 > a1))
       then some ((0, 0), ())
       else bif (decide (a1 < 0))
        then some ((0, 0), ())
        else bif (decide (0 ≥ a2))
         then some ((0, 0), ())
         else some ((0, (w64 (a1 + 1))), ())
     else bif (decide (a1 ≥ a2))
      then bif (decide ((w64 (a0 + a2)) > (w64 (a2 - 1))))
       then some ((0, 0), ())
       else bif (decide ((w64 (a2 - 1)) < 0))
        then some ((0, 0), ())
        else bif (decide ((w64 (a0 + a2)) ≥ a2))
         then some ((0, 0), ())
         else some (((w64 (a0 + a2)), (w64 ((w64 (a2 - 1)) + 1))), ())
      else bif (decide ((w64 (a0 + a2)) > a1))
       then some ((0, 0), ())
       else bif (decide (a1 < 0))
        then some ((0, 0), ())
        else bif (decide ((w64 (a0 + a2)) ≥ a2))
         then some ((0, 0), ())
         else some (((w64 (a0 + a2)), (w64 (a1 + 1))), ())
   else bif (decide (a1 < 0))
    then bif (decide (a0 < 0))
     then bif (decide ((w64 (a1 + a2)) ≥ a2))
      then bif (decide (0 > (w64 (a2 - 1))))
       then some ((0, 0), ())
       else bif (decide ((w64 (a2 - 1)) < 0))
        then some ((0, 0), ())
        else bif (decide (0 ≥ a2))
         then some ((0, 0), ())
         else some ((0, (w64 ((w64 (a2 - 1)) + 1))), ())
      else bif (decide (0 > (w64 (a1 + a2))))
       then some ((0, 0), ())
       else bif (decide ((w64 (a1 + a2)) < 0))
        then some ((0, 0), ())
        else bif (decide (0 ≥ a2))
         then some ((0, 0), ())
         else some ((0, (w64 ((w64 (a1 + a2)) + 1))), ())
     else bif (decide ((w64 (a1 + a2)) ≥ a2))
      then bif (decide (a0 > (w64 (a2 - 1))))
       then some ((0, 0), ())
       else bif (decide ((w64 (a2 - 1)) < 0))
        then some ((0, 0), ())
        else bif (decide (a0 ≥ a2))
         then some ((0, 0), ())
         else some ((a0, (w64 ((w64 (a2 - 1)) + 1))), ())
      else bif (decide (a0 > (w64 (a1 + a2))))
       then some ((0, 0), ())
       else bif (decide ((w64 (a1 + a2)) < 0))
        then some ((0, 0), ())
        else bif (decide (a0 ≥ a2))
         then some ((0, 0), ())
         else some ((a0, (w64 ((w64 (a1 + a2)) + 1))), ())
    else bif (decide (a0 < 0))
     then bif (decide (a1 ≥ a2))
      then bif (decide (0 > (w64 (a2 - 1))))
       then some ((0, 0), ())
       else bif (decide ((w64 (a2 - 1)) < 0))
        then some ((0, 0), ())
        else bif (decide (0 ≥ a2))
         then some ((0, 0), ())
         else some ((0, (w64 ((w64 (a2 - 1)) + 1))), ())
      else bif (decide (0 > a1))
       then some ((0, 0), ())
       else bif (decide (a1 < 0))
        then some ((0, 0), ())
        else bif (decide (0 ≥ a2))
         then some ((0, 0), ())
         else some ((0, (w64 (a1 + 1))), ())
     else bif (decide (a1 ≥ a2))
      then bif (decide (a0 > (w64 (a2 - 1))))
       then some ((0, 0), ())
       else bif (decide ((w64 (a2 - 1)) < 0))
        then some ((0, 0), ())
        else bif (decide (a0 ≥ a2))
         then some ((0, 0), ())
         else some ((a0, (w64 ((w64 (a2 - 1)) + 1))), ())
      else bif (decide (a0 > a1))
       then some ((0, 0), ())
       else bif (decide (a1 < 0))
        then some ((0, 0), ())
        else bif (decide (a0 ≥ a2))
         then some ((0, 0), ())
         else some ((a0, (w64 (a1 + 1))), ()) : Option ((Int × Int) × Unit)) := (DF_eq X rfl _).trans (by kernel_rfl)
theorem __loop_example_g00124_impl_desk__list_eq (a0 : D_desk) (a1 : ByteArray) (a2 : ByteArray) (a3 : (List ByteArray)) : __loop_example_g00124_impl_desk__list a0 a1 a2 a3 =
  ((__loop_example_g00124_impl_desk__find a0 a2 2).bind fun r6 =>
  bif ((ByteArray.toList a1) == (ByteArray.toList c_LPUSH))
  then __loop_example_g00124_impl_desk__list_L1 a2 a3 (List.length a3 : Int) 0 r6.2.1.1 r6.2.1.2.1 r6.2.1.2.2 2 r6.1.1.2.1 r6.1.1.2.2.1 r6.1.1.2.2.2
  else bif ((ByteArray.toList a1) == (ByteArray.toList c_RPUSH))
   then bif (lim ((List.length r6.1.1.2.2.2) + (List.length a3)) 16)
    then (__loop_example_g00124_impl_desk__put r6.2.1 a2 (2, (r6.1.1.2.1, (r6.1.1.2.2.1, (r6.1.1.2.2.2 ++ a3))))).bind fun r7 =>
     (impl_Number (List.length (r6.1.1.2.2.2 ++ a3) : Int)).bind fun r8 =>
     (__loop_example_g00124_impl_desk__say r7.2.1 r8.1).bind fun r9 =>
     some ((), (r9.2.1, ()))
    else none
   else bif ((ByteArray.toList a1) == (ByteArray.toList c_LPOP))
    then (__loop_example_g00124_impl_desk__pop r6.2.1 a2 (2, r6.1.1.2) r6.1.2 ((ByteArray.toList a1) == (ByteArray.toList c_RPOP))).bind fun r7 =>
     some ((), (r7.2.1, ()))
    else bif ((ByteArray.toList a1) == (ByteArray.toList c_RPOP))
     then (__loop_example_g00124_impl_desk__pop r6.2.1 a2 (2, r6.1.1.2) r6.1.2 ((ByteArray.toList a1) == (ByteArray.toList c_RPOP))).bind fun r7 =>
      some ((), (r7.2.1, ()))
     else bif ((ByteArray.toList a1) == (ByteArray.toList c_LLEN))
      then (impl_Number (List.length r6.1.1.2.2.2 : Int)).bind fun r7 =>
       (__loop_example_g00124_impl_desk__say r6.2.1 r7.1).bind fun r8 =>
       some ((), (r8.2.1, ()))
      else bif ((ByteArray.toList a1) == (ByteArray.toList c_LRANGE))
       then bif ((decide ((0 : Int) ≤ 0)) && (decide (0 < (List.length a3 : Int))))
        then (__loop_example_g00124_impl_desk__number r6.2.1 (List.getD a3 (Int.toNat 0) ByteArray.empty)).bind fun r7 =>
         bif ((decide ((0 : Int) ≤ 1)) && (decide (1 < (List.length a3 : Int))))
         then (__loop_example_g00124_impl_desk__number r7.2.1 (List.getD a3 (Int.toNat 1) ByteArray.empty)).bind fun r8 =>
          (impl_Bounds r7.1 r8.1 (List.length r6.1.1.2.2.2 : Int)).bind fun r9 =>
          bif (!r8.2.1.2.2)
          then bif ((decide (0 ≤ r9.1.1)) && ((decide (r9.1.1 ≤ r9.1.2)) && (decide (r9.1.2 ≤ (List.length r6.1.1.2.2.2 : Int)))))
           then (impl_bulks (List.take ((Int.toNat r9.1.2) - (Int.toNat r9.1.1)) (List.drop (Int.toNat r9.1.1) r6.1.1.2.2.2))).bind fun r10 =>
            (impl_Array r10.1).bind fun r11 =>
            (__loop_example_g00124_impl_desk__say r8.2.1 r11.1).bind fun r12 =>
            some ((), (r12.2.1, ()))
           else none
          else some ((), (r8.2.1, ()))
         else none
        else none
       else bif ((decide ((0 : Int) ≤ 0)) && (decide (0 < (List.length a3 : Int))))
        then (__loop_example_g00124_impl_desk__number r6.2.1 (List.getD a3 (Int.toNat 0) ByteArray.empty)).bind fun r7 =>
         (impl_fromEnd r7.1 (List.length r6.1.1.2.2.2 : Int)).bind fun r8 =>
         (impl_within r8.1 0 (w64 ((List.length r6.1.1.2.2.2 : Int) - 1))).bind fun r9 =>
         bif r9.1
         then bif ((decide (0 ≤ r8.1)) && (decide (r8.1 < (List.length r6.1.1.2.2.2 : Int))))
          then (impl_Bulk (List.getD r6.1.1.2.2.2 (Int.toNat r8.1) ByteArray.empty)).bind fun r10 =>
           (__loop_example_g00124_impl_desk__say r7.2.1 r10.1).bind fun r11 =>
           some ((), (r11.2.1, ()))
          else none
         else (impl_Nil).bind fun r10 =>
          (__loop_example_g00124_impl_desk__say r7.2.1 r10.1).bind fun r11 =>
          some ((), (r11.2.1, ()))
        else none : Option (Unit × (D_desk × Unit))) := (DF_eq X rfl _).trans (by kernel_rfl)
theorem __loop_example_g00124_impl_desk__list_L1_eq (x2 : ByteArray) (x51 : (List ByteArray)) (x52 : Int) (x53 : Int) (b3000000_0 : (List D_Entry)) (b3000000_1 : ByteArray) (b3000000_2 : Bool) (b96_0 : Int) (b96_1 : Int) (b96_2 : ByteArray) (b96_3 : (List ByteArray)) : __loop_example_g00124_impl_desk__list_L1 x2 x51 x52 x53 b3000000_0 b3000000_1 b3000000_2 b96_0 b96_1 b96_2 b96_3 =
  (bif (decide (x53 < x52))
  then bif ((decide (0 ≤ x53)) && (decide (x53 < (List.length x51 : Int))))
   then bif (lim (1 + (List.length b96_3)) 16)
    then __loop_example_g00124_impl_desk__list_L1 x2 x51 x52 (w64 (x53 + 1)) b3000000_0 b3000000_1 b3000000_2 b96_0 b96_1 b96_2 ([(List.getD x51 (Int.toNat x53) ByteArray.empty)] ++ b96_3)
    else none
   else none
  else (__loop_example_g00124_impl_desk__put (b3000000_0, (b3000000_1, b3000000_2)) x2 (b96_0, (b96_1, (b96_2, b96_3)))).bind fun r13 =>
   (impl_Number (List.length b96_3 : Int)).bind fun r14 =>
   (__loop_example_g00124_impl_desk__say r13.2.1 r14.1).bind fun r15 =>
   some ((), (r15.2.1, ())) : Option (Unit × (D_desk × Unit))) := (loopAt_mk X 70 1 [] _ _ _).trans (by kernel_rfl)
theorem spec_l01In_eq (a0 : Int) (a1 : Int) (a2 : Int) : spec_l01In a0 a1 a2 =
  (bif (decide (a0 ≥ a1))
  then some ((decide (a0 ≤ a2)), ())
  else some (false, ()) : Option (Bool × Unit)) := (DF_eq X rfl _).trans (by kernel_rfl)
theorem spec_Find_eq (a0 : (List D_Entry)) (a1 : ByteArray) : spec_Find a0 a1 =
  (spec_Find_L0 a0 a1 0 0 0 ByteArray.empty [] : Option ((D_Val × Bool) × Unit)) := (DF_eq X rfl _).trans (by kernel_rfl)
theorem spec_Find_L0_eq (x0 : (List D_Entry)) (x1 : ByteArray) (x6 : Int) (b0_0 : Int) (b0_1 : Int) (b0_2 : ByteArray) (b0_3 : (List ByteArray)) : spec_Find_L0 x0 x1 x6 b0_0 b0_1 b0_2 b0_3 =
  (bif (decide (x6 < (List.length x0 : Int)))
  then bif ((decide (0 ≤ x6)) && (decide (x6 < (List.length x0 : Int))))
   then bif ((ByteArray.toList ((List.getD x0 (Int.toNat x6) (ByteArray.empty, (0, (0, (ByteArray.empty, []))))).1)) == (ByteArray.toList x1))
    then bif ((decide (0 ≤ x6)) && (decide (x6 < (List.length x0 : Int))))
     then (spec_l10Copy (((List.getD x0 (Int.toNat x6) (ByteArray.empty, (0, (0, (ByteArray.empty, []))))).2).1, ((((List.getD x0 (Int.toNat x6) (ByteArray.empty, (0, (0, (ByteArray.empty, []))))).2).2).1, ((((List.getD x0 (Int.toNat x6) (ByteArray.empty, (0, (0, (ByteArray.empty, []))))).2).2).2)))).bind fun r9 =>
      some ((r9.1, true), ())
     else none
    else spec_Find_L0 x0 x1 (w64 (x6 + 1)) b0_0 b0_1 b0_2 b0_3
   else none
  else some (((0, (0, (ByteArray.empty, []))), false), ()) : Option ((D_Val × Bool) × Unit)) := (loopAt_mk X 74 0 [] _ _ _).trans (by kernel_rfl)
theorem impl_within_eq (a0 : Int) (a1 : Int) (a2 : Int) : impl_within a0 a1 a2 =
  (bif (decide (a0 ≥ a1))
  then some ((decide (a0 ≤ a2)), ())
  else some (false, ()) : Option (Bool × Unit)) := (DF_eq X rfl _).trans (by kernel_rfl)
theorem __loop_example_g00124_impl_desk__say_eq (a0 : D_desk) (a1 : ByteArray) : __loop_example_g00124_impl_desk__say a0 a1 =
  (bif (!a0.2.2)
  then some ((), ((a0.1, (a1, a0.2.2)), ()))
  else some ((), (a0, ())) : Option (Unit × (D_desk × Unit))) := (DF_eq X rfl _).trans (by kernel_rfl)
theorem impl_Array_eq (a0 : (List ByteArray)) : impl_Array a0 =
  ((impl_Decimal (List.length a0 : Int)).bind fun r3 =>
  bif (limS ((ByteArray.size c___1_259) + (ByteArray.size r3.1)))
  then bif (limS ((ByteArray.size (c___1_259 ++ r3.1)) + (ByteArray.size c____2_7140)))
   then impl_Array_L0 (bytesL ((c___1_259 ++ r3.1) ++ c____2_7140)) a0 (List.length a0 : Int) 0
   else none
  else none : Option (ByteArray × Unit)) := (DF_eq X rfl _).trans (by kernel_rfl)
theorem impl_Array_L0_eq (x3 : (List Int)) (x12 : (List ByteArray)) (x13 : Int) (x14 : Int) : impl_Array_L0 x3 x12 x13 x14 =
  (bif (decide (x14 < x13))
  then bif ((decide (0 ≤ x14)) && (decide (x14 < (List.length x12 : Int))))
   then bif (lim ((List.length x3) + (List.length (bytesL (List.getD x12 (Int.toNat x14) ByteArray.empty)))) 1)
    then impl_Array_L0 (x3 ++ (bytesL (List.getD x12 (Int.toNat x14) ByteArray.empty))) x12 x13 (w64 (x14 + 1))
    else none
   else none
  else some ((⟨(List.toArray (List.map (fun n => (UInt8.ofNat (Int.toNat n))) x3))⟩ : ByteArray), ()) : Option (ByteArray × Unit)) := (loopAt_mk X 80 0 [] _ _ _).trans (by kernel_rfl)
theorem impl_bulks_eq (a0 : (List ByteArray)) : impl_bulks a0 =
  (impl_bulks_L0 [] a0 (List.length a0 : Int) 0 : Option ((List ByteArray) × Unit)) := (DF_eq X rfl _).trans (by kernel_rfl)
theorem impl_bulks_L0_eq (x3 : (List ByteArray)) (x6 : (List ByteArray)) (x7 : Int) (x8 : Int) : impl_bulks_L0 x3 x6 x7 x8 =
  (bif (decide (x8 < x7))
  then bif ((decide (0 ≤ x8)) && (decide (x8 < (List.length x6 : Int))))
   then (impl_Bulk (List.getD x6 (Int.toNat x8) ByteArray.empty)).bind fun r6 =>
    bif (lim ((List.length x3) + 1) 16)
    then impl_bulks_L0 (x3 ++ [r6.1]) x6 x7 (w64 (x8 + 1))
    else none
   else none
  else some (x3, ()) : Option ((List ByteArray) × Unit)) := (loopAt_mk X 81 0 [] _ _ _).trans (by kernel_rfl)
theorem impl_Number_eq (a0 : Int) : impl_Number a0 =
  ((impl_Decimal a0).bind fun r3 =>
  bif (limS ((ByteArray.size c___1_275) + (ByteArray.size r3.1)))
  then bif (limS ((ByteArray.size (c___1_275 ++ r3.1)) + (ByteArray.size c____2_7140)))
   then some (((c___1_275 ++ r3.1) ++ c____2_7140), ())
   else none
  else none : Option (ByteArray × Unit)) := (DF_eq X rfl _).trans (by kernel_rfl)
theorem spec_TableOk_eq (a0 : (List D_Entry)) : spec_TableOk a0 =
  (bif (decide ((List.length a0 : Int) > 20))
  then some (false, ())
  else spec_TableOk_L0 a0 0 : Option (Bool × Unit)) := (DF_eq X rfl _).trans (by kernel_rfl)
theorem spec_TableOk_L0_eq (x0 : (List D_Entry)) (x3 : Int) : spec_TableOk_L0 x0 x3 =
  (bif (decide (x3 < (List.length x0 : Int)))
  then bif ((decide (0 ≤ x3)) && (decide (x3 < (List.length x0 : Int))))
   then (spec_l01In (ByteArray.size ((List.getD x0 (Int.toNat x3) (ByteArray.empty, (0, (0, (ByteArray.empty, []))))).1) : Int) 1 20).bind fun r4 =>
    bif (!r4.1)
    then some (false, ())
    else bif (decide (x3 > 0))
     then bif ((decide (0 ≤ (w64 (x3 - 1)))) && (decide ((w64 (x3 - 1)) < (List.length x0 : Int))))
      then bif ((decide (0 ≤ x3)) && (decide (x3 < (List.length x0 : Int))))
       then bif (!(Op.bytesLess (ByteArray.toList ((List.getD x0 (Int.toNat (w64 (x3 - 1))) (ByteArray.empty, (0, (0, (ByteArray.empty, []))))).1)) (ByteArray.toList ((List.getD x0 (Int.toNat x3) (ByteArray.empty, (0, (0, (ByteArray.empty, []))))).1))))
        then some (false, ())
        else bif ((decide (0 ≤ x3)) && (decide (x3 < (List.length x0 : Int))))
         then (spec_ValOk (((List.getD x0 (Int.toNat x3) (ByteArray.empty, (0, (0, (ByteArray.empty, []))))).2).1, ((((List.getD x0 (Int.toNat x3) (ByteArray.empty, (0, (0, (ByteArray.empty, []))))).2).2).1, ((((List.getD x0 (Int.toNat x3) (ByteArray.empty, (0, (0, (ByteArray.empty, []))))).2).2).2)))).bind fun r5 =>
          bif (!r5.1)
          then some (false, ())
          else spec_TableOk_L0 x0 (w64 (x3 + 1))
         else none
       else none
      else none
     else bif ((decide (0 ≤ x3)) && (decide (x3 < (List.length x0 : Int))))
      then (spec_ValOk (((List.getD x0 (Int.toNat x3) (ByteArray.empty, (0, (0, (ByteArray.empty, []))))).2).1, ((((List.getD x0 (Int.toNat x3) (ByteArray.empty, (0, (0, (ByteArray.empty, []))))).2).2).1, ((((List.getD x0 (Int.toNat x3) (ByteArray.empty, (0, (0, (ByteArray.empty, []))))).2).2).2)))).bind fun r5 =>
       bif (!r5.1)
       then some (false, ())
       else spec_TableOk_L0 x0 (w64 (x3 + 1))
      else none
   else none
  else some (true, ()) : Option (Bool × Unit)) := (loopAt_mk X 84 0 [] _ _ _).trans (by kernel_rfl)
theorem spec_Fault_eq (a0 : ByteArray) : spec_Fault a0 =
  (bif (limS ((ByteArray.size c___1_262) + (ByteArray.size a0)))
  then bif (limS ((ByteArray.size (c___1_262 ++ a0)) + (ByteArray.size c____2_7140)))
   then some (((c___1_262 ++ a0) ++ c____2_7140), ())
   else none
  else none : Option (ByteArray × Unit)) := (DF_eq X rfl _).trans (by kernel_rfl)
theorem spec_Unknown_eq (a0 : (List ByteArray)) : spec_Unknown a0 =
  (bif ((List.length a0 : Int) == 0)
  then (spec_Fault c_ERR_unknown).bind fun r3 =>
   some (r3.1, ())
  else (spec_Commands).bind fun r3 =>
   bif ((decide ((0 : Int) ≤ 0)) && (decide (0 < (List.length a0 : Int))))
   then (spec_Upper (List.getD a0 (Int.toNat 0) ByteArray.empty)).bind fun r4 =>
    (spec_l13In r3.1 r4.1).bind fun r5 =>
    bif (!r5.1)
    then (spec_Fault c_ERR_unknown).bind fun r6 =>
     some (r6.1, ())
    else (spec_ArityOk a0).bind fun r6 =>
     bif (!r6.1)
     then (spec_Fault c_ERR_arguments).bind fun r7 =>
      some (r7.1, ())
     else some (ByteArray.empty, ())
   else none : Option (ByteArray × Unit)) := (DF_eq X rfl _).trans (by kernel_rfl)
theorem impl_TableOk_eq (a0 : (List D_Entry)) : impl_TableOk a0 =
  (impl_TableOk_L0 a0 a0 (List.length a0 : Int) 0 : Option (Bool × Unit)) := (DF_eq X rfl _).trans (by kernel_rfl)
theorem impl_TableOk_L0_eq (x0 : (List D_Entry)) (x5 : (List D_Entry)) (x6 : Int) (x7 : Int) : impl_TableOk_L0 x0 x5 x6 x7 =
  (bif (decide (x7 < x6))
  then bif ((decide (0 ≤ x7)) && (decide (x7 < (List.length x5 : Int))))
   then (impl_keyOk ((List.getD x5 (Int.toNat x7) (ByteArray.empty, (0, (0, (ByteArray.empty, []))))).1)).bind fun r6 =>
    bif (!r6.1)
    then some (false, ())
    else (impl_ValOk (((List.getD x5 (Int.toNat x7) (ByteArray.empty, (0, (0, (ByteArray.empty, []))))).2).1, ((((List.getD x5 (Int.toNat x7) (ByteArray.empty, (0, (0, (ByteArray.empty, []))))).2).2).1, ((((List.getD x5 (Int.toNat x7) (ByteArray.empty, (0, (0, (ByteArray.empty, []))))).2).2).2)))).bind fun r7 =>
     bif (!r7.1)
     then some (false, ())
     else bif (decide (x7 > 0))
      then bif ((decide (0 ≤ (w64 (x7 - 1)))) && (decide ((w64 (x7 - 1)) < (List.length x0 : Int))))
       then bif (!(Op.bytesLess (ByteArray.toList ((List.getD x0 (Int.toNat (w64 (x7 - 1))) (ByteArray.empty, (0, (0, (ByteArray.empty, []))))).1)) (ByteArray.toList ((List.getD x5 (Int.toNat x7) (ByteArray.empty, (0, (0, (ByteArray.empty, []))))).1))))
        then some (false, ())
        else impl_TableOk_L0 x0 x5 x6 (w64 (x7 + 1))
       else none
      else impl_TableOk_L0 x0 x5 x6 (w64 (x7 + 1))
   else none
  else some ((decide ((List.length x0 : Int) ≤ 20)), ()) : Option (Bool × Unit)) := (loopAt_mk X 89 0 [] _ _ _).trans (by kernel_rfl)
theorem impl_copyTable_eq (a0 : (List D_Entry)) : impl_copyTable a0 =
  (impl_copyTable_L0 [] a0 (List.length a0 : Int) 0 : Option ((List D_Entry) × Unit)) := (DF_eq X rfl _).trans (by kernel_rfl)
theorem impl_copyTable_L0_eq (x3 : (List D_Entry)) (x6 : (List D_Entry)) (x7 : Int) (x8 : Int) : impl_copyTable_L0 x3 x6 x7 x8 =
  (bif (decide (x8 < x7))
  then bif ((decide (0 ≤ x8)) && (decide (x8 < (List.length x6 : Int))))
   then (impl_copyVal (((List.getD x6 (Int.toNat x8) (ByteArray.empty, (0, (0, (ByteArray.empty, []))))).2).1, ((((List.getD x6 (Int.toNat x8) (ByteArray.empty, (0, (0, (ByteArray.empty, []))))).2).2).1, ((((List.getD x6 (Int.toNat x8) (ByteArray.empty, (0, (0, (ByteArray.empty, []))))).2).2).2)))).bind fun r6 =>
    bif (lim ((List.length x3) + 1) 72)
    then impl_copyTable_L0 (x3 ++ [((List.getD x6 (Int.toNat x8) (ByteArray.empty, (0, (0, (ByteArray.empty, []))))).1, (r6.1.1, (r6.1.2.1, (r6.1.2.2.1, r6.1.2.2.2))))]) x6 x7 (w64 (x8 + 1))
    else none
   else none
  else some (x3, ()) : Option ((List D_Entry) × Unit)) := (loopAt_mk X 90 0 [] _ _ _).trans (by kernel_rfl)
theorem impl_Fault_eq (a0 : ByteArray) : impl_Fault a0 =
  (bif (limS ((ByteArray.size c___1_262) + (ByteArray.size a0)))
  then bif (limS ((ByteArray.size (c___1_262 ++ a0)) + (ByteArray.size c____2_7140)))
   then some (((c___1_262 ++ a0) ++ c____2_7140), ())
   else none
  else none : Option (ByteArray × Unit)) := (DF_eq X rfl _).trans (by kernel_rfl)
theorem impl_Unknown_eq (a0 : (List ByteArray)) : impl_Unknown a0 =
  ((impl_oneOf a0 c_PING_ECHO_GE_244_482754).bind fun r3 =>
  bif (!r3.1)
  then (impl_Fault c_ERR_unknown).bind fun r4 =>
   some (r4.1, ())
  else (impl_ArityOk a0).bind fun r4 =>
   bif (!r4.1)
   then (impl_Fault c_ERR_arguments).bind fun r5 =>
    some (r5.1, ())
   else some (ByteArray.empty, ()) : Option (ByteArray × Unit)) := (DF_eq X rfl _).trans (by kernel_rfl)
theorem spec_Array_eq (a0 : (List ByteArray)) : spec_Array a0 =
  ((spec_Decimal (List.length a0 : Int)).bind fun r3 =>
  bif (limS ((ByteArray.size c___1_259) + (ByteArray.size r3.1)))
  then bif (limS ((ByteArray.size (c___1_259 ++ r3.1)) + (ByteArray.size c____2_7140)))
   then spec_Array_L0 a0 (bytesL ((c___1_259 ++ r3.1) ++ c____2_7140)) 0
   else none
  else none : Option (ByteArray × Unit)) := (DF_eq X rfl _).trans (by kernel_rfl)
theorem spec_Array_L0_eq (x0 : (List ByteArray)) (x3 : (List Int)) (x4 : Int) : spec_Array_L0 x0 x3 x4 =
  (bif (decide (x4 < (List.length x0 : Int)))
  then bif ((decide (0 ≤ x4)) && (decide (x4 < (List.length x0 : Int))))
   then bif (lim ((List.length x3) + (List.length (bytesL (List.getD x0 (Int.toNat x4) ByteArray.empty)))) 1)
    then spec_Array_L0 x0 (x3 ++ (bytesL (List.getD x0 (Int.toNat x4) ByteArray.empty))) (w64 (x4 + 1))
    else none
   else none
  else some ((⟨(List.toArray (List.map (fun n => (UInt8.ofNat (Int.toNat n))) x3))⟩ : ByteArray), ()) : Option (ByteArray × Unit)) := (loopAt_mk X 95 0 [] _ _ _).trans (by kernel_rfl)
theorem laws_szVal_eq (a0 : D_Val) (a1 : Int) : laws_szVal a0 a1 =
  (bif (decide ((w64 (a1 - (ByteArray.size a0.2.2.1 : Int))) < 0))
  then some ((-1), ())
  else (laws_szStringS a0.2.2.2 (w64 (a1 - (ByteArray.size a0.2.2.1 : Int)))).bind fun r4 =>
   bif (decide (r4.1 < 0))
   then some ((-1), ())
   else some (r4.1, ()) : Option (Int × Unit)) := (DF_eq X rfl _).trans (by kernel_rfl)
theorem spec_ArityOk_eq (a0 : (List ByteArray)) : spec_ArityOk a0 =
  (bif ((List.length a0 : Int) == 0)
  then some (false, ())
  else (spec_Commands).bind fun r3 =>
   bif ((decide ((0 : Int) ≤ 0)) && (decide (0 < (List.length a0 : Int))))
   then (spec_Upper (List.getD a0 (Int.toNat 0) ByteArray.empty)).bind fun r4 =>
    (spec_l13In r3.1 r4.1).bind fun r5 =>
    bif (!r5.1)
    then some (false, ())
    else bif ((decide ((0 : Int) ≤ 0)) && (decide (0 < (List.length a0 : Int))))
     then (spec_Upper (List.getD a0 (Int.toNat 0) ByteArray.empty)).bind fun r6 =>
      (spec_l13In ([c_PING, c_KEYS, c_DBSIZE, c_FLUSHALL]) r6.1).bind fun r7 =>
      bif r7.1
      then some (((w64 ((List.length a0 : Int) - 1)) == 0), ())
      else (spec_l13In ([c_SET, c_SETNX, c_GETSET, c_APPEND, c_INCRBY, c_DECRBY, c_EXPIRE, c_LINDEX, c_HGET, c_SISMEMBER]) r6.1).bind fun r8 =>
       bif r8.1
       then some (((w64 ((List.length a0 : Int) - 1)) == 2), ())
       else (spec_l13In ([c_LRANGE, c_HSET]) r6.1).bind fun r9 =>
        bif r9.1
        then some (((w64 ((List.length a0 : Int) - 1)) == 3), ())
        else (spec_l13In ([c_MGET, c_DEL, c_EXISTS]) r6.1).bind fun r10 =>
         bif r10.1
         then some ((decide ((w64 ((List.length a0 : Int) - 1)) ≥ 1)), ())
         else (spec_l13In ([c_LPUSH, c_RPUSH, c_HDEL, c_SADD, c_SREM]) r6.1).bind fun r11 =>
          bif r11.1
          then some ((decide ((w64 ((List.length a0 : Int) - 1)) ≥ 2)), ())
          else bif ((ByteArray.toList r6.1) == (ByteArray.toList c_MSET))
           then bif ((w64 ((List.length a0 : Int) - 1)) == 2)
            then some (true, ())
            else bif ((w64 ((List.length a0 : Int) - 1)) == 4)
             then some (true, ())
             else some (((w64 ((List.length a0 : Int) - 1)) == 6), ())
           else some (((w64 ((List.length a0 : Int) - 1)) == 1), ())
     else none
   else none : Option (Bool × Unit)) := (DF_eq X rfl _).trans (by kernel_rfl)
theorem spec_l13In_eq (a0 : (List ByteArray)) (a1 : ByteArray) : spec_l13In a0 a1 =
  (spec_l13In_L0 a0 a1 0 : Option (Bool × Unit)) := (DF_eq X rfl _).trans (by kernel_rfl)
theorem spec_l13In_L0_eq (x0 : (List ByteArray)) (x1 : ByteArray) (x5 : Int) : spec_l13In_L0 x0 x1 x5 =
  (bif (decide (x5 < (List.length x0 : Int)))
  then bif ((decide (0 ≤ x5)) && (decide (x5 < (List.length x0 : Int))))
   then bif ((ByteArray.toList (List.getD x0 (Int.toNat x5) ByteArray.empty)) == (ByteArray.toList x1))
    then some (true, ())
    else spec_l13In_L0 x0 x1 (w64 (x5 + 1))
   else none
  else some (false, ()) : Option (Bool × Unit)) := (loopAt_mk X 101 0 [] _ _ _).trans (by kernel_rfl)
theorem spec_l14Done_eq (a0 : (List D_Entry)) (a1 : (List D_Entry)) (a2 : ByteArray) : spec_l14Done a0 a1 a2 =
  ((spec_TableOk a1).bind fun r5 =>
  bif (!r5.1)
  then (spec_l10CopyTable a0).bind fun r6 =>
   (spec_Fault c_ERR_limit).bind fun r7 =>
   some ((r6.1, (r7.1, true)), ())
  else (spec_l10CopyTable a1).bind fun r6 =>
   some ((r6.1, (a2, true)), ()) : Option (((List D_Entry) × ByteArray × Bool) × Unit)) := (DF_eq X rfl _).trans (by kernel_rfl)
theorem spec_l14Put_eq (a0 : (List D_Entry)) (a1 : ByteArray) (a2 : D_Val) : spec_l14Put a0 a1 a2 =
  (spec_l14Put_L0 a0 a1 [] 0 a2.1 a2.2.1 a2.2.2.1 a2.2.2.2 : Option ((List D_Entry) × Unit)) := (DF_eq X rfl _).trans (by kernel_rfl)
theorem spec_l14Put_L0_eq (x0 : (List D_Entry)) (x1 : ByteArray) (x7 : (List D_Entry)) (x8 : Int) (b0_0 : Int) (b0_1 : Int) (b0_2 : ByteArray) (b0_3 : (List ByteArray)) : spec_l14Put_L0 x0 x1 x7 x8 b0_0 b0_1 b0_2 b0_3 =
  (bif (decide (x8 < (List.length x0 : Int)))
  then bif ((decide (0 ≤ x8)) && (decide (x8 < (List.length x0 : Int))))
   then bif (Op.bytesLess (ByteArray.toList ((List.getD x0 (Int.toNat x8) (ByteArray.empty, (0, (0, (ByteArray.empty, []))))).1)) (ByteArray.toList x1))
    then bif ((decide (0 ≤ x8)) && (decide (x8 < (List.length x0 : Int))))
     then bif (lim ((List.length x7) + 1) 72)
      then spec_l14Put_L0 x0 x1 (x7 ++ [((List.getD x0 (Int.toNat x8) (ByteArray.empty, (0, (0, (ByteArray.empty, []))))).1, (((List.getD x0 (Int.toNat x8) (ByteArray.empty, (0, (0, (ByteArray.empty, []))))).2).1, ((((List.getD x0 (Int.toNat x8) (ByteArray.empty, (0, (0, (ByteArray.empty, []))))).2).2).1, (((((List.getD x0 (Int.toNat x8) (ByteArray.empty, (0, (0, (ByteArray.empty, []))))).2).2).2).1, ((((List.getD x0 (Int.toNat x8) (ByteArray.empty, (0, (0, (ByteArray.empty, []))))).2).2).2).2))))]) (w64 (x8 + 1)) b0_0 b0_1 b0_2 b0_3
      else none
     else none
    else spec_l14Put_L0 x0 x1 x7 (w64 (x8 + 1)) b0_0 b0_1 b0_2 b0_3
   else none
  else bif (b0_0 != 0)
   then bif (lim ((List.length x7) + 1) 72)
    then spec_l14Put_L2 x0 x1 (x7 ++ [(x1, (b0_0, (b0_1, (b0_2, b0_3))))]) 0
    else none
   else spec_l14Put_L2 x0 x1 x7 0 : Option ((List D_Entry) × Unit)) := (loopAt_mk X 103 0 [] _ _ _).trans (by kernel_rfl)
theorem spec_l14Put_L2_eq (x0 : (List D_Entry)) (x1 : ByteArray) (x7 : (List D_Entry)) (x9 : Int) : spec_l14Put_L2 x0 x1 x7 x9 =
  (bif (decide (x9 < (List.length x0 : Int)))
  then bif ((decide (0 ≤ x9)) && (decide (x9 < (List.length x0 : Int))))
   then bif (!((Op.bytesLess (ByteArray.toList ((List.getD x0 (Int.toNat x9) (ByteArray.empty, (0, (0, (ByteArray.empty, []))))).1)) (ByteArray.toList x1)) || ((ByteArray.toList ((List.getD x0 (Int.toNat x9) (ByteArray.empty, (0, (0, (ByteArray.empty, []))))).1)) == (ByteArray.toList x1))))
    then bif ((decide (0 ≤ x9)) && (decide (x9 < (List.length x0 : Int))))
     then bif (lim ((List.length x7) + 1) 72)
      then spec_l14Put_L2 x0 x1 (x7 ++ [((List.getD x0 (Int.toNat x9) (ByteArray.empty, (0, (0, (ByteArray.empty, []))))).1, (((List.getD x0 (Int.toNat x9) (ByteArray.empty, (0, (0, (ByteArray.empty, []))))).2).1, ((((List.getD x0 (Int.toNat x9) (ByteArray.empty, (0, (0, (ByteArray.empty, []))))).2).2).1, (((((List.getD x0 (Int.toNat x9) (ByteArray.empty, (0, (0, (ByteArray.empty, []))))).2).2).2).1, ((((List.getD x0 (Int.toNat x9) (ByteArray.empty, (0, (0, (ByteArray.empty, []))))).2).2).2).2))))]) (w64 (x9 + 1))
      else none
     else none
    else spec_l14Put_L2 x0 x1 x7 (w64 (x9 + 1))
   else none
  else some (x7, ()) : Option ((List D_Entry) × Unit)) := (loopAt_mk X 103 2 [] _ _ _).trans (by kernel_rfl)
theorem spec_Decimal_eq (a0 : Int) : spec_Decimal a0 =
  (bif (a0 == 0)
  then some (c_0, ())
  else spec_Decimal_L0 a0 (decide (a0 < 0)) ByteArray.empty : Option (ByteArray × Unit)) := (DF_eq X rfl _).trans (by kernel_rfl)
theorem spec_Decimal_L0_eq (x0 : Int) (x3 : Bool) (x4 : ByteArray) : spec_Decimal_L0 x0 x3 x4 =
  (bif (x0 != 0)
  then bif (decide ((Int.tmod x0 10) < 0))
   then (spec_l01Figure (w64 (0 - (Int.tmod x0 10)))).bind fun r5 =>
    bif (limS ((ByteArray.size (⟨(List.toArray (List.map (fun n => (UInt8.ofNat (Int.toNat n))) [r5.1]))⟩ : ByteArray)) + (ByteArray.size x4)))
    then spec_Decimal_L0 (w64 (Int.tdiv x0 10)) x3 ((⟨(List.toArray (List.map (fun n => (UInt8.ofNat (Int.toNat n))) [r5.1]))⟩ : ByteArray) ++ x4)
    else none
   else (spec_l01Figure (Int.tmod x0 10)).bind fun r5 =>
    bif (limS ((ByteArray.size (⟨(List.toArray (List.map (fun n => (UInt8.ofNat (Int.toNat n))) [r5.1]))⟩ : ByteArray)) + (ByteArray.size x4)))
    then spec_Decimal_L0 (w64 (Int.tdiv x0 10)) x3 ((⟨(List.toArray (List.map (fun n => (UInt8.ofNat (Int.toNat n))) [r5.1]))⟩ : ByteArray) ++ x4)
    else none
  else bif x3
   then bif (limS ((ByteArray.size c___1_262) + (ByteArray.size x4)))
    then some ((c___1_262 ++ x4), ())
    else none
   else some (x4, ()) : Option (ByteArray × Unit)) := (loopAt_mk X 104 0 [] _ _ _).trans (by kernel_rfl)
theorem spec_l10Copy_eq (a0 : D_Val) : spec_l10Copy a0 =
  (bif (lim (0 + (List.length a0.2.2.2)) 16)
  then some ((a0.1, (a0.2.1, (a0.2.2.1, ([] ++ a0.2.2.2)))), ())
  else none : Option (D_Val × Unit)) := (DF_eq X rfl _).trans (by kernel_rfl)
theorem laws_toVal_eq (a0 : D_Val) : laws_toVal a0 =
  ((laws_toStringS a0.2.2.2).bind fun r3 =>
  some ((a0.1, (a0.2.1, (a0.2.2.1, r3.1))), ()) : Option (D_Val × Unit)) := (DF_eq X rfl _).trans (by kernel_rfl)
theorem impl_oneOf_eq (a0 : (List ByteArray)) (a1 : ByteArray) : impl_oneOf a0 a1 =
  (bif (decide ((List.length a0 : Int) > 0))
  then (strings_Fields a1).bind fun r4 =>
   bif ((decide ((0 : Int) ≤ 0)) && (decide (0 < (List.length a0 : Int))))
   then (impl_Upper (List.getD a0 (Int.toNat 0) ByteArray.empty)).bind fun r5 =>
    (slices_Contains___string_string_ r4.1 r5.1).bind fun r6 =>
    some (r6.1, ())
   else none
  else some (false, ()) : Option (Bool × Unit)) := (DF_eq X rfl _).trans (by kernel_rfl)
theorem impl_ArityOk_eq (a0 : (List ByteArray)) : impl_ArityOk a0 =
  ((impl_oneOf a0 c_PING_ECHO_GE_244_482754).bind fun r3 =>
  bif (!r3.1)
  then some (false, ())
  else (impl_oneOf a0 c_PING_KEYS_DB_25_770361).bind fun r4 =>
   bif r4.1
   then some (((w64 ((List.length a0 : Int) - 1)) == 0), ())
   else (impl_oneOf a0 c_ECHO_GET_STR_91_76732).bind fun r5 =>
    bif r5.1
    then some (((w64 ((List.length a0 : Int) - 1)) == 1), ())
    else (impl_oneOf a0 c_SET_SETNX_GE_66_689460).bind fun r6 =>
     bif r6.1
     then some (((w64 ((List.length a0 : Int) - 1)) == 2), ())
     else (impl_oneOf a0 c_LRANGE_HSET).bind fun r7 =>
      bif r7.1
      then some (((w64 ((List.length a0 : Int) - 1)) == 3), ())
      else (impl_oneOf a0 c_MGET_DEL_EXISTS).bind fun r8 =>
       bif r8.1
       then some ((decide ((w64 ((List.length a0 : Int) - 1)) ≥ 1)), ())
       else (impl_oneOf a0 c_LPUSH_RPUSH__26_457431).bind fun r9 =>
        bif r9.1
        then some ((decide ((w64 ((List.length a0 : Int) - 1)) ≥ 2)), ())
        else bif ((w64 ((List.length a0 : Int) - 1)) == 2)
         then some (true, ())
         else bif ((w64 ((List.length a0 : Int) - 1)) == 4)
          then some (true, ())
          else some (((w64 ((List.length a0 : Int) - 1)) == 6), ()) : Option (Bool × Unit)) := (DF_eq X rfl _).trans (by kernel_rfl)
theorem __loop_example_g00124_impl_desk__find_eq (a0 : D_desk) (a1 : ByteArray) (a2 : Int) : __loop_example_g00124_impl_desk__find a0 a1 a2 =
  ((impl_Find a0.1 a1).bind fun r5 =>
  bif r5.1.2
  then bif (r5.1.1.1 != a2)
   then (__loop_example_g00124_impl_desk__fault a0 c_WRONGTYPE).bind fun r6 =>
    some (r5.1, (r6.2.1, ()))
   else some (r5.1, (a0, ()))
  else some (r5.1, (a0, ())) : Option ((D_Val × Bool) × (D_desk × Unit))) := (DF_eq X rfl _).trans (by kernel_rfl)
theorem slices_BinarySearch___string_string__eq (a0 : (List ByteArray)) (a1 : ByteArray) : slices_BinarySearch___string_string_ a0 a1 =
  (slices_BinarySearch___string_string__L0 a0 a1 (List.length a0 : Int) 0 (List.length a0 : Int) : Option ((Int × Bool) × Unit)) := (DF_eq X rfl _).trans (by kernel_rfl)
theorem slices_BinarySearch___string_string__L0_eq (x0 : (List ByteArray)) (x1 : ByteArray) (x6 : Int) (x7 : Int) (x8 : Int) : slices_BinarySearch___string_string__L0 x0 x1 x6 x7 x8 =
  (bif (decide (x7 < x8))
  then bif ((decide (0 ≤ (w64 (shrI Go.IntKind.u64 (Go.IntKind.u64.wrap (w64 (x7 + x8))) 1)))) && (decide ((w64 (shrI Go.IntKind.u64 (Go.IntKind.u64.wrap (w64 (x7 + x8))) 1)) < (List.length x0 : Int))))
   then (cmp_Less_string_ (List.getD x0 (Int.toNat (w64 (shrI Go.IntKind.u64 (Go.IntKind.u64.wrap (w64 (x7 + x8))) 1))) ByteArray.empty) x1).bind fun r7 =>
    bif r7.1
    then slices_BinarySearch___string_string__L0 x0 x1 x6 (w64 ((w64 (shrI Go.IntKind.u64 (Go.IntKind.u64.wrap (w64 (x7 + x8))) 1)) + 1)) x8
    else slices_BinarySearch___string_string__L0 x0 x1 x6 x7 (w64 (shrI Go.IntKind.u64 (Go.IntKind.u64.wrap (w64 (x7 + x8))) 1))
   else none
  else bif (decide (x7 < x6))
   then bif ((decide (0 ≤ x7)) && (decide (x7 < (List.length x0 : Int))))
    then bif ((ByteArray.toList (List.getD x0 (Int.toNat x7) ByteArray.empty)) == (ByteArray.toList x1))
     then some ((x7, true), ())
     else bif ((decide (0 ≤ x7)) && (decide (x7 < (List.length x0 : Int))))
      then (slices_isNaN_string_ (List.getD x0 (Int.toNat x7) ByteArray.empty)).bind fun r7 =>
       bif r7.1
       then (slices_isNaN_string_ x1).bind fun r8 =>
        some ((x7, r8.1), ())
       else some ((x7, false), ())
      else none
    else none
   else some ((x7, false), ()) : Option ((Int × Bool) × Unit)) := (loopAt_mk X 110 0 [] _ _ _).trans (by kernel_rfl)
theorem __loop_example_g00124_impl_desk__put_eq (a0 : D_desk) (a1 : ByteArray) (a2 : D_Val) : __loop_example_g00124_impl_desk__put a0 a1 a2 =
  (bif a0.2.2
  then some ((), (a0, ()))
  else (slices_BinarySearchFunc___loop_example_g00124_impl_Entry_loop_example_g00124_impl_Entry_string_ a0.1 a1 ()).bind fun r5 =>
   bif r5.1.2
   then bif ((decide (0 ≤ r5.1.1)) && (decide (r5.1.1 < (List.length a0.1 : Int))))
    then some ((), (((List.set a0.1 (Int.toNat r5.1.1) ((List.getD a0.1 (Int.toNat r5.1.1) (ByteArray.empty, (0, (0, (ByteArray.empty, []))))).1, (a2.1, (a2.2.1, (a2.2.2.1, a2.2.2.2))))), a0.2), ()))
    else none
   else (slices_Insert___loop_example_g00124_impl_Entry_loop_example_g00124_impl_Entry_ a0.1 r5.1.1 ([(a1, (a2.1, (a2.2.1, (a2.2.2.1, a2.2.2.2))))])).bind fun r6 =>
    some ((), ((r6.1, a0.2), ())) : Option (Unit × (D_desk × Unit))) := (DF_eq X rfl _).trans (by kernel_rfl)
theorem slices_DeleteFunc___string_string__eq (a0 : (List ByteArray)) (a1 : (List ByteArray) × Unit) : slices_DeleteFunc___string_string_ a0 a1 =
  ((slices_IndexFunc___string_string_ a0 (a1.1, ())).bind fun r4 =>
  bif (r4.1 == (-1))
  then some (a0, ((), ()))
  else slices_DeleteFunc___string_string__L0 a0 r4.1 (w64 (r4.1 + 1)) a1.1 : Option ((List ByteArray) × ((Unit) × Unit))) := (DF_eq X rfl _).trans (by kernel_rfl)
theorem slices_DeleteFunc___string_string__L0_eq (x0 : (List ByteArray)) (x5 : Int) (x6 : Int) (b3000064_0 : (List ByteArray)) : slices_DeleteFunc___string_string__L0 x0 x5 x6 b3000064_0 =
  (bif (decide (x6 < (List.length x0 : Int)))
  then bif ((decide (0 ≤ x6)) && (decide (x6 < (List.length x0 : Int))))
   then (__loop_example_g00124_impl_desk__set_1 (List.getD x0 (Int.toNat x6) ByteArray.empty) b3000064_0).bind fun r6 =>
    bif (!r6.1)
    then bif ((decide (0 ≤ x5)) && (decide (x5 < (List.length x0 : Int))))
     then slices_DeleteFunc___string_string__L0 (List.set x0 (Int.toNat x5) (List.getD x0 (Int.toNat x6) ByteArray.empty)) (w64 (x5 + 1)) (w64 (x6 + 1)) b3000064_0
     else none
    else slices_DeleteFunc___string_string__L0 x0 x5 (w64 (x6 + 1)) b3000064_0
   else none
  else bif ((decide (0 ≤ x5)) && ((decide (x5 ≤ (List.length x0 : Int))) && (decide ((List.length x0 : Int) ≤ (List.length x0 : Int)))))
   then bif ((decide ((0 : Int) ≤ 0)) && ((decide (0 ≤ x5)) && (decide (x5 ≤ (List.length (((List.take (Int.toNat x5) x0) ++ (List.replicate ((Int.toNat (List.length x0 : Int)) - (Int.toNat x5)) ByteArray.empty)) ++ (List.drop (Int.toNat (List.length x0 : Int)) x0)) : Int)))))
    then some ((List.take ((Int.toNat x5) - (Int.toNat 0)) (List.drop (Int.toNat 0) (((List.take (Int.toNat x5) x0) ++ (List.replicate ((Int.toNat (List.length x0 : Int)) - (Int.toNat x5)) ByteArray.empty)) ++ (List.drop (Int.toNat (List.length x0 : Int)) x0)))), ((), ()))
    else none
   else none : Option ((List ByteArray) × ((Unit) × Unit))) := (loopAt_mk X 113 0 [] _ _ _).trans (by kernel_rfl)
theorem __loop_example_g00124_impl_desk__set_1_eq (a0 : ByteArray) (a1 : (List ByteArray)) : __loop_example_g00124_impl_desk__set_1 a0 a1 =
  ((slices_Contains___string_string_ a1 a0).bind fun r4 =>
  some (r4.1, ()) : Option (Bool × Unit)) := (DF_eq X rfl _).trans (by kernel_rfl)
theorem slices_Contains___string_string__eq (a0 : (List ByteArray)) (a1 : ByteArray) : slices_Contains___string_string_ a0 a1 =
  ((slices_Index___string_string_ a0 a1).bind fun r4 =>
  some ((decide (r4.1 ≥ 0)), ()) : Option (Bool × Unit)) := (DF_eq X rfl _).trans (by kernel_rfl)
theorem __loop_example_g00124_impl_desk__keep_eq (a0 : D_desk) (a1 : ByteArray) (a2 : D_Val) : __loop_example_g00124_impl_desk__keep a0 a1 a2 =
  (bif (decide ((List.length a2.2.2.2 : Int) > 0))
  then (__loop_example_g00124_impl_desk__put a0 a1 a2).bind fun r5 =>
   some ((), (r5.2.1, ()))
  else bif (!a0.2.2)
   then (__loop_example_g00124_impl_desk__drop a0 a1).bind fun r5 =>
    some ((), (r5.2.1, ()))
   else some ((), (a0, ())) : Option (Unit × (D_desk × Unit))) := (DF_eq X rfl _).trans (by kernel_rfl)
theorem __loop_example_g00124_impl_desk__fault_eq (a0 : D_desk) (a1 : ByteArray) : __loop_example_g00124_impl_desk__fault a0 a1 =
  (bif (!a0.2.2)
  then (impl_Fault a1).bind fun r4 =>
   some ((), ((a0.1, (r4.1, true)), ()))
  else some ((), (a0, ())) : Option (Unit × (D_desk × Unit))) := (DF_eq X rfl _).trans (by kernel_rfl)
theorem laws_eqVal_eq (a0 : D_Val) (a1 : D_Val) : laws_eqVal a0 a1 =
  (bif (a0.1 != a1.1)
  then some (false, ())
  else bif (a0.2.1 != a1.2.1)
   then some (false, ())
   else bif (!((ByteArray.toList a0.2.2.1) == (ByteArray.toList a1.2.2.1)))
    then some (false, ())
    else (laws_eqStringS a0.2.2.2 a1.2.2.2).bind fun r4 =>
     bif (!r4.1)
     then some (false, ())
     else some (true, ()) : Option (Bool × Unit)) := (DF_eq X rfl _).trans (by kernel_rfl)
theorem impl_fieldNo_eq (a0 : (List ByteArray)) (a1 : ByteArray) : impl_fieldNo a0 a1 =
  (impl_fieldNo_L0 a0 a1 0 : Option ((Int × Bool) × Unit)) := (DF_eq X rfl _).trans (by kernel_rfl)
theorem impl_fieldNo_L0_eq (x0 : (List ByteArray)) (x1 : ByteArray) (x6 : Int) : impl_fieldNo_L0 x0 x1 x6 =
  (bif (decide (x6 < (List.length x0 : Int)))
  then bif ((decide (0 ≤ x6)) && (decide (x6 < (List.length x0 : Int))))
   then bif (Op.bytesLess (ByteArray.toList (List.getD x0 (Int.toNat x6) ByteArray.empty)) (ByteArray.toList x1))
    then impl_fieldNo_L0 x0 x1 (w64 (x6 + 2))
    else bif (decide (x6 < (List.length x0 : Int)))
     then bif ((decide (0 ≤ x6)) && (decide (x6 < (List.length x0 : Int))))
      then some ((x6, ((ByteArray.toList (List.getD x0 (Int.toNat x6) ByteArray.empty)) == (ByteArray.toList x1))), ())
      else none
     else some ((x6, false), ())
   else none
  else bif (decide (x6 < (List.length x0 : Int)))
   then bif ((decide (0 ≤ x6)) && (decide (x6 < (List.length x0 : Int))))
    then some ((x6, ((ByteArray.toList (List.getD x0 (Int.toNat x6) ByteArray.empty)) == (ByteArray.toList x1))), ())
    else none
   else some ((x6, false), ()) : Option ((Int × Bool) × Unit)) := (loopAt_mk X 119 0 [] _ _ _).trans (by kernel_rfl)
theorem impl_Nil_eq : impl_Nil =
  (some (c___1___5_38205, ()) : Option (ByteArray × Unit)) := (DF_eq X rfl _).trans (by kernel_rfl)
theorem impl_Bulk_eq (a0 : ByteArray) : impl_Bulk a0 =
  ((impl_Decimal (ByteArray.size a0 : Int)).bind fun r3 =>
  bif (limS ((ByteArray.size c___1_253) + (ByteArray.size r3.1)))
  then bif (limS ((ByteArray.size (c___1_253 ++ r3.1)) + (ByteArray.size c____2_7140)))
   then bif (limS ((ByteArray.size ((c___1_253 ++ r3.1) ++ c____2_7140)) + (ByteArray.size a0)))
    then bif (limS ((ByteArray.size (((c___1_253 ++ r3.1) ++ c____2_7140) ++ a0)) + (ByteArray.size c____2_7140)))
     then some (((((c___1_253 ++ r3.1) ++ c____2_7140) ++ a0) ++ c____2_7140), ())
     else none
    else none
   else none
  else none : Option (ByteArray × Unit)) := (DF_eq X rfl _).trans (by kernel_rfl)
theorem impl_fieldsOf_eq (a0 : (List ByteArray)) : impl_fieldsOf a0 =
  (impl_fieldsOf_L0 a0 [] 0 : Option ((List ByteArray) × Unit)) := (DF_eq X rfl _).trans (by kernel_rfl)
theorem impl_fieldsOf_L0_eq (x0 : (List ByteArray)) (x3 : (List ByteArray)) (x4 : Int) : impl_fieldsOf_L0 x0 x3 x4 =
  (bif (decide (x4 < (List.length x0 : Int)))
  then bif ((decide (0 ≤ x4)) && (decide (x4 < (List.length x0 : Int))))
   then bif (lim ((List.length x3) + 1) 16)
    then impl_fieldsOf_L0 x0 (x3 ++ [(List.getD x0 (Int.toNat x4) ByteArray.empty)]) (w64 (x4 + 2))
    else none
   else none
  else some (x3, ()) : Option ((List ByteArray) × Unit)) := (loopAt_mk X 123 0 [] _ _ _).trans (by kernel_rfl)
theorem spec_ReadDecimal_eq (a0 : ByteArray) : spec_ReadDecimal a0 =
  (bif (decide ((ByteArray.size a0 : Int) > 10))
  then some ((0, false), ())
  else spec_ReadDecimal_L0 a0 0 0 : Option ((Int × Bool) × Unit)) := (DF_eq X rfl _).trans (by kernel_rfl)
theorem spec_ReadDecimal_L0_eq (x0 : ByteArray) (x4 : Int) (x5 : Int) : spec_ReadDecimal_L0 x0 x4 x5 =
  (bif (decide (x5 < (ByteArray.size x0 : Int)))
  then bif ((decide (0 ≤ x5)) && (decide (x5 < (ByteArray.size x0 : Int))))
   then bif (decide ((bt x0 (Int.toNat x5)) < 48))
    then some ((0, false), ())
    else bif ((decide (0 ≤ x5)) && (decide (x5 < (ByteArray.size x0 : Int))))
     then bif (decide ((bt x0 (Int.toNat x5)) > 57))
      then some ((0, false), ())
      else bif ((decide (0 ≤ x5)) && (decide (x5 < (ByteArray.size x0 : Int))))
       then spec_ReadDecimal_L0 x0 (w64 ((w64 ((w64 (10 * x4)) + (w64 (bt x0 (Int.toNat x5))))) - 48)) (w64 (x5 + 1))
       else none
     else none
   else none
  else bif (decide (x4 > 1000000000))
   then some ((0, false), ())
   else (spec_Decimal x4).bind fun r5 =>
    bif (!((ByteArray.toList r5.1) == (ByteArray.toList x0)))
    then some ((0, false), ())
    else some ((x4, true), ()) : Option ((Int × Bool) × Unit)) := (loopAt_mk X 124 0 [] _ _ _).trans (by kernel_rfl)
theorem __loop_example_g00124_impl_desk__pop_eq (a0 : D_desk) (a1 : ByteArray) (a2 : D_Val) (a3 : Bool) (a4 : Bool) : __loop_example_g00124_impl_desk__pop a0 a1 a2 a3 a4 =
  (bif (!a3)
  then (impl_Nil).bind fun r7 =>
   (__loop_example_g00124_impl_desk__say a0 r7.1).bind fun r8 =>
   some ((), (r8.2.1, ()))
  else bif a0.2.2
   then (impl_Nil).bind fun r7 =>
    (__loop_example_g00124_impl_desk__say a0 r7.1).bind fun r8 =>
    some ((), (r8.2.1, ()))
   else bif ((decide ((0 : Int) ≤ 0)) && (decide (0 < (List.length a2.2.2.2 : Int))))
    then bif ((decide ((0 : Int) ≤ 1)) && ((decide (1 ≤ (List.length a2.2.2.2 : Int))) && (decide ((List.length a2.2.2.2 : Int) ≤ (List.length a2.2.2.2 : Int)))))
     then bif a4
      then bif ((decide (0 ≤ (w64 ((List.length a2.2.2.2 : Int) - 1)))) && (decide ((w64 ((List.length a2.2.2.2 : Int) - 1)) < (List.length a2.2.2.2 : Int))))
       then bif ((decide ((0 : Int) ≤ 0)) && ((decide (0 ≤ (w64 ((List.length a2.2.2.2 : Int) - 1)))) && (decide ((w64 ((List.length a2.2.2.2 : Int) - 1)) ≤ (List.length a2.2.2.2 : Int)))))
        then (__loop_example_g00124_impl_desk__keep a0 a1 (a2.1, (a2.2.1, (a2.2.2.1, (List.take ((Int.toNat (w64 ((List.length a2.2.2.2 : Int) - 1))) - (Int.toNat 0)) (List.drop (Int.toNat 0) a2.2.2.2)))))).bind fun r7 =>
         (impl_Bulk (List.getD a2.2.2.2 (Int.toNat (w64 ((List.length a2.2.2.2 : Int) - 1))) ByteArray.empty)).bind fun r8 =>
         (__loop_example_g00124_impl_desk__say r7.2.1 r8.1).bind fun r9 =>
         some ((), (r9.2.1, ()))
        else none
       else none
      else (__loop_example_g00124_impl_desk__keep a0 a1 (a2.1, (a2.2.1, (a2.2.2.1, (List.take ((Int.toNat (List.length a2.2.2.2 : Int)) - (Int.toNat 1)) (List.drop (Int.toNat 1) a2.2.2.2)))))).bind fun r7 =>
       (impl_Bulk (List.getD a2.2.2.2 (Int.toNat 0) ByteArray.empty)).bind fun r8 =>
       (__loop_example_g00124_impl_desk__say r7.2.1 r8.1).bind fun r9 =>
       some ((), (r9.2.1, ()))
     else none
    else none : Option (Unit × (D_desk × Unit))) := (DF_eq X rfl _).trans (by kernel_rfl)
theorem impl_Bounds_eq (a0 : Int) (a1 : Int) (a2 : Int) : impl_Bounds a0 a1 a2 =
  ((impl_within a2 1 1000).bind fun r5 =>
  bif (!r5.1)
  then some ((0, 0), ())
  else (impl_fromEnd a0 a2).bind fun r6 =>
   (impl_fromEnd a1 a2).bind fun r7 =>
   bif (decide ((bif (decide (0 > r6.1)) then 0 else r6.1) > (bif (decide ((w64 (a2 - 1)) < r7.1)) then (w64 (a2 - 1)) else r7.1)))
   then some ((0, 0), ())
   else some (((bif (decide (0 > r6.1)) then 0 else r6.1), (w64 ((bif (decide ((w64 (a2 - 1)) < r7.1)) then (w64 (a2 - 1)) else r7.1) + 1))), ()) : Option ((Int × Int) × Unit)) := (DF_eq X rfl _).trans (by kernel_rfl)
theorem __loop_example_g00124_impl_desk__number_eq (a0 : D_desk) (a1 : ByteArray) : __loop_example_g00124_impl_desk__number a0 a1 =
  ((impl_ReadInt a1).bind fun r4 =>
  bif (!r4.1.2)
  then (__loop_example_g00124_impl_desk__fault a0 c_ERR_integer).bind fun r5 =>
   some (r4.1.1, (r5.2.1, ()))
  else some (r4.1.1, (a0, ())) : Option (Int × (D_desk × Unit))) := (DF_eq X rfl _).trans (by kernel_rfl)
theorem impl_fromEnd_eq (a0 : Int) (a1 : Int) : impl_fromEnd a0 a1 =
  (bif (decide (a0 < 0))
  then some ((w64 (a0 + a1)), ())
  else some (a0, ()) : Option (Int × Unit)) := (DF_eq X rfl _).trans (by kernel_rfl)
theorem impl_Decimal_eq (a0 : Int) : impl_Decimal a0 =
  ((strconv_Itoa a0).bind fun r3 =>
  some (r3.1, ()) : Option (ByteArray × Unit)) := (DF_eq X rfl _).trans (by kernel_rfl)
theorem impl_Find_eq (a0 : (List D_Entry)) (a1 : ByteArray) : impl_Find a0 a1 =
  ((slices_IndexFunc_Entry_Find a0 (a1, ())).bind fun r4 =>
  bif (decide (r4.1 < 0))
  then some (((0, (0, (ByteArray.empty, []))), false), ())
  else bif ((decide (0 ≤ r4.1)) && (decide (r4.1 < (List.length a0 : Int))))
   then (impl_copyVal (((List.getD a0 (Int.toNat r4.1) (ByteArray.empty, (0, (0, (ByteArray.empty, []))))).2).1, ((((List.getD a0 (Int.toNat r4.1) (ByteArray.empty, (0, (0, (ByteArray.empty, []))))).2).2).1, ((((List.getD a0 (Int.toNat r4.1) (ByteArray.empty, (0, (0, (ByteArray.empty, []))))).2).2).2)))).bind fun r5 =>
    some ((r5.1, true), ())
   else none : Option ((D_Val × Bool) × Unit)) := (DF_eq X rfl _).trans (by kernel_rfl)
theorem spec_ValOk_eq (a0 : D_Val) : spec_ValOk a0 =
  (spec_ValOk_L1700000 a0.1 a0.2.1 a0.2.2.1 a0.2.2.2 : Option (Bool × Unit)) := (DF_eq X rfl _).trans (by kernel_rfl)
theorem spec_ValOk_L0_eq (x3 : Int) (b0_0 : Int) (b0_1 : Int) (b0_2 : ByteArray) (b0_3 : (List ByteArray)) : spec_ValOk_L0 x3 b0_0 b0_1 b0_2 b0_3 =
  (spec_ValOk_L1700008 x3 (decide (x3 < (List.length b0_3 : Int))) b0_0 b0_1 b0_2 b0_3 : Option (Bool × Unit)) := (loopAt_mk X 135 0 [] _ _ _).trans (by kernel_rfl)
theorem spec_ValOk_L1700000_eq (b0_0 : Int) (b0_1 : Int) (b0_2 : ByteArray) (b0_3 : (List ByteArray)) : spec_ValOk_L1700000 b0_0 b0_1 b0_2 b0_3 =
  ((spec_l01In b0_0 1 4).bind fun r6 =>
  bif (!r6.1)
  then spec_ValOk_L1700001 true b0_0 b0_1 b0_2 b0_3
  else (spec_l01In b0_1 0 100000).bind fun r7 =>
   spec_ValOk_L1700001 (!r7.1) b0_0 b0_1 b0_2 b0_3 : Option (Bool × Unit)) := (loopAt_mk X 135 1700000 [] _ _ _).trans (by kernel_rfl)
theorem spec_ValOk_L1700001_eq (x13 : Bool) (b0_0 : Int) (b0_1 : Int) (b0_2 : ByteArray) (b0_3 : (List ByteArray)) : spec_ValOk_L1700001 x13 b0_0 b0_1 b0_2 b0_3 =
  (bif x13
  then spec_ValOk_L1700002 false
  else spec_ValOk_L1700003 (b0_0 == 1) b0_0 b0_1 b0_2 b0_3 : Option (Bool × Unit)) := (loopAt_mk X 135 1700001 [] _ _ _).trans (by kernel_rfl)
theorem spec_ValOk_L1700002_eq (x2 : Bool) : spec_ValOk_L1700002 x2 =
  (some (x2, ()) : Option (Bool × Unit)) := (loopAt_mk X 135 1700002 [] _ _ _).trans (by kernel_rfl)
theorem spec_ValOk_L1700003_eq (x16 : Bool) (b0_0 : Int) (b0_1 : Int) (b0_2 : ByteArray) (b0_3 : (List ByteArray)) : spec_ValOk_L1700003 x16 b0_0 b0_1 b0_2 b0_3 =
  (bif x16
  then bif (decide ((ByteArray.size b0_2 : Int) ≤ 60))
   then spec_ValOk_L1700004 ((List.length b0_3 : Int) == 0)
   else spec_ValOk_L1700004 false
  else bif (!((ByteArray.toList b0_2) == (ByteArray.toList ByteArray.empty)))
   then spec_ValOk_L1700005 true b0_0 b0_1 b0_2 b0_3
   else (spec_l01In (List.length b0_3 : Int) 1 24).bind fun r7 =>
    bif (!r7.1)
    then spec_ValOk_L1700005 true b0_0 b0_1 b0_2 b0_3
    else bif (b0_0 == 3)
     then spec_ValOk_L1700005 ((Int.tmod (List.length b0_3 : Int) 2) == 1) b0_0 b0_1 b0_2 b0_3
     else spec_ValOk_L1700005 false b0_0 b0_1 b0_2 b0_3 : Option (Bool × Unit)) := (loopAt_mk X 135 1700003 [] _ _ _).trans (by kernel_rfl)
theorem spec_ValOk_L1700004_eq (x2 : Bool) : spec_ValOk_L1700004 x2 =
  (some (x2, ()) : Option (Bool × Unit)) := (loopAt_mk X 135 1700004 [] _ _ _).trans (by kernel_rfl)
theorem spec_ValOk_L1700005_eq (x48 : Bool) (b0_0 : Int) (b0_1 : Int) (b0_2 : ByteArray) (b0_3 : (List ByteArray)) : spec_ValOk_L1700005 x48 b0_0 b0_1 b0_2 b0_3 =
  (bif x48
  then spec_ValOk_L1700006 false
  else spec_ValOk_L1700007 0 b0_0 b0_1 b0_2 b0_3 : Option (Bool × Unit)) := (loopAt_mk X 135 1700005 [] _ _ _).trans (by kernel_rfl)
theorem spec_ValOk_L1700006_eq (x2 : Bool) : spec_ValOk_L1700006 x2 =
  (some (x2, ()) : Option (Bool × Unit)) := (loopAt_mk X 135 1700006 [] _ _ _).trans (by kernel_rfl)
theorem spec_ValOk_L1700007_eq (x3 : Int) (b0_0 : Int) (b0_1 : Int) (b0_2 : ByteArray) (b0_3 : (List ByteArray)) : spec_ValOk_L1700007 x3 b0_0 b0_1 b0_2 b0_3 =
  (spec_ValOk_L0 x3 b0_0 b0_1 b0_2 b0_3 : Option (Bool × Unit)) := (loopAt_mk X 135 1700007 [] _ _ _).trans (by kernel_rfl)
theorem spec_ValOk_L1700008_eq (x3 : Int) (x53 : Bool) (b0_0 : Int) (b0_1 : Int) (b0_2 : ByteArray) (b0_3 : (List ByteArray)) : spec_ValOk_L1700008 x3 x53 b0_0 b0_1 b0_2 b0_3 =
  (bif x53
  then bif ((decide (0 ≤ x3)) && (decide (x3 < (List.length b0_3 : Int))))
   then spec_ValOk_L1700010 x3 (decide ((ByteArray.size (List.getD b0_3 (Int.toNat x3) ByteArray.empty) : Int) > 60)) b0_0 b0_1 b0_2 b0_3
   else none
  else spec_ValOk_L1700014 true : Option (Bool × Unit)) := (loopAt_mk X 135 1700008 [0] _ _ _).trans (by kernel_rfl)
theorem spec_ValOk_L1700010_eq (x3 : Int) (x62 : Bool) (b0_0 : Int) (b0_1 : Int) (b0_2 : ByteArray) (b0_3 : (List ByteArray)) : spec_ValOk_L1700010 x3 x62 b0_0 b0_1 b0_2 b0_3 =
  (bif x62
  then spec_ValOk_L1700011 false
  else bif (b0_0 == 4)
   then bif (decide (x3 > 0))
    then bif ((decide (0 ≤ (w64 (x3 - 1)))) && (decide ((w64 (x3 - 1)) < (List.length b0_3 : Int))))
     then bif ((decide (0 ≤ x3)) && (decide (x3 < (List.length b0_3 : Int))))
      then bif (!(Op.bytesLess (ByteArray.toList (List.getD b0_3 (Int.toNat (w64 (x3 - 1))) ByteArray.empty)) (ByteArray.toList (List.getD b0_3 (Int.toNat x3) ByteArray.empty))))
       then spec_ValOk_L1700012 x3 true b0_0 b0_1 b0_2 b0_3
       else bif (b0_0 == 3)
        then bif (decide (x3 > 1))
         then bif ((Int.tmod x3 2) == 0)
          then bif ((decide (0 ≤ (w64 (x3 - 2)))) && (decide ((w64 (x3 - 2)) < (List.length b0_3 : Int))))
           then bif ((decide (0 ≤ x3)) && (decide (x3 < (List.length b0_3 : Int))))
            then spec_ValOk_L1700012 x3 (!(Op.bytesLess (ByteArray.toList (List.getD b0_3 (Int.toNat (w64 (x3 - 2))) ByteArray.empty)) (ByteArray.toList (List.getD b0_3 (Int.toNat x3) ByteArray.empty)))) b0_0 b0_1 b0_2 b0_3
            else none
           else none
          else spec_ValOk_L1700012 x3 false b0_0 b0_1 b0_2 b0_3
         else spec_ValOk_L1700012 x3 false b0_0 b0_1 b0_2 b0_3
        else spec_ValOk_L1700012 x3 false b0_0 b0_1 b0_2 b0_3
      else none
     else none
    else bif (b0_0 == 3)
     then bif (decide (x3 > 1))
      then bif ((Int.tmod x3 2) == 0)
       then bif ((decide (0 ≤ (w64 (x3 - 2)))) && (decide ((w64 (x3 - 2)) < (List.length b0_3 : Int))))
        then bif ((decide (0 ≤ x3)) && (decide (x3 < (List.length b0_3 : Int))))
         then spec_ValOk_L1700012 x3 (!(Op.bytesLess (ByteArray.toList (List.getD b0_3 (Int.toNat (w64 (x3 - 2))) ByteArray.empty)) (ByteArray.toList (List.getD b0_3 (Int.toNat x3) ByteArray.empty)))) b0_0 b0_1 b0_2 b0_3
         else none
        else none
       else spec_ValOk_L1700012 x3 false b0_0 b0_1 b0_2 b0_3
      else spec_ValOk_L1700012 x3 false b0_0 b0_1 b0_2 b0_3
     else spec_ValOk_L1700012 x3 false b0_0 b0_1 b0_2 b0_3
   else bif (b0_0 == 3)
    then bif (decide (x3 > 1))
     then bif ((Int.tmod x3 2) == 0)
      then bif ((decide (0 ≤ (w64 (x3 - 2)))) && (decide ((w64 (x3 - 2)) < (List.length b0_3 : Int))))
       then bif ((decide (0 ≤ x3)) && (decide (x3 < (List.length b0_3 : Int))))
        then spec_ValOk_L1700012 x3 (!(Op.bytesLess (ByteArray.toList (List.getD b0_3 (Int.toNat (w64 (x3 - 2))) ByteArray.empty)) (ByteArray.toList (List.getD b0_3 (Int.toNat x3) ByteArray.empty)))) b0_0 b0_1 b0_2 b0_3
        else none
       else none
      else spec_ValOk_L1700012 x3 false b0_0 b0_1 b0_2 b0_3
     else spec_ValOk_L1700012 x3 false b0_0 b0_1 b0_2 b0_3
    else spec_ValOk_L1700012 x3 false b0_0 b0_1 b0_2 b0_3 : Option (Bool × Unit)) := (loopAt_mk X 135 1700010 [0] _ _ _).trans (by kernel_rfl)
theorem spec_ValOk_L1700011_eq (x2 : Bool) : spec_ValOk_L1700011 x2 =
  (some (x2, ()) : Option (Bool × Unit)) := (loopAt_mk X 135 1700011 [0] _ _ _).trans (by kernel_rfl)
theorem spec_ValOk_L1700012_eq (x3 : Int) (x111 : Bool) (b0_0 : Int) (b0_1 : Int) (b0_2 : ByteArray) (b0_3 : (List ByteArray)) : spec_ValOk_L1700012 x3 x111 b0_0 b0_1 b0_2 b0_3 =
  (bif x111
  then spec_ValOk_L1700013 false
  else spec_ValOk_L0 (w64 (x3 + 1)) b0_0 b0_1 b0_2 b0_3 : Option (Bool × Unit)) := (loopAt_mk X 135 1700012 [0] _ _ _).trans (by kernel_rfl)
theorem spec_ValOk_L1700013_eq (x2 : Bool) : spec_ValOk_L1700013 x2 =
  (some (x2, ()) : Option (Bool × Unit)) := (loopAt_mk X 135 1700013 [0] _ _ _).trans (by kernel_rfl)
theorem spec_ValOk_L1700014_eq (x2 : Bool) : spec_ValOk_L1700014 x2 =
  (some (x2, ()) : Option (Bool × Unit)) := (loopAt_mk X 135 1700014 [] _ _ _).trans (by kernel_rfl)
theorem spec_Commands_eq : spec_Commands =
  (some ([c_PING, c_ECHO, c_GET, c_SET, c_SETNX, c_GETSET, c_APPEND, c_STRLEN, c_INCR, c_DECR, c_INCRBY, c_DECRBY, c_MGET, c_MSET, c_DEL, c_EXISTS, c_TYPE, c_EXPIRE, c_TTL, c_PERSIST, c_KEYS, c_DBSIZE, c_FLUSHALL, c_LPUSH, c_RPUSH, c_LPOP, c_RPOP, c_LLEN, c_LRANGE, c_LINDEX, c_HSET, c_HGET, c_HDEL, c_HLEN, c_HGETALL, c_HKEYS, c_SADD, c_SREM, c_SISMEMBER, c_SCARD, c_SMEMBERS], ()) : Option ((List ByteArray) × Unit)) := (DF_eq X rfl _).trans (by kernel_rfl)
theorem impl_keyOk_eq (a0 : ByteArray) : impl_keyOk a0 =
  ((impl_within (ByteArray.size a0 : Int) 1 20).bind fun r3 =>
  some (r3.1, ()) : Option (Bool × Unit)) := (DF_eq X rfl _).trans (by kernel_rfl)
theorem impl_ValOk_eq (a0 : D_Val) : impl_ValOk a0 =
  ((impl_within a0.2.1 0 100000).bind fun r3 =>
  bif (!r3.1)
  then some (false, ())
  else bif (a0.1 == 1)
   then bif (decide ((ByteArray.size a0.2.2.1 : Int) ≤ 60))
    then some (((List.length a0.2.2.2 : Int) == 0), ())
    else some (false, ())
   else bif (a0.1 == 2)
    then bif ((ByteArray.toList a0.2.2.1) == (ByteArray.toList ByteArray.empty))
     then (impl_itemsOk a0.1 a0.2.2.2).bind fun r4 =>
      some (r4.1, ())
     else some (false, ())
    else bif (a0.1 == 3)
     then bif ((ByteArray.toList a0.2.2.1) == (ByteArray.toList ByteArray.empty))
      then (impl_itemsOk a0.1 a0.2.2.2).bind fun r4 =>
       some (r4.1, ())
      else some (false, ())
     else bif (a0.1 == 4)
      then bif ((ByteArray.toList a0.2.2.1) == (ByteArray.toList ByteArray.empty))
       then (impl_itemsOk a0.1 a0.2.2.2).bind fun r4 =>
        some (r4.1, ())
       else some (false, ())
      else some (false, ()) : Option (Bool × Unit)) := (DF_eq X rfl _).trans (by kernel_rfl)
theorem impl_copyVal_eq (a0 : D_Val) : impl_copyVal a0 =
  (bif (lim (0 + (List.length a0.2.2.2)) 16)
  then some ((a0.1, (a0.2.1, (a0.2.2.1, ([] ++ a0.2.2.2)))), ())
  else none : Option (D_Val × Unit)) := (DF_eq X rfl _).trans (by kernel_rfl)
theorem spec_l01Figure_eq (a0 : Int) : spec_l01Figure a0 =
  (bif (decide (a0 < 10))
  then some ((Go.IntKind.u8.wrap (w64 (48 + a0))), ())
  else some ((Go.IntKind.u8.wrap (w64 ((w64 (97 + a0)) - 10))), ()) : Option (Int × Unit)) := (DF_eq X rfl _).trans (by kernel_rfl)
theorem cmp_Less_string__eq (a0 : ByteArray) (a1 : ByteArray) : cmp_Less_string_ a0 a1 =
  ((cmp_isNaN_string_ a0).bind fun r4 =>
  bif r4.1
  then (cmp_isNaN_string_ a1).bind fun r5 =>
   bif (!r5.1)
   then some (true, ())
   else some ((Op.bytesLess (ByteArray.toList a0) (ByteArray.toList a1)), ())
  else some ((Op.bytesLess (ByteArray.toList a0) (ByteArray.toList a1)), ()) : Option (Bool × Unit)) := (DF_eq X rfl _).trans (by kernel_rfl)
theorem slices_isNaN_string__eq (a0 : ByteArray) : slices_isNaN_string_ a0 =
  (some ((!((ByteArray.toList a0) == (ByteArray.toList a0))), ()) : Option (Bool × Unit)) := (DF_eq X rfl _).trans (by kernel_rfl)
theorem slices_BinarySearchFunc___loop_example_g00124_impl_Entry_loop_example_g00124_impl_Entry_string__eq (a0 : (List D_Entry)) (a1 : ByteArray) (a2 : Unit) : slices_BinarySearchFunc___loop_example_g00124_impl_Entry_loop_example_g00124_impl_Entry_string_ a0 a1 a2 =
  (slices_BinarySearchFunc___loop_example_g00124_impl_Entry_loop_example_g00124_impl_Entry_string__L0 a0 a1 (List.length a0 : Int) 0 (List.length a0 : Int) : Option ((Int × Bool) × ((Unit) × Unit))) := (DF_eq X rfl _).trans (by kernel_rfl)
theorem slices_BinarySearchFunc___loop_example_g00124_impl_Entry_loop_example_g00124_impl_Entry_string__L0_eq (x0 : (List D_Entry)) (x1 : ByteArray) (x8 : Int) (x9 : Int) (x10 : Int) : slices_BinarySearchFunc___loop_example_g00124_impl_Entry_loop_example_g00124_impl_Entry_string__L0 x0 x1 x8 x9 x10 =
  (bif (decide (x9 < x10))
  then bif ((decide (0 ≤ (w64 (shrI Go.IntKind.u64 (Go.IntKind.u64.wrap (w64 (x9 + x10))) 1)))) && (decide ((w64 (shrI Go.IntKind.u64 (Go.IntKind.u64.wrap (w64 (x9 + x10))) 1)) < (List.length x0 : Int))))
   then (__loop_example_g00124_impl_desk__put_1 ((List.getD x0 (Int.toNat (w64 (shrI Go.IntKind.u64 (Go.IntKind.u64.wrap (w64 (x9 + x10))) 1))) (ByteArray.empty, (0, (0, (ByteArray.empty, []))))).1, (((List.getD x0 (Int.toNat (w64 (shrI Go.IntKind.u64 (Go.IntKind.u64.wrap (w64 (x9 + x10))) 1))) (ByteArray.empty, (0, (0, (ByteArray.empty, []))))).2).1, ((((List.getD x0 (Int.toNat (w64 (shrI Go.IntKind.u64 (Go.IntKind.u64.wrap (w64 (x9 + x10))) 1))) (ByteArray.empty, (0, (0, (ByteArray.empty, []))))).2).2).1, ((((List.getD x0 (Int.toNat (w64 (shrI Go.IntKind.u64 (Go.IntKind.u64.wrap (w64 (x9 + x10))) 1))) (ByteArray.empty, (0, (0, (ByteArray.empty, []))))).2).2).2)))) x1).bind fun r7 =>
    bif (decide (r7.1 < 0))
    then slices_BinarySearchFunc___loop_example_g00124_impl_Entry_loop_example_g00124_impl_Entry_string__L0 x0 x1 x8 (w64 ((w64 (shrI Go.IntKind.u64 (Go.IntKind.u64.wrap (w64 (x9 + x10))) 1)) + 1)) x10
    else slices_BinarySearchFunc___loop_example_g00124_impl_Entry_loop_example_g00124_impl_Entry_string__L0 x0 x1 x8 x9 (w64 (shrI Go.IntKind.u64 (Go.IntKind.u64.wrap (w64 (x9 + x10))) 1))
   else none
  else bif (decide (x9 < x8))
   then bif ((decide (0 ≤ x9)) && (decide (x9 < (List.length x0 : Int))))
    then (__loop_example_g00124_impl_desk__put_1 ((List.getD x0 (Int.toNat x9) (ByteArray.empty, (0, (0, (ByteArray.empty, []))))).1, (((List.getD x0 (Int.toNat x9) (ByteArray.empty, (0, (0, (ByteArray.empty, []))))).2).1, ((((List.getD x0 (Int.toNat x9) (ByteArray.empty, (0, (0, (ByteArray.empty, []))))).2).2).1, ((((List.getD x0 (Int.toNat x9) (ByteArray.empty, (0, (0, (ByteArray.empty, []))))).2).2).2)))) x1).bind fun r7 =>
     some ((x9, (r7.1 == 0)), ((), ()))
    else none
   else some ((x9, false), ((), ())) : Option ((Int × Bool) × ((Unit) × Unit))) := (loopAt_mk X 154 0 [] _ _ _).trans (by kernel_rfl)
theorem __loop_example_g00124_impl_desk__put_1_eq (a0 : D_Entry) (a1 : ByteArray) : __loop_example_g00124_impl_desk__put_1 a0 a1 =
  ((strings_Compare a0.1 a1).bind fun r4 =>
  some (r4.1, ()) : Option (Int × Unit)) := (DF_eq X rfl _).trans (by kernel_rfl)
theorem slices_IndexFunc___string_string__eq (a0 : (List ByteArray)) (a1 : (List ByteArray) × Unit) : slices_IndexFunc___string_string_ a0 a1 =
  (slices_IndexFunc___string_string__L0 a0 (List.length a0 : Int) 0 a1.1 : Option (Int × ((Unit) × Unit))) := (DF_eq X rfl _).trans (by kernel_rfl)
theorem slices_IndexFunc___string_string__L0_eq (x0 : (List ByteArray)) (x7 : Int) (x8 : Int) (b3000064_0 : (List ByteArray)) : slices_IndexFunc___string_string__L0 x0 x7 x8 b3000064_0 =
  (bif (decide (x8 < x7))
  then bif ((decide (0 ≤ x8)) && (decide (x8 < (List.length x0 : Int))))
   then (__loop_example_g00124_impl_desk__set_1 (List.getD x0 (Int.toNat x8) ByteArray.empty) b3000064_0).bind fun r6 =>
    bif r6.1
    then some (x8, ((), ()))
    else slices_IndexFunc___string_string__L0 x0 x7 (w64 (x8 + 1)) b3000064_0
   else none
  else some ((-1), ((), ())) : Option (Int × ((Unit) × Unit))) := (loopAt_mk X 158 0 [] _ _ _).trans (by kernel_rfl)
theorem slices_Index___string_string__eq (a0 : (List ByteArray)) (a1 : ByteArray) : slices_Index___string_string_ a0 a1 =
  (slices_Index___string_string__L0 a0 a1 (List.length a0 : Int) 0 : Option (Int × Unit)) := (DF_eq X rfl _).trans (by kernel_rfl)
theorem slices_Index___string_string__L0_eq (x0 : (List ByteArray)) (x1 : ByteArray) (x7 : Int) (x8 : Int) : slices_Index___string_string__L0 x0 x1 x7 x8 =
  (bif (decide (x8 < x7))
  then bif ((decide (0 ≤ x8)) && (decide (x8 < (List.length x0 : Int))))
   then bif ((ByteArray.toList x1) == (ByteArray.toList (List.getD x0 (Int.toNat x8) ByteArray.empty)))
    then some (x8, ())
    else slices_Index___string_string__L0 x0 x1 x7 (w64 (x8 + 1))
   else none
  else some ((-1), ()) : Option (Int × Unit)) := (loopAt_mk X 159 0 [] _ _ _).trans (by kernel_rfl)
theorem __loop_example_g00124_impl_desk__drop_eq (a0 : D_desk) (a1 : ByteArray) : __loop_example_g00124_impl_desk__drop a0 a1 =
  ((slices_DeleteFunc_Entry_drop a0.1 (a1, ())).bind fun r4 =>
  some ((decide ((List.length r4.1 : Int) < (List.length a0.1 : Int))), ((r4.1, a0.2), ())) : Option (Bool × (D_desk × Unit))) := (DF_eq X rfl _).trans (by kernel_rfl)
theorem impl_ReadInt_eq (a0 : ByteArray) : impl_ReadInt a0 =
  ((strconv_Atoi a0).bind fun r3 =>
  bif r3.1.2
  then some ((0, false), ())
  else (impl_Decimal r3.1.1).bind fun r4 =>
   bif (!((ByteArray.toList r4.1) == (ByteArray.toList a0)))
   then some ((0, false), ())
   else (impl_within r3.1.1 (-1000000000) 1000000000).bind fun r5 =>
    bif (!r5.1)
    then some ((0, false), ())
    else some ((r3.1.1, true), ()) : Option ((Int × Bool) × Unit)) := (DF_eq X rfl _).trans (by kernel_rfl)
theorem impl_Find_1_eq (a0 : D_Entry) (a1 : ByteArray) : impl_Find_1 a0 a1 =
  (some (((ByteArray.toList a0.1) == (ByteArray.toList a1)), ()) : Option (Bool × Unit)) := (DF_eq X rfl _).trans (by kernel_rfl)
theorem impl_itemsOk_eq (a0 : Int) (a1 : (List ByteArray)) : impl_itemsOk a0 a1 =
  (bif (a0 == 2)
  then impl_itemsOk_L1 a1 0 a1 (List.length a1 : Int) 0
  else bif (a0 == 3)
   then bif ((Int.tmod (List.length a1 : Int) 2) != 0)
    then some (false, ())
    else impl_itemsOk_L1 a1 2 a1 (List.length a1 : Int) 0
   else impl_itemsOk_L1 a1 1 a1 (List.length a1 : Int) 0 : Option (Bool × Unit)) := (DF_eq X rfl _).trans (by kernel_rfl)
theorem impl_itemsOk_L1_eq (x1 : (List ByteArray)) (x5 : Int) (x17 : (List ByteArray)) (x18 : Int) (x19 : Int) : impl_itemsOk_L1 x1 x5 x17 x18 x19 =
  (bif (decide (x19 < x18))
  then bif ((decide (0 ≤ x19)) && (decide (x19 < (List.length x17 : Int))))
   then bif (decide ((ByteArray.size (List.getD x17 (Int.toNat x19) ByteArray.empty) : Int) > 60))
    then some (false, ())
    else bif (decide (x5 > 0))
     then bif (x5 != 0)
      then bif ((Int.tmod x19 x5) == 0)
       then bif (decide (x19 ≥ x5))
        then bif ((decide (0 ≤ (w64 (x19 - x5)))) && (decide ((w64 (x19 - x5)) < (List.length x1 : Int))))
         then bif (!(Op.bytesLess (ByteArray.toList (List.getD x1 (Int.toNat (w64 (x19 - x5))) ByteArray.empty)) (ByteArray.toList (List.getD x17 (Int.toNat x19) ByteArray.empty))))
          then some (false, ())
          else impl_itemsOk_L1 x1 x5 x17 x18 (w64 (x19 + 1))
         else none
        else impl_itemsOk_L1 x1 x5 x17 x18 (w64 (x19 + 1))
       else impl_itemsOk_L1 x1 x5 x17 x18 (w64 (x19 + 1))
      else none
     else impl_itemsOk_L1 x1 x5 x17 x18 (w64 (x19 + 1))
   else none
  else (impl_within (List.length x1 : Int) 1 24).bind fun r7 =>
   some (r7.1, ()) : Option (Bool × Unit)) := (loopAt_mk X 165 1 [] _ _ _).trans (by kernel_rfl)
theorem cmp_isNaN_string__eq (a0 : ByteArray) : cmp_isNaN_string_ a0 =
  (some ((!((ByteArray.toList a0) == (ByteArray.toList a0))), ()) : Option (Bool × Unit)) := (DF_eq X rfl _).trans (by kernel_rfl)
theorem __loop_example_g00124_impl_desk__drop_1_eq (a0 : D_Entry) (a1 : ByteArray) : __loop_example_g00124_impl_desk__drop_1 a0 a1 =
  (some (((ByteArray.toList a0.1) == (ByteArray.toList a1)), ()) : Option (Bool × Unit)) := (DF_eq X rfl _).trans (by kernel_rfl)
theorem slices_IndexFunc_Entry_Find_eq (a0 : (List D_Entry)) (a1 : ByteArray × Unit) : slices_IndexFunc_Entry_Find a0 a1 =
  (slices_IndexFunc_Entry_Find_L0 a0 (List.length a0 : Int) 0 a1.1 : Option (Int × ((Unit) × Unit))) := (DF_eq X rfl _).trans (by kernel_rfl)
theorem slices_IndexFunc_Entry_Find_L0_eq (x0 : (List D_Entry)) (x7 : Int) (x8 : Int) (b3000064_0 : ByteArray) : slices_IndexFunc_Entry_Find_L0 x0 x7 x8 b3000064_0 =
  (bif (decide (x8 < x7))
  then bif ((decide (0 ≤ x8)) && (decide (x8 < (List.length x0 : Int))))
   then (impl_Find_1 ((List.getD x0 (Int.toNat x8) (ByteArray.empty, (0, (0, (ByteArray.empty, []))))).1, (((List.getD x0 (Int.toNat x8) (ByteArray.empty, (0, (0, (ByteArray.empty, []))))).2).1, ((((List.getD x0 (Int.toNat x8) (ByteArray.empty, (0, (0, (ByteArray.empty, []))))).2).2).1, ((((List.getD x0 (Int.toNat x8) (ByteArray.empty, (0, (0, (ByteArray.empty, []))))).2).2).2)))) b3000064_0).bind fun r6 =>
    bif r6.1
    then some (x8, ((), ()))
    else slices_IndexFunc_Entry_Find_L0 x0 x7 (w64 (x8 + 1)) b3000064_0
   else none
  else some ((-1), ((), ())) : Option (Int × ((Unit) × Unit))) := (loopAt_mk X 1001 0 [] _ _ _).trans (by kernel_rfl)
theorem slices_IndexFunc_Entry_drop_eq (a0 : (List D_Entry)) (a1 : ByteArray × Unit) : slices_IndexFunc_Entry_drop a0 a1 =
  (slices_IndexFunc_Entry_drop_L0 a0 (List.length a0 : Int) 0 a1.1 : Option (Int × ((Unit) × Unit))) := (DF_eq X rfl _).trans (by kernel_rfl)
theorem slices_IndexFunc_Entry_drop_L0_eq (x0 : (List D_Entry)) (x7 : Int) (x8 : Int) (b3000064_0 : ByteArray) : slices_IndexFunc_Entry_drop_L0 x0 x7 x8 b3000064_0 =
  (bif (decide (x8 < x7))
  then bif ((decide (0 ≤ x8)) && (decide (x8 < (List.length x0 : Int))))
   then (__loop_example_g00124_impl_desk__drop_1 ((List.getD x0 (Int.toNat x8) (ByteArray.empty, (0, (0, (ByteArray.empty, []))))).1, (((List.getD x0 (Int.toNat x8) (ByteArray.empty, (0, (0, (ByteArray.empty, []))))).2).1, ((((List.getD x0 (Int.toNat x8) (ByteArray.empty, (0, (0, (ByteArray.empty, []))))).2).2).1, ((((List.getD x0 (Int.toNat x8) (ByteArray.empty, (0, (0, (ByteArray.empty, []))))).2).2).2)))) b3000064_0).bind fun r6 =>
    bif r6.1
    then some (x8, ((), ()))
    else slices_IndexFunc_Entry_drop_L0 x0 x7 (w64 (x8 + 1)) b3000064_0
   else none
  else some ((-1), ((), ())) : Option (Int × ((Unit) × Unit))) := (loopAt_mk X 1003 0 [] _ _ _).trans (by kernel_rfl)
theorem slices_DeleteFunc_Entry_drop_eq (a0 : (List D_Entry)) (a1 : ByteArray × Unit) : slices_DeleteFunc_Entry_drop a0 a1 =
  ((slices_IndexFunc_Entry_drop a0 (a1.1, ())).bind fun r4 =>
  bif (r4.1 == (-1))
  then some (a0, ((), ()))
  else slices_DeleteFunc_Entry_drop_L0 a0 r4.1 (w64 (r4.1 + 1)) a1.1 : Option ((List D_Entry) × ((Unit) × Unit))) := (DF_eq X rfl _).trans (by kernel_rfl)
theorem slices_DeleteFunc_Entry_drop_L0_eq (x0 : (List D_Entry)) (x5 : Int) (x6 : Int) (b3000064_0 : ByteArray) : slices_DeleteFunc_Entry_drop_L0 x0 x5 x6 b3000064_0 =
  (bif (decide (x6 < (List.length x0 : Int)))
  then bif ((decide (0 ≤ x6)) && (decide (x6 < (List.length x0 : Int))))
   then (__loop_example_g00124_impl_desk__drop_1 ((List.getD x0 (Int.toNat x6) (ByteArray.empty, (0, (0, (ByteArray.empty, []))))).1, (((List.getD x0 (Int.toNat x6) (ByteArray.empty, (0, (0, (ByteArray.empty, []))))).2).1, ((((List.getD x0 (Int.toNat x6) (ByteArray.empty, (0, (0, (ByteArray.empty, []))))).2).2).1, ((((List.getD x0 (Int.toNat x6) (ByteArray.empty, (0, (0, (ByteArray.empty, []))))).2).2).2)))) b3000064_0).bind fun r6 =>
    bif (!r6.1)
    then bif ((decide (0 ≤ x5)) && (decide (x5 < (List.length x0 : Int))))
     then slices_DeleteFunc_Entry_drop_L0 (List.set x0 (Int.toNat x5) ((List.getD x0 (Int.toNat x6) (ByteArray.empty, (0, (0, (ByteArray.empty, []))))).1, (((List.getD x0 (Int.toNat x6) (ByteArray.empty, (0, (0, (ByteArray.empty, []))))).2).1, ((((List.getD x0 (Int.toNat x6) (ByteArray.empty, (0, (0, (ByteArray.empty, []))))).2).2).1, (((((List.getD x0 (Int.toNat x6) (ByteArray.empty, (0, (0, (ByteArray.empty, []))))).2).2).2).1, ((((List.getD x0 (Int.toNat x6) (ByteArray.empty, (0, (0, (ByteArray.empty, []))))).2).2).2).2))))) (w64 (x5 + 1)) (w64 (x6 + 1)) b3000064_0
     else none
    else slices_DeleteFunc_Entry_drop_L0 x0 x5 (w64 (x6 + 1)) b3000064_0
   else none
  else bif ((decide (0 ≤ x5)) && ((decide (x5 ≤ (List.length x0 : Int))) && (decide ((List.length x0 : Int) ≤ (List.length x0 : Int)))))
   then bif ((decide ((0 : Int) ≤ 0)) && ((decide (0 ≤ x5)) && (decide (x5 ≤ (List.length (((List.take (Int.toNat x5) x0) ++ (List.replicate ((Int.toNat (List.length x0 : Int)) - (Int.toNat x5)) (ByteArray.empty, (0, (0, (ByteArray.empty, [])))))) ++ (List.drop (Int.toNat (List.length x0 : Int)) x0)) : Int)))))
    then some ((List.take ((Int.toNat x5) - (Int.toNat 0)) (List.drop (Int.toNat 0) (((List.take (Int.toNat x5) x0) ++ (List.replicate ((Int.toNat (List.length x0 : Int)) - (Int.toNat x5)) (ByteArray.empty, (0, (0, (ByteArray.empty, [])))))) ++ (List.drop (Int.toNat (List.length x0 : Int)) x0)))), ((), ()))
    else none
   else none : Option ((List D_Entry) × ((Unit) × Unit))) := (loopAt_mk X 1012 0 [] _ _ _).trans (by kernel_rfl)
end Go.Den.S
