/- EqD0: equations of the functions of this seat as the executor tells them, or plain facts about them. Conditions: none here. -/
import Derived.Test.YthfdlonnbkffnaaGreatDoorEqA
set_option linter.all false
set_option linter.unusedSimpArgs false
set_option linter.unusedVariables false
namespace Go.Den.S
open Go Go.Den Go.Proofs
set_option linter.unusedVariables false
theorem laws_FnExactOnKeys_eq (a0 : (List D_Entry)) (a1 : Int) (a2 : (List ByteArray)) : laws_FnExactOnKeys a0 a1 a2 =
  ((laws_szEntryS a0 1048576).bind fun r5 =>
  bif (decide (r5.1 < 0))
  then some (true, ())
  else (laws_szStringS a2 r5.1).bind fun r6 =>
   bif (decide (r6.1 < 0))
   then some (true, ())
   else (laws_toEntryS a0).bind fun r7 =>
    (laws_toStringS a2).bind fun r8 =>
    (spec_OnKeys r7.1 a1 r8.1).bind fun r9 =>
    (laws_toEntryS a0).bind fun r10 =>
    (laws_toStringS a2).bind fun r11 =>
    (impl_OnKeys r10.1 a1 r11.1).bind fun r12 =>
    (laws_eqEntryS r12.1.1 r9.1.1).bind fun r13 =>
    bif (!r13.1)
    then some (false, ())
    else bif (!((ByteArray.toList r12.1.2.1) == (ByteArray.toList r9.1.2.1)))
     then some (false, ())
     else bif (!(r12.1.2.2 == r9.1.2.2))
      then some (false, ())
      else (laws_toEntryS a0).bind fun r14 =>
       (laws_eqEntryS r10.1 r14.1).bind fun r15 =>
       bif (!r15.1)
       then some (false, ())
       else (laws_toStringS a2).bind fun r16 =>
        (laws_eqStringS r11.1 r16.1).bind fun r17 =>
        bif (!r17.1)
        then some (false, ())
        else (laws_markEntryS r10.1 1).bind fun r18 =>
         (laws_markStringS r11.1 r18.1).bind fun r19 =>
         bif (decide (r19.1 < 0))
         then some (false, ())
         else (laws_eqEntryS r12.1.1 r9.1.1).bind fun r20 =>
          bif (!r20.1)
          then some (false, ())
          else bif (!((ByteArray.toList r12.1.2.1) == (ByteArray.toList r9.1.2.1)))
           then some (false, ())
           else bif (!(r12.1.2.2 == r9.1.2.2))
            then some (false, ())
            else (laws_markEntryS r12.1.1 1).bind fun r21 =>
             (laws_heldEntryS r21.2.1 1).bind fun r22 =>
             bif (decide (r22.1 < 0))
             then some (false, ())
             else bif (r22.1 != r21.1)
              then some (false, ())
              else (laws_toEntryS a0).bind fun r23 =>
               (laws_toStringS a2).bind fun r24 =>
               (impl_OnKeys r23.1 a1 r24.1).bind fun r25 =>
               (laws_eqEntryS r25.1.1 r9.1.1).bind fun r26 =>
               bif (!r26.1)
               then some (false, ())
               else bif (!((ByteArray.toList r25.1.2.1) == (ByteArray.toList r9.1.2.1)))
                then some (false, ())
                else bif (!(r25.1.2.2 == r9.1.2.2))
                 then some (false, ())
                 else (laws_heldEntryS r21.2.1 1).bind fun r27 =>
                  bif (decide (r27.1 < 0))
                  then some (false, ())
                  else bif (r27.1 != r21.1)
                   then some (false, ())
                   else some (true, ()) : Option (Bool × Unit)) := (DF_eq X rfl _).trans (by kernel_rfl)
theorem laws_szEntryS_eq (a0 : (List D_Entry)) (a1 : Int) : laws_szEntryS a0 a1 =
  (bif (decide ((w64 (a1 - (List.length a0 : Int))) < 0))
  then some ((-1), ())
  else laws_szEntryS_L0 a0 (w64 (a1 - (List.length a0 : Int))) 0 : Option (Int × Unit)) := (DF_eq X rfl _).trans (by kernel_rfl)
theorem laws_szEntryS_L0_eq (x0 : (List D_Entry)) (x1 : Int) (x5 : Int) : laws_szEntryS_L0 x0 x1 x5 =
  (bif (decide (x5 < (List.length x0 : Int)))
  then bif ((decide (0 ≤ x5)) && (decide (x5 < (List.length x0 : Int))))
   then (laws_szEntry ((List.getD x0 (Int.toNat x5) (ByteArray.empty, (0, (0, (ByteArray.empty, []))))).1, (((List.getD x0 (Int.toNat x5) (ByteArray.empty, (0, (0, (ByteArray.empty, []))))).2).1, ((((List.getD x0 (Int.toNat x5) (ByteArray.empty, (0, (0, (ByteArray.empty, []))))).2).2).1, ((((List.getD x0 (Int.toNat x5) (ByteArray.empty, (0, (0, (ByteArray.empty, []))))).2).2).2)))) x1).bind fun r5 =>
    bif (decide (r5.1 < 0))
    then some ((-1), ())
    else laws_szEntryS_L0 x0 r5.1 (w64 (x5 + 1))
   else none
  else some (x1, ()) : Option (Int × Unit)) := (loopAt_mk X 11 0 [] _ _ _).trans (by kernel_rfl)
theorem laws_szStringS_eq (a0 : (List ByteArray)) (a1 : Int) : laws_szStringS a0 a1 =
  (bif (decide ((w64 (a1 - (List.length a0 : Int))) < 0))
  then some ((-1), ())
  else laws_szStringS_L0 a0 (w64 (a1 - (List.length a0 : Int))) 0 : Option (Int × Unit)) := (DF_eq X rfl _).trans (by kernel_rfl)
theorem laws_szStringS_L0_eq (x0 : (List ByteArray)) (x1 : Int) (x5 : Int) : laws_szStringS_L0 x0 x1 x5 =
  (bif (decide (x5 < (List.length x0 : Int)))
  then bif ((decide (0 ≤ x5)) && (decide (x5 < (List.length x0 : Int))))
   then bif (decide ((w64 (x1 - (ByteArray.size (List.getD x0 (Int.toNat x5) ByteArray.empty) : Int))) < 0))
    then some ((-1), ())
    else laws_szStringS_L0 x0 (w64 (x1 - (ByteArray.size (List.getD x0 (Int.toNat x5) ByteArray.empty) : Int))) (w64 (x5 + 1))
   else none
  else some (x1, ()) : Option (Int × Unit)) := (loopAt_mk X 12 0 [] _ _ _).trans (by kernel_rfl)
theorem laws_toEntryS_eq (a0 : (List D_Entry)) : laws_toEntryS a0 =
  (bif ((decide (0 ≤ (List.length a0 : Int))) && ((decide ((List.length a0 : Int) ≤ (List.length a0 : Int))) && (lim (Int.toNat (List.length a0 : Int)) 72)))
  then laws_toEntryS_L0 a0 (List.replicate (Int.toNat (List.length a0 : Int)) (ByteArray.empty, (0, (0, (ByteArray.empty, []))))) 0
  else none : Option ((List D_Entry) × Unit)) := (DF_eq X rfl _).trans (by kernel_rfl)
theorem laws_toEntryS_L0_eq (x0 : (List D_Entry)) (x3 : (List D_Entry)) (x4 : Int) : laws_toEntryS_L0 x0 x3 x4 =
  (bif (decide (x4 < (List.length x0 : Int)))
  then bif ((decide (0 ≤ x4)) && (decide (x4 < (List.length x0 : Int))))
   then (laws_toEntry ((List.getD x0 (Int.toNat x4) (ByteArray.empty, (0, (0, (ByteArray.empty, []))))).1, (((List.getD x0 (Int.toNat x4) (ByteArray.empty, (0, (0, (ByteArray.empty, []))))).2).1, ((((List.getD x0 (Int.toNat x4) (ByteArray.empty, (0, (0, (ByteArray.empty, []))))).2).2).1, ((((List.getD x0 (Int.toNat x4) (ByteArray.empty, (0, (0, (ByteArray.empty, []))))).2).2).2))))).bind fun r5 =>
    bif ((decide (0 ≤ x4)) && (decide (x4 < (List.length x3 : Int))))
    then laws_toEntryS_L0 x0 (List.set x3 (Int.toNat x4) (r5.1.1, (r5.1.2.1, (r5.1.2.2.1, (r5.1.2.2.2.1, r5.1.2.2.2.2))))) (w64 (x4 + 1))
    else none
   else none
  else some (x3, ()) : Option ((List D_Entry) × Unit)) := (loopAt_mk X 14 0 [] _ _ _).trans (by kernel_rfl)
theorem laws_toStringS_eq (a0 : (List ByteArray)) : laws_toStringS a0 =
  (bif ((decide (0 ≤ (List.length a0 : Int))) && ((decide ((List.length a0 : Int) ≤ (List.length a0 : Int))) && (lim (Int.toNat (List.length a0 : Int)) 16)))
  then laws_toStringS_L0 a0 (List.replicate (Int.toNat (List.length a0 : Int)) ByteArray.empty) 0
  else none : Option ((List ByteArray) × Unit)) := (DF_eq X rfl _).trans (by kernel_rfl)
theorem laws_toStringS_L0_eq (x0 : (List ByteArray)) (x3 : (List ByteArray)) (x4 : Int) : laws_toStringS_L0 x0 x3 x4 =
  (bif (decide (x4 < (List.length x0 : Int)))
  then bif ((decide (0 ≤ x4)) && (decide (x4 < (List.length x0 : Int))))
   then bif ((decide (0 ≤ x4)) && (decide (x4 < (List.length x3 : Int))))
    then laws_toStringS_L0 x0 (List.set x3 (Int.toNat x4) (List.getD x0 (Int.toNat x4) ByteArray.empty)) (w64 (x4 + 1))
    else none
   else none
  else some (x3, ()) : Option ((List ByteArray) × Unit)) := (loopAt_mk X 15 0 [] _ _ _).trans (by kernel_rfl)
theorem laws_eqEntryS_eq (a0 : (List D_Entry)) (a1 : (List D_Entry)) : laws_eqEntryS a0 a1 =
  (bif ((List.length a0 : Int) != (List.length a1 : Int))
  then some (false, ())
  else laws_eqEntryS_L0 a0 a1 0 : Option (Bool × Unit)) := (DF_eq X rfl _).trans (by kernel_rfl)
theorem laws_eqEntryS_L0_eq (x0 : (List D_Entry)) (x1 : (List D_Entry)) (x5 : Int) : laws_eqEntryS_L0 x0 x1 x5 =
  (bif (decide (x5 < (List.length x0 : Int)))
  then bif ((decide (0 ≤ x5)) && (decide (x5 < (List.length x0 : Int))))
   then bif ((decide (0 ≤ x5)) && (decide (x5 < (List.length x1 : Int))))
    then (laws_eqEntry ((List.getD x0 (Int.toNat x5) (ByteArray.empty, (0, (0, (ByteArray.empty, []))))).1, (((List.getD x0 (Int.toNat x5) (ByteArray.empty, (0, (0, (ByteArray.empty, []))))).2).1, ((((List.getD x0 (Int.toNat x5) (ByteArray.empty, (0, (0, (ByteArray.empty, []))))).2).2).1, ((((List.getD x0 (Int.toNat x5) (ByteArray.empty, (0, (0, (ByteArray.empty, []))))).2).2).2)))) ((List.getD x1 (Int.toNat x5) (ByteArray.empty, (0, (0, (ByteArray.empty, []))))).1, (((List.getD x1 (Int.toNat x5) (ByteArray.empty, (0, (0, (ByteArray.empty, []))))).2).1, ((((List.getD x1 (Int.toNat x5) (ByteArray.empty, (0, (0, (ByteArray.empty, []))))).2).2).1, ((((List.getD x1 (Int.toNat x5) (ByteArray.empty, (0, (0, (ByteArray.empty, []))))).2).2).2))))).bind fun r5 =>
     bif (!r5.1)
     then some (false, ())
     else laws_eqEntryS_L0 x0 x1 (w64 (x5 + 1))
    else none
   else none
  else some (true, ()) : Option (Bool × Unit)) := (loopAt_mk X 17 0 [] _ _ _).trans (by kernel_rfl)
theorem laws_eqStringS_eq (a0 : (List ByteArray)) (a1 : (List ByteArray)) : laws_eqStringS a0 a1 =
  (bif ((List.length a0 : Int) != (List.length a1 : Int))
  then some (false, ())
  else laws_eqStringS_L0 a0 a1 0 : Option (Bool × Unit)) := (DF_eq X rfl _).trans (by kernel_rfl)
theorem laws_eqStringS_L0_eq (x0 : (List ByteArray)) (x1 : (List ByteArray)) (x5 : Int) : laws_eqStringS_L0 x0 x1 x5 =
  (bif (decide (x5 < (List.length x0 : Int)))
  then bif ((decide (0 ≤ x5)) && (decide (x5 < (List.length x0 : Int))))
   then bif ((decide (0 ≤ x5)) && (decide (x5 < (List.length x1 : Int))))
    then bif (!((ByteArray.toList (List.getD x0 (Int.toNat x5) ByteArray.empty)) == (ByteArray.toList (List.getD x1 (Int.toNat x5) ByteArray.empty))))
     then some (false, ())
     else laws_eqStringS_L0 x0 x1 (w64 (x5 + 1))
    else none
   else none
  else some (true, ()) : Option (Bool × Unit)) := (loopAt_mk X 18 0 [] _ _ _).trans (by kernel_rfl)
theorem laws_markEntryS_eq (a0 : (List D_Entry)) (a1 : Int) : laws_markEntryS a0 a1 =
  (laws_markEntryS_L1700000 a1 a0 : Option (Int × ((List D_Entry) × Unit))) := (DF_eq X rfl _).trans (by kernel_rfl)
theorem laws_markEntryS_L0_eq (x1 : Int) (x5 : Int) (r3000000 : (List D_Entry)) : laws_markEntryS_L0 x1 x5 r3000000 =
  (laws_markEntryS_L1700002 x1 x5 (decide (x5 < (List.length r3000000 : Int))) r3000000 : Option (Int × ((List D_Entry) × Unit))) := (loopAt_mk X 19 0 [] _ _ _).trans (by kernel_rfl)
theorem laws_markEntryS_L1700000_eq (x1 : Int) (r3000000 : (List D_Entry)) : laws_markEntryS_L1700000 x1 r3000000 =
  (laws_markEntryS_L1700001 x1 0 r3000000 : Option (Int × ((List D_Entry) × Unit))) := (loopAt_mk X 19 1700000 [] _ _ _).trans (by kernel_rfl)
theorem laws_markEntryS_L1700001_eq (x1 : Int) (x5 : Int) (r3000000 : (List D_Entry)) : laws_markEntryS_L1700001 x1 x5 r3000000 =
  (laws_markEntryS_L0 x1 x5 r3000000 : Option (Int × ((List D_Entry) × Unit))) := (loopAt_mk X 19 1700001 [] _ _ _).trans (by kernel_rfl)
theorem laws_markEntryS_L1700002_eq (x1 : Int) (x5 : Int) (x9 : Bool) (r3000000 : (List D_Entry)) : laws_markEntryS_L1700002 x1 x5 x9 r3000000 =
  (bif x9
  then (laws_markText x1).bind fun r6 =>
   bif ((decide (0 ≤ x5)) && (decide (x5 < (List.length r3000000 : Int))))
   then laws_markEntryS_L1700004 x1 x5 (List.set r3000000 (Int.toNat x5) (r6.1, (List.getD r3000000 (Int.toNat x5) (ByteArray.empty, (0, (0, (ByteArray.empty, []))))).2))
   else none
  else laws_markEntryS_L1700013 x1 r3000000 : Option (Int × ((List D_Entry) × Unit))) := (loopAt_mk X 19 1700002 [0] _ _ _).trans (by kernel_rfl)
theorem laws_markEntryS_L1700004_eq (x1 : Int) (x5 : Int) (r3000000 : (List D_Entry)) : laws_markEntryS_L1700004 x1 x5 r3000000 =
  (laws_markEntryS_L1700005 (w64 (x1 + 1)) x5 r3000000 : Option (Int × ((List D_Entry) × Unit))) := (loopAt_mk X 19 1700004 [0] _ _ _).trans (by kernel_rfl)
theorem laws_markEntryS_L1700005_eq (x1 : Int) (x5 : Int) (r3000000 : (List D_Entry)) : laws_markEntryS_L1700005 x1 x5 r3000000 =
  (bif ((decide (0 ≤ x5)) && (decide (x5 < (List.length r3000000 : Int))))
  then laws_markEntryS_L1700006 x1 x5 (List.set r3000000 (Int.toNat x5) ((List.getD r3000000 (Int.toNat x5) (ByteArray.empty, (0, (0, (ByteArray.empty, []))))).1, (x1, ((List.getD r3000000 (Int.toNat x5) (ByteArray.empty, (0, (0, (ByteArray.empty, []))))).2).2)))
  else none : Option (Int × ((List D_Entry) × Unit))) := (loopAt_mk X 19 1700005 [0] _ _ _).trans (by kernel_rfl)
theorem laws_markEntryS_L1700006_eq (x1 : Int) (x5 : Int) (r3000000 : (List D_Entry)) : laws_markEntryS_L1700006 x1 x5 r3000000 =
  (laws_markEntryS_L1700007 (w64 (x1 + 1)) x5 r3000000 : Option (Int × ((List D_Entry) × Unit))) := (loopAt_mk X 19 1700006 [0] _ _ _).trans (by kernel_rfl)
theorem laws_markEntryS_L1700007_eq (x1 : Int) (x5 : Int) (r3000000 : (List D_Entry)) : laws_markEntryS_L1700007 x1 x5 r3000000 =
  (bif ((decide (0 ≤ x5)) && (decide (x5 < (List.length r3000000 : Int))))
  then laws_markEntryS_L1700008 x1 x5 (List.set r3000000 (Int.toNat x5) ((List.getD r3000000 (Int.toNat x5) (ByteArray.empty, (0, (0, (ByteArray.empty, []))))).1, (((List.getD r3000000 (Int.toNat x5) (ByteArray.empty, (0, (0, (ByteArray.empty, []))))).2).1, (x1, (((List.getD r3000000 (Int.toNat x5) (ByteArray.empty, (0, (0, (ByteArray.empty, []))))).2).2).2))))
  else none : Option (Int × ((List D_Entry) × Unit))) := (loopAt_mk X 19 1700007 [0] _ _ _).trans (by kernel_rfl)
theorem laws_markEntryS_L1700008_eq (x1 : Int) (x5 : Int) (r3000000 : (List D_Entry)) : laws_markEntryS_L1700008 x1 x5 r3000000 =
  (laws_markEntryS_L1700009 (w64 (x1 + 1)) x5 r3000000 : Option (Int × ((List D_Entry) × Unit))) := (loopAt_mk X 19 1700008 [0] _ _ _).trans (by kernel_rfl)
theorem laws_markEntryS_L1700009_eq (x1 : Int) (x5 : Int) (r3000000 : (List D_Entry)) : laws_markEntryS_L1700009 x1 x5 r3000000 =
  ((laws_markText x1).bind fun r5 =>
  bif ((decide (0 ≤ x5)) && (decide (x5 < (List.length r3000000 : Int))))
  then laws_markEntryS_L1700010 x1 x5 (List.set r3000000 (Int.toNat x5) ((List.getD r3000000 (Int.toNat x5) (ByteArray.empty, (0, (0, (ByteArray.empty, []))))).1, (((List.getD r3000000 (Int.toNat x5) (ByteArray.empty, (0, (0, (ByteArray.empty, []))))).2).1, ((((List.getD r3000000 (Int.toNat x5) (ByteArray.empty, (0, (0, (ByteArray.empty, []))))).2).2).1, (r5.1, ((((List.getD r3000000 (Int.toNat x5) (ByteArray.empty, (0, (0, (ByteArray.empty, []))))).2).2).2).2)))))
  else none : Option (Int × ((List D_Entry) × Unit))) := (loopAt_mk X 19 1700009 [0] _ _ _).trans (by kernel_rfl)
theorem laws_markEntryS_L1700010_eq (x1 : Int) (x5 : Int) (r3000000 : (List D_Entry)) : laws_markEntryS_L1700010 x1 x5 r3000000 =
  (laws_markEntryS_L1700011 (w64 (x1 + 1)) x5 r3000000 : Option (Int × ((List D_Entry) × Unit))) := (loopAt_mk X 19 1700010 [0] _ _ _).trans (by kernel_rfl)
theorem laws_markEntryS_L1700011_eq (x1 : Int) (x5 : Int) (r3000000 : (List D_Entry)) : laws_markEntryS_L1700011 x1 x5 r3000000 =
  (bif ((decide (0 ≤ x5)) && (decide (x5 < (List.length r3000000 : Int))))
  then (laws_markStringS (((((List.getD r3000000 (Int.toNat x5) (ByteArray.empty, (0, (0, (ByteArray.empty, []))))).2).2).2).2) x1).bind fun r5 =>
   laws_markEntryS_L0 r5.1 (w64 (x5 + 1)) (List.set r3000000 (Int.toNat x5) ((List.getD r3000000 (Int.toNat x5) (ByteArray.empty, (0, (0, (ByteArray.empty, []))))).1, (((List.getD r3000000 (Int.toNat x5) (ByteArray.empty, (0, (0, (ByteArray.empty, []))))).2).1, ((((List.getD r3000000 (Int.toNat x5) (ByteArray.empty, (0, (0, (ByteArray.empty, []))))).2).2).1, (((((List.getD r3000000 (Int.toNat x5) (ByteArray.empty, (0, (0, (ByteArray.empty, []))))).2).2).2).1, r5.2.1)))))
  else none : Option (Int × ((List D_Entry) × Unit))) := (loopAt_mk X 19 1700011 [0] _ _ _).trans (by kernel_rfl)
theorem laws_markEntryS_L1700013_eq (x4 : Int) (r3000000 : (List D_Entry)) : laws_markEntryS_L1700013 x4 r3000000 =
  (some (x4, (r3000000, ())) : Option (Int × ((List D_Entry) × Unit))) := (loopAt_mk X 19 1700013 [] _ _ _).trans (by kernel_rfl)
theorem laws_markStringS_eq (a0 : (List ByteArray)) (a1 : Int) : laws_markStringS a0 a1 =
  (laws_markStringS_L0 a1 0 a0 : Option (Int × ((List ByteArray) × Unit))) := (DF_eq X rfl _).trans (by kernel_rfl)
theorem laws_markStringS_L0_eq (x1 : Int) (x5 : Int) (r3000000 : (List ByteArray)) : laws_markStringS_L0 x1 x5 r3000000 =
  (bif (decide (x5 < (List.length r3000000 : Int)))
  then (laws_markText x1).bind fun r5 =>
   bif ((decide (0 ≤ x5)) && (decide (x5 < (List.length r3000000 : Int))))
   then laws_markStringS_L0 (w64 (x1 + 1)) (w64 (x5 + 1)) (List.set r3000000 (Int.toNat x5) r5.1)
   else none
  else some (x1, (r3000000, ())) : Option (Int × ((List ByteArray) × Unit))) := (loopAt_mk X 20 0 [] _ _ _).trans (by kernel_rfl)
theorem laws_heldEntryS_eq (a0 : (List D_Entry)) (a1 : Int) : laws_heldEntryS a0 a1 =
  (laws_heldEntryS_L0 a0 a1 0 : Option (Int × Unit)) := (DF_eq X rfl _).trans (by kernel_rfl)
theorem laws_heldEntryS_L0_eq (x0 : (List D_Entry)) (x1 : Int) (x5 : Int) : laws_heldEntryS_L0 x0 x1 x5 =
  (bif (decide (x5 < (List.length x0 : Int)))
  then bif ((decide (0 ≤ x5)) && (decide (x5 < (List.length x0 : Int))))
   then (laws_markText x1).bind fun r5 =>
    bif (!((ByteArray.toList ((List.getD x0 (Int.toNat x5) (ByteArray.empty, (0, (0, (ByteArray.empty, []))))).1)) == (ByteArray.toList r5.1)))
    then some ((-1), ())
    else bif ((decide (0 ≤ x5)) && (decide (x5 < (List.length x0 : Int))))
     then bif (((List.getD x0 (Int.toNat x5) (ByteArray.empty, (0, (0, (ByteArray.empty, []))))).2).1 != (w64 (x1 + 1)))
      then some ((-1), ())
      else bif ((decide (0 ≤ x5)) && (decide (x5 < (List.length x0 : Int))))
       then bif ((((List.getD x0 (Int.toNat x5) (ByteArray.empty, (0, (0, (ByteArray.empty, []))))).2).2).1 != (w64 ((w64 (x1 + 1)) + 1)))
        then some ((-1), ())
        else bif ((decide (0 ≤ x5)) && (decide (x5 < (List.length x0 : Int))))
         then (laws_markText (w64 ((w64 ((w64 (x1 + 1)) + 1)) + 1))).bind fun r6 =>
          bif (!((ByteArray.toList (((((List.getD x0 (Int.toNat x5) (ByteArray.empty, (0, (0, (ByteArray.empty, []))))).2).2).2).1)) == (ByteArray.toList r6.1)))
          then some ((-1), ())
          else bif ((decide (0 ≤ x5)) && (decide (x5 < (List.length x0 : Int))))
           then (laws_heldStringS (((((List.getD x0 (Int.toNat x5) (ByteArray.empty, (0, (0, (ByteArray.empty, []))))).2).2).2).2) (w64 ((w64 ((w64 ((w64 (x1 + 1)) + 1)) + 1)) + 1))).bind fun r7 =>
            bif (decide (r7.1 < 0))
            then some ((-1), ())
            else laws_heldEntryS_L0 x0 r7.1 (w64 (x5 + 1))
           else none
         else none
       else none
     else none
   else none
  else some (x1, ()) : Option (Int × Unit)) := (loopAt_mk X 21 0 [] _ _ _).trans (by kernel_rfl)
theorem spec_OnKeys_eq (a0 : (List D_Entry)) (a1 : Int) (a2 : (List ByteArray)) : spec_OnKeys a0 a1 a2 =
  ((spec_l01In a1 0 100000).bind fun r5 =>
  bif (!r5.1)
  then some (([], (ByteArray.empty, false)), ())
  else (spec_l14Is a0 a2 ([c_PING, c_ECHO, c_DEL, c_EXISTS, c_TYPE, c_EXPIRE, c_TTL, c_PERSIST, c_KEYS, c_DBSIZE, c_FLUSHALL])).bind fun r6 =>
   bif (!r6.1)
   then some (([], (ByteArray.empty, false)), ())
   else bif ((decide ((0 : Int) ≤ 0)) && (decide (0 < (List.length a2 : Int))))
    then (spec_Upper (List.getD a2 (Int.toNat 0) ByteArray.empty)).bind fun r7 =>
     bif ((ByteArray.toList r7.1) == (ByteArray.toList c_PING))
     then (spec_l10CopyTable a0).bind fun r8 =>
      (spec_Simple c_PONG).bind fun r9 =>
      some ((r8.1, (r9.1, true)), ())
     else bif ((ByteArray.toList r7.1) == (ByteArray.toList c_ECHO))
      then (spec_l10CopyTable a0).bind fun r8 =>
       bif ((decide ((0 : Int) ≤ 1)) && (decide (1 < (List.length a2 : Int))))
       then (spec_Bulk (List.getD a2 (Int.toNat 1) ByteArray.empty)).bind fun r9 =>
        some ((r8.1, (r9.1, true)), ())
       else none
      else bif ((ByteArray.toList r7.1) == (ByteArray.toList c_DEL))
       then (spec_l17Many a0 a2).bind fun r8 =>
        some (r8.1, ())
       else bif ((ByteArray.toList r7.1) == (ByteArray.toList c_EXISTS))
        then (spec_l17Many a0 a2).bind fun r8 =>
         some (r8.1, ())
        else bif ((ByteArray.toList r7.1) == (ByteArray.toList c_TYPE))
         then bif ((decide ((0 : Int) ≤ 1)) && (decide (1 < (List.length a2 : Int))))
          then (spec_Find a0 (List.getD a2 (Int.toNat 1) ByteArray.empty)).bind fun r8 =>
           (spec_l10CopyTable a0).bind fun r9 =>
           (spec_l17Type r8.1.1.1).bind fun r10 =>
           (spec_Simple r10.1).bind fun r11 =>
           some ((r9.1, (r11.1, true)), ())
          else none
         else bif ((ByteArray.toList r7.1) == (ByteArray.toList c_KEYS))
          then spec_OnKeys_L1 a0 [] 0
          else bif ((ByteArray.toList r7.1) == (ByteArray.toList c_DBSIZE))
           then (spec_l10CopyTable a0).bind fun r8 =>
            (spec_Number (List.length a0 : Int)).bind fun r9 =>
            some ((r8.1, (r9.1, true)), ())
           else bif ((ByteArray.toList r7.1) == (ByteArray.toList c_FLUSHALL))
            then (spec_Simple c_OK).bind fun r8 =>
             some (([], (r8.1, true)), ())
            else (spec_l17Time a0 a1 a2).bind fun r8 =>
             some (r8.1, ())
    else none : Option (((List D_Entry) × ByteArray × Bool) × Unit)) := (DF_eq X rfl _).trans (by kernel_rfl)
theorem spec_OnKeys_L1_eq (x0 : (List D_Entry)) (x11 : (List ByteArray)) (x12 : Int) : spec_OnKeys_L1 x0 x11 x12 =
  (bif (decide (x12 < (List.length x0 : Int)))
  then bif ((decide (0 ≤ x12)) && (decide (x12 < (List.length x0 : Int))))
   then bif (lim ((List.length x11) + 1) 16)
    then spec_OnKeys_L1 x0 (x11 ++ [(List.getD x0 (Int.toNat x12) (ByteArray.empty, (0, (0, (ByteArray.empty, []))))).1]) (w64 (x12 + 1))
    else none
   else none
  else (spec_l10CopyTable x0).bind fun r5 =>
   (spec_l15Bulks x11).bind fun r6 =>
   some ((r5.1, (r6.1, true)), ()) : Option (((List D_Entry) × ByteArray × Bool) × Unit)) := (loopAt_mk X 26 1 [] _ _ _).trans (by kernel_rfl)
theorem impl_OnKeys_eq (a0 : (List D_Entry)) (a1 : Int) (a2 : (List ByteArray)) : impl_OnKeys a0 a1 a2 =
  ((impl_begun a0 a2 c_PING_ECHO_DE_65_963040).bind fun r5 =>
  match r5.1.1 with
  | none => bif (!r5.1.2)
   then some (([], (ByteArray.empty, false)), ())
   else (impl_within a1 0 100000).bind fun r7 =>
    bif (!r7.1)
    then some (([], (ByteArray.empty, false)), ())
    else bif ((decide ((0 : Int) ≤ 0)) && (decide (0 < (List.length a2 : Int))))
     then (impl_Upper (List.getD a2 (Int.toNat 0) ByteArray.empty)).bind fun r8 =>
      bif ((ByteArray.toList r8.1) == (ByteArray.toList c_PING))
      then (impl_Simple c_PONG).bind fun r9 =>
       none
      else bif ((ByteArray.toList r8.1) == (ByteArray.toList c_KEYS))
       then (loopAt X 27 1 [] none)
       else bif ((ByteArray.toList r8.1) == (ByteArray.toList c_DBSIZE))
        then (impl_Number (List.length a0 : Int)).bind fun r9 =>
         none
        else bif ((ByteArray.toList r8.1) == (ByteArray.toList c_FLUSHALL))
         then none
         else bif ((decide ((0 : Int) ≤ 1)) && ((decide (1 ≤ (List.length a2 : Int))) && (decide ((List.length a2 : Int) ≤ (List.length a2 : Int)))))
          then none
          else none
     else none
  | some r6 => bif (!r5.1.2)
  then some (([], (ByteArray.empty, false)), ())
  else (impl_within a1 0 100000).bind fun r7 =>
   bif (!r7.1)
   then some (([], (ByteArray.empty, false)), ())
   else bif ((decide ((0 : Int) ≤ 0)) && (decide (0 < (List.length a2 : Int))))
    then (impl_Upper (List.getD a2 (Int.toNat 0) ByteArray.empty)).bind fun r8 =>
     bif ((ByteArray.toList r8.1) == (ByteArray.toList c_PING))
     then (impl_Simple c_PONG).bind fun r9 =>
      (__loop_example_g00124_impl_desk__say r6 r9.1).bind fun r10 =>
      (__loop_example_g00124_impl_desk__over r10.2.1 a0).bind fun r11 =>
      some (r11.1, ())
     else bif ((ByteArray.toList r8.1) == (ByteArray.toList c_KEYS))
      then impl_OnKeys_L1 a0 [] a0 (List.length a0 : Int) 0 r6.1 r6.2.1 r6.2.2
      else bif ((ByteArray.toList r8.1) == (ByteArray.toList c_DBSIZE))
       then (impl_Number (List.length a0 : Int)).bind fun r9 =>
        (__loop_example_g00124_impl_desk__say r6 r9.1).bind fun r10 =>
        (__loop_example_g00124_impl_desk__over r10.2.1 a0).bind fun r11 =>
        some (r11.1, ())
       else bif ((ByteArray.toList r8.1) == (ByteArray.toList c_FLUSHALL))
        then (impl_Simple c_OK).bind fun r9 =>
         (__loop_example_g00124_impl_desk__say ([], r6.2) r9.1).bind fun r10 =>
         (__loop_example_g00124_impl_desk__over r10.2.1 a0).bind fun r11 =>
         some (r11.1, ())
        else bif ((decide ((0 : Int) ≤ 1)) && ((decide (1 ≤ (List.length a2 : Int))) && (decide ((List.length a2 : Int) ≤ (List.length a2 : Int)))))
         then (__loop_example_g00124_impl_desk__key r6 a1 r8.1 (List.take ((Int.toNat (List.length a2 : Int)) - (Int.toNat 1)) (List.drop (Int.toNat 1) a2))).bind fun r9 =>
          (__loop_example_g00124_impl_desk__over r9.2.1 a0).bind fun r10 =>
          some (r10.1, ())
         else none
    else none : Option (((List D_Entry) × ByteArray × Bool) × Unit)) := (DF_eq X rfl _).trans (by kernel_rfl)
theorem impl_OnKeys_L1_eq (x0 : (List D_Entry)) (x12 : (List ByteArray)) (x46 : (List D_Entry)) (x47 : Int) (x48 : Int) (b1056_0 : (List D_Entry)) (b1056_1 : ByteArray) (b1056_2 : Bool) : impl_OnKeys_L1 x0 x12 x46 x47 x48 b1056_0 b1056_1 b1056_2 =
  (bif (decide (x48 < x47))
  then bif ((decide (0 ≤ x48)) && (decide (x48 < (List.length x46 : Int))))
   then bif (lim ((List.length x12) + 1) 16)
    then impl_OnKeys_L1 x0 (x12 ++ [(List.getD x46 (Int.toNat x48) (ByteArray.empty, (0, (0, (ByteArray.empty, []))))).1]) x46 x47 (w64 (x48 + 1)) b1056_0 b1056_1 b1056_2
    else none
   else none
  else (impl_bulks x12).bind fun r10 =>
   (impl_Array r10.1).bind fun r11 =>
   (__loop_example_g00124_impl_desk__say (b1056_0, (b1056_1, b1056_2)) r11.1).bind fun r12 =>
   (__loop_example_g00124_impl_desk__over r12.2.1 x0).bind fun r13 =>
   some (r13.1, ()) : Option (((List D_Entry) × ByteArray × Bool) × Unit)) := (loopAt_mk X 27 1 [] _ _ _).trans (by kernel_rfl)
theorem laws_heldStringS_eq (a0 : (List ByteArray)) (a1 : Int) : laws_heldStringS a0 a1 =
  (laws_heldStringS_L0 a0 a1 0 : Option (Int × Unit)) := (DF_eq X rfl _).trans (by kernel_rfl)
theorem laws_heldStringS_L0_eq (x0 : (List ByteArray)) (x1 : Int) (x5 : Int) : laws_heldStringS_L0 x0 x1 x5 =
  (bif (decide (x5 < (List.length x0 : Int)))
  then bif ((decide (0 ≤ x5)) && (decide (x5 < (List.length x0 : Int))))
   then (laws_markText x1).bind fun r5 =>
    bif (!((ByteArray.toList (List.getD x0 (Int.toNat x5) ByteArray.empty)) == (ByteArray.toList r5.1)))
    then some ((-1), ())
    else laws_heldStringS_L0 x0 (w64 (x1 + 1)) (w64 (x5 + 1))
   else none
  else some (x1, ()) : Option (Int × Unit)) := (loopAt_mk X 36 0 [] _ _ _).trans (by kernel_rfl)
theorem laws_szEntry_eq (a0 : D_Entry) (a1 : Int) : laws_szEntry a0 a1 =
  (bif (decide ((w64 (a1 - (ByteArray.size a0.1 : Int))) < 0))
  then some ((-1), ())
  else (laws_szVal a0.2 (w64 (a1 - (ByteArray.size a0.1 : Int)))).bind fun r4 =>
   bif (decide (r4.1 < 0))
   then some ((-1), ())
   else some (r4.1, ()) : Option (Int × Unit)) := (DF_eq X rfl _).trans (by kernel_rfl)
theorem spec_l14Is_eq (a0 : (List D_Entry)) (a1 : (List ByteArray)) (a2 : (List ByteArray)) : spec_l14Is a0 a1 a2 =
  ((spec_TableOk a0).bind fun r5 =>
  bif r5.1
  then (spec_ArityOk a1).bind fun r6 =>
   bif r6.1
   then bif ((decide ((0 : Int) ≤ 0)) && (decide (0 < (List.length a1 : Int))))
    then (spec_Upper (List.getD a1 (Int.toNat 0) ByteArray.empty)).bind fun r7 =>
     (spec_l13In a2 r7.1).bind fun r8 =>
     some (r8.1, ())
    else none
   else some (false, ())
  else some (false, ()) : Option (Bool × Unit)) := (DF_eq X rfl _).trans (by kernel_rfl)
theorem spec_l14No_eq (a0 : (List D_Entry)) (a1 : ByteArray) : spec_l14No a0 a1 =
  ((spec_l10CopyTable a0).bind fun r4 =>
  (spec_Fault a1).bind fun r5 =>
  some ((r4.1, (r5.1, true)), ()) : Option (((List D_Entry) × ByteArray × Bool) × Unit)) := (DF_eq X rfl _).trans (by kernel_rfl)
theorem spec_Upper_eq (a0 : ByteArray) : spec_Upper a0 =
  (spec_Upper_L0 (bytesL a0) 0 : Option (ByteArray × Unit)) := (DF_eq X rfl _).trans (by kernel_rfl)
theorem spec_Upper_L0_eq (x3 : (List Int)) (x4 : Int) : spec_Upper_L0 x3 x4 =
  (bif (decide (x4 < (List.length x3 : Int)))
  then bif ((decide (0 ≤ x4)) && (decide (x4 < (List.length x3 : Int))))
   then bif (decide ((List.getD x3 (Int.toNat x4) 0) ≥ 97))
    then bif ((decide (0 ≤ x4)) && (decide (x4 < (List.length x3 : Int))))
     then bif (decide ((List.getD x3 (Int.toNat x4) 0) ≤ 122))
      then bif ((decide (0 ≤ x4)) && (decide (x4 < (List.length x3 : Int))))
       then bif ((decide (0 ≤ x4)) && (decide (x4 < (List.length x3 : Int))))
        then spec_Upper_L0 (List.set x3 (Int.toNat x4) (Go.IntKind.u8.wrap ((List.getD x3 (Int.toNat x4) 0) - 32))) (w64 (x4 + 1))
        else none
       else none
      else spec_Upper_L0 x3 (w64 (x4 + 1))
     else none
    else spec_Upper_L0 x3 (w64 (x4 + 1))
   else none
  else some ((⟨(List.toArray (List.map (fun n => (UInt8.ofNat (Int.toNat n))) x3))⟩ : ByteArray), ()) : Option (ByteArray × Unit)) := (loopAt_mk X 49 0 [] _ _ _).trans (by kernel_rfl)
theorem spec_Number_eq (a0 : Int) : spec_Number a0 =
  ((spec_Decimal a0).bind fun r3 =>
  bif (limS ((ByteArray.size c___1_275) + (ByteArray.size r3.1)))
  then bif (limS ((ByteArray.size (c___1_275 ++ r3.1)) + (ByteArray.size c____2_7140)))
   then some (((c___1_275 ++ r3.1) ++ c____2_7140), ())
   else none
  else none : Option (ByteArray × Unit)) := (DF_eq X rfl _).trans (by kernel_rfl)
theorem spec_l10CopyTable_eq (a0 : (List D_Entry)) : spec_l10CopyTable a0 =
  (spec_l10CopyTable_L0 a0 [] 0 : Option ((List D_Entry) × Unit)) := (DF_eq X rfl _).trans (by kernel_rfl)
theorem spec_l10CopyTable_L0_eq (x0 : (List D_Entry)) (x3 : (List D_Entry)) (x4 : Int) : spec_l10CopyTable_L0 x0 x3 x4 =
  (bif (decide (x4 < (List.length x0 : Int)))
  then bif ((decide (0 ≤ x4)) && (decide (x4 < (List.length x0 : Int))))
   then bif ((decide (0 ≤ x4)) && (decide (x4 < (List.length x0 : Int))))
    then (spec_l10Copy (((List.getD x0 (Int.toNat x4) (ByteArray.empty, (0, (0, (ByteArray.empty, []))))).2).1, ((((List.getD x0 (Int.toNat x4) (ByteArray.empty, (0, (0, (ByteArray.empty, []))))).2).2).1, ((((List.getD x0 (Int.toNat x4) (ByteArray.empty, (0, (0, (ByteArray.empty, []))))).2).2).2)))).bind fun r5 =>
     bif (lim ((List.length x3) + 1) 72)
     then spec_l10CopyTable_L0 x0 (x3 ++ [((List.getD x0 (Int.toNat x4) (ByteArray.empty, (0, (0, (ByteArray.empty, []))))).1, (r5.1.1, (r5.1.2.1, (r5.1.2.2.1, r5.1.2.2.2))))]) (w64 (x4 + 1))
     else none
    else none
   else none
  else some (x3, ()) : Option ((List D_Entry) × Unit)) := (loopAt_mk X 55 0 [] _ _ _).trans (by kernel_rfl)
theorem spec_l15Bulks_eq (a0 : (List ByteArray)) : spec_l15Bulks a0 =
  (spec_l15Bulks_L0 a0 [] 0 : Option (ByteArray × Unit)) := (DF_eq X rfl _).trans (by kernel_rfl)
theorem spec_l15Bulks_L0_eq (x0 : (List ByteArray)) (x3 : (List ByteArray)) (x4 : Int) : spec_l15Bulks_L0 x0 x3 x4 =
  (bif (decide (x4 < (List.length x0 : Int)))
  then bif ((decide (0 ≤ x4)) && (decide (x4 < (List.length x0 : Int))))
   then (spec_Bulk (List.getD x0 (Int.toNat x4) ByteArray.empty)).bind fun r5 =>
    bif (lim ((List.length x3) + 1) 16)
    then spec_l15Bulks_L0 x0 (x3 ++ [r5.1]) (w64 (x4 + 1))
    else none
   else none
  else (spec_Array x3).bind fun r5 =>
   some (r5.1, ()) : Option (ByteArray × Unit)) := (loopAt_mk X 56 0 [] _ _ _).trans (by kernel_rfl)
theorem laws_toEntry_eq (a0 : D_Entry) : laws_toEntry a0 =
  ((laws_toVal a0.2).bind fun r3 =>
  some ((a0.1, r3.1), ()) : Option (D_Entry × Unit)) := (DF_eq X rfl _).trans (by kernel_rfl)
theorem impl_begun_eq (a0 : (List D_Entry)) (a1 : (List ByteArray)) (a2 : ByteArray) : impl_begun a0 a1 a2 =
  ((impl_TableOk a0).bind fun r5 =>
  bif (!r5.1)
  then some ((none, false), ())
  else (impl_oneOf a1 a2).bind fun r6 =>
   bif (!r6.1)
   then some ((none, false), ())
   else (impl_ArityOk a1).bind fun r7 =>
    bif (!r7.1)
    then some ((none, false), ())
    else (impl_copyTable a0).bind fun r8 =>
     some (((some (r8.1, (ByteArray.empty, false))), true), ()) : Option (((Option D_desk) × Bool) × Unit)) := (DF_eq X rfl _).trans (by kernel_rfl)
theorem impl_Upper_eq (a0 : ByteArray) : impl_Upper a0 =
  (impl_Upper_L0 (List.length (bytesL a0) : Int) 0 (bytesL a0) : Option (ByteArray × Unit)) := (DF_eq X rfl _).trans (by kernel_rfl)
theorem impl_Upper_L0_eq (x9 : Int) (x10 : Int) (r1040 : (List Int)) : impl_Upper_L0 x9 x10 r1040 =
  (bif (decide (x10 < x9))
  then bif ((decide (0 ≤ x10)) && (decide (x10 < (List.length r1040 : Int))))
   then bif (decide ((List.getD r1040 (Int.toNat x10) 0) ≥ 97))
    then bif (decide ((List.getD r1040 (Int.toNat x10) 0) ≤ 122))
     then bif ((decide (0 ≤ x10)) && (decide (x10 < (List.length r1040 : Int))))
      then impl_Upper_L0 x9 (w64 (x10 + 1)) (List.set r1040 (Int.toNat x10) (Go.IntKind.u8.wrap ((List.getD r1040 (Int.toNat x10) 0) - 32)))
      else none
     else impl_Upper_L0 x9 (w64 (x10 + 1)) r1040
    else impl_Upper_L0 x9 (w64 (x10 + 1)) r1040
   else none
  else some ((⟨(List.toArray (List.map (fun n => (UInt8.ofNat (Int.toNat n))) r1040))⟩ : ByteArray), ()) : Option (ByteArray × Unit)) := (loopAt_mk X 60 0 [] _ _ _).trans (by kernel_rfl)
theorem __loop_example_g00124_impl_desk__over_eq (a0 : D_desk) (a1 : (List D_Entry)) : __loop_example_g00124_impl_desk__over a0 a1 =
  (bif (!a0.2.2)
  then (impl_TableOk a0.1).bind fun r4 =>
   bif (!r4.1)
   then (__loop_example_g00124_impl_desk__fault a0 c_ERR_limit).bind fun r5 =>
    bif r5.2.1.2.2
    then (impl_copyTable a1).bind fun r6 =>
     some ((r6.1, (r5.2.1.2.1, true)), (r5.2.1, ()))
    else (impl_copyTable r5.2.1.1).bind fun r6 =>
     some ((r6.1, (r5.2.1.2.1, true)), (r5.2.1, ()))
   else bif a0.2.2
    then (impl_copyTable a1).bind fun r5 =>
     some ((r5.1, (a0.2.1, true)), (a0, ()))
    else (impl_copyTable a0.1).bind fun r5 =>
     some ((r5.1, (a0.2.1, true)), (a0, ()))
  else bif a0.2.2
   then (impl_copyTable a1).bind fun r4 =>
    some ((r4.1, (a0.2.1, true)), (a0, ()))
   else (impl_copyTable a0.1).bind fun r4 =>
    some ((r4.1, (a0.2.1, true)), (a0, ())) : Option (((List D_Entry) × ByteArray × Bool) × (D_desk × Unit))) := (DF_eq X rfl _).trans (by kernel_rfl)
theorem laws_eqEntry_eq (a0 : D_Entry) (a1 : D_Entry) : laws_eqEntry a0 a1 =
  (bif (!((ByteArray.toList a0.1) == (ByteArray.toList a1.1)))
  then some (false, ())
  else (laws_eqVal a0.2 a1.2).bind fun r4 =>
   bif (!r4.1)
   then some (false, ())
   else some (true, ()) : Option (Bool × Unit)) := (DF_eq X rfl _).trans (by kernel_rfl)
theorem laws_markText_eq (a0 : Int) : laws_markText a0 =
  (bif (decide (a0 ≤ 0))
  then some (c_m0, ())
  else laws_markText_L0 a0 ByteArray.empty : Option (ByteArray × Unit)) := (DF_eq X rfl _).trans (by kernel_rfl)
theorem laws_markText_L0_eq (x0 : Int) (x3 : ByteArray) : laws_markText_L0 x0 x3 =
  (bif (decide (x0 > 0))
  then bif (limS ((ByteArray.size (⟨(List.toArray (List.map (fun n => (UInt8.ofNat (Int.toNat n))) ([(Go.IntKind.u8.wrap (w64 (48 + (Int.tmod x0 10))))])))⟩ : ByteArray)) + (ByteArray.size x3)))
   then laws_markText_L0 (w64 (Int.tdiv x0 10)) ((⟨(List.toArray (List.map (fun n => (UInt8.ofNat (Int.toNat n))) ([(Go.IntKind.u8.wrap (w64 (48 + (Int.tmod x0 10))))])))⟩ : ByteArray) ++ x3)
   else none
  else bif (limS ((ByteArray.size c_m) + (ByteArray.size x3)))
   then some ((c_m ++ x3), ())
   else none : Option (ByteArray × Unit)) := (loopAt_mk X 63 0 [] _ _ _).trans (by kernel_rfl)
theorem spec_Bulk_eq (a0 : ByteArray) : spec_Bulk a0 =
  ((spec_Decimal (ByteArray.size a0 : Int)).bind fun r3 =>
  bif (limS ((ByteArray.size c___1_253) + (ByteArray.size r3.1)))
  then bif (limS ((ByteArray.size (c___1_253 ++ r3.1)) + (ByteArray.size c____2_7140)))
   then bif (limS ((ByteArray.size ((c___1_253 ++ r3.1) ++ c____2_7140)) + (ByteArray.size a0)))
    then bif (limS ((ByteArray.size (((c___1_253 ++ r3.1) ++ c____2_7140) ++ a0)) + (ByteArray.size c____2_7140)))
     then some (((((c___1_253 ++ r3.1) ++ c____2_7140) ++ a0) ++ c____2_7140), ())
     else none
    else none
   else none
  else none : Option (ByteArray × Unit)) := (DF_eq X rfl _).trans (by kernel_rfl)
theorem spec_ReadInt_eq (a0 : ByteArray) : spec_ReadInt a0 =
  (bif (decide ((ByteArray.size a0 : Int) > 1))
  then bif ((decide ((0 : Int) ≤ 0)) && (decide (0 < (ByteArray.size a0 : Int))))
   then bif ((bt a0 (Int.toNat 0)) == 45)
    then bif ((decide ((0 : Int) ≤ 1)) && ((decide (1 ≤ (ByteArray.size a0 : Int))) && (decide ((ByteArray.size a0 : Int) ≤ (ByteArray.size a0 : Int)))))
     then (spec_ReadDecimal (ByteArray.extract a0 (Int.toNat 1) (Int.toNat (ByteArray.size a0 : Int)))).bind fun r3 =>
      bif (!r3.1.2)
      then some ((0, false), ())
      else bif (r3.1.1 == 0)
       then some ((0, false), ())
       else some (((w64 (0 - r3.1.1)), true), ())
     else none
    else (spec_ReadDecimal a0).bind fun r3 =>
     some (r3.1, ())
   else none
  else (spec_ReadDecimal a0).bind fun r3 =>
   some (r3.1, ()) : Option ((Int × Bool) × Unit)) := (DF_eq X rfl _).trans (by kernel_rfl)
theorem spec_l01In_eq (a0 : Int) (a1 : Int) (a2 : Int) : spec_l01In a0 a1 a2 =
  (bif (decide (a0 ≥ a1))
  then some ((decide (a0 ≤ a2)), ())
  else some (false, ()) : Option (Bool × Unit)) := (DF_eq X rfl _).trans (by kernel_rfl)
theorem spec_Simple_eq (a0 : ByteArray) : spec_Simple a0 =
  (bif (limS ((ByteArray.size c___1_260) + (ByteArray.size a0)))
  then bif (limS ((ByteArray.size (c___1_260 ++ a0)) + (ByteArray.size c____2_7140)))
   then some (((c___1_260 ++ a0) ++ c____2_7140), ())
   else none
  else none : Option (ByteArray × Unit)) := (DF_eq X rfl _).trans (by kernel_rfl)
theorem spec_l17Many_eq (a0 : (List D_Entry)) (a1 : (List ByteArray)) : spec_l17Many a0 a1 =
  (spec_l17Many_L0 a0 a1 a0 0 1 : Option (((List D_Entry) × ByteArray × Bool) × Unit)) := (DF_eq X rfl _).trans (by kernel_rfl)
theorem spec_l17Many_L0_eq (x0 : (List D_Entry)) (x1 : (List ByteArray)) (x7 : (List D_Entry)) (x8 : Int) (x9 : Int) : spec_l17Many_L0 x0 x1 x7 x8 x9 =
  (bif (decide (x9 < (List.length x1 : Int)))
  then bif ((decide (0 ≤ x9)) && (decide (x9 < (List.length x1 : Int))))
   then (spec_Find x7 (List.getD x1 (Int.toNat x9) ByteArray.empty)).bind fun r7 =>
    bif r7.1.2
    then bif r7.1.2
     then bif ((decide ((0 : Int) ≤ 0)) && (decide (0 < (List.length x1 : Int))))
      then (spec_Upper (List.getD x1 (Int.toNat 0) ByteArray.empty)).bind fun r8 =>
       bif ((ByteArray.toList r8.1) == (ByteArray.toList c_DEL))
       then bif ((decide (0 ≤ x9)) && (decide (x9 < (List.length x1 : Int))))
        then (spec_l14Put x7 (List.getD x1 (Int.toNat x9) ByteArray.empty) (0, (0, (ByteArray.empty, [])))).bind fun r9 =>
         spec_l17Many_L0 x0 x1 r9.1 (w64 (x8 + 1)) (w64 (x9 + 1))
        else none
       else spec_l17Many_L0 x0 x1 x7 (w64 (x8 + 1)) (w64 (x9 + 1))
      else none
     else spec_l17Many_L0 x0 x1 x7 (w64 (x8 + 1)) (w64 (x9 + 1))
    else bif r7.1.2
     then bif ((decide ((0 : Int) ≤ 0)) && (decide (0 < (List.length x1 : Int))))
      then (spec_Upper (List.getD x1 (Int.toNat 0) ByteArray.empty)).bind fun r8 =>
       bif ((ByteArray.toList r8.1) == (ByteArray.toList c_DEL))
       then bif ((decide (0 ≤ x9)) && (decide (x9 < (List.length x1 : Int))))
        then (spec_l14Put x7 (List.getD x1 (Int.toNat x9) ByteArray.empty) (0, (0, (ByteArray.empty, [])))).bind fun r9 =>
         spec_l17Many_L0 x0 x1 r9.1 x8 (w64 (x9 + 1))
        else none
       else spec_l17Many_L0 x0 x1 x7 x8 (w64 (x9 + 1))
      else none
     else spec_l17Many_L0 x0 x1 x7 x8 (w64 (x9 + 1))
   else none
  else (spec_Number x8).bind fun r7 =>
   (spec_l14Done x0 x7 r7.1).bind fun r8 =>
   some (r8.1, ()) : Option (((List D_Entry) × ByteArray × Bool) × Unit)) := (loopAt_mk X 73 0 [] _ _ _).trans (by kernel_rfl)
theorem spec_Find_eq (a0 : (List D_Entry)) (a1 : ByteArray) : spec_Find a0 a1 =
  (spec_Find_L0 a0 a1 0 0 0 ByteArray.empty [] : Option ((D_Val × Bool) × Unit)) := (DF_eq X rfl _).trans (by kernel_rfl)
theorem spec_Find_L0_eq (x0 : (List D_Entry)) (x1 : ByteArray) (x6 : Int) (b0_0 : Int) (b0_1 : Int) (b0_2 : ByteArray) (b0_3 : (List ByteArray)) : spec_Find_L0 x0 x1 x6 b0_0 b0_1 b0_2 b0_3 =
  (bif (decide (x6 < (List.length x0 : Int)))
  then bif ((decide (0 ≤ x6)) && (decide (x6 < (List.length x0 : Int))))
   then bif ((ByteArray.toList ((List.getD x0 (Int.toNat x6) (ByteArray.empty, (0, (0, (ByteArray.empty, []))))).1)) == (ByteArray.toList x1))
    then bif ((decide (0 ≤ x6)) && (decide (x6 < (List.length x0 : Int))))
     then (spec_l10Copy (((List.getD x0 (Int.toNat x6) (ByteArray.empty, (0, (0, (ByteArray.empty, []))))).2).1, ((((List.getD x0 (Int.toNat x6) (ByteArray.empty, (0, (0, (ByteArray.empty, []))))).2).2).1, ((((List.getD x0 (Int.toNat x6) (ByteArray.empty, (0, (0, (ByteArray.empty, []))))).2).2).2)))).bind fun r9 =>
      some ((r9.1, true), ())
     else none
    else spec_Find_L0 x0 x1 (w64 (x6 + 1)) b0_0 b0_1 b0_2 b0_3
   else none
  else some (((0, (0, (ByteArray.empty, []))), false), ()) : Option ((D_Val × Bool) × Unit)) := (loopAt_mk X 74 0 [] _ _ _).trans (by kernel_rfl)
theorem spec_l17Type_eq (a0 : Int) : spec_l17Type a0 =
  (bif (a0 == 1)
  then some (c_string, ())
  else bif (a0 == 2)
   then some (c_list, ())
   else bif (a0 == 3)
    then some (c_hash, ())
    else bif (a0 == 4)
     then some (c_set, ())
     else some (c_none, ()) : Option (ByteArray × Unit)) := (DF_eq X rfl _).trans (by kernel_rfl)
theorem spec_l17Time_eq (a0 : (List D_Entry)) (a1 : Int) (a2 : (List ByteArray)) : spec_l17Time a0 a1 a2 =
  (bif ((decide ((0 : Int) ≤ 1)) && (decide (1 < (List.length a2 : Int))))
  then (spec_Find a0 (List.getD a2 (Int.toNat 1) ByteArray.empty)).bind fun r5 =>
   bif ((decide ((0 : Int) ≤ 0)) && (decide (0 < (List.length a2 : Int))))
   then (spec_Upper (List.getD a2 (Int.toNat 0) ByteArray.empty)).bind fun r6 =>
    bif ((ByteArray.toList r6.1) == (ByteArray.toList c_TTL))
    then bif r5.1.2
     then bif r5.1.2
      then bif (decide (r5.1.1.2.1 > 0))
       then (spec_l10CopyTable a0).bind fun r7 =>
        (spec_Number (w64 (r5.1.1.2.1 - a1))).bind fun r8 =>
        some ((r7.1, (r8.1, true)), ())
       else (spec_l10CopyTable a0).bind fun r7 =>
        (spec_Number (-1)).bind fun r8 =>
        some ((r7.1, (r8.1, true)), ())
      else (spec_l10CopyTable a0).bind fun r7 =>
       (spec_Number (-1)).bind fun r8 =>
       some ((r7.1, (r8.1, true)), ())
     else bif r5.1.2
      then bif (decide (r5.1.1.2.1 > 0))
       then (spec_l10CopyTable a0).bind fun r7 =>
        (spec_Number (w64 (r5.1.1.2.1 - a1))).bind fun r8 =>
        some ((r7.1, (r8.1, true)), ())
       else (spec_l10CopyTable a0).bind fun r7 =>
        (spec_Number (-2)).bind fun r8 =>
        some ((r7.1, (r8.1, true)), ())
      else (spec_l10CopyTable a0).bind fun r7 =>
       (spec_Number (-2)).bind fun r8 =>
       some ((r7.1, (r8.1, true)), ())
    else bif ((ByteArray.toList r6.1) == (ByteArray.toList c_PERSIST))
     then bif (r5.1.1.2.1 == 0)
      then (spec_l10CopyTable a0).bind fun r7 =>
       (spec_Number 0).bind fun r8 =>
       some ((r7.1, (r8.1, true)), ())
      else (spec_l14Put a0 (List.getD a2 (Int.toNat 1) ByteArray.empty) (r5.1.1.1, (0, r5.1.1.2.2))).bind fun r7 =>
       (spec_Number 1).bind fun r8 =>
       (spec_l14Done a0 r7.1 r8.1).bind fun r9 =>
       some (r9.1, ())
     else bif ((decide ((0 : Int) ≤ 2)) && (decide (2 < (List.length a2 : Int))))
      then (spec_ReadInt (List.getD a2 (Int.toNat 2) ByteArray.empty)).bind fun r7 =>
       bif (!r7.1.2)
       then (spec_l14No a0 c_ERR_integer).bind fun r8 =>
        some (r8.1, ())
       else bif (!r5.1.2)
        then (spec_l10CopyTable a0).bind fun r8 =>
         (spec_Number 0).bind fun r9 =>
         some ((r8.1, (r9.1, true)), ())
        else bif (decide (r7.1.1 ≤ 0))
         then (spec_l14Put a0 (List.getD a2 (Int.toNat 1) ByteArray.empty) (0, (0, (ByteArray.empty, [])))).bind fun r8 =>
          (spec_Number 1).bind fun r9 =>
          (spec_l14Done a0 r8.1 r9.1).bind fun r10 =>
          some (r10.1, ())
         else bif (decide ((w64 (a1 + r7.1.1)) > 100000))
          then (spec_l14No a0 c_ERR_limit).bind fun r8 =>
           some (r8.1, ())
          else (spec_l14Put a0 (List.getD a2 (Int.toNat 1) ByteArray.empty) (r5.1.1.1, ((w64 (a1 + r7.1.1)), r5.1.1.2.2))).bind fun r8 =>
           (spec_Number 1).bind fun r9 =>
           (spec_l14Done a0 r8.1 r9.1).bind fun r10 =>
           some (r10.1, ())
      else none
   else none
  else none : Option (((List D_Entry) × ByteArray × Bool) × Unit)) := (DF_eq X rfl _).trans (by kernel_rfl)
theorem impl_within_eq (a0 : Int) (a1 : Int) (a2 : Int) : impl_within a0 a1 a2 =
  (bif (decide (a0 ≥ a1))
  then some ((decide (a0 ≤ a2)), ())
  else some (false, ()) : Option (Bool × Unit)) := (DF_eq X rfl _).trans (by kernel_rfl)
theorem __loop_example_g00124_impl_desk__say_eq (a0 : D_desk) (a1 : ByteArray) : __loop_example_g00124_impl_desk__say a0 a1 =
  (bif (!a0.2.2)
  then some ((), ((a0.1, (a1, a0.2.2)), ()))
  else some ((), (a0, ())) : Option (Unit × (D_desk × Unit))) := (DF_eq X rfl _).trans (by kernel_rfl)
theorem impl_Simple_eq (a0 : ByteArray) : impl_Simple a0 =
  (bif (limS ((ByteArray.size c___1_260) + (ByteArray.size a0)))
  then bif (limS ((ByteArray.size (c___1_260 ++ a0)) + (ByteArray.size c____2_7140)))
   then some (((c___1_260 ++ a0) ++ c____2_7140), ())
   else none
  else none : Option (ByteArray × Unit)) := (DF_eq X rfl _).trans (by kernel_rfl)
theorem impl_Array_eq (a0 : (List ByteArray)) : impl_Array a0 =
  ((impl_Decimal (List.length a0 : Int)).bind fun r3 =>
  bif (limS ((ByteArray.size c___1_259) + (ByteArray.size r3.1)))
  then bif (limS ((ByteArray.size (c___1_259 ++ r3.1)) + (ByteArray.size c____2_7140)))
   then impl_Array_L0 (bytesL ((c___1_259 ++ r3.1) ++ c____2_7140)) a0 (List.length a0 : Int) 0
   else none
  else none : Option (ByteArray × Unit)) := (DF_eq X rfl _).trans (by kernel_rfl)
theorem impl_Array_L0_eq (x3 : (List Int)) (x12 : (List ByteArray)) (x13 : Int) (x14 : Int) : impl_Array_L0 x3 x12 x13 x14 =
  (bif (decide (x14 < x13))
  then bif ((decide (0 ≤ x14)) && (decide (x14 < (List.length x12 : Int))))
   then bif (lim ((List.length x3) + (List.length (bytesL (List.getD x12 (Int.toNat x14) ByteArray.empty)))) 1)
    then impl_Array_L0 (x3 ++ (bytesL (List.getD x12 (Int.toNat x14) ByteArray.empty))) x12 x13 (w64 (x14 + 1))
    else none
   else none
  else some ((⟨(List.toArray (List.map (fun n => (UInt8.ofNat (Int.toNat n))) x3))⟩ : ByteArray), ()) : Option (ByteArray × Unit)) := (loopAt_mk X 80 0 [] _ _ _).trans (by kernel_rfl)
theorem impl_bulks_eq (a0 : (List ByteArray)) : impl_bulks a0 =
  (impl_bulks_L0 [] a0 (List.length a0 : Int) 0 : Option ((List ByteArray) × Unit)) := (DF_eq X rfl _).trans (by kernel_rfl)
theorem impl_bulks_L0_eq (x3 : (List ByteArray)) (x6 : (List ByteArray)) (x7 : Int) (x8 : Int) : impl_bulks_L0 x3 x6 x7 x8 =
  (bif (decide (x8 < x7))
  then bif ((decide (0 ≤ x8)) && (decide (x8 < (List.length x6 : Int))))
   then (impl_Bulk (List.getD x6 (Int.toNat x8) ByteArray.empty)).bind fun r6 =>
    bif (lim ((List.length x3) + 1) 16)
    then impl_bulks_L0 (x3 ++ [r6.1]) x6 x7 (w64 (x8 + 1))
    else none
   else none
  else some (x3, ()) : Option ((List ByteArray) × Unit)) := (loopAt_mk X 81 0 [] _ _ _).trans (by kernel_rfl)
theorem impl_Number_eq (a0 : Int) : impl_Number a0 =
  ((impl_Decimal a0).bind fun r3 =>
  bif (limS ((ByteArray.size c___1_275) + (ByteArray.size r3.1)))
  then bif (limS ((ByteArray.size (c___1_275 ++ r3.1)) + (ByteArray.size c____2_7140)))
   then some (((c___1_275 ++ r3.1) ++ c____2_7140), ())
   else none
  else none : Option (ByteArray × Unit)) := (DF_eq X rfl _).trans (by kernel_rfl)
theorem __loop_example_g00124_impl_desk__key_eq (a0 : D_desk) (a1 : Int) (a2 : ByteArray) (a3 : (List ByteArray)) : __loop_example_g00124_impl_desk__key a0 a1 a2 a3 =
  (bif ((decide ((0 : Int) ≤ 0)) && (decide (0 < (List.length a3 : Int))))
  then (impl_Find a0.1 (List.getD a3 (Int.toNat 0) ByteArray.empty)).bind fun r6 =>
   bif ((ByteArray.toList a2) == (ByteArray.toList c_ECHO))
   then bif ((decide ((0 : Int) ≤ 0)) && (decide (0 < (List.length a3 : Int))))
    then (impl_Bulk (List.getD a3 (Int.toNat 0) ByteArray.empty)).bind fun r7 =>
     (__loop_example_g00124_impl_desk__say a0 r7.1).bind fun r8 =>
     some ((), (r8.2.1, ()))
    else none
   else bif ((ByteArray.toList a2) == (ByteArray.toList c_DEL))
    then (__loop_example_g00124_impl_desk__counted a0 a3 ((ByteArray.toList a2) == (ByteArray.toList c_DEL))).bind fun r7 =>
     (impl_Number r7.1).bind fun r8 =>
     (__loop_example_g00124_impl_desk__say r7.2.1 r8.1).bind fun r9 =>
     some ((), (r9.2.1, ()))
    else bif ((ByteArray.toList a2) == (ByteArray.toList c_EXISTS))
     then (__loop_example_g00124_impl_desk__counted a0 a3 ((ByteArray.toList a2) == (ByteArray.toList c_DEL))).bind fun r7 =>
      (impl_Number r7.1).bind fun r8 =>
      (__loop_example_g00124_impl_desk__say r7.2.1 r8.1).bind fun r9 =>
      some ((), (r9.2.1, ()))
     else bif ((ByteArray.toList a2) == (ByteArray.toList c_TYPE))
      then (impl_typeName r6.1.1 r6.1.2).bind fun r7 =>
       (impl_Simple r7.1).bind fun r8 =>
       (__loop_example_g00124_impl_desk__say a0 r8.1).bind fun r9 =>
       some ((), (r9.2.1, ()))
      else bif ((ByteArray.toList a2) == (ByteArray.toList c_EXPIRE))
       then bif ((decide ((0 : Int) ≤ 0)) && (decide (0 < (List.length a3 : Int))))
        then bif ((decide ((0 : Int) ≤ 1)) && (decide (1 < (List.length a3 : Int))))
         then (__loop_example_g00124_impl_desk__expire a0 a1 (List.getD a3 (Int.toNat 0) ByteArray.empty) (List.getD a3 (Int.toNat 1) ByteArray.empty)).bind fun r7 =>
          some ((), (r7.2.1, ()))
         else none
        else none
       else bif ((ByteArray.toList a2) == (ByteArray.toList c_TTL))
        then (impl_left r6.1.1 r6.1.2 a1).bind fun r7 =>
         (impl_Number r7.1).bind fun r8 =>
         (__loop_example_g00124_impl_desk__say a0 r8.1).bind fun r9 =>
         some ((), (r9.2.1, ()))
        else bif (r6.1.1.2.1 == 0)
         then (impl_Number 0).bind fun r7 =>
          (__loop_example_g00124_impl_desk__say a0 r7.1).bind fun r8 =>
          some ((), (r8.2.1, ()))
         else bif ((decide ((0 : Int) ≤ 0)) && (decide (0 < (List.length a3 : Int))))
          then (__loop_example_g00124_impl_desk__put a0 (List.getD a3 (Int.toNat 0) ByteArray.empty) (r6.1.1.1, (0, r6.1.1.2.2))).bind fun r7 =>
           (impl_Number 1).bind fun r8 =>
           (__loop_example_g00124_impl_desk__say r7.2.1 r8.1).bind fun r9 =>
           some ((), (r9.2.1, ()))
          else none
  else none : Option (Unit × (D_desk × Unit))) := (DF_eq X rfl _).trans (by kernel_rfl)
theorem spec_TableOk_eq (a0 : (List D_Entry)) : spec_TableOk a0 =
  (bif (decide ((List.length a0 : Int) > 20))
  then some (false, ())
  else spec_TableOk_L0 a0 0 : Option (Bool × Unit)) := (DF_eq X rfl _).trans (by kernel_rfl)
theorem spec_TableOk_L0_eq (x0 : (List D_Entry)) (x3 : Int) : spec_TableOk_L0 x0 x3 =
  (bif (decide (x3 < (List.length x0 : Int)))
  then bif ((decide (0 ≤ x3)) && (decide (x3 < (List.length x0 : Int))))
   then (spec_l01In (ByteArray.size ((List.getD x0 (Int.toNat x3) (ByteArray.empty, (0, (0, (ByteArray.empty, []))))).1) : Int) 1 20).bind fun r4 =>
    bif (!r4.1)
    then some (false, ())
    else bif (decide (x3 > 0))
     then bif ((decide (0 ≤ (w64 (x3 - 1)))) && (decide ((w64 (x3 - 1)) < (List.length x0 : Int))))
      then bif ((decide (0 ≤ x3)) && (decide (x3 < (List.length x0 : Int))))
       then bif (!(Op.bytesLess (ByteArray.toList ((List.getD x0 (Int.toNat (w64 (x3 - 1))) (ByteArray.empty, (0, (0, (ByteArray.empty, []))))).1)) (ByteArray.toList ((List.getD x0 (Int.toNat x3) (ByteArray.empty, (0, (0, (ByteArray.empty, []))))).1))))
        then some (false, ())
        else bif ((decide (0 ≤ x3)) && (decide (x3 < (List.length x0 : Int))))
         then (spec_ValOk (((List.getD x0 (Int.toNat x3) (ByteArray.empty, (0, (0, (ByteArray.empty, []))))).2).1, ((((List.getD x0 (Int.toNat x3) (ByteArray.empty, (0, (0, (ByteArray.empty, []))))).2).2).1, ((((List.getD x0 (Int.toNat x3) (ByteArray.empty, (0, (0, (ByteArray.empty, []))))).2).2).2)))).bind fun r5 =>
          bif (!r5.1)
          then some (false, ())
          else spec_TableOk_L0 x0 (w64 (x3 + 1))
         else none
       else none
      else none
     else bif ((decide (0 ≤ x3)) && (decide (x3 < (List.length x0 : Int))))
      then (spec_ValOk (((List.getD x0 (Int.toNat x3) (ByteArray.empty, (0, (0, (ByteArray.empty, []))))).2).1, ((((List.getD x0 (Int.toNat x3) (ByteArray.empty, (0, (0, (ByteArray.empty, []))))).2).2).1, ((((List.getD x0 (Int.toNat x3) (ByteArray.empty, (0, (0, (ByteArray.empty, []))))).2).2).2)))).bind fun r5 =>
       bif (!r5.1)
       then some (false, ())
       else spec_TableOk_L0 x0 (w64 (x3 + 1))
      else none
   else none
  else some (true, ()) : Option (Bool × Unit)) := (loopAt_mk X 84 0 [] _ _ _).trans (by kernel_rfl)
theorem spec_Fault_eq (a0 : ByteArray) : spec_Fault a0 =
  (bif (limS ((ByteArray.size c___1_262) + (ByteArray.size a0)))
  then bif (limS ((ByteArray.size (c___1_262 ++ a0)) + (ByteArray.size c____2_7140)))
   then some (((c___1_262 ++ a0) ++ c____2_7140), ())
   else none
  else none : Option (ByteArray × Unit)) := (DF_eq X rfl _).trans (by kernel_rfl)
theorem impl_TableOk_eq (a0 : (List D_Entry)) : impl_TableOk a0 =
  (impl_TableOk_L0 a0 a0 (List.length a0 : Int) 0 : Option (Bool × Unit)) := (DF_eq X rfl _).trans (by kernel_rfl)
theorem impl_TableOk_L0_eq (x0 : (List D_Entry)) (x5 : (List D_Entry)) (x6 : Int) (x7 : Int) : impl_TableOk_L0 x0 x5 x6 x7 =
  (bif (decide (x7 < x6))
  then bif ((decide (0 ≤ x7)) && (decide (x7 < (List.length x5 : Int))))
   then (impl_keyOk ((List.getD x5 (Int.toNat x7) (ByteArray.empty, (0, (0, (ByteArray.empty, []))))).1)).bind fun r6 =>
    bif (!r6.1)
    then some (false, ())
    else (impl_ValOk (((List.getD x5 (Int.toNat x7) (ByteArray.empty, (0, (0, (ByteArray.empty, []))))).2).1, ((((List.getD x5 (Int.toNat x7) (ByteArray.empty, (0, (0, (ByteArray.empty, []))))).2).2).1, ((((List.getD x5 (Int.toNat x7) (ByteArray.empty, (0, (0, (ByteArray.empty, []))))).2).2).2)))).bind fun r7 =>
     bif (!r7.1)
     then some (false, ())
     else bif (decide (x7 > 0))
      then bif ((decide (0 ≤ (w64 (x7 - 1)))) && (decide ((w64 (x7 - 1)) < (List.length x0 : Int))))
       then bif (!(Op.bytesLess (ByteArray.toList ((List.getD x0 (Int.toNat (w64 (x7 - 1))) (ByteArray.empty, (0, (0, (ByteArray.empty, []))))).1)) (ByteArray.toList ((List.getD x5 (Int.toNat x7) (ByteArray.empty, (0, (0, (ByteArray.empty, []))))).1))))
        then some (false, ())
        else impl_TableOk_L0 x0 x5 x6 (w64 (x7 + 1))
       else none
      else impl_TableOk_L0 x0 x5 x6 (w64 (x7 + 1))
   else none
  else some ((decide ((List.length x0 : Int) ≤ 20)), ()) : Option (Bool × Unit)) := (loopAt_mk X 89 0 [] _ _ _).trans (by kernel_rfl)
theorem impl_copyTable_eq (a0 : (List D_Entry)) : impl_copyTable a0 =
  (impl_copyTable_L0 [] a0 (List.length a0 : Int) 0 : Option ((List D_Entry) × Unit)) := (DF_eq X rfl _).trans (by kernel_rfl)
theorem impl_copyTable_L0_eq (x3 : (List D_Entry)) (x6 : (List D_Entry)) (x7 : Int) (x8 : Int) : impl_copyTable_L0 x3 x6 x7 x8 =
  (bif (decide (x8 < x7))
  then bif ((decide (0 ≤ x8)) && (decide (x8 < (List.length x6 : Int))))
   then (impl_copyVal (((List.getD x6 (Int.toNat x8) (ByteArray.empty, (0, (0, (ByteArray.empty, []))))).2).1, ((((List.getD x6 (Int.toNat x8) (ByteArray.empty, (0, (0, (ByteArray.empty, []))))).2).2).1, ((((List.getD x6 (Int.toNat x8) (ByteArray.empty, (0, (0, (ByteArray.empty, []))))).2).2).2)))).bind fun r6 =>
    bif (lim ((List.length x3) + 1) 72)
    then impl_copyTable_L0 (x3 ++ [((List.getD x6 (Int.toNat x8) (ByteArray.empty, (0, (0, (ByteArray.empty, []))))).1, (r6.1.1, (r6.1.2.1, (r6.1.2.2.1, r6.1.2.2.2))))]) x6 x7 (w64 (x8 + 1))
    else none
   else none
  else some (x3, ()) : Option ((List D_Entry) × Unit)) := (loopAt_mk X 90 0 [] _ _ _).trans (by kernel_rfl)
theorem impl_Fault_eq (a0 : ByteArray) : impl_Fault a0 =
  (bif (limS ((ByteArray.size c___1_262) + (ByteArray.size a0)))
  then bif (limS ((ByteArray.size (c___1_262 ++ a0)) + (ByteArray.size c____2_7140)))
   then some (((c___1_262 ++ a0) ++ c____2_7140), ())
   else none
  else none : Option (ByteArray × Unit)) := (DF_eq X rfl _).trans (by kernel_rfl)
theorem spec_Array_eq (a0 : (List ByteArray)) : spec_Array a0 =
  ((spec_Decimal (List.length a0 : Int)).bind fun r3 =>
  bif (limS ((ByteArray.size c___1_259) + (ByteArray.size r3.1)))
  then bif (limS ((ByteArray.size (c___1_259 ++ r3.1)) + (ByteArray.size c____2_7140)))
   then spec_Array_L0 a0 (bytesL ((c___1_259 ++ r3.1) ++ c____2_7140)) 0
   else none
  else none : Option (ByteArray × Unit)) := (DF_eq X rfl _).trans (by kernel_rfl)
theorem spec_Array_L0_eq (x0 : (List ByteArray)) (x3 : (List Int)) (x4 : Int) : spec_Array_L0 x0 x3 x4 =
  (bif (decide (x4 < (List.length x0 : Int)))
  then bif ((decide (0 ≤ x4)) && (decide (x4 < (List.length x0 : Int))))
   then bif (lim ((List.length x3) + (List.length (bytesL (List.getD x0 (Int.toNat x4) ByteArray.empty)))) 1)
    then spec_Array_L0 x0 (x3 ++ (bytesL (List.getD x0 (Int.toNat x4) ByteArray.empty))) (w64 (x4 + 1))
    else none
   else none
  else some ((⟨(List.toArray (List.map (fun n => (UInt8.ofNat (Int.toNat n))) x3))⟩ : ByteArray), ()) : Option (ByteArray × Unit)) := (loopAt_mk X 95 0 [] _ _ _).trans (by kernel_rfl)
theorem laws_szVal_eq (a0 : D_Val) (a1 : Int) : laws_szVal a0 a1 =
  (bif (decide ((w64 (a1 - (ByteArray.size a0.2.2.1 : Int))) < 0))
  then some ((-1), ())
  else (laws_szStringS a0.2.2.2 (w64 (a1 - (ByteArray.size a0.2.2.1 : Int)))).bind fun r4 =>
   bif (decide (r4.1 < 0))
   then some ((-1), ())
   else some (r4.1, ()) : Option (Int × Unit)) := (DF_eq X rfl _).trans (by kernel_rfl)
theorem spec_ArityOk_eq (a0 : (List ByteArray)) : spec_ArityOk a0 =
  (bif ((List.length a0 : Int) == 0)
  then some (false, ())
  else (spec_Commands).bind fun r3 =>
   bif ((decide ((0 : Int) ≤ 0)) && (decide (0 < (List.length a0 : Int))))
   then (spec_Upper (List.getD a0 (Int.toNat 0) ByteArray.empty)).bind fun r4 =>
    (spec_l13In r3.1 r4.1).bind fun r5 =>
    bif (!r5.1)
    then some (false, ())
    else bif ((decide ((0 : Int) ≤ 0)) && (decide (0 < (List.length a0 : Int))))
     then (spec_Upper (List.getD a0 (Int.toNat 0) ByteArray.empty)).bind fun r6 =>
      (spec_l13In ([c_PING, c_KEYS, c_DBSIZE, c_FLUSHALL]) r6.1).bind fun r7 =>
      bif r7.1
      then some (((w64 ((List.length a0 : Int) - 1)) == 0), ())
      else (spec_l13In ([c_SET, c_SETNX, c_GETSET, c_APPEND, c_INCRBY, c_DECRBY, c_EXPIRE, c_LINDEX, c_HGET, c_SISMEMBER]) r6.1).bind fun r8 =>
       bif r8.1
       then some (((w64 ((List.length a0 : Int) - 1)) == 2), ())
       else (spec_l13In ([c_LRANGE, c_HSET]) r6.1).bind fun r9 =>
        bif r9.1
        then some (((w64 ((List.length a0 : Int) - 1)) == 3), ())
        else (spec_l13In ([c_MGET, c_DEL, c_EXISTS]) r6.1).bind fun r10 =>
         bif r10.1
         then some ((decide ((w64 ((List.length a0 : Int) - 1)) ≥ 1)), ())
         else (spec_l13In ([c_LPUSH, c_RPUSH, c_HDEL, c_SADD, c_SREM]) r6.1).bind fun r11 =>
          bif r11.1
          then some ((decide ((w64 ((List.length a0 : Int) - 1)) ≥ 2)), ())
          else bif ((ByteArray.toList r6.1) == (ByteArray.toList c_MSET))
           then bif ((w64 ((List.length a0 : Int) - 1)) == 2)
            then some (true, ())
            else bif ((w64 ((List.length a0 : Int) - 1)) == 4)
             then some (true, ())
             else some (((w64 ((List.length a0 : Int) - 1)) == 6), ())
           else some (((w64 ((List.length a0 : Int) - 1)) == 1), ())
     else none
   else none : Option (Bool × Unit)) := (DF_eq X rfl _).trans (by kernel_rfl)
theorem spec_l13In_eq (a0 : (List ByteArray)) (a1 : ByteArray) : spec_l13In a0 a1 =
  (spec_l13In_L0 a0 a1 0 : Option (Bool × Unit)) := (DF_eq X rfl _).trans (by kernel_rfl)
theorem spec_l13In_L0_eq (x0 : (List ByteArray)) (x1 : ByteArray) (x5 : Int) : spec_l13In_L0 x0 x1 x5 =
  (bif (decide (x5 < (List.length x0 : Int)))
  then bif ((decide (0 ≤ x5)) && (decide (x5 < (List.length x0 : Int))))
   then bif ((ByteArray.toList (List.getD x0 (Int.toNat x5) ByteArray.empty)) == (ByteArray.toList x1))
    then some (true, ())
    else spec_l13In_L0 x0 x1 (w64 (x5 + 1))
   else none
  else some (false, ()) : Option (Bool × Unit)) := (loopAt_mk X 101 0 [] _ _ _).trans (by kernel_rfl)
theorem spec_l14Done_eq (a0 : (List D_Entry)) (a1 : (List D_Entry)) (a2 : ByteArray) : spec_l14Done a0 a1 a2 =
  ((spec_TableOk a1).bind fun r5 =>
  bif (!r5.1)
  then (spec_l10CopyTable a0).bind fun r6 =>
   (spec_Fault c_ERR_limit).bind fun r7 =>
   some ((r6.1, (r7.1, true)), ())
  else (spec_l10CopyTable a1).bind fun r6 =>
   some ((r6.1, (a2, true)), ()) : Option (((List D_Entry) × ByteArray × Bool) × Unit)) := (DF_eq X rfl _).trans (by kernel_rfl)
theorem spec_l14Put_eq (a0 : (List D_Entry)) (a1 : ByteArray) (a2 : D_Val) : spec_l14Put a0 a1 a2 =
  (spec_l14Put_L0 a0 a1 [] 0 a2.1 a2.2.1 a2.2.2.1 a2.2.2.2 : Option ((List D_Entry) × Unit)) := (DF_eq X rfl _).trans (by kernel_rfl)
theorem spec_l14Put_L0_eq (x0 : (List D_Entry)) (x1 : ByteArray) (x7 : (List D_Entry)) (x8 : Int) (b0_0 : Int) (b0_1 : Int) (b0_2 : ByteArray) (b0_3 : (List ByteArray)) : spec_l14Put_L0 x0 x1 x7 x8 b0_0 b0_1 b0_2 b0_3 =
  (bif (decide (x8 < (List.length x0 : Int)))
  then bif ((decide (0 ≤ x8)) && (decide (x8 < (List.length x0 : Int))))
   then bif (Op.bytesLess (ByteArray.toList ((List.getD x0 (Int.toNat x8) (ByteArray.empty, (0, (0, (ByteArray.empty, []))))).1)) (ByteArray.toList x1))
    then bif ((decide (0 ≤ x8)) && (decide (x8 < (List.length x0 : Int))))
     then bif (lim ((List.length x7) + 1) 72)
      then spec_l14Put_L0 x0 x1 (x7 ++ [((List.getD x0 (Int.toNat x8) (ByteArray.empty, (0, (0, (ByteArray.empty, []))))).1, (((List.getD x0 (Int.toNat x8) (ByteArray.empty, (0, (0, (ByteArray.empty, []))))).2).1, ((((List.getD x0 (Int.toNat x8) (ByteArray.empty, (0, (0, (ByteArray.empty, []))))).2).2).1, (((((List.getD x0 (Int.toNat x8) (ByteArray.empty, (0, (0, (ByteArray.empty, []))))).2).2).2).1, ((((List.getD x0 (Int.toNat x8) (ByteArray.empty, (0, (0, (ByteArray.empty, []))))).2).2).2).2))))]) (w64 (x8 + 1)) b0_0 b0_1 b0_2 b0_3
      else none
     else none
    else spec_l14Put_L0 x0 x1 x7 (w64 (x8 + 1)) b0_0 b0_1 b0_2 b0_3
   else none
  else bif (b0_0 != 0)
   then bif (lim ((List.length x7) + 1) 72)
    then spec_l14Put_L2 x0 x1 (x7 ++ [(x1, (b0_0, (b0_1, (b0_2, b0_3))))]) 0
    else none
   else spec_l14Put_L2 x0 x1 x7 0 : Option ((List D_Entry) × Unit)) := (loopAt_mk X 103 0 [] _ _ _).trans (by kernel_rfl)
theorem spec_l14Put_L2_eq (x0 : (List D_Entry)) (x1 : ByteArray) (x7 : (List D_Entry)) (x9 : Int) : spec_l14Put_L2 x0 x1 x7 x9 =
  (bif (decide (x9 < (List.length x0 : Int)))
  then bif ((decide (0 ≤ x9)) && (decide (x9 < (List.length x0 : Int))))
   then bif (!((Op.bytesLess (ByteArray.toList ((List.getD x0 (Int.toNat x9) (ByteArray.empty, (0, (0, (ByteArray.empty, []))))).1)) (ByteArray.toList x1)) || ((ByteArray.toList ((List.getD x0 (Int.toNat x9) (ByteArray.empty, (0, (0, (ByteArray.empty, []))))).1)) == (ByteArray.toList x1))))
    then bif ((decide (0 ≤ x9)) && (decide (x9 < (List.length x0 : Int))))
     then bif (lim ((List.length x7) + 1) 72)
      then spec_l14Put_L2 x0 x1 (x7 ++ [((List.getD x0 (Int.toNat x9) (ByteArray.empty, (0, (0, (ByteArray.empty, []))))).1, (((List.getD x0 (Int.toNat x9) (ByteArray.empty, (0, (0, (ByteArray.empty, []))))).2).1, ((((List.getD x0 (Int.toNat x9) (ByteArray.empty, (0, (0, (ByteArray.empty, []))))).2).2).1, (((((List.getD x0 (Int.toNat x9) (ByteArray.empty, (0, (0, (ByteArray.empty, []))))).2).2).2).1, ((((List.getD x0 (Int.toNat x9) (ByteArray.empty, (0, (0, (ByteArray.empty, []))))).2).2).2).2))))]) (w64 (x9 + 1))
      else none
     else none
    else spec_l14Put_L2 x0 x1 x7 (w64 (x9 + 1))
   else none
  else some (x7, ()) : Option ((List D_Entry) × Unit)) := (loopAt_mk X 103 2 [] _ _ _).trans (by kernel_rfl)
theorem spec_Decimal_eq (a0 : Int) : spec_Decimal a0 =
  (bif (a0 == 0)
  then some (c_0, ())
  else spec_Decimal_L0 a0 (decide (a0 < 0)) ByteArray.empty : Option (ByteArray × Unit)) := (DF_eq X rfl _).trans (by kernel_rfl)
theorem spec_Decimal_L0_eq (x0 : Int) (x3 : Bool) (x4 : ByteArray) : spec_Decimal_L0 x0 x3 x4 =
  (bif (x0 != 0)
  then bif (decide ((Int.tmod x0 10) < 0))
   then (spec_l01Figure (w64 (0 - (Int.tmod x0 10)))).bind fun r5 =>
    bif (limS ((ByteArray.size (⟨(List.toArray (List.map (fun n => (UInt8.ofNat (Int.toNat n))) [r5.1]))⟩ : ByteArray)) + (ByteArray.size x4)))
    then spec_Decimal_L0 (w64 (Int.tdiv x0 10)) x3 ((⟨(List.toArray (List.map (fun n => (UInt8.ofNat (Int.toNat n))) [r5.1]))⟩ : ByteArray) ++ x4)
    else none
   else (spec_l01Figure (Int.tmod x0 10)).bind fun r5 =>
    bif (limS ((ByteArray.size (⟨(List.toArray (List.map (fun n => (UInt8.ofNat (Int.toNat n))) [r5.1]))⟩ : ByteArray)) + (ByteArray.size x4)))
    then spec_Decimal_L0 (w64 (Int.tdiv x0 10)) x3 ((⟨(List.toArray (List.map (fun n => (UInt8.ofNat (Int.toNat n))) [r5.1]))⟩ : ByteArray) ++ x4)
    else none
  else bif x3
   then bif (limS ((ByteArray.size c___1_262) + (ByteArray.size x4)))
    then some ((c___1_262 ++ x4), ())
    else none
   else some (x4, ()) : Option (ByteArray × Unit)) := (loopAt_mk X 104 0 [] _ _ _).trans (by kernel_rfl)
theorem spec_l10Copy_eq (a0 : D_Val) : spec_l10Copy a0 =
  (bif (lim (0 + (List.length a0.2.2.2)) 16)
  then some ((a0.1, (a0.2.1, (a0.2.2.1, ([] ++ a0.2.2.2)))), ())
  else none : Option (D_Val × Unit)) := (DF_eq X rfl _).trans (by kernel_rfl)
theorem laws_toVal_eq (a0 : D_Val) : laws_toVal a0 =
  ((laws_toStringS a0.2.2.2).bind fun r3 =>
  some ((a0.1, (a0.2.1, (a0.2.2.1, r3.1))), ()) : Option (D_Val × Unit)) := (DF_eq X rfl _).trans (by kernel_rfl)
theorem impl_oneOf_eq (a0 : (List ByteArray)) (a1 : ByteArray) : impl_oneOf a0 a1 =
  (bif (decide ((List.length a0 : Int) > 0))
  then (strings_Fields a1).bind fun r4 =>
   bif ((decide ((0 : Int) ≤ 0)) && (decide (0 < (List.length a0 : Int))))
   then (impl_Upper (List.getD a0 (Int.toNat 0) ByteArray.empty)).bind fun r5 =>
    (slices_Contains___string_string_ r4.1 r5.1).bind fun r6 =>
    some (r6.1, ())
   else none
  else some (false, ()) : Option (Bool × Unit)) := (DF_eq X rfl _).trans (by kernel_rfl)
theorem impl_ArityOk_eq (a0 : (List ByteArray)) : impl_ArityOk a0 =
  ((impl_oneOf a0 c_PING_ECHO_GE_244_482754).bind fun r3 =>
  bif (!r3.1)
  then some (false, ())
  else (impl_oneOf a0 c_PING_KEYS_DB_25_770361).bind fun r4 =>
   bif r4.1
   then some (((w64 ((List.length a0 : Int) - 1)) == 0), ())
   else (impl_oneOf a0 c_ECHO_GET_STR_91_76732).bind fun r5 =>
    bif r5.1
    then some (((w64 ((List.length a0 : Int) - 1)) == 1), ())
    else (impl_oneOf a0 c_SET_SETNX_GE_66_689460).bind fun r6 =>
     bif r6.1
     then some (((w64 ((List.length a0 : Int) - 1)) == 2), ())
     else (impl_oneOf a0 c_LRANGE_HSET).bind fun r7 =>
      bif r7.1
      then some (((w64 ((List.length a0 : Int) - 1)) == 3), ())
      else (impl_oneOf a0 c_MGET_DEL_EXISTS).bind fun r8 =>
       bif r8.1
       then some ((decide ((w64 ((List.length a0 : Int) - 1)) ≥ 1)), ())
       else (impl_oneOf a0 c_LPUSH_RPUSH__26_457431).bind fun r9 =>
        bif r9.1
        then some ((decide ((w64 ((List.length a0 : Int) - 1)) ≥ 2)), ())
        else bif ((w64 ((List.length a0 : Int) - 1)) == 2)
         then some (true, ())
         else bif ((w64 ((List.length a0 : Int) - 1)) == 4)
          then some (true, ())
          else some (((w64 ((List.length a0 : Int) - 1)) == 6), ()) : Option (Bool × Unit)) := (DF_eq X rfl _).trans (by kernel_rfl)
theorem __loop_example_g00124_impl_desk__put_eq (a0 : D_desk) (a1 : ByteArray) (a2 : D_Val) : __loop_example_g00124_impl_desk__put a0 a1 a2 =
  (bif a0.2.2
  then some ((), (a0, ()))
  else (slices_BinarySearchFunc___loop_example_g00124_impl_Entry_loop_example_g00124_impl_Entry_string_ a0.1 a1 ()).bind fun r5 =>
   bif r5.1.2
   then bif ((decide (0 ≤ r5.1.1)) && (decide (r5.1.1 < (List.length a0.1 : Int))))
    then some ((), (((List.set a0.1 (Int.toNat r5.1.1) ((List.getD a0.1 (Int.toNat r5.1.1) (ByteArray.empty, (0, (0, (ByteArray.empty, []))))).1, (a2.1, (a2.2.1, (a2.2.2.1, a2.2.2.2))))), a0.2), ()))
    else none
   else (slices_Insert___loop_example_g00124_impl_Entry_loop_example_g00124_impl_Entry_ a0.1 r5.1.1 ([(a1, (a2.1, (a2.2.1, (a2.2.2.1, a2.2.2.2))))])).bind fun r6 =>
    some ((), ((r6.1, a0.2), ())) : Option (Unit × (D_desk × Unit))) := (DF_eq X rfl _).trans (by kernel_rfl)
theorem slices_Contains___string_string__eq (a0 : (List ByteArray)) (a1 : ByteArray) : slices_Contains___string_string_ a0 a1 =
  ((slices_Index___string_string_ a0 a1).bind fun r4 =>
  some ((decide (r4.1 ≥ 0)), ()) : Option (Bool × Unit)) := (DF_eq X rfl _).trans (by kernel_rfl)
end Go.Den.S
