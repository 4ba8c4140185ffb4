/- EqD0: equations of the functions of this seat as the executor tells them, or plain facts about them. Conditions: none here. -/
import Derived.Test.YtkpdhadfnanagaaDoorEqA
set_option linter.all false
namespace Go.Den.S
open Go Go.Den Go.Proofs
theorem laws_FnExactWorldNew_eq (a0 : Int) : laws_FnExactWorldNew a0 =
  ((spec_WorldNew a0).bind fun r3 =>
  (impl_WorldNew a0).bind fun r4 =>
  (laws_eqWorld r4.1.1 r3.1.1).bind fun r5 =>
  bif (!r5.1)
  then some (false, ())
  else bif (!(r4.1.2 == r3.1.2))
   then some (false, ())
   else (laws_markWorld r4.1.1 1).bind fun r6 =>
    (laws_heldWorld ((r6.2.1.1.1, (r4.1.1.1.2.1, (r4.1.1.1.2.2.1, (r4.1.1.1.2.2.2.1, r6.2.1.1.2.2.2.2)))), (r6.2.1.2.1, (r4.1.1.2.2.1, (r6.2.1.2.2.2.1, (r6.2.1.2.2.2.2.1, (r6.2.1.2.2.2.2.2.1, r4.1.1.2.2.2.2.2.2)))))) 1).bind fun r7 =>
    bif (decide (r7.1 < 0))
    then some (false, ())
    else bif (r7.1 != r6.1)
     then some (false, ())
     else (impl_WorldNew a0).bind fun r8 =>
      (laws_eqWorld r8.1.1 r3.1.1).bind fun r9 =>
      bif (!r9.1)
      then some (false, ())
      else bif (!(r8.1.2 == r3.1.2))
       then some (false, ())
       else (laws_heldWorld ((r6.2.1.1.1, (r4.1.1.1.2.1, (r4.1.1.1.2.2.1, (r4.1.1.1.2.2.2.1, r6.2.1.1.2.2.2.2)))), (r6.2.1.2.1, (r4.1.1.2.2.1, (r6.2.1.2.2.2.1, (r6.2.1.2.2.2.2.1, (r6.2.1.2.2.2.2.2.1, r4.1.1.2.2.2.2.2.2)))))) 1).bind fun r10 =>
        bif (decide (r10.1 < 0))
        then some (false, ())
        else bif (r10.1 != r6.1)
         then some (false, ())
         else some (true, ()) : Option (Bool × Unit)) := (DF_eq X rfl _).trans (by kernel_rfl)
theorem laws_eqConn_eq (a0 : D_Conn) (a1 : D_Conn) : laws_eqConn a0 a1 =
  (bif (!((ByteArray.toList a0.1) == (ByteArray.toList a1.1)))
  then some (false, ())
  else bif (!(a0.2.1 == a1.2.1))
   then some (false, ())
   else bif (!(a0.2.2.1 == a1.2.2.1))
    then some (false, ())
    else (laws_eqStringSS a0.2.2.2.1 a1.2.2.2.1).bind fun r4 =>
     bif (!r4.1)
     then some (false, ())
     else bif (!(a0.2.2.2.2 == a1.2.2.2.2))
      then some (false, ())
      else some (true, ()) : Option (Bool × Unit)) := (DF_eq X rfl _).trans (by kernel_rfl)
theorem laws_eqStringSS_eq (a0 : (List (List ByteArray))) (a1 : (List (List ByteArray))) : laws_eqStringSS a0 a1 =
  (bif ((List.length a0 : Int) != (List.length a1 : Int))
  then some (false, ())
  else laws_eqStringSS_L0 a0 a1 0 : Option (Bool × Unit)) := (DF_eq X rfl _).trans (by kernel_rfl)
theorem laws_eqStringSS_L0_eq (x0 : (List (List ByteArray))) (x1 : (List (List ByteArray))) (x5 : Int) : laws_eqStringSS_L0 x0 x1 x5 =
  (bif (decide (x5 < (List.length x0 : Int)))
  then bif ((decide (0 ≤ x5)) && (decide (x5 < (List.length x0 : Int))))
   then bif ((decide (0 ≤ x5)) && (decide (x5 < (List.length x1 : Int))))
    then (laws_eqStringS (List.getD x0 (Int.toNat x5) []) (List.getD x1 (Int.toNat x5) [])).bind fun r5 =>
     bif (!r5.1)
     then some (false, ())
     else laws_eqStringSS_L0 x0 x1 (w64 (x5 + 1))
    else none
   else none
  else some (true, ()) : Option (Bool × Unit)) := (loopAt_mk X 28 0 [] _ _ _).trans (by kernel_rfl)
theorem laws_eqStringS_eq (a0 : (List ByteArray)) (a1 : (List ByteArray)) : laws_eqStringS a0 a1 =
  (bif ((List.length a0 : Int) != (List.length a1 : Int))
  then some (false, ())
  else laws_eqStringS_L0 a0 a1 0 : Option (Bool × Unit)) := (DF_eq X rfl _).trans (by kernel_rfl)
theorem laws_eqStringS_L0_eq (x0 : (List ByteArray)) (x1 : (List ByteArray)) (x5 : Int) : laws_eqStringS_L0 x0 x1 x5 =
  (bif (decide (x5 < (List.length x0 : Int)))
  then bif ((decide (0 ≤ x5)) && (decide (x5 < (List.length x0 : Int))))
   then bif ((decide (0 ≤ x5)) && (decide (x5 < (List.length x1 : Int))))
    then bif (!((ByteArray.toList (List.getD x0 (Int.toNat x5) ByteArray.empty)) == (ByteArray.toList (List.getD x1 (Int.toNat x5) ByteArray.empty))))
     then some (false, ())
     else laws_eqStringS_L0 x0 x1 (w64 (x5 + 1))
    else none
   else none
  else some (true, ()) : Option (Bool × Unit)) := (loopAt_mk X 29 0 [] _ _ _).trans (by kernel_rfl)
theorem laws_markStringS_eq (a0 : (List ByteArray)) (a1 : Int) : laws_markStringS a0 a1 =
  (laws_markStringS_L0 a1 0 a0 : Option (Int × ((List ByteArray) × Unit))) := (DF_eq X rfl _).trans (by kernel_rfl)
theorem laws_markStringS_L0_eq (x1 : Int) (x5 : Int) (r3000000 : (List ByteArray)) : laws_markStringS_L0 x1 x5 r3000000 =
  (bif (decide (x5 < (List.length r3000000 : Int)))
  then (laws_markText x1).bind fun r5 =>
   bif ((decide (0 ≤ x5)) && (decide (x5 < (List.length r3000000 : Int))))
   then laws_markStringS_L0 (w64 (x1 + 1)) (w64 (x5 + 1)) (List.set r3000000 (Int.toNat x5) r5.1)
   else none
  else some (x1, (r3000000, ())) : Option (Int × ((List ByteArray) × Unit))) := (loopAt_mk X 30 0 [] _ _ _).trans (by kernel_rfl)
theorem laws_markStringSS_eq (a0 : (List (List ByteArray))) (a1 : Int) : laws_markStringSS a0 a1 =
  (laws_markStringSS_L0 a1 0 a0 : Option (Int × ((List (List ByteArray)) × Unit))) := (DF_eq X rfl _).trans (by kernel_rfl)
theorem laws_markStringSS_L0_eq (x1 : Int) (x5 : Int) (r3000000 : (List (List ByteArray))) : laws_markStringSS_L0 x1 x5 r3000000 =
  (bif (decide (x5 < (List.length r3000000 : Int)))
  then bif ((decide (0 ≤ x5)) && (decide (x5 < (List.length r3000000 : Int))))
   then (laws_markStringS (List.getD r3000000 (Int.toNat x5) []) x1).bind fun r5 =>
    laws_markStringSS_L0 r5.1 (w64 (x5 + 1)) (List.set r3000000 (Int.toNat x5) r5.2.1)
   else none
  else some (x1, (r3000000, ())) : Option (Int × ((List (List ByteArray)) × Unit))) := (loopAt_mk X 31 0 [] _ _ _).trans (by kernel_rfl)
theorem laws_heldStringSS_eq (a0 : (List (List ByteArray))) (a1 : Int) : laws_heldStringSS a0 a1 =
  (laws_heldStringSS_L0 a0 a1 0 : Option (Int × Unit)) := (DF_eq X rfl _).trans (by kernel_rfl)
theorem laws_heldStringSS_L0_eq (x0 : (List (List ByteArray))) (x1 : Int) (x5 : Int) : laws_heldStringSS_L0 x0 x1 x5 =
  (bif (decide (x5 < (List.length x0 : Int)))
  then bif ((decide (0 ≤ x5)) && (decide (x5 < (List.length x0 : Int))))
   then (laws_heldStringS (List.getD x0 (Int.toNat x5) []) x1).bind fun r5 =>
    bif (decide (r5.1 < 0))
    then some ((-1), ())
    else laws_heldStringSS_L0 x0 r5.1 (w64 (x5 + 1))
   else none
  else some (x1, ()) : Option (Int × Unit)) := (loopAt_mk X 32 0 [] _ _ _).trans (by kernel_rfl)
theorem laws_heldStringS_eq (a0 : (List ByteArray)) (a1 : Int) : laws_heldStringS a0 a1 =
  (laws_heldStringS_L0 a0 a1 0 : Option (Int × Unit)) := (DF_eq X rfl _).trans (by kernel_rfl)
theorem laws_heldStringS_L0_eq (x0 : (List ByteArray)) (x1 : Int) (x5 : Int) : laws_heldStringS_L0 x0 x1 x5 =
  (bif (decide (x5 < (List.length x0 : Int)))
  then bif ((decide (0 ≤ x5)) && (decide (x5 < (List.length x0 : Int))))
   then (laws_markText x1).bind fun r5 =>
    bif (!((ByteArray.toList (List.getD x0 (Int.toNat x5) ByteArray.empty)) == (ByteArray.toList r5.1)))
    then some ((-1), ())
    else laws_heldStringS_L0 x0 (w64 (x1 + 1)) (w64 (x5 + 1))
   else none
  else some (x1, ()) : Option (Int × Unit)) := (loopAt_mk X 37 0 [] _ _ _).trans (by kernel_rfl)
theorem spec_WorldNew_eq (a0 : Int) : spec_WorldNew a0 =
  ((spec_FormatEngine a0).bind fun r3 =>
  bif (!r3.1.2)
  then some (((([], (0, (0, (0, [])))), ([], (0, ([], ([], ([], false)))))), false), ())
  else bif ((decide ((0 : Int) ≤ 3)) && ((decide ((3 : Int) ≤ 3)) && (lim (Int.toNat 3) 56)))
   then bif ((decide ((0 : Int) ≤ 3)) && ((decide ((3 : Int) ≤ 3)) && (lim (Int.toNat 3) 16)))
    then some (((r3.1.1, ([], (0, ((List.replicate (Int.toNat 3) (ByteArray.empty, (false, (false, ([], false))))), ((List.replicate (Int.toNat 3) ByteArray.empty), ([], false)))))), true), ())
    else none
   else none : Option ((D_World × Bool) × Unit)) := (DF_eq X rfl _).trans (by kernel_rfl)
theorem impl_WorldNew_eq (a0 : Int) : impl_WorldNew a0 =
  ((impl_FormatEngine a0).bind fun r3 =>
  bif (!r3.1.2)
  then some (((([], (0, (0, (0, [])))), ([], (0, ([], ([], ([], false)))))), false), ())
  else bif ((decide ((0 : Int) ≤ 3)) && ((decide ((3 : Int) ≤ 3)) && (lim (Int.toNat 3) 56)))
   then bif ((decide ((0 : Int) ≤ 3)) && ((decide ((3 : Int) ≤ 3)) && (lim (Int.toNat 3) 16)))
    then some (((r3.1.1, ([], (0, ((List.replicate (Int.toNat 3) (ByteArray.empty, (false, (false, ([], false))))), ((List.replicate (Int.toNat 3) ByteArray.empty), ([], false)))))), true), ())
    else none
   else none : Option ((D_World × Bool) × Unit)) := (DF_eq X rfl _).trans (by kernel_rfl)
theorem laws_eqWorld_eq (a0 : D_World) (a1 : D_World) : laws_eqWorld a0 a1 =
  ((laws_eqEngine a0.1 a1.1).bind fun r4 =>
  bif (!r4.1)
  then some (false, ())
  else (laws_eqEntryS a0.2.1 a1.2.1).bind fun r5 =>
   bif (!r5.1)
   then some (false, ())
   else bif (a0.2.2.1 != a1.2.2.1)
    then some (false, ())
    else (laws_eqConnS a0.2.2.2.1 a1.2.2.2.1).bind fun r6 =>
     bif (!r6.1)
     then some (false, ())
     else (laws_eqStringS a0.2.2.2.2.1 a1.2.2.2.2.1).bind fun r7 =>
      bif (!r7.1)
      then some (false, ())
      else (laws_eqUnitS a0.2.2.2.2.2.1 a1.2.2.2.2.2.1).bind fun r8 =>
       bif (!r8.1)
       then some (false, ())
       else bif (!(a0.2.2.2.2.2.2 == a1.2.2.2.2.2.2))
        then some (false, ())
        else some (true, ()) : Option (Bool × Unit)) := (DF_eq X rfl _).trans (by kernel_rfl)
theorem laws_markWorld_eq (a0 : D_World) (a1 : Int) : laws_markWorld a0 a1 =
  ((laws_markEngine a0.1 a1).bind fun r4 =>
  (laws_markEntryS a0.2.1 r4.1).bind fun r5 =>
  (laws_markConnS a0.2.2.2.1 r5.1).bind fun r6 =>
  (laws_markStringS a0.2.2.2.2.1 r6.1).bind fun r7 =>
  (laws_markUnitS a0.2.2.2.2.2.1 r7.1).bind fun r8 =>
  some (r8.1, (((r4.2.1.1, (0, (0, (0, r4.2.1.2.2.2.2)))), (r5.2.1, (0, (r6.2.1, (r7.2.1, (r8.2.1, false)))))), ())) : Option (Int × (D_World × Unit))) := (DF_eq X rfl _).trans (by kernel_rfl)
theorem laws_heldWorld_eq (a0 : D_World) (a1 : Int) : laws_heldWorld a0 a1 =
  ((laws_heldEngine a0.1 a1).bind fun r4 =>
  bif (decide (r4.1 < 0))
  then some ((-1), ())
  else (laws_heldEntryS a0.2.1 r4.1).bind fun r5 =>
   bif (decide (r5.1 < 0))
   then some ((-1), ())
   else (laws_heldConnS a0.2.2.2.1 r5.1).bind fun r6 =>
    bif (decide (r6.1 < 0))
    then some ((-1), ())
    else (laws_heldStringS a0.2.2.2.2.1 r6.1).bind fun r7 =>
     bif (decide (r7.1 < 0))
     then some ((-1), ())
     else (laws_heldUnitS a0.2.2.2.2.2.1 r7.1).bind fun r8 =>
      bif (decide (r8.1 < 0))
      then some ((-1), ())
      else some (r8.1, ()) : Option (Int × Unit)) := (DF_eq X rfl _).trans (by kernel_rfl)
theorem laws_markText_eq (a0 : Int) : laws_markText a0 =
  (bif (decide (a0 ≤ 0))
  then some (c_m0, ())
  else laws_markText_L0 a0 ByteArray.empty : Option (ByteArray × Unit)) := (DF_eq X rfl _).trans (by kernel_rfl)
theorem laws_markText_L0_eq (x0 : Int) (x3 : ByteArray) : laws_markText_L0 x0 x3 =
  (bif (decide (x0 > 0))
  then bif (limS ((ByteArray.size (⟨(List.toArray (List.map (fun n => (UInt8.ofNat (Int.toNat n))) ([(Go.IntKind.u8.wrap (w64 (48 + (Int.tmod x0 10))))])))⟩ : ByteArray)) + (ByteArray.size x3)))
   then laws_markText_L0 (w64 (Int.tdiv x0 10)) ((⟨(List.toArray (List.map (fun n => (UInt8.ofNat (Int.toNat n))) ([(Go.IntKind.u8.wrap (w64 (48 + (Int.tmod x0 10))))])))⟩ : ByteArray) ++ x3)
   else none
  else bif (limS ((ByteArray.size c_m) + (ByteArray.size x3)))
   then some ((c_m ++ x3), ())
   else none : Option (ByteArray × Unit)) := (loopAt_mk X 65 0 [] _ _ _).trans (by kernel_rfl)
theorem spec_Decimal_eq (a0 : Int) : spec_Decimal a0 =
  (bif (a0 == 0)
  then some (c_0, ())
  else spec_Decimal_L0 a0 (decide (a0 < 0)) ByteArray.empty : Option (ByteArray × Unit)) := (DF_eq X rfl _).trans (by kernel_rfl)
theorem spec_Decimal_L0_eq (x0 : Int) (x3 : Bool) (x4 : ByteArray) : spec_Decimal_L0 x0 x3 x4 =
  (bif (x0 != 0)
  then bif (decide ((Int.tmod x0 10) < 0))
   then (spec_l01Figure (w64 (0 - (Int.tmod x0 10)))).bind fun r5 =>
    bif (limS ((ByteArray.size (⟨(List.toArray (List.map (fun n => (UInt8.ofNat (Int.toNat n))) [r5.1]))⟩ : ByteArray)) + (ByteArray.size x4)))
    then spec_Decimal_L0 (w64 (Int.tdiv x0 10)) x3 ((⟨(List.toArray (List.map (fun n => (UInt8.ofNat (Int.toNat n))) [r5.1]))⟩ : ByteArray) ++ x4)
    else none
   else (spec_l01Figure (Int.tmod x0 10)).bind fun r5 =>
    bif (limS ((ByteArray.size (⟨(List.toArray (List.map (fun n => (UInt8.ofNat (Int.toNat n))) [r5.1]))⟩ : ByteArray)) + (ByteArray.size x4)))
    then spec_Decimal_L0 (w64 (Int.tdiv x0 10)) x3 ((⟨(List.toArray (List.map (fun n => (UInt8.ofNat (Int.toNat n))) [r5.1]))⟩ : ByteArray) ++ x4)
    else none
  else bif x3
   then bif (limS ((ByteArray.size c___1_262) + (ByteArray.size x4)))
    then some ((c___1_262 ++ x4), ())
    else none
   else some (x4, ()) : Option (ByteArray × Unit)) := (loopAt_mk X 66 0 [] _ _ _).trans (by kernel_rfl)
theorem spec_FormatEngine_eq (a0 : Int) : spec_FormatEngine a0 =
  ((spec_l01In a0 100 20000).bind fun r3 =>
  bif (!r3.1)
  then some ((([], (0, (0, (0, [])))), false), ())
  else (spec_HeadText 0 0).bind fun r4 =>
   (spec_SegName 0).bind fun r5 =>
   some ((([(r5.1, (r4.1.1, (ByteArray.size r4.1.1 : Int)))], (a0, (0, (0, [])))), true), ()) : Option ((D_Engine × Bool) × Unit)) := (DF_eq X rfl _).trans (by kernel_rfl)
theorem impl_FormatEngine_eq (a0 : Int) : impl_FormatEngine a0 =
  ((impl_within a0 100 20000).bind fun r3 =>
  bif (!r3.1)
  then some ((([], (0, (0, (0, [])))), false), ())
  else (impl_HeadText 0 0).bind fun r4 =>
   (impl_SegName 0).bind fun r5 =>
   some ((([(r5.1, (r4.1.1, (ByteArray.size r4.1.1 : Int)))], (a0, (0, (0, [])))), true), ()) : Option ((D_Engine × Bool) × Unit)) := (DF_eq X rfl _).trans (by kernel_rfl)
theorem laws_eqEngine_eq (a0 : D_Engine) (a1 : D_Engine) : laws_eqEngine a0 a1 =
  ((laws_eqDisk a0.1 a1.1).bind fun r4 =>
  bif (!r4.1)
  then some (false, ())
  else bif (a0.2.1 != a1.2.1)
   then some (false, ())
   else bif (a0.2.2.1 != a1.2.2.1)
    then some (false, ())
    else bif (a0.2.2.2.1 != a1.2.2.2.1)
     then some (false, ())
     else (laws_eqSpotS a0.2.2.2.2 a1.2.2.2.2).bind fun r5 =>
      bif (!r5.1)
      then some (false, ())
      else some (true, ()) : Option (Bool × Unit)) := (DF_eq X rfl _).trans (by kernel_rfl)
theorem laws_eqEntryS_eq (a0 : (List D_Entry)) (a1 : (List D_Entry)) : laws_eqEntryS a0 a1 =
  (bif ((List.length a0 : Int) != (List.length a1 : Int))
  then some (false, ())
  else laws_eqEntryS_L0 a0 a1 0 : Option (Bool × Unit)) := (DF_eq X rfl _).trans (by kernel_rfl)
theorem laws_eqEntryS_L0_eq (x0 : (List D_Entry)) (x1 : (List D_Entry)) (x5 : Int) : laws_eqEntryS_L0 x0 x1 x5 =
  (bif (decide (x5 < (List.length x0 : Int)))
  then bif ((decide (0 ≤ x5)) && (decide (x5 < (List.length x0 : Int))))
   then bif ((decide (0 ≤ x5)) && (decide (x5 < (List.length x1 : Int))))
    then (laws_eqEntry ((List.getD x0 (Int.toNat x5) (ByteArray.empty, (0, (0, (ByteArray.empty, []))))).1, (((List.getD x0 (Int.toNat x5) (ByteArray.empty, (0, (0, (ByteArray.empty, []))))).2).1, ((((List.getD x0 (Int.toNat x5) (ByteArray.empty, (0, (0, (ByteArray.empty, []))))).2).2).1, ((((List.getD x0 (Int.toNat x5) (ByteArray.empty, (0, (0, (ByteArray.empty, []))))).2).2).2)))) ((List.getD x1 (Int.toNat x5) (ByteArray.empty, (0, (0, (ByteArray.empty, []))))).1, (((List.getD x1 (Int.toNat x5) (ByteArray.empty, (0, (0, (ByteArray.empty, []))))).2).1, ((((List.getD x1 (Int.toNat x5) (ByteArray.empty, (0, (0, (ByteArray.empty, []))))).2).2).1, ((((List.getD x1 (Int.toNat x5) (ByteArray.empty, (0, (0, (ByteArray.empty, []))))).2).2).2))))).bind fun r5 =>
     bif (!r5.1)
     then some (false, ())
     else laws_eqEntryS_L0 x0 x1 (w64 (x5 + 1))
    else none
   else none
  else some (true, ()) : Option (Bool × Unit)) := (loopAt_mk X 73 0 [] _ _ _).trans (by kernel_rfl)
theorem laws_eqConnS_eq (a0 : (List D_Conn)) (a1 : (List D_Conn)) : laws_eqConnS a0 a1 =
  (bif ((List.length a0 : Int) != (List.length a1 : Int))
  then some (false, ())
  else laws_eqConnS_L0 a0 a1 0 : Option (Bool × Unit)) := (DF_eq X rfl _).trans (by kernel_rfl)
theorem laws_eqConnS_L0_eq (x0 : (List D_Conn)) (x1 : (List D_Conn)) (x5 : Int) : laws_eqConnS_L0 x0 x1 x5 =
  (bif (decide (x5 < (List.length x0 : Int)))
  then bif ((decide (0 ≤ x5)) && (decide (x5 < (List.length x0 : Int))))
   then bif ((decide (0 ≤ x5)) && (decide (x5 < (List.length x1 : Int))))
    then (laws_eqConn ((List.getD x0 (Int.toNat x5) (ByteArray.empty, (false, (false, ([], false))))).1, (((List.getD x0 (Int.toNat x5) (ByteArray.empty, (false, (false, ([], false))))).2).1, ((((List.getD x0 (Int.toNat x5) (ByteArray.empty, (false, (false, ([], false))))).2).2).1, ((((List.getD x0 (Int.toNat x5) (ByteArray.empty, (false, (false, ([], false))))).2).2).2)))) ((List.getD x1 (Int.toNat x5) (ByteArray.empty, (false, (false, ([], false))))).1, (((List.getD x1 (Int.toNat x5) (ByteArray.empty, (false, (false, ([], false))))).2).1, ((((List.getD x1 (Int.toNat x5) (ByteArray.empty, (false, (false, ([], false))))).2).2).1, ((((List.getD x1 (Int.toNat x5) (ByteArray.empty, (false, (false, ([], false))))).2).2).2))))).bind fun r5 =>
     bif (!r5.1)
     then some (false, ())
     else laws_eqConnS_L0 x0 x1 (w64 (x5 + 1))
    else none
   else none
  else some (true, ()) : Option (Bool × Unit)) := (loopAt_mk X 74 0 [] _ _ _).trans (by kernel_rfl)
theorem laws_eqUnitS_eq (a0 : (List D_Unit)) (a1 : (List D_Unit)) : laws_eqUnitS a0 a1 =
  (bif ((List.length a0 : Int) != (List.length a1 : Int))
  then some (false, ())
  else laws_eqUnitS_L0 a0 a1 0 : Option (Bool × Unit)) := (DF_eq X rfl _).trans (by kernel_rfl)
theorem laws_eqUnitS_L0_eq (x0 : (List D_Unit)) (x1 : (List D_Unit)) (x5 : Int) : laws_eqUnitS_L0 x0 x1 x5 =
  (bif (decide (x5 < (List.length x0 : Int)))
  then bif ((decide (0 ≤ x5)) && (decide (x5 < (List.length x0 : Int))))
   then bif ((decide (0 ≤ x5)) && (decide (x5 < (List.length x1 : Int))))
    then (laws_eqUnit ((List.getD x0 (Int.toNat x5) (0, (0, ([], (false, (ByteArray.empty, false)))))).1, (((List.getD x0 (Int.toNat x5) (0, (0, ([], (false, (ByteArray.empty, false)))))).2).1, ((((List.getD x0 (Int.toNat x5) (0, (0, ([], (false, (ByteArray.empty, false)))))).2).2).1, (((((List.getD x0 (Int.toNat x5) (0, (0, ([], (false, (ByteArray.empty, false)))))).2).2).2).1, (((((List.getD x0 (Int.toNat x5) (0, (0, ([], (false, (ByteArray.empty, false)))))).2).2).2).2))))) ((List.getD x1 (Int.toNat x5) (0, (0, ([], (false, (ByteArray.empty, false)))))).1, (((List.getD x1 (Int.toNat x5) (0, (0, ([], (false, (ByteArray.empty, false)))))).2).1, ((((List.getD x1 (Int.toNat x5) (0, (0, ([], (false, (ByteArray.empty, false)))))).2).2).1, (((((List.getD x1 (Int.toNat x5) (0, (0, ([], (false, (ByteArray.empty, false)))))).2).2).2).1, (((((List.getD x1 (Int.toNat x5) (0, (0, ([], (false, (ByteArray.empty, false)))))).2).2).2).2)))))).bind fun r5 =>
     bif (!r5.1)
     then some (false, ())
     else laws_eqUnitS_L0 x0 x1 (w64 (x5 + 1))
    else none
   else none
  else some (true, ()) : Option (Bool × Unit)) := (loopAt_mk X 75 0 [] _ _ _).trans (by kernel_rfl)
theorem laws_markEngine_eq (a0 : D_Engine) (a1 : Int) : laws_markEngine a0 a1 =
  ((laws_markDisk a0.1 a1).bind fun r4 =>
  (laws_markSpotS a0.2.2.2.2 r4.1).bind fun r5 =>
  some (r5.1, ((r4.2.1, (0, (0, (0, r5.2.1)))), ())) : Option (Int × (D_Engine × Unit))) := (DF_eq X rfl _).trans (by kernel_rfl)
theorem laws_markEntryS_eq (a0 : (List D_Entry)) (a1 : Int) : laws_markEntryS a0 a1 =
  (laws_markEntryS_L1700000 a1 a0 : Option (Int × ((List D_Entry) × Unit))) := (DF_eq X rfl _).trans (by kernel_rfl)
theorem laws_markEntryS_L0_eq (x1 : Int) (x5 : Int) (r3000000 : (List D_Entry)) : laws_markEntryS_L0 x1 x5 r3000000 =
  (laws_markEntryS_L1700002 x1 x5 (decide (x5 < (List.length r3000000 : Int))) r3000000 : Option (Int × ((List D_Entry) × Unit))) := (loopAt_mk X 77 0 [] _ _ _).trans (by kernel_rfl)
theorem laws_markEntryS_L1700000_eq (x1 : Int) (r3000000 : (List D_Entry)) : laws_markEntryS_L1700000 x1 r3000000 =
  (laws_markEntryS_L1700001 x1 0 r3000000 : Option (Int × ((List D_Entry) × Unit))) := (loopAt_mk X 77 1700000 [] _ _ _).trans (by kernel_rfl)
theorem laws_markEntryS_L1700001_eq (x1 : Int) (x5 : Int) (r3000000 : (List D_Entry)) : laws_markEntryS_L1700001 x1 x5 r3000000 =
  (laws_markEntryS_L0 x1 x5 r3000000 : Option (Int × ((List D_Entry) × Unit))) := (loopAt_mk X 77 1700001 [] _ _ _).trans (by kernel_rfl)
theorem laws_markEntryS_L1700002_eq (x1 : Int) (x5 : Int) (x9 : Bool) (r3000000 : (List D_Entry)) : laws_markEntryS_L1700002 x1 x5 x9 r3000000 =
  (bif x9
  then (laws_markText x1).bind fun r6 =>
   bif ((decide (0 ≤ x5)) && (decide (x5 < (List.length r3000000 : Int))))
   then laws_markEntryS_L1700004 x1 x5 (List.set r3000000 (Int.toNat x5) (r6.1, (List.getD r3000000 (Int.toNat x5) (ByteArray.empty, (0, (0, (ByteArray.empty, []))))).2))
   else none
  else laws_markEntryS_L1700013 x1 r3000000 : Option (Int × ((List D_Entry) × Unit))) := (loopAt_mk X 77 1700002 [0] _ _ _).trans (by kernel_rfl)
theorem laws_markEntryS_L1700013_eq (x4 : Int) (r3000000 : (List D_Entry)) : laws_markEntryS_L1700013 x4 r3000000 =
  (some (x4, (r3000000, ())) : Option (Int × ((List D_Entry) × Unit))) := (loopAt_mk X 77 1700013 [] _ _ _).trans (by kernel_rfl)
theorem laws_markConnS_eq (a0 : (List D_Conn)) (a1 : Int) : laws_markConnS a0 a1 =
  (laws_markConnS_L1700000 a1 a0 : Option (Int × ((List D_Conn) × Unit))) := (DF_eq X rfl _).trans (by kernel_rfl)
theorem laws_markConnS_L0_eq (x1 : Int) (x5 : Int) (r3000000 : (List D_Conn)) : laws_markConnS_L0 x1 x5 r3000000 =
  (laws_markConnS_L1700002 x1 x5 (decide (x5 < (List.length r3000000 : Int))) r3000000 : Option (Int × ((List D_Conn) × Unit))) := (loopAt_mk X 78 0 [] _ _ _).trans (by kernel_rfl)
theorem laws_markConnS_L1700000_eq (x1 : Int) (r3000000 : (List D_Conn)) : laws_markConnS_L1700000 x1 r3000000 =
  (laws_markConnS_L1700001 x1 0 r3000000 : Option (Int × ((List D_Conn) × Unit))) := (loopAt_mk X 78 1700000 [] _ _ _).trans (by kernel_rfl)
theorem laws_markConnS_L1700001_eq (x1 : Int) (x5 : Int) (r3000000 : (List D_Conn)) : laws_markConnS_L1700001 x1 x5 r3000000 =
  (laws_markConnS_L0 x1 x5 r3000000 : Option (Int × ((List D_Conn) × Unit))) := (loopAt_mk X 78 1700001 [] _ _ _).trans (by kernel_rfl)
theorem laws_markConnS_L1700002_eq (x1 : Int) (x5 : Int) (x9 : Bool) (r3000000 : (List D_Conn)) : laws_markConnS_L1700002 x1 x5 x9 r3000000 =
  (bif x9
  then (laws_markText x1).bind fun r6 =>
   bif ((decide (0 ≤ x5)) && (decide (x5 < (List.length r3000000 : Int))))
   then laws_markConnS_L1700004 x1 x5 (List.set r3000000 (Int.toNat x5) (r6.1, (List.getD r3000000 (Int.toNat x5) (ByteArray.empty, (false, (false, ([], false))))).2))
   else none
  else laws_markConnS_L1700013 x1 r3000000 : Option (Int × ((List D_Conn) × Unit))) := (loopAt_mk X 78 1700002 [0] _ _ _).trans (by kernel_rfl)
theorem laws_markConnS_L1700004_eq (x1 : Int) (x5 : Int) (r3000000 : (List D_Conn)) : laws_markConnS_L1700004 x1 x5 r3000000 =
  (laws_markConnS_L1700005 (w64 (x1 + 1)) x5 r3000000 : Option (Int × ((List D_Conn) × Unit))) := (loopAt_mk X 78 1700004 [0] _ _ _).trans (by kernel_rfl)
theorem laws_markConnS_L1700005_eq (x1 : Int) (x5 : Int) (r3000000 : (List D_Conn)) : laws_markConnS_L1700005 x1 x5 r3000000 =
  (bif ((decide (0 ≤ x5)) && (decide (x5 < (List.length r3000000 : Int))))
  then laws_markConnS_L1700006 x1 x5 (List.set r3000000 (Int.toNat x5) ((List.getD r3000000 (Int.toNat x5) (ByteArray.empty, (false, (false, ([], false))))).1, (((Int.tmod x1 3) == 0), ((List.getD r3000000 (Int.toNat x5) (ByteArray.empty, (false, (false, ([], false))))).2).2)))
  else none : Option (Int × ((List D_Conn) × Unit))) := (loopAt_mk X 78 1700005 [0] _ _ _).trans (by kernel_rfl)
theorem laws_markConnS_L1700006_eq (x1 : Int) (x5 : Int) (r3000000 : (List D_Conn)) : laws_markConnS_L1700006 x1 x5 r3000000 =
  (laws_markConnS_L1700007 (w64 (x1 + 1)) x5 r3000000 : Option (Int × ((List D_Conn) × Unit))) := (loopAt_mk X 78 1700006 [0] _ _ _).trans (by kernel_rfl)
theorem laws_markConnS_L1700007_eq (x1 : Int) (x5 : Int) (r3000000 : (List D_Conn)) : laws_markConnS_L1700007 x1 x5 r3000000 =
  (bif ((decide (0 ≤ x5)) && (decide (x5 < (List.length r3000000 : Int))))
  then laws_markConnS_L1700008 x1 x5 (List.set r3000000 (Int.toNat x5) ((List.getD r3000000 (Int.toNat x5) (ByteArray.empty, (false, (false, ([], false))))).1, (((List.getD r3000000 (Int.toNat x5) (ByteArray.empty, (false, (false, ([], false))))).2).1, (((Int.tmod x1 3) == 0), (((List.getD r3000000 (Int.toNat x5) (ByteArray.empty, (false, (false, ([], false))))).2).2).2))))
  else none : Option (Int × ((List D_Conn) × Unit))) := (loopAt_mk X 78 1700007 [0] _ _ _).trans (by kernel_rfl)
theorem laws_markConnS_L1700008_eq (x1 : Int) (x5 : Int) (r3000000 : (List D_Conn)) : laws_markConnS_L1700008 x1 x5 r3000000 =
  (laws_markConnS_L1700009 (w64 (x1 + 1)) x5 r3000000 : Option (Int × ((List D_Conn) × Unit))) := (loopAt_mk X 78 1700008 [0] _ _ _).trans (by kernel_rfl)
theorem laws_markConnS_L1700009_eq (x1 : Int) (x5 : Int) (r3000000 : (List D_Conn)) : laws_markConnS_L1700009 x1 x5 r3000000 =
  (bif ((decide (0 ≤ x5)) && (decide (x5 < (List.length r3000000 : Int))))
  then (laws_markStringSS (((((List.getD r3000000 (Int.toNat x5) (ByteArray.empty, (false, (false, ([], false))))).2).2).2).1) x1).bind fun r5 =>
   laws_markConnS_L1700010 r5.1 x5 (List.set r3000000 (Int.toNat x5) ((List.getD r3000000 (Int.toNat x5) (ByteArray.empty, (false, (false, ([], false))))).1, (((List.getD r3000000 (Int.toNat x5) (ByteArray.empty, (false, (false, ([], false))))).2).1, ((((List.getD r3000000 (Int.toNat x5) (ByteArray.empty, (false, (false, ([], false))))).2).2).1, (r5.2.1, ((((List.getD r3000000 (Int.toNat x5) (ByteArray.empty, (false, (false, ([], false))))).2).2).2).2)))))
  else none : Option (Int × ((List D_Conn) × Unit))) := (loopAt_mk X 78 1700009 [0] _ _ _).trans (by kernel_rfl)
theorem laws_markConnS_L1700010_eq (x1 : Int) (x5 : Int) (r3000000 : (List D_Conn)) : laws_markConnS_L1700010 x1 x5 r3000000 =
  (bif ((decide (0 ≤ x5)) && (decide (x5 < (List.length r3000000 : Int))))
  then laws_markConnS_L1700011 x1 x5 (List.set r3000000 (Int.toNat x5) ((List.getD r3000000 (Int.toNat x5) (ByteArray.empty, (false, (false, ([], false))))).1, (((List.getD r3000000 (Int.toNat x5) (ByteArray.empty, (false, (false, ([], false))))).2).1, ((((List.getD r3000000 (Int.toNat x5) (ByteArray.empty, (false, (false, ([], false))))).2).2).1, (((((List.getD r3000000 (Int.toNat x5) (ByteArray.empty, (false, (false, ([], false))))).2).2).2).1, ((Int.tmod x1 3) == 0))))))
  else none : Option (Int × ((List D_Conn) × Unit))) := (loopAt_mk X 78 1700010 [0] _ _ _).trans (by kernel_rfl)
theorem laws_markConnS_L1700011_eq (x1 : Int) (x5 : Int) (r3000000 : (List D_Conn)) : laws_markConnS_L1700011 x1 x5 r3000000 =
  (laws_markConnS_L0 (w64 (x1 + 1)) (w64 (x5 + 1)) r3000000 : Option (Int × ((List D_Conn) × Unit))) := (loopAt_mk X 78 1700011 [0] _ _ _).trans (by kernel_rfl)
theorem laws_markConnS_L1700013_eq (x4 : Int) (r3000000 : (List D_Conn)) : laws_markConnS_L1700013 x4 r3000000 =
  (some (x4, (r3000000, ())) : Option (Int × ((List D_Conn) × Unit))) := (loopAt_mk X 78 1700013 [] _ _ _).trans (by kernel_rfl)
theorem laws_markUnitS_eq (a0 : (List D_Unit)) (a1 : Int) : laws_markUnitS a0 a1 =
  (laws_markUnitS_L1700000 a1 a0 : Option (Int × ((List D_Unit) × Unit))) := (DF_eq X rfl _).trans (by kernel_rfl)
theorem laws_markUnitS_L0_eq (x1 : Int) (x5 : Int) (r3000000 : (List D_Unit)) : laws_markUnitS_L0 x1 x5 r3000000 =
  (laws_markUnitS_L1700002 x1 x5 (decide (x5 < (List.length r3000000 : Int))) r3000000 : Option (Int × ((List D_Unit) × Unit))) := (loopAt_mk X 79 0 [] _ _ _).trans (by kernel_rfl)
theorem laws_markUnitS_L1700000_eq (x1 : Int) (r3000000 : (List D_Unit)) : laws_markUnitS_L1700000 x1 r3000000 =
  (laws_markUnitS_L1700001 x1 0 r3000000 : Option (Int × ((List D_Unit) × Unit))) := (loopAt_mk X 79 1700000 [] _ _ _).trans (by kernel_rfl)
theorem laws_markUnitS_L1700001_eq (x1 : Int) (x5 : Int) (r3000000 : (List D_Unit)) : laws_markUnitS_L1700001 x1 x5 r3000000 =
  (laws_markUnitS_L0 x1 x5 r3000000 : Option (Int × ((List D_Unit) × Unit))) := (loopAt_mk X 79 1700001 [] _ _ _).trans (by kernel_rfl)
theorem laws_markUnitS_L1700002_eq (x1 : Int) (x5 : Int) (x9 : Bool) (r3000000 : (List D_Unit)) : laws_markUnitS_L1700002 x1 x5 x9 r3000000 =
  (bif x9
  then bif ((decide (0 ≤ x5)) && (decide (x5 < (List.length r3000000 : Int))))
   then laws_markUnitS_L1700004 x1 x5 (List.set r3000000 (Int.toNat x5) (x1, (List.getD r3000000 (Int.toNat x5) (0, (0, ([], (false, (ByteArray.empty, false)))))).2))
   else none
  else laws_markUnitS_L1700015 x1 r3000000 : Option (Int × ((List D_Unit) × Unit))) := (loopAt_mk X 79 1700002 [0] _ _ _).trans (by kernel_rfl)
theorem laws_markUnitS_L1700015_eq (x4 : Int) (r3000000 : (List D_Unit)) : laws_markUnitS_L1700015 x4 r3000000 =
  (some (x4, (r3000000, ())) : Option (Int × ((List D_Unit) × Unit))) := (loopAt_mk X 79 1700015 [] _ _ _).trans (by kernel_rfl)
theorem laws_heldEngine_eq (a0 : D_Engine) (a1 : Int) : laws_heldEngine a0 a1 =
  ((laws_heldDisk a0.1 a1).bind fun r4 =>
  bif (decide (r4.1 < 0))
  then some ((-1), ())
  else (laws_heldSpotS a0.2.2.2.2 r4.1).bind fun r5 =>
   bif (decide (r5.1 < 0))
   then some ((-1), ())
   else some (r5.1, ()) : Option (Int × Unit)) := (DF_eq X rfl _).trans (by kernel_rfl)
theorem laws_heldEntryS_eq (a0 : (List D_Entry)) (a1 : Int) : laws_heldEntryS a0 a1 =
  (laws_heldEntryS_L0 a0 a1 0 : Option (Int × Unit)) := (DF_eq X rfl _).trans (by kernel_rfl)
theorem laws_heldEntryS_L0_eq (x0 : (List D_Entry)) (x1 : Int) (x5 : Int) : laws_heldEntryS_L0 x0 x1 x5 =
  (bif (decide (x5 < (List.length x0 : Int)))
  then bif ((decide (0 ≤ x5)) && (decide (x5 < (List.length x0 : Int))))
   then (laws_markText x1).bind fun r5 =>
    bif (!((ByteArray.toList ((List.getD x0 (Int.toNat x5) (ByteArray.empty, (0, (0, (ByteArray.empty, []))))).1)) == (ByteArray.toList r5.1)))
    then some ((-1), ())
    else bif ((decide (0 ≤ x5)) && (decide (x5 < (List.length x0 : Int))))
     then bif (((List.getD x0 (Int.toNat x5) (ByteArray.empty, (0, (0, (ByteArray.empty, []))))).2).1 != (w64 (x1 + 1)))
      then some ((-1), ())
      else bif ((decide (0 ≤ x5)) && (decide (x5 < (List.length x0 : Int))))
       then bif ((((List.getD x0 (Int.toNat x5) (ByteArray.empty, (0, (0, (ByteArray.empty, []))))).2).2).1 != (w64 ((w64 (x1 + 1)) + 1)))
        then some ((-1), ())
        else bif ((decide (0 ≤ x5)) && (decide (x5 < (List.length x0 : Int))))
         then (laws_markText (w64 ((w64 ((w64 (x1 + 1)) + 1)) + 1))).bind fun r6 =>
          bif (!((ByteArray.toList (((((List.getD x0 (Int.toNat x5) (ByteArray.empty, (0, (0, (ByteArray.empty, []))))).2).2).2).1)) == (ByteArray.toList r6.1)))
          then some ((-1), ())
          else bif ((decide (0 ≤ x5)) && (decide (x5 < (List.length x0 : Int))))
           then (laws_heldStringS (((((List.getD x0 (Int.toNat x5) (ByteArray.empty, (0, (0, (ByteArray.empty, []))))).2).2).2).2) (w64 ((w64 ((w64 ((w64 (x1 + 1)) + 1)) + 1)) + 1))).bind fun r7 =>
            bif (decide (r7.1 < 0))
            then some ((-1), ())
            else laws_heldEntryS_L0 x0 r7.1 (w64 (x5 + 1))
           else none
         else none
       else none
     else none
   else none
  else some (x1, ()) : Option (Int × Unit)) := (loopAt_mk X 81 0 [] _ _ _).trans (by kernel_rfl)
theorem laws_heldConnS_eq (a0 : (List D_Conn)) (a1 : Int) : laws_heldConnS a0 a1 =
  (laws_heldConnS_L0 a0 a1 0 : Option (Int × Unit)) := (DF_eq X rfl _).trans (by kernel_rfl)
theorem laws_heldConnS_L0_eq (x0 : (List D_Conn)) (x1 : Int) (x5 : Int) : laws_heldConnS_L0 x0 x1 x5 =
  (bif (decide (x5 < (List.length x0 : Int)))
  then bif ((decide (0 ≤ x5)) && (decide (x5 < (List.length x0 : Int))))
   then (laws_markText x1).bind fun r5 =>
    bif (!((ByteArray.toList ((List.getD x0 (Int.toNat x5) (ByteArray.empty, (false, (false, ([], false))))).1)) == (ByteArray.toList r5.1)))
    then some ((-1), ())
    else bif ((decide (0 ≤ x5)) && (decide (x5 < (List.length x0 : Int))))
     then bif (!(((List.getD x0 (Int.toNat x5) (ByteArray.empty, (false, (false, ([], false))))).2).1 == ((Int.tmod (w64 (x1 + 1)) 3) == 0)))
      then some ((-1), ())
      else bif ((decide (0 ≤ x5)) && (decide (x5 < (List.length x0 : Int))))
       then bif (!((((List.getD x0 (Int.toNat x5) (ByteArray.empty, (false, (false, ([], false))))).2).2).1 == ((Int.tmod (w64 ((w64 (x1 + 1)) + 1)) 3) == 0)))
        then some ((-1), ())
        else bif ((decide (0 ≤ x5)) && (decide (x5 < (List.length x0 : Int))))
         then (laws_heldStringSS (((((List.getD x0 (Int.toNat x5) (ByteArray.empty, (false, (false, ([], false))))).2).2).2).1) (w64 ((w64 ((w64 (x1 + 1)) + 1)) + 1))).bind fun r6 =>
          bif (decide (r6.1 < 0))
          then some ((-1), ())
          else bif ((decide (0 ≤ x5)) && (decide (x5 < (List.length x0 : Int))))
           then bif (!(((((List.getD x0 (Int.toNat x5) (ByteArray.empty, (false, (false, ([], false))))).2).2).2).2 == ((Int.tmod r6.1 3) == 0)))
            then some ((-1), ())
            else laws_heldConnS_L0 x0 (w64 (r6.1 + 1)) (w64 (x5 + 1))
           else none
         else none
       else none
     else none
   else none
  else some (x1, ()) : Option (Int × Unit)) := (loopAt_mk X 82 0 [] _ _ _).trans (by kernel_rfl)
theorem laws_heldUnitS_eq (a0 : (List D_Unit)) (a1 : Int) : laws_heldUnitS a0 a1 =
  (laws_heldUnitS_L0 a0 a1 0 : Option (Int × Unit)) := (DF_eq X rfl _).trans (by kernel_rfl)
theorem laws_heldUnitS_L0_eq (x0 : (List D_Unit)) (x1 : Int) (x5 : Int) : laws_heldUnitS_L0 x0 x1 x5 =
  (bif (decide (x5 < (List.length x0 : Int)))
  then bif ((decide (0 ≤ x5)) && (decide (x5 < (List.length x0 : Int))))
   then bif ((List.getD x0 (Int.toNat x5) (0, (0, ([], (false, (ByteArray.empty, false)))))).1 != x1)
    then some ((-1), ())
    else bif ((decide (0 ≤ x5)) && (decide (x5 < (List.length x0 : Int))))
     then bif (((List.getD x0 (Int.toNat x5) (0, (0, ([], (false, (ByteArray.empty, false)))))).2).1 != (w64 (x1 + 1)))
      then some ((-1), ())
      else bif ((decide (0 ≤ x5)) && (decide (x5 < (List.length x0 : Int))))
       then (laws_heldStringSS ((((List.getD x0 (Int.toNat x5) (0, (0, ([], (false, (ByteArray.empty, false)))))).2).2).1) (w64 ((w64 (x1 + 1)) + 1))).bind fun r5 =>
        bif (decide (r5.1 < 0))
        then some ((-1), ())
        else bif ((decide (0 ≤ x5)) && (decide (x5 < (List.length x0 : Int))))
         then bif (!(((((List.getD x0 (Int.toNat x5) (0, (0, ([], (false, (ByteArray.empty, false)))))).2).2).2).1 == ((Int.tmod r5.1 3) == 0)))
          then some ((-1), ())
          else bif ((decide (0 ≤ x5)) && (decide (x5 < (List.length x0 : Int))))
           then (laws_markText (w64 (r5.1 + 1))).bind fun r6 =>
            bif (!((ByteArray.toList ((((((List.getD x0 (Int.toNat x5) (0, (0, ([], (false, (ByteArray.empty, false)))))).2).2).2).2).1)) == (ByteArray.toList r6.1)))
            then some ((-1), ())
            else bif ((decide (0 ≤ x5)) && (decide (x5 < (List.length x0 : Int))))
             then bif (!((((((List.getD x0 (Int.toNat x5) (0, (0, ([], (false, (ByteArray.empty, false)))))).2).2).2).2).2 == ((Int.tmod (w64 ((w64 (r5.1 + 1)) + 1)) 3) == 0)))
              then some ((-1), ())
              else laws_heldUnitS_L0 x0 (w64 ((w64 ((w64 (r5.1 + 1)) + 1)) + 1)) (w64 (x5 + 1))
             else none
           else none
         else none
       else none
     else none
   else none
  else some (x1, ()) : Option (Int × Unit)) := (loopAt_mk X 83 0 [] _ _ _).trans (by kernel_rfl)
theorem spec_l01Figure_eq (a0 : Int) : spec_l01Figure a0 =
  (bif (decide (a0 < 10))
  then some ((Go.IntKind.u8.wrap (w64 (48 + a0))), ())
  else some ((Go.IntKind.u8.wrap (w64 ((w64 (97 + a0)) - 10))), ()) : Option (Int × Unit)) := (DF_eq X rfl _).trans (by kernel_rfl)
theorem spec_l01In_eq (a0 : Int) (a1 : Int) (a2 : Int) : spec_l01In a0 a1 a2 =
  (bif (decide (a0 ≥ a1))
  then some ((decide (a0 ≤ a2)), ())
  else some (false, ()) : Option (Bool × Unit)) := (DF_eq X rfl _).trans (by kernel_rfl)
theorem spec_HeadText_eq (a0 : Int) (a1 : Int) : spec_HeadText a0 a1 =
  ((spec_l01In a0 0 99).bind fun r4 =>
  bif (!r4.1)
  then some ((ByteArray.empty, false), ())
  else (spec_l01In a1 0 a0).bind fun r5 =>
   bif (!r5.1)
   then some ((ByteArray.empty, false), ())
   else (spec_l01Var a0).bind fun r6 =>
    bif (limS ((ByteArray.size c_H) + (ByteArray.size r6.1)))
    then (spec_l01Var a1).bind fun r7 =>
     bif (limS ((ByteArray.size (c_H ++ r6.1)) + (ByteArray.size r7.1)))
     then (spec_Frame ((c_H ++ r6.1) ++ r7.1)).bind fun r8 =>
      some (r8.1, ())
     else none
    else none : Option ((ByteArray × Bool) × Unit)) := (DF_eq X rfl _).trans (by kernel_rfl)
theorem spec_SegName_eq (a0 : Int) : spec_SegName a0 =
  ((spec_l01In a0 0 99).bind fun r3 =>
  bif (!r3.1)
  then some (ByteArray.empty, ())
  else (spec_Decimal a0).bind fun r4 =>
   bif (limS ((ByteArray.size c_b) + (ByteArray.size r4.1)))
   then some ((c_b ++ r4.1), ())
   else none : Option (ByteArray × Unit)) := (DF_eq X rfl _).trans (by kernel_rfl)
theorem impl_within_eq (a0 : Int) (a1 : Int) (a2 : Int) : impl_within a0 a1 a2 =
  (bif (decide (a0 ≥ a1))
  then some ((decide (a0 ≤ a2)), ())
  else some (false, ()) : Option (Bool × Unit)) := (DF_eq X rfl _).trans (by kernel_rfl)
theorem impl_HeadText_eq (a0 : Int) (a1 : Int) : impl_HeadText a0 a1 =
  ((impl_within a0 0 99).bind fun r4 =>
  bif (!r4.1)
  then some ((ByteArray.empty, false), ())
  else (impl_within a1 0 a0).bind fun r5 =>
   bif (!r5.1)
   then some ((ByteArray.empty, false), ())
   else (impl_vars ([a0, a1])).bind fun r6 =>
    bif (limS ((ByteArray.size c_H) + (ByteArray.size r6.1.1)))
    then (impl_Frame (c_H ++ r6.1.1)).bind fun r7 =>
     some (r7.1, ())
    else none : Option ((ByteArray × Bool) × Unit)) := (DF_eq X rfl _).trans (by kernel_rfl)
theorem impl_SegName_eq (a0 : Int) : impl_SegName a0 =
  ((impl_within a0 0 99).bind fun r3 =>
  bif (!r3.1)
  then some (ByteArray.empty, ())
  else (impl_Decimal a0).bind fun r4 =>
   bif (limS ((ByteArray.size c_b) + (ByteArray.size r4.1)))
   then some ((c_b ++ r4.1), ())
   else none : Option (ByteArray × Unit)) := (DF_eq X rfl _).trans (by kernel_rfl)
theorem laws_eqDisk_eq (a0 : D_Disk) (a1 : D_Disk) : laws_eqDisk a0 a1 =
  ((laws_eqFileS a0 a1).bind fun r4 =>
  bif (!r4.1)
  then some (false, ())
  else some (true, ()) : Option (Bool × Unit)) := (DF_eq X rfl _).trans (by kernel_rfl)
theorem laws_eqSpotS_eq (a0 : (List D_Spot)) (a1 : (List D_Spot)) : laws_eqSpotS a0 a1 =
  (bif ((List.length a0 : Int) != (List.length a1 : Int))
  then some (false, ())
  else laws_eqSpotS_L0 a0 a1 0 : Option (Bool × Unit)) := (DF_eq X rfl _).trans (by kernel_rfl)
theorem laws_eqSpotS_L0_eq (x0 : (List D_Spot)) (x1 : (List D_Spot)) (x5 : Int) : laws_eqSpotS_L0 x0 x1 x5 =
  (bif (decide (x5 < (List.length x0 : Int)))
  then bif ((decide (0 ≤ x5)) && (decide (x5 < (List.length x0 : Int))))
   then bif ((decide (0 ≤ x5)) && (decide (x5 < (List.length x1 : Int))))
    then (laws_eqSpot ((List.getD x0 (Int.toNat x5) (ByteArray.empty, (0, (0, 0)))).1, (((List.getD x0 (Int.toNat x5) (ByteArray.empty, (0, (0, 0)))).2).1, (((List.getD x0 (Int.toNat x5) (ByteArray.empty, (0, (0, 0)))).2).2))) ((List.getD x1 (Int.toNat x5) (ByteArray.empty, (0, (0, 0)))).1, (((List.getD x1 (Int.toNat x5) (ByteArray.empty, (0, (0, 0)))).2).1, (((List.getD x1 (Int.toNat x5) (ByteArray.empty, (0, (0, 0)))).2).2)))).bind fun r5 =>
     bif (!r5.1)
     then some (false, ())
     else laws_eqSpotS_L0 x0 x1 (w64 (x5 + 1))
    else none
   else none
  else some (true, ()) : Option (Bool × Unit)) := (loopAt_mk X 106 0 [] _ _ _).trans (by kernel_rfl)
theorem laws_markDisk_eq (a0 : D_Disk) (a1 : Int) : laws_markDisk a0 a1 =
  ((laws_markFileS a0 a1).bind fun r4 =>
  some (r4.1, (r4.2.1, ())) : Option (Int × (D_Disk × Unit))) := (DF_eq X rfl _).trans (by kernel_rfl)
theorem laws_markSpotS_eq (a0 : (List D_Spot)) (a1 : Int) : laws_markSpotS a0 a1 =
  (laws_markSpotS_L1700000 a1 a0 : Option (Int × ((List D_Spot) × Unit))) := (DF_eq X rfl _).trans (by kernel_rfl)
theorem laws_markSpotS_L0_eq (x1 : Int) (x5 : Int) (r3000000 : (List D_Spot)) : laws_markSpotS_L0 x1 x5 r3000000 =
  (laws_markSpotS_L1700002 x1 x5 (decide (x5 < (List.length r3000000 : Int))) r3000000 : Option (Int × ((List D_Spot) × Unit))) := (loopAt_mk X 110 0 [] _ _ _).trans (by kernel_rfl)
theorem laws_markSpotS_L1700000_eq (x1 : Int) (r3000000 : (List D_Spot)) : laws_markSpotS_L1700000 x1 r3000000 =
  (laws_markSpotS_L1700001 x1 0 r3000000 : Option (Int × ((List D_Spot) × Unit))) := (loopAt_mk X 110 1700000 [] _ _ _).trans (by kernel_rfl)
theorem laws_markSpotS_L1700001_eq (x1 : Int) (x5 : Int) (r3000000 : (List D_Spot)) : laws_markSpotS_L1700001 x1 x5 r3000000 =
  (laws_markSpotS_L0 x1 x5 r3000000 : Option (Int × ((List D_Spot) × Unit))) := (loopAt_mk X 110 1700001 [] _ _ _).trans (by kernel_rfl)
theorem laws_markSpotS_L1700002_eq (x1 : Int) (x5 : Int) (x9 : Bool) (r3000000 : (List D_Spot)) : laws_markSpotS_L1700002 x1 x5 x9 r3000000 =
  (bif x9
  then (laws_markText x1).bind fun r6 =>
   bif ((decide (0 ≤ x5)) && (decide (x5 < (List.length r3000000 : Int))))
   then laws_markSpotS_L1700004 x1 x5 (List.set r3000000 (Int.toNat x5) (r6.1, (List.getD r3000000 (Int.toNat x5) (ByteArray.empty, (0, (0, 0)))).2))
   else none
  else laws_markSpotS_L1700012 x1 r3000000 : Option (Int × ((List D_Spot) × Unit))) := (loopAt_mk X 110 1700002 [0] _ _ _).trans (by kernel_rfl)
theorem laws_markSpotS_L1700012_eq (x4 : Int) (r3000000 : (List D_Spot)) : laws_markSpotS_L1700012 x4 r3000000 =
  (some (x4, (r3000000, ())) : Option (Int × ((List D_Spot) × Unit))) := (loopAt_mk X 110 1700012 [] _ _ _).trans (by kernel_rfl)
theorem laws_heldDisk_eq (a0 : D_Disk) (a1 : Int) : laws_heldDisk a0 a1 =
  ((laws_heldFileS a0 a1).bind fun r4 =>
  bif (decide (r4.1 < 0))
  then some ((-1), ())
  else some (r4.1, ()) : Option (Int × Unit)) := (DF_eq X rfl _).trans (by kernel_rfl)
theorem laws_heldSpotS_eq (a0 : (List D_Spot)) (a1 : Int) : laws_heldSpotS a0 a1 =
  (laws_heldSpotS_L0 a0 a1 0 : Option (Int × Unit)) := (DF_eq X rfl _).trans (by kernel_rfl)
theorem laws_heldSpotS_L0_eq (x0 : (List D_Spot)) (x1 : Int) (x5 : Int) : laws_heldSpotS_L0 x0 x1 x5 =
  (bif (decide (x5 < (List.length x0 : Int)))
  then bif ((decide (0 ≤ x5)) && (decide (x5 < (List.length x0 : Int))))
   then (laws_markText x1).bind fun r5 =>
    bif (!((ByteArray.toList ((List.getD x0 (Int.toNat x5) (ByteArray.empty, (0, (0, 0)))).1)) == (ByteArray.toList r5.1)))
    then some ((-1), ())
    else bif ((decide (0 ≤ x5)) && (decide (x5 < (List.length x0 : Int))))
     then bif (((List.getD x0 (Int.toNat x5) (ByteArray.empty, (0, (0, 0)))).2).1 != (w64 (x1 + 1)))
      then some ((-1), ())
      else bif ((decide (0 ≤ x5)) && (decide (x5 < (List.length x0 : Int))))
       then bif ((((List.getD x0 (Int.toNat x5) (ByteArray.empty, (0, (0, 0)))).2).2).1 != (w64 ((w64 (x1 + 1)) + 1)))
        then some ((-1), ())
        else bif ((decide (0 ≤ x5)) && (decide (x5 < (List.length x0 : Int))))
         then bif ((((List.getD x0 (Int.toNat x5) (ByteArray.empty, (0, (0, 0)))).2).2).2 != (w64 ((w64 ((w64 (x1 + 1)) + 1)) + 1)))
          then some ((-1), ())
          else laws_heldSpotS_L0 x0 (w64 ((w64 ((w64 ((w64 (x1 + 1)) + 1)) + 1)) + 1)) (w64 (x5 + 1))
         else none
       else none
     else none
   else none
  else some (x1, ()) : Option (Int × Unit)) := (loopAt_mk X 112 0 [] _ _ _).trans (by kernel_rfl)
theorem spec_Frame_eq (a0 : ByteArray) : spec_Frame a0 =
  ((spec_l01In (ByteArray.size a0 : Int) 1 9000).bind fun r3 =>
  bif (!r3.1)
  then some ((ByteArray.empty, false), ())
  else (spec_l01Var (ByteArray.size a0 : Int)).bind fun r4 =>
   (spec_SumOf a0).bind fun r5 =>
   (spec_l02Four r5.1).bind fun r6 =>
   bif (limS ((ByteArray.size r4.1) + (ByteArray.size r6.1)))
   then bif (limS ((ByteArray.size (r4.1 ++ r6.1)) + (ByteArray.size a0)))
    then some ((((r4.1 ++ r6.1) ++ a0), true), ())
    else none
   else none : Option ((ByteArray × Bool) × Unit)) := (DF_eq X rfl _).trans (by kernel_rfl)
theorem spec_l01Var_eq (a0 : Int) : spec_l01Var a0 =
  (spec_l01Var_L0 a0 [] : Option (ByteArray × Unit)) := (DF_eq X rfl _).trans (by kernel_rfl)
theorem spec_l01Var_L0_eq (x0 : Int) (x3 : (List Int)) : spec_l01Var_L0 x0 x3 =
  (bif (decide (x0 > 127))
  then bif (lim ((List.length x3) + 1) 1)
   then spec_l01Var_L0 (w64 (Int.tdiv x0 128)) (x3 ++ [(Go.IntKind.u8.wrap (w64 ((Int.tmod x0 128) + 128)))])
   else none
  else bif (lim ((List.length x3) + 1) 1)
   then some ((⟨(List.toArray (List.map (fun n => (UInt8.ofNat (Int.toNat n))) (x3 ++ [(Go.IntKind.u8.wrap x0)])))⟩ : ByteArray), ())
   else none : Option (ByteArray × Unit)) := (loopAt_mk X 120 0 [] _ _ _).trans (by kernel_rfl)
theorem impl_vars_eq (a0 : (List Int)) : impl_vars a0 =
  (impl_vars_L0 [] a0 (List.length a0 : Int) 0 : Option ((ByteArray × Bool) × Unit)) := (DF_eq X rfl _).trans (by kernel_rfl)
theorem impl_vars_L0_eq (x4 : (List Int)) (x9 : (List Int)) (x10 : Int) (x11 : Int) : impl_vars_L0 x4 x9 x10 x11 =
  (bif (decide (x11 < x10))
  then bif ((decide (0 ≤ x11)) && (decide (x11 < (List.length x9 : Int))))
   then (impl_VarText (List.getD x9 (Int.toNat x11) 0)).bind fun r6 =>
    bif (!r6.1.2)
    then some ((ByteArray.empty, false), ())
    else bif (lim ((List.length x4) + (List.length (bytesL r6.1.1))) 1)
     then impl_vars_L0 (x4 ++ (bytesL r6.1.1)) x9 x10 (w64 (x11 + 1))
     else none
   else none
  else some (((⟨(List.toArray (List.map (fun n => (UInt8.ofNat (Int.toNat n))) x4))⟩ : ByteArray), true), ()) : Option ((ByteArray × Bool) × Unit)) := (loopAt_mk X 121 0 [] _ _ _).trans (by kernel_rfl)
theorem impl_Frame_eq (a0 : ByteArray) : impl_Frame a0 =
  ((impl_within (ByteArray.size a0 : Int) 1 9000).bind fun r3 =>
  bif (!r3.1)
  then some ((ByteArray.empty, false), ())
  else (impl_VarText (ByteArray.size a0 : Int)).bind fun r4 =>
   (impl_SumOf a0).bind fun r5 =>
   bif (limS ((ByteArray.size r4.1.1) + (ByteArray.size (⟨(List.toArray (List.map (fun n => (UInt8.ofNat (Int.toNat n))) ([(Go.IntKind.u8.wrap (shrI Go.IntKind.u32 r5.1 24)), (Go.IntKind.u8.wrap (shrI Go.IntKind.u32 r5.1 16)), (Go.IntKind.u8.wrap (shrI Go.IntKind.u32 r5.1 8)), (Go.IntKind.u8.wrap r5.1)])))⟩ : ByteArray))))
   then bif (limS ((ByteArray.size (r4.1.1 ++ (⟨(List.toArray (List.map (fun n => (UInt8.ofNat (Int.toNat n))) ([(Go.IntKind.u8.wrap (shrI Go.IntKind.u32 r5.1 24)), (Go.IntKind.u8.wrap (shrI Go.IntKind.u32 r5.1 16)), (Go.IntKind.u8.wrap (shrI Go.IntKind.u32 r5.1 8)), (Go.IntKind.u8.wrap r5.1)])))⟩ : ByteArray))) + (ByteArray.size a0)))
    then some ((((r4.1.1 ++ (⟨(List.toArray (List.map (fun n => (UInt8.ofNat (Int.toNat n))) ([(Go.IntKind.u8.wrap (shrI Go.IntKind.u32 r5.1 24)), (Go.IntKind.u8.wrap (shrI Go.IntKind.u32 r5.1 16)), (Go.IntKind.u8.wrap (shrI Go.IntKind.u32 r5.1 8)), (Go.IntKind.u8.wrap r5.1)])))⟩ : ByteArray)) ++ a0), true), ())
    else none
   else none : Option ((ByteArray × Bool) × Unit)) := (DF_eq X rfl _).trans (by kernel_rfl)
theorem impl_Decimal_eq (a0 : Int) : impl_Decimal a0 =
  ((strconv_Itoa a0).bind fun r3 =>
  some (r3.1, ()) : Option (ByteArray × Unit)) := (DF_eq X rfl _).trans (by kernel_rfl)
theorem laws_eqFileS_eq (a0 : D_Disk) (a1 : D_Disk) : laws_eqFileS a0 a1 =
  (bif ((List.length a0 : Int) != (List.length a1 : Int))
  then some (false, ())
  else laws_eqFileS_L0 a0 a1 0 : Option (Bool × Unit)) := (DF_eq X rfl _).trans (by kernel_rfl)
theorem laws_eqFileS_L0_eq (x0 : D_Disk) (x1 : D_Disk) (x5 : Int) : laws_eqFileS_L0 x0 x1 x5 =
  (bif (decide (x5 < (List.length x0 : Int)))
  then bif ((decide (0 ≤ x5)) && (decide (x5 < (List.length x0 : Int))))
   then bif ((decide (0 ≤ x5)) && (decide (x5 < (List.length x1 : Int))))
    then (laws_eqFile ((List.getD x0 (Int.toNat x5) (ByteArray.empty, (ByteArray.empty, 0))).1, ((List.getD x0 (Int.toNat x5) (ByteArray.empty, (ByteArray.empty, 0))).2)) ((List.getD x1 (Int.toNat x5) (ByteArray.empty, (ByteArray.empty, 0))).1, ((List.getD x1 (Int.toNat x5) (ByteArray.empty, (ByteArray.empty, 0))).2))).bind fun r5 =>
     bif (!r5.1)
     then some (false, ())
     else laws_eqFileS_L0 x0 x1 (w64 (x5 + 1))
    else none
   else none
  else some (true, ()) : Option (Bool × Unit)) := (loopAt_mk X 124 0 [] _ _ _).trans (by kernel_rfl)
theorem laws_markFileS_eq (a0 : D_Disk) (a1 : Int) : laws_markFileS a0 a1 =
  (laws_markFileS_L1700000 a1 a0 : Option (Int × (D_Disk × Unit))) := (DF_eq X rfl _).trans (by kernel_rfl)
theorem laws_markFileS_L0_eq (x1 : Int) (x5 : Int) (r3000000 : D_Disk) : laws_markFileS_L0 x1 x5 r3000000 =
  (laws_markFileS_L1700002 x1 x5 (decide (x5 < (List.length r3000000 : Int))) r3000000 : Option (Int × (D_Disk × Unit))) := (loopAt_mk X 127 0 [] _ _ _).trans (by kernel_rfl)
theorem laws_markFileS_L1700000_eq (x1 : Int) (r3000000 : D_Disk) : laws_markFileS_L1700000 x1 r3000000 =
  (laws_markFileS_L1700001 x1 0 r3000000 : Option (Int × (D_Disk × Unit))) := (loopAt_mk X 127 1700000 [] _ _ _).trans (by kernel_rfl)
theorem laws_markFileS_L1700001_eq (x1 : Int) (x5 : Int) (r3000000 : D_Disk) : laws_markFileS_L1700001 x1 x5 r3000000 =
  (laws_markFileS_L0 x1 x5 r3000000 : Option (Int × (D_Disk × Unit))) := (loopAt_mk X 127 1700001 [] _ _ _).trans (by kernel_rfl)
theorem laws_markFileS_L1700002_eq (x1 : Int) (x5 : Int) (x9 : Bool) (r3000000 : D_Disk) : laws_markFileS_L1700002 x1 x5 x9 r3000000 =
  (bif x9
  then (laws_markText x1).bind fun r6 =>
   bif ((decide (0 ≤ x5)) && (decide (x5 < (List.length r3000000 : Int))))
   then laws_markFileS_L1700004 x1 x5 (List.set r3000000 (Int.toNat x5) (r6.1, (List.getD r3000000 (Int.toNat x5) (ByteArray.empty, (ByteArray.empty, 0))).2))
   else none
  else laws_markFileS_L1700010 x1 r3000000 : Option (Int × (D_Disk × Unit))) := (loopAt_mk X 127 1700002 [0] _ _ _).trans (by kernel_rfl)
theorem laws_markFileS_L1700004_eq (x1 : Int) (x5 : Int) (r3000000 : D_Disk) : laws_markFileS_L1700004 x1 x5 r3000000 =
  (laws_markFileS_L1700005 (w64 (x1 + 1)) x5 r3000000 : Option (Int × (D_Disk × Unit))) := (loopAt_mk X 127 1700004 [0] _ _ _).trans (by kernel_rfl)
theorem laws_markFileS_L1700005_eq (x1 : Int) (x5 : Int) (r3000000 : D_Disk) : laws_markFileS_L1700005 x1 x5 r3000000 =
  ((laws_markText x1).bind fun r5 =>
  bif ((decide (0 ≤ x5)) && (decide (x5 < (List.length r3000000 : Int))))
  then laws_markFileS_L1700006 x1 x5 (List.set r3000000 (Int.toNat x5) ((List.getD r3000000 (Int.toNat x5) (ByteArray.empty, (ByteArray.empty, 0))).1, (r5.1, ((List.getD r3000000 (Int.toNat x5) (ByteArray.empty, (ByteArray.empty, 0))).2).2)))
  else none : Option (Int × (D_Disk × Unit))) := (loopAt_mk X 127 1700005 [0] _ _ _).trans (by kernel_rfl)
theorem laws_markFileS_L1700006_eq (x1 : Int) (x5 : Int) (r3000000 : D_Disk) : laws_markFileS_L1700006 x1 x5 r3000000 =
  (laws_markFileS_L1700007 (w64 (x1 + 1)) x5 r3000000 : Option (Int × (D_Disk × Unit))) := (loopAt_mk X 127 1700006 [0] _ _ _).trans (by kernel_rfl)
theorem laws_markFileS_L1700007_eq (x1 : Int) (x5 : Int) (r3000000 : D_Disk) : laws_markFileS_L1700007 x1 x5 r3000000 =
  (bif ((decide (0 ≤ x5)) && (decide (x5 < (List.length r3000000 : Int))))
  then laws_markFileS_L1700008 x1 x5 (List.set r3000000 (Int.toNat x5) ((List.getD r3000000 (Int.toNat x5) (ByteArray.empty, (ByteArray.empty, 0))).1, (((List.getD r3000000 (Int.toNat x5) (ByteArray.empty, (ByteArray.empty, 0))).2).1, x1)))
  else none : Option (Int × (D_Disk × Unit))) := (loopAt_mk X 127 1700007 [0] _ _ _).trans (by kernel_rfl)
theorem laws_markFileS_L1700008_eq (x1 : Int) (x5 : Int) (r3000000 : D_Disk) : laws_markFileS_L1700008 x1 x5 r3000000 =
  (laws_markFileS_L0 (w64 (x1 + 1)) (w64 (x5 + 1)) r3000000 : Option (Int × (D_Disk × Unit))) := (loopAt_mk X 127 1700008 [0] _ _ _).trans (by kernel_rfl)
theorem laws_markFileS_L1700010_eq (x4 : Int) (r3000000 : D_Disk) : laws_markFileS_L1700010 x4 r3000000 =
  (some (x4, (r3000000, ())) : Option (Int × (D_Disk × Unit))) := (loopAt_mk X 127 1700010 [] _ _ _).trans (by kernel_rfl)
theorem laws_heldFileS_eq (a0 : D_Disk) (a1 : Int) : laws_heldFileS a0 a1 =
  (laws_heldFileS_L0 a0 a1 0 : Option (Int × Unit)) := (DF_eq X rfl _).trans (by kernel_rfl)
theorem laws_heldFileS_L0_eq (x0 : D_Disk) (x1 : Int) (x5 : Int) : laws_heldFileS_L0 x0 x1 x5 =
  (bif (decide (x5 < (List.length x0 : Int)))
  then bif ((decide (0 ≤ x5)) && (decide (x5 < (List.length x0 : Int))))
   then (laws_markText x1).bind fun r5 =>
    bif (!((ByteArray.toList ((List.getD x0 (Int.toNat x5) (ByteArray.empty, (ByteArray.empty, 0))).1)) == (ByteArray.toList r5.1)))
    then some ((-1), ())
    else bif ((decide (0 ≤ x5)) && (decide (x5 < (List.length x0 : Int))))
     then (laws_markText (w64 (x1 + 1))).bind fun r6 =>
      bif (!((ByteArray.toList (((List.getD x0 (Int.toNat x5) (ByteArray.empty, (ByteArray.empty, 0))).2).1)) == (ByteArray.toList r6.1)))
      then some ((-1), ())
      else bif ((decide (0 ≤ x5)) && (decide (x5 < (List.length x0 : Int))))
       then bif (((List.getD x0 (Int.toNat x5) (ByteArray.empty, (ByteArray.empty, 0))).2).2 != (w64 ((w64 (x1 + 1)) + 1)))
        then some ((-1), ())
        else laws_heldFileS_L0 x0 (w64 ((w64 ((w64 (x1 + 1)) + 1)) + 1)) (w64 (x5 + 1))
       else none
     else none
   else none
  else some (x1, ()) : Option (Int × Unit)) := (loopAt_mk X 128 0 [] _ _ _).trans (by kernel_rfl)
theorem spec_l02Four_eq (a0 : Int) : spec_l02Four a0 =
  (some ((⟨(List.toArray (List.map (fun n => (UInt8.ofNat (Int.toNat n))) ([(Go.IntKind.u8.wrap (shrI Go.IntKind.u32 a0 24)), (Go.IntKind.u8.wrap (shrI Go.IntKind.u32 a0 16)), (Go.IntKind.u8.wrap (shrI Go.IntKind.u32 a0 8)), (Go.IntKind.u8.wrap a0)])))⟩ : ByteArray), ()) : Option (ByteArray × Unit)) := (DF_eq X rfl _).trans (by kernel_rfl)
theorem spec_SumOf_eq (a0 : ByteArray) : spec_SumOf a0 =
  ((spec_SumMore 4294967295 a0).bind fun r3 =>
  some (r3.1, ()) : Option (Int × Unit)) := (DF_eq X rfl _).trans (by kernel_rfl)
theorem impl_VarText_eq (a0 : Int) : impl_VarText a0 =
  ((impl_within a0 0 1000000000).bind fun r3 =>
  bif (!r3.1)
  then some ((ByteArray.empty, false), ())
  else impl_VarText_L0 a0 [] : Option ((ByteArray × Bool) × Unit)) := (DF_eq X rfl _).trans (by kernel_rfl)
theorem impl_VarText_L0_eq (x0 : Int) (x4 : (List Int)) : impl_VarText_L0 x0 x4 =
  (bif (decide (x0 > 127))
  then bif (lim ((List.length x4) + 1) 1)
   then impl_VarText_L0 (w64 (Int.tdiv x0 128)) (x4 ++ [(Go.IntKind.u8.wrap (w64 ((Int.tmod x0 128) + 128)))])
   else none
  else bif (lim ((List.length x4) + 1) 1)
   then some (((⟨(List.toArray (List.map (fun n => (UInt8.ofNat (Int.toNat n))) (x4 ++ [(Go.IntKind.u8.wrap x0)])))⟩ : ByteArray), true), ())
   else none : Option ((ByteArray × Bool) × Unit)) := (loopAt_mk X 137 0 [] _ _ _).trans (by kernel_rfl)
theorem impl_SumOf_eq (a0 : ByteArray) : impl_SumOf a0 =
  ((impl_SumMore 4294967295 a0).bind fun r3 =>
  some (r3.1, ()) : Option (Int × Unit)) := (DF_eq X rfl _).trans (by kernel_rfl)
theorem laws_eqFile_eq (a0 : D_File) (a1 : D_File) : laws_eqFile a0 a1 =
  (bif (!((ByteArray.toList a0.1) == (ByteArray.toList a1.1)))
  then some (false, ())
  else bif (!((ByteArray.toList a0.2.1) == (ByteArray.toList a1.2.1)))
   then some (false, ())
   else bif (a0.2.2 != a1.2.2)
    then some (false, ())
    else some (true, ()) : Option (Bool × Unit)) := (DF_eq X rfl _).trans (by kernel_rfl)
theorem spec_SumMore_eq (a0 : Int) (a1 : ByteArray) : spec_SumMore a0 a1 =
  (spec_SumMore_L0 a0 a1 0 : Option (Int × Unit)) := (DF_eq X rfl _).trans (by kernel_rfl)
theorem spec_SumMore_L0_eq (x0 : Int) (x1 : ByteArray) (x5 : Int) : spec_SumMore_L0 x0 x1 x5 =
  (bif (decide (x5 < (ByteArray.size x1 : Int)))
  then bif ((decide (0 ≤ x5)) && (decide (x5 < (ByteArray.size x1 : Int))))
   then spec_SumMore_L2 (Go.IntKind.u32.wrap (xorI Go.IntKind.u32 x0 (Go.IntKind.u32.wrap (bt x1 (Int.toNat x5))))) x1 x5 0
   else none
  else some (x0, ()) : Option (Int × Unit)) := (loopAt_mk X 147 0 [] _ _ _).trans (by kernel_rfl)
theorem spec_SumMore_L2_eq (x0 : Int) (x1 : ByteArray) (x5 : Int) (x6 : Int) : spec_SumMore_L2 x0 x1 x5 x6 =
  (bif (decide (x6 < 8))
  then bif ((Int.tmod x0 2) == 1)
   then spec_SumMore_L2 (Go.IntKind.u32.wrap (xorI Go.IntKind.u32 (Go.IntKind.u32.wrap (Int.tdiv x0 2)) 3558460437)) x1 x5 (w64 (x6 + 1))
   else spec_SumMore_L2 (Go.IntKind.u32.wrap (Int.tdiv x0 2)) x1 x5 (w64 (x6 + 1))
  else spec_SumMore_L0 x0 x1 (w64 (x5 + 1)) : Option (Int × Unit)) := (loopAt_mk X 147 2 [0] _ _ _).trans (by kernel_rfl)
theorem impl_SumMore_eq (a0 : Int) (a1 : ByteArray) : impl_SumMore a0 a1 =
  (impl_SumMore_L0 a0 a1 0 : Option (Int × Unit)) := (DF_eq X rfl _).trans (by kernel_rfl)
theorem impl_SumMore_L0_eq (x0 : Int) (x1 : ByteArray) (x5 : Int) : impl_SumMore_L0 x0 x1 x5 =
  (bif (decide (x5 < (ByteArray.size x1 : Int)))
  then bif ((decide (0 ≤ x5)) && (decide (x5 < (ByteArray.size x1 : Int))))
   then impl_SumMore_L2 (Go.IntKind.u32.wrap (xorI Go.IntKind.u32 x0 (Go.IntKind.u32.wrap (bt x1 (Int.toNat x5))))) x1 x5 0
   else none
  else some (x0, ()) : Option (Int × Unit)) := (loopAt_mk X 148 0 [] _ _ _).trans (by kernel_rfl)
theorem impl_SumMore_L2_eq (x0 : Int) (x1 : ByteArray) (x5 : Int) (x6 : Int) : impl_SumMore_L2 x0 x1 x5 x6 =
  (bif (decide (x6 < 8))
  then bif ((Int.tmod x0 2) == 1)
   then impl_SumMore_L2 (Go.IntKind.u32.wrap (xorI Go.IntKind.u32 (Go.IntKind.u32.wrap (Int.tdiv x0 2)) 3558460437)) x1 x5 (w64 (x6 + 1))
   else impl_SumMore_L2 (Go.IntKind.u32.wrap (Int.tdiv x0 2)) x1 x5 (w64 (x6 + 1))
  else impl_SumMore_L0 x0 x1 (w64 (x5 + 1)) : Option (Int × Unit)) := (loopAt_mk X 148 2 [0] _ _ _).trans (by kernel_rfl)
end Go.Den.S
