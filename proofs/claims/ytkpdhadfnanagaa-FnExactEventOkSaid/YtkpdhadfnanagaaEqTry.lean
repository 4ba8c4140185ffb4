/- EqTry: equations of the functions of this seat as the executor tells them, or plain facts about them. Conditions: none here. -/
import Derived.Test.YtkpdhadfnanagaaTabTry
import Derived.KernelRfl
set_option linter.all false
set_option linter.unusedSimpArgs false
set_option linter.unusedVariables false
namespace Go.Den.STry
open Go Go.Den Go.Proofs
set_option linter.unusedVariables false
def H (v : Nat) : Nat → Hint := (bif Nat.ble v 16
  then (bif Nat.beq v 16 then (fun bid => bif Nat.beq bid 0 then ⟨[(0, .v), (3, .row I), (4, .v)], [], []⟩ else ⟨[], [], []⟩) else (fun _ => ⟨[], [], []⟩))
  else (bif Nat.beq v 17 then (fun bid => bif Nat.beq bid 0 then ⟨[(0, .v), (1, .v), (5, .v)], [], []⟩ else ⟨[], [], []⟩) else (fun _ => ⟨[], [], []⟩)))
noncomputable def X : Cx := { P := Try.prog, V := V, cands := fun g => [g], hint := H, ext := fun _ => none }
noncomputable def laws_FnExactEventOk (a0 : D_Event) : Option (Bool × Unit) := DF X 4 ((a0, ()) : (D_Event) × Unit)
noncomputable def laws_szEvent (a0 : D_Event) (a1 : Int) : Option (Int × Unit) := DF X 7 ((a0, a1, ()) : (D_Event) × (Int) × Unit)
noncomputable def spec_EventOk (a0 : D_Event) : Option (Bool × Unit) := DF X 8 ((a0, ()) : (D_Event) × Unit)
noncomputable def laws_toEvent (a0 : D_Event) : Option (D_Event × Unit) := DF X 9 ((a0, ()) : (D_Event) × Unit)
noncomputable def impl_EventOk (a0 : D_Event) : Option (Bool × Unit) := DF X 10 ((a0, ()) : (D_Event) × Unit)
noncomputable def laws_eqEvent (a0 : D_Event) (a1 : D_Event) : Option (Bool × Unit) := DF X 11 ((a0, a1, ()) : (D_Event) × (D_Event) × Unit)
noncomputable def spec_l01In (a0 : Int) (a1 : Int) (a2 : Int) : Option (Bool × Unit) := DF X 12 ((a0, a1, a2, ()) : (Int) × (Int) × (Int) × Unit)
noncomputable def impl_within (a0 : Int) (a1 : Int) (a2 : Int) : Option (Bool × Unit) := DF X 13 ((a0, a1, a2, ()) : (Int) × (Int) × (Int) × Unit)
noncomputable def laws_szIntS (a0 : (List Int)) (a1 : Int) : Option (Int × Unit) := DF X 15 ((a0, a1, ()) : ((List Int)) × (Int) × Unit)
noncomputable def laws_toIntS (a0 : (List Int)) : Option ((List Int) × Unit) := DF X 16 ((a0, ()) : ((List Int)) × Unit)
noncomputable def laws_toIntS_L0 (x0 : (List Int)) (x3 : (List Int)) (x4 : Int) : Option ((List Int) × Unit) := loopAt X 16 0 [] (mkSt 22 [(0, .sv (.lst I x0)), (3, .sv (.own 1000003)), (4, .sv (.int .i64 x4))] [(1000003, .live (.row I x3 0))])
noncomputable def laws_eqIntS (a0 : (List Int)) (a1 : (List Int)) : Option (Bool × Unit) := DF X 17 ((a0, a1, ()) : ((List Int)) × ((List Int)) × Unit)
noncomputable def laws_eqIntS_L0 (x0 : (List Int)) (x1 : (List Int)) (x5 : Int) : Option (Bool × Unit) := loopAt X 17 0 [] (mkSt 26 [(0, .sv (.lst I x0)), (1, .sv (.lst I x1)), (5, .sv (.int .i64 x5))] [])
theorem laws_FnExactEventOk_eq (a0 : D_Event) : laws_FnExactEventOk a0 =
  ((laws_szEvent a0 1048576).bind fun r3 =>
  bif (decide (r3.1 < 0))
  then some (true, ())
  else (laws_toEvent a0).bind fun r4 =>
   (spec_EventOk r4.1).bind fun r5 =>
   (laws_toEvent a0).bind fun r6 =>
   (impl_EventOk r6.1).bind fun r7 =>
   bif (!(r7.1 == r5.1))
   then some (false, ())
   else (laws_toEvent a0).bind fun r8 =>
    (laws_eqEvent r6.1 r8.1).bind fun r9 =>
    bif (!r9.1)
    then some (false, ())
    else some (true, ()) : Option (Bool × Unit)) := (DF_eq X rfl _).trans (by kernel_rfl)
theorem laws_szEvent_eq (a0 : D_Event) (a1 : Int) : laws_szEvent a0 a1 =
  (bif (decide ((w64 (a1 - (ByteArray.size a0.2.2.1 : Int))) < 0))
  then some ((-1), ())
  else (laws_szIntS a0.2.2.2.2.2.2 (w64 (a1 - (ByteArray.size a0.2.2.1 : Int)))).bind fun r4 =>
   bif (decide (r4.1 < 0))
   then some ((-1), ())
   else some (r4.1, ()) : Option (Int × Unit)) := (DF_eq X rfl _).trans (by kernel_rfl)
theorem spec_EventOk_eq (a0 : D_Event) : spec_EventOk a0 =
  ((spec_l01In a0.1 1 6).bind fun r3 =>
  bif r3.1
  then (spec_l01In a0.2.1 0 2).bind fun r4 =>
   bif r4.1
   then bif (decide ((ByteArray.size a0.2.2.1 : Int) ≤ 300))
    then (spec_l01In a0.2.2.2.1 0 100).bind fun r5 =>
     bif r5.1
     then bif (decide (a0.2.2.2.2.2.1 ≥ 0))
      then some ((decide ((List.length a0.2.2.2.2.2.2 : Int) ≤ 30)), ())
      else some (false, ())
     else some (false, ())
    else some (false, ())
   else some (false, ())
  else some (false, ()) : Option (Bool × Unit)) := (DF_eq X rfl _).trans (by kernel_rfl)
theorem laws_toEvent_eq (a0 : D_Event) : laws_toEvent a0 =
  ((laws_toIntS a0.2.2.2.2.2.2).bind fun r3 =>
  some ((a0.1, (a0.2.1, (a0.2.2.1, (a0.2.2.2.1, (a0.2.2.2.2.1, (a0.2.2.2.2.2.1, r3.1)))))), ()) : Option (D_Event × Unit)) := (DF_eq X rfl _).trans (by kernel_rfl)
theorem impl_EventOk_eq (a0 : D_Event) : impl_EventOk a0 =
  ((impl_within a0.1 1 6).bind fun r3 =>
  bif r3.1
  then (impl_within a0.2.1 0 2).bind fun r4 =>
   bif r4.1
   then bif (decide ((ByteArray.size a0.2.2.1 : Int) ≤ 300))
    then (impl_within a0.2.2.2.1 0 100).bind fun r5 =>
     bif r5.1
     then bif (decide (a0.2.2.2.2.2.1 ≥ 0))
      then some ((decide ((List.length a0.2.2.2.2.2.2 : Int) ≤ 30)), ())
      else some (false, ())
     else some (false, ())
    else some (false, ())
   else some (false, ())
  else some (false, ()) : Option (Bool × Unit)) := (DF_eq X rfl _).trans (by kernel_rfl)
theorem laws_eqEvent_eq (a0 : D_Event) (a1 : D_Event) : laws_eqEvent a0 a1 =
  (bif (a0.1 != a1.1)
  then some (false, ())
  else bif (a0.2.1 != a1.2.1)
   then some (false, ())
   else bif (!((ByteArray.toList a0.2.2.1) == (ByteArray.toList a1.2.2.1)))
    then some (false, ())
    else bif (a0.2.2.2.1 != a1.2.2.2.1)
     then some (false, ())
     else bif (!(a0.2.2.2.2.1 == a1.2.2.2.2.1))
      then some (false, ())
      else bif (a0.2.2.2.2.2.1 != a1.2.2.2.2.2.1)
       then some (false, ())
       else (laws_eqIntS a0.2.2.2.2.2.2 a1.2.2.2.2.2.2).bind fun r4 =>
        bif (!r4.1)
        then some (false, ())
        else some (true, ()) : Option (Bool × Unit)) := (DF_eq X rfl _).trans (by kernel_rfl)
theorem spec_l01In_eq (a0 : Int) (a1 : Int) (a2 : Int) : spec_l01In a0 a1 a2 =
  (bif (decide (a0 ≥ a1))
  then some ((decide (a0 ≤ a2)), ())
  else some (false, ()) : Option (Bool × Unit)) := (DF_eq X rfl _).trans (by kernel_rfl)
theorem impl_within_eq (a0 : Int) (a1 : Int) (a2 : Int) : impl_within a0 a1 a2 =
  (bif (decide (a0 ≥ a1))
  then some ((decide (a0 ≤ a2)), ())
  else some (false, ()) : Option (Bool × Unit)) := (DF_eq X rfl _).trans (by kernel_rfl)
theorem laws_szIntS_eq (a0 : (List Int)) (a1 : Int) : laws_szIntS a0 a1 =
  (bif (decide ((w64 (a1 - (List.length a0 : Int))) < 0))
  then some ((-1), ())
  else some ((w64 (a1 - (List.length a0 : Int))), ()) : Option (Int × Unit)) := (DF_eq X rfl _).trans (by kernel_rfl)
theorem laws_toIntS_eq (a0 : (List Int)) : laws_toIntS a0 =
  (bif ((decide (0 ≤ (List.length a0 : Int))) && ((decide ((List.length a0 : Int) ≤ (List.length a0 : Int))) && (lim (Int.toNat (List.length a0 : Int)) 8)))
  then laws_toIntS_L0 a0 (List.replicate (Int.toNat (List.length a0 : Int)) 0) 0
  else none : Option ((List Int) × Unit)) := (DF_eq X rfl _).trans (by kernel_rfl)
theorem laws_toIntS_L0_eq (x0 : (List Int)) (x3 : (List Int)) (x4 : Int) : laws_toIntS_L0 x0 x3 x4 =
  (bif (decide (x4 < (List.length x0 : Int)))
  then bif ((decide (0 ≤ x4)) && (decide (x4 < (List.length x0 : Int))))
   then bif ((decide (0 ≤ x4)) && (decide (x4 < (List.length x3 : Int))))
    then laws_toIntS_L0 x0 (List.set x3 (Int.toNat x4) (List.getD x0 (Int.toNat x4) 0)) (w64 (x4 + 1))
    else none
   else none
  else some (x3, ()) : Option ((List Int) × Unit)) := (loopAt_mk X 16 0 [] _ _ _).trans (by kernel_rfl)
theorem laws_eqIntS_eq (a0 : (List Int)) (a1 : (List Int)) : laws_eqIntS a0 a1 =
  (bif ((List.length a0 : Int) != (List.length a1 : Int))
  then some (false, ())
  else laws_eqIntS_L0 a0 a1 0 : Option (Bool × Unit)) := (DF_eq X rfl _).trans (by kernel_rfl)
theorem laws_eqIntS_L0_eq (x0 : (List Int)) (x1 : (List Int)) (x5 : Int) : laws_eqIntS_L0 x0 x1 x5 =
  (bif (decide (x5 < (List.length x0 : Int)))
  then bif ((decide (0 ≤ x5)) && (decide (x5 < (List.length x0 : Int))))
   then bif ((decide (0 ≤ x5)) && (decide (x5 < (List.length x1 : Int))))
    then bif ((List.getD x0 (Int.toNat x5) 0) != (List.getD x1 (Int.toNat x5) 0))
     then some (false, ())
     else laws_eqIntS_L0 x0 x1 (w64 (x5 + 1))
    else none
   else none
  else some (true, ()) : Option (Bool × Unit)) := (loopAt_mk X 17 0 [] _ _ _).trans (by kernel_rfl)
end Go.Den.STry
