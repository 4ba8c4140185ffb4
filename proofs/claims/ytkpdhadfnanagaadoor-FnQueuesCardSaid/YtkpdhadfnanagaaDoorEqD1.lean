/- EqD1: equations of the functions of this seat as the executor tells them, or plain facts about them. Conditions: none here. -/
import Derived.Test.YtkpdhadfnanagaaDoorEqA
set_option linter.all false
namespace Go.Den.S
open Go Go.Den Go.Proofs
theorem slices_Index___string_string__eq (a0 : (List ByteArray)) (a1 : ByteArray) : slices_Index___string_string_ a0 a1 =
  (slices_Index___string_string__L0 a0 a1 (List.length a0 : Int) 0 : Option (Int × Unit)) := (DF_eq X rfl _).trans (by kernel_rfl)
theorem slices_Index___string_string__L0_eq (x0 : (List ByteArray)) (x1 : ByteArray) (x7 : Int) (x8 : Int) : slices_Index___string_string__L0 x0 x1 x7 x8 =
  (bif (decide (x8 < x7))
  then bif ((decide (0 ≤ x8)) && (decide (x8 < (List.length x0 : Int))))
   then bif ((ByteArray.toList x1) == (ByteArray.toList (List.getD x0 (Int.toNat x8) ByteArray.empty)))
    then some (x8, ())
    else slices_Index___string_string__L0 x0 x1 x7 (w64 (x8 + 1))
   else none
  else some ((-1), ()) : Option (Int × Unit)) := (loopAt_mk X 129 0 [] _ _ _).trans (by kernel_rfl)
end Go.Den.S
