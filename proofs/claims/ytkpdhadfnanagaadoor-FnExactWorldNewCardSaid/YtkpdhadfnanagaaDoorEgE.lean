/- EgE: equations of the functions of this seat as the executor tells them, or plain facts about them. Conditions: none here. -/
import Derived.Test.YtkpdhadfnanagaaDoorEgD
set_option linter.all false
namespace Go.Den.S
open Go Go.Den
/-! ### files and acts -/
abbrev Act := Int × (ByteArray × (ByteArray × ByteArray))
/-! ### segments -/
def nmL (n : Nat) : ByteArray := bOf (98 :: (if n < 10 then [UInt8.ofNat (48 + n)] else [UInt8.ofNat (48 + n / 10), UInt8.ofNat (48 + n % 10)]))
/-- A segment's head. -/
def hdT (n f : Nat) : ByteArray := bOf (72 :: (vL n ++ vL f))
noncomputable def headL (n f : Nat) : List UInt8 := frL (hdT n f)
theorem hdT_ok {n f : Nat} (hn : n ≤ 99) (hf : f ≤ n) : frOk (hdT n f) := by
  have h1 := vL_pos n
  have h2 := vL_len 0 n (by omega)
  have h3 := vL_len 0 f (by omega)
  unfold hdT frOk
  rw [size_bOf]
  simp only [List.length_cons, List.length_append]
  omega
end Go.Den.S
