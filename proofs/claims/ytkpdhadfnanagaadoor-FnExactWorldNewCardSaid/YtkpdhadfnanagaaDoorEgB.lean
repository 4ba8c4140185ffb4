/- EgB: equations of the functions of this seat as the executor tells them, or plain facts about them. Conditions: none here. -/
import Derived.Test.YtkpdhadfnanagaaDoorEgA
set_option linter.all false
namespace Go.Den.S
open Go Go.Den
/-! ### texts as lists of bytes -/
abbrev bl (s : ByteArray) : List UInt8 := s.data.toList
abbrev bOf (l : List UInt8) : ByteArray := ⟨l.toArray⟩
theorem bl_bOf (l : List UInt8) : bl (bOf l) = l := rfl
theorem size_bl (s : ByteArray) : s.size = (bl s).length := Array.length_toList.symm
theorem size_bOf (l : List UInt8) : (bOf l).size = l.length := by rw [size_bl]
theorem bl_app (a b : ByteArray) : bl (a ++ b) = bl a ++ bl b := by simp [bl]
theorem bl_inj {s t : ByteArray} (h : bl s = bl t) : s = t := bytes_ext h
/-! ### sums and frames -/
noncomputable def rnd1 (x : Int) : Int := bif (Int.tmod x 2 == 1) then IntKind.u32.wrap (xorI .u32 (IntKind.u32.wrap (Int.tdiv x 2)) 3558460437) else IntKind.u32.wrap (Int.tdiv x 2)
noncomputable def rndN : Nat → Int → Int
  | 0, x => x
  | k + 1, x => rndN k (rnd1 x)
noncomputable def sumL (x : Int) (l : List UInt8) : Int := l.foldl (fun x c => rndN 8 (IntKind.u32.wrap (xorI .u32 x (c.toNat : Int)))) x
noncomputable def fourL (x : Int) : List UInt8 := [24, 16, 8, 0].map fun k => UInt8.ofNat (IntKind.u8.wrap (shrI .u32 x k)).toNat
theorem fourL_len (x : Int) : (fourL x).length = 4 := rfl
/-- A text's frame. -/
noncomputable def frL (s : ByteArray) : List UInt8 := vL s.size ++ (fourL (sumL 4294967295 (bl s)) ++ bl s)
def frOk (s : ByteArray) : Prop := 1 ≤ s.size ∧ s.size ≤ 9000
/-- The frame that stands in front. -/
noncomputable def fr1 (l : List UInt8) : Option (ByteArray × Nat) := match rvar l with
  | none => none
  | some (n, k) => open Classical in if n + k + 4 ≤ l.length ∧ 1 ≤ n ∧ n ≤ 9000 ∧ frL (bOf ((l.drop (k + 4)).take n)) = l.take (k + 4 + n) then some (bOf ((l.drop (k + 4)).take n), k + 4 + n) else none
end Go.Den.S
