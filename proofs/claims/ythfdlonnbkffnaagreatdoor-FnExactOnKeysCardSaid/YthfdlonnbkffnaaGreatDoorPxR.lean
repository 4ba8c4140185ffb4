/- PxR: equations of the functions of this seat as the executor tells them, or plain facts about them. Conditions: none here. -/
import Derived.Test.YthfdlonnbkffnaaGreatDoorPxO
set_option linter.all false
set_option linter.unusedSimpArgs false
set_option linter.unusedVariables false
namespace Go.Den.S
open Go Go.Den
/-! ### texts -/
/-- A plain reply. -/
def simpB (s : ByteArray) : ByteArray := (c___1_260 ++ s) ++ c____2_7140
theorem impl_Simple_ok (s : ByteArray) (h : s.size ≤ 2097152) : impl_Simple s = some (simpB s, ()) := by
  rw [impl_Simple_eq]
  have e1 : (c___1_260 : ByteArray).size = 1 := rfl
  have e2 : (c____2_7140 : ByteArray).size = 2 := rfl
  have k1 : limS (ByteArray.size c___1_260 + ByteArray.size s) = true := limS_true (by omega)
  have k2 : limS (ByteArray.size (c___1_260 ++ s) + ByteArray.size c____2_7140) = true := limS_true (by rw [ByteArray.size_append]; omega)
  simp only [k1, k2, cond_true]
  rfl
theorem spec_Simple_ok (s : ByteArray) (h : s.size ≤ 2097152) : spec_Simple s = some (simpB s, ()) := by
  rw [spec_Simple_eq]
  have e1 : (c___1_260 : ByteArray).size = 1 := rfl
  have e2 : (c____2_7140 : ByteArray).size = 2 := rfl
  have k1 : limS (ByteArray.size c___1_260 + ByteArray.size s) = true := limS_true (by omega)
  have k2 : limS (ByteArray.size (c___1_260 ++ s) + ByteArray.size c____2_7140) = true := limS_true (by rw [ByteArray.size_append]; omega)
  simp only [k1, k2, cond_true]
  rfl
end Go.Den.S
