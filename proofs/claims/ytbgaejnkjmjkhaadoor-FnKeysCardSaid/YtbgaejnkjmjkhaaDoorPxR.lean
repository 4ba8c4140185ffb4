/- PxR: equations of the functions of this seat as the executor tells them, or plain facts about them. Conditions: none here. -/
import Derived.Test.YtbgaejnkjmjkhaaDoorPxO
set_option linter.all false
namespace Go.Den.S
open Go Go.Den
def zf (s : BA) : BA := (q0n ++ s) ++ qh
theorem q1E (s : BA) (h : s.size <= 2097152) : q09 s = some (zf s, ()) := by
 rw [q6B]
 have e1 : (q0n : BA).size = 1 := rfl
 have e2 : (qh : BA).size = 2 := rfl
 have k1 : limS (ByteArray.size q0n + ByteArray.size s) = true := qN (by omega)
 have k2 : limS (ByteArray.size (q0n ++ s) + ByteArray.size qh) = true := qN (by rw [ByteArray.size_append]; omega)
 simp only [k1, k2, cT]
 rfl
theorem bneI (a b : Int) : (a != b) = !decide (a = b) := by
 by_cases e : a = b
 ·simp [e]
 ·simp [e]
end Go.Den.S
