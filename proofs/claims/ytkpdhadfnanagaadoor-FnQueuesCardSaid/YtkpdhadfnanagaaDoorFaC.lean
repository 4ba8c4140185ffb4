/- FaC: equations of the functions of this seat as the executor tells them, or plain facts about them. Conditions: none here. -/
import Derived.Test.YtkpdhadfnanagaaDoorFaB
set_option linter.all false
namespace Go.Den.S
open Go Go.Den
/-! ### words of a line -/
/-- What stands between blanks. -/
def sp : List UInt8 → List (List UInt8)
  | [] => [[]]
  | c :: r => if c = 32 then [] :: sp r else match sp r with | [] => [[c]] | h :: t => (c :: h) :: t
/-- The words. -/
def ws (l : List UInt8) : List (List UInt8) := (sp l).filter fun w => !w.isEmpty
/-! ### the program's line -/
/-! ### the reference's line -/
end Go.Den.S
