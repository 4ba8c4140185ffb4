/- TabTry: equations of the functions of this seat as the executor tells them, or plain facts about them. Conditions: none here. -/
import Derived.Test.YtkpdhadfnanagaaDenFour
import Derived.Test.YtkpdhadfnanagaaProg
set_option linter.all false
set_option linter.unusedSimpArgs false
set_option linter.unusedVariables false
namespace Go.Den.STry
open Go Go.Den Go.Proofs
set_option linter.unusedVariables false
abbrev I : Ty := .int .i64
abbrev w64 (n : Int) : Int := IntKind.i64.wrap n
abbrev T_Event : Ty := (.pr I (.pr I (.pr .str (.pr I (.pr .bool (.pr I (.sl I)))))))
abbrev D_Event : Type := (Int × (Int × (ByteArray × (Int × (Bool × (Int × (List Int)))))))
def V (v : Nat) : Sig := (bif Nat.ble v 10
  then (bif Nat.ble v 7
  then (bif Nat.ble v 4
  then (bif Nat.beq v 4 then ⟨4, [.val T_Event], [.own .bool]⟩ else ⟨0, [], []⟩)
  else (bif Nat.beq v 7 then ⟨7, [.val T_Event, .val I], [.own I]⟩ else ⟨0, [], []⟩))
  else (bif Nat.ble v 8
  then (bif Nat.beq v 8 then ⟨8, [.val T_Event], [.own .bool]⟩ else ⟨0, [], []⟩)
  else (bif Nat.ble v 9
  then (bif Nat.beq v 9 then ⟨9, [.val T_Event], [.own T_Event]⟩ else ⟨0, [], []⟩)
  else (bif Nat.beq v 10 then ⟨10, [.val T_Event], [.own .bool]⟩ else ⟨0, [], []⟩))))
  else (bif Nat.ble v 13
  then (bif Nat.ble v 11
  then (bif Nat.beq v 11 then ⟨11, [.val T_Event, .val T_Event], [.own .bool]⟩ else ⟨0, [], []⟩)
  else (bif Nat.ble v 12
  then (bif Nat.beq v 12 then ⟨12, [.val I, .val I, .val I], [.own .bool]⟩ else ⟨0, [], []⟩)
  else (bif Nat.beq v 13 then ⟨13, [.val I, .val I, .val I], [.own .bool]⟩ else ⟨0, [], []⟩)))
  else (bif Nat.ble v 15
  then (bif Nat.beq v 15 then ⟨15, [.val (.sl I), .val I], [.own I]⟩ else ⟨0, [], []⟩)
  else (bif Nat.ble v 16
  then (bif Nat.beq v 16 then ⟨16, [.val (.sl I)], [.own (.sl I)]⟩ else ⟨0, [], []⟩)
  else (bif Nat.beq v 17 then ⟨17, [.val (.sl I), .val (.sl I)], [.own .bool]⟩ else ⟨0, [], []⟩)))))
end Go.Den.STry
