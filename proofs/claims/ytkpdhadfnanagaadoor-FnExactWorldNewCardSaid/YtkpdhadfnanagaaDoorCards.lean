/-
  DERIVED. GIVEN WITH THE SEED: THE CARDS: each row of YtkpdhadfnanagaaDoorRows.lean that lists a variable, with what it lists TIED to the program's text (the seventh form; the later family's looks); each row that meets fmt, with fmt's text TOLD by the authors' own Lean function (tested against real Go, not proved from fmt's source: count such statements apart). THE CARD IS WHAT COUNTS. Prove the row's statement (the work); the ties are given (YtkpdhadfnanagaaDoorTie.lean); close each card by the builder's one call (the guide's Derived/Test/ToyasCard.lean, 'card_holds'). Laid BY PROGRAM, IN A SANDBOX (cutbox-door.mjs). By AI agents, Wed Nov 11 2026. No macro, syntax, notation, axiom, sorry.
-/
import Derived.Test.YtkpdhadfnanagaaDoorRows
import GoSem.ClaimSeven
namespace Go.Proofs.YtkpdhadfnanagaaDoor
namespace Rows

/-- THE TIED CARD OF 'laws.FnExactConnOk'. -/
def fnExactConnOkCard : Claim7 := { stood := { row := fnExactConnOkRow, standIns := [], harness := (true, "b951f0c2ab14e130a701cc83cc979ebe6d82fa453c9e450966601589b7102569"), looks := false }, kinds := [], alts := [], laidByText := true, laidKinds := [.listed, .data], laidTests := true, laidLooks := .later }
def FnExactConnOkCardSaid : Prop := Claim7.holds Tryd.pinned (.plain (OpenSpec.ofChange fnExactConnOkSpec)) fnExactConnOkCard

/-- THE TIED CARD OF 'laws.FnQueues'. -/
def fnQueuesCard : Claim7 := { stood := { row := fnQueuesRow, standIns := [], harness := (true, "b951f0c2ab14e130a701cc83cc979ebe6d82fa453c9e450966601589b7102569"), looks := false }, kinds := [], alts := [], laidByText := true, laidKinds := [.listed, .data], laidTests := true, laidLooks := .later }
def FnQueuesCardSaid : Prop := Claim7.holds Tryd.pinned (.plain (OpenSpec.ofChange fnQueuesSpec)) fnQueuesCard

/-- THE TIED CARD OF 'laws.FnExactTakeIn'. -/
def fnExactTakeInCard : Claim7 := { stood := { row := fnExactTakeInRow, standIns := [], harness := (true, "b951f0c2ab14e130a701cc83cc979ebe6d82fa453c9e450966601589b7102569"), looks := false }, kinds := [], alts := [], laidByText := true, laidKinds := [.listed, .data], laidTests := true, laidLooks := .later }
def FnExactTakeInCardSaid : Prop := Claim7.holds Tryd.pinned (.plain (OpenSpec.ofChange fnExactTakeInSpec)) fnExactTakeInCard

/-- THE TIED CARD OF 'laws.FnExactSettle'. -/
def fnExactSettleCard : Claim7 := { stood := { row := fnExactSettleRow, standIns := [], harness := (true, "b951f0c2ab14e130a701cc83cc979ebe6d82fa453c9e450966601589b7102569"), looks := false }, kinds := [], alts := [], laidByText := true, laidKinds := [.listed, .data], laidTests := true, laidLooks := .later }
def FnExactSettleCardSaid : Prop := Claim7.holds Tryd.pinned (.plain (OpenSpec.ofChange fnExactSettleSpec)) fnExactSettleCard

/-- THE TIED CARD OF 'laws.FnConns'. -/
def fnConnsCard : Claim7 := { stood := { row := fnConnsRow, standIns := [], harness := (true, "b951f0c2ab14e130a701cc83cc979ebe6d82fa453c9e450966601589b7102569"), looks := false }, kinds := [], alts := [], laidByText := true, laidKinds := [.data, .listed, .data, .pinned], laidTests := true, laidLooks := .later }
def FnConnsCardSaid : Prop := Claim7.holds Tryd.pinned (.plain (OpenSpec.ofChange fnConnsSpec)) fnConnsCard

/-- THE TIED CARD OF 'laws.FnExactNext'. -/
def fnExactNextCard : Claim7 := { stood := { row := fnExactNextRow, standIns := [], harness := (true, "b951f0c2ab14e130a701cc83cc979ebe6d82fa453c9e450966601589b7102569"), looks := false }, kinds := [], alts := [], laidByText := true, laidKinds := [.data, .listed, .data, .pinned], laidTests := true, laidLooks := .later }
def FnExactNextCardSaid : Prop := Claim7.holds Tryd.pinned (.plain (OpenSpec.ofChange fnExactNextSpec)) fnExactNextCard

/-- THE TIED CARD OF 'laws.FnExactWorldNew'. -/
def fnExactWorldNewCard : Claim7 := { stood := { row := fnExactWorldNewRow, standIns := [], harness := (true, "b951f0c2ab14e130a701cc83cc979ebe6d82fa453c9e450966601589b7102569"), looks := false }, kinds := [], alts := [], laidByText := true, laidKinds := [.data, .data, .data], laidTests := true, laidLooks := .later }
def FnExactWorldNewCardSaid : Prop := Claim7.holds Tryd.pinned (.plain (OpenSpec.ofChange fnExactWorldNewSpec)) fnExactWorldNewCard

/-- THE SECOND FORM's CARD OF 'laws.FnExactConnOk'. -/
def fnExactConnOkUptoCard : Claim7 := { stood := { row := fnExactConnOkUptoRow, standIns := [], harness := (true, "b951f0c2ab14e130a701cc83cc979ebe6d82fa453c9e450966601589b7102569"), looks := false }, kinds := [], alts := [], laidByText := true, laidKinds := [.listed, .data], laidTests := true, laidLooks := .later }
def FnExactConnOkUptoCardSaid : Prop := Claim7.holds Tryd.pinned (.plain (OpenSpec.upto fnExactConnOkSpec)) fnExactConnOkUptoCard

/-- THE SECOND FORM's CARD OF 'laws.FnQueues'. -/
def fnQueuesUptoCard : Claim7 := { stood := { row := fnQueuesUptoRow, standIns := [], harness := (true, "b951f0c2ab14e130a701cc83cc979ebe6d82fa453c9e450966601589b7102569"), looks := false }, kinds := [], alts := [], laidByText := true, laidKinds := [.listed, .data], laidTests := true, laidLooks := .later }
def FnQueuesUptoCardSaid : Prop := Claim7.holds Tryd.pinned (.plain (OpenSpec.upto fnQueuesSpec)) fnQueuesUptoCard

/-- THE SECOND FORM's CARD OF 'laws.FnExactTakeIn'. -/
def fnExactTakeInUptoCard : Claim7 := { stood := { row := fnExactTakeInUptoRow, standIns := [], harness := (true, "b951f0c2ab14e130a701cc83cc979ebe6d82fa453c9e450966601589b7102569"), looks := false }, kinds := [], alts := [], laidByText := true, laidKinds := [.listed, .data], laidTests := true, laidLooks := .later }
def FnExactTakeInUptoCardSaid : Prop := Claim7.holds Tryd.pinned (.plain (OpenSpec.upto fnExactTakeInSpec)) fnExactTakeInUptoCard

/-- THE SECOND FORM's CARD OF 'laws.FnExactSettle'. -/
def fnExactSettleUptoCard : Claim7 := { stood := { row := fnExactSettleUptoRow, standIns := [], harness := (true, "b951f0c2ab14e130a701cc83cc979ebe6d82fa453c9e450966601589b7102569"), looks := false }, kinds := [], alts := [], laidByText := true, laidKinds := [.listed, .data], laidTests := true, laidLooks := .later }
def FnExactSettleUptoCardSaid : Prop := Claim7.holds Tryd.pinned (.plain (OpenSpec.upto fnExactSettleSpec)) fnExactSettleUptoCard

/-- THE SECOND FORM's CARD OF 'laws.FnConns'. -/
def fnConnsUptoCard : Claim7 := { stood := { row := fnConnsUptoRow, standIns := [], harness := (true, "b951f0c2ab14e130a701cc83cc979ebe6d82fa453c9e450966601589b7102569"), looks := false }, kinds := [], alts := [], laidByText := true, laidKinds := [.data, .listed, .data, .pinned], laidTests := true, laidLooks := .later }
def FnConnsUptoCardSaid : Prop := Claim7.holds Tryd.pinned (.plain (OpenSpec.upto fnConnsSpec)) fnConnsUptoCard

/-- THE SECOND FORM's CARD OF 'laws.FnExactNext'. -/
def fnExactNextUptoCard : Claim7 := { stood := { row := fnExactNextUptoRow, standIns := [], harness := (true, "b951f0c2ab14e130a701cc83cc979ebe6d82fa453c9e450966601589b7102569"), looks := false }, kinds := [], alts := [], laidByText := true, laidKinds := [.data, .listed, .data, .pinned], laidTests := true, laidLooks := .later }
def FnExactNextUptoCardSaid : Prop := Claim7.holds Tryd.pinned (.plain (OpenSpec.upto fnExactNextSpec)) fnExactNextUptoCard

/-- THE SECOND FORM's CARD OF 'laws.FnExactWorldNew'. -/
def fnExactWorldNewUptoCard : Claim7 := { stood := { row := fnExactWorldNewUptoRow, standIns := [], harness := (true, "b951f0c2ab14e130a701cc83cc979ebe6d82fa453c9e450966601589b7102569"), looks := false }, kinds := [], alts := [], laidByText := true, laidKinds := [.data, .data, .data], laidTests := true, laidLooks := .later }
def FnExactWorldNewUptoCardSaid : Prop := Claim7.holds Tryd.pinned (.plain (OpenSpec.upto fnExactWorldNewSpec)) fnExactWorldNewUptoCard
end Rows
end Go.Proofs.YtkpdhadfnanagaaDoor
