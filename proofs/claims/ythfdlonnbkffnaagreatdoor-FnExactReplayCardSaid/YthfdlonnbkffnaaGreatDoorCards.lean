/-
  DERIVED. GIVEN WITH THE SEED: THE CARDS: each row of YthfdlonnbkffnaaGreatDoorRows.lean that lists a variable, with what it lists TIED to the program's text (the seventh form; the later family's looks); each row that meets fmt, with fmt's text TOLD by the authors' own Lean function (tested against real Go, not proved from fmt's source: count such statements apart). THE CARD IS WHAT COUNTS. Prove the row's statement (the work); the ties are given (YthfdlonnbkffnaaGreatDoorTie.lean); close each card by the builder's one call (the guide's Derived/Test/ToyasCard.lean, 'card_holds'). Laid BY PROGRAM, IN A SANDBOX (cutbox-door.mjs). By AI agents, Wed Nov 11 2026. No macro, syntax, notation, axiom, sorry.
-/
import Derived.Test.YthfdlonnbkffnaaGreatDoorRows
import GoSem.ClaimSeven
namespace Go.Proofs.YthfdlonnbkffnaaGreatDoor
namespace Rows

/-- THE TIED CARD OF 'laws.FnExactOnSets'. -/
def fnExactOnSetsCard : Claim7 := { stood := { row := fnExactOnSetsRow, standIns := [], harness := (true, "ebd16a25165af87bd4babf0d2ab94f3c0bb15235292d0bf412b42882d60c5e00"), looks := true }, kinds := [], alts := [], laidByText := true, laidKinds := [.data, .data, .data, .listed, .data], laidTests := true, laidLooks := .later }
def FnExactOnSetsCardSaid : Prop := Claim7.holds Tryz.pinned (.plain (OpenSpec.ofChange fnExactOnSetsSpec)) fnExactOnSetsCard

/-- THE TIED CARD OF 'laws.FnExactOnFields'. -/
def fnExactOnFieldsCard : Claim7 := { stood := { row := fnExactOnFieldsRow, standIns := [], harness := (true, "ebd16a25165af87bd4babf0d2ab94f3c0bb15235292d0bf412b42882d60c5e00"), looks := true }, kinds := [], alts := [], laidByText := true, laidKinds := [.data, .data, .data, .listed, .data], laidTests := true, laidLooks := .later }
def FnExactOnFieldsCardSaid : Prop := Claim7.holds Tryz.pinned (.plain (OpenSpec.ofChange fnExactOnFieldsSpec)) fnExactOnFieldsCard

/-- THE TIED CARD OF 'laws.FnExactOnLists'. -/
def fnExactOnListsCard : Claim7 := { stood := { row := fnExactOnListsRow, standIns := [], harness := (true, "ebd16a25165af87bd4babf0d2ab94f3c0bb15235292d0bf412b42882d60c5e00"), looks := true }, kinds := [], alts := [], laidByText := true, laidKinds := [.data, .data, .data, .sentinel, .sentinel, .listed, .data], laidTests := true, laidLooks := .later }
def FnExactOnListsCardSaid : Prop := Claim7.holds Tryz.pinned (.plain (OpenSpec.ofChange fnExactOnListsSpec)) fnExactOnListsCard

/-- THE TIED CARD OF 'laws.FnExactOnKeys'. -/
def fnExactOnKeysCard : Claim7 := { stood := { row := fnExactOnKeysRow, standIns := [], harness := (true, "ebd16a25165af87bd4babf0d2ab94f3c0bb15235292d0bf412b42882d60c5e00"), looks := true }, kinds := [], alts := [], laidByText := true, laidKinds := [.data, .data, .data, .sentinel, .sentinel, .listed, .data], laidTests := true, laidLooks := .later }
def FnExactOnKeysCardSaid : Prop := Claim7.holds Tryz.pinned (.plain (OpenSpec.ofChange fnExactOnKeysSpec)) fnExactOnKeysCard

/-- THE TIED CARD OF 'laws.FnExactExecute'. -/
def fnExactExecuteCard : Claim7 := { stood := { row := fnExactExecuteRow, standIns := [], harness := (true, "ebd16a25165af87bd4babf0d2ab94f3c0bb15235292d0bf412b42882d60c5e00"), looks := true }, kinds := [], alts := [], laidByText := true, laidKinds := [.data, .data, .data, .sentinel, .sentinel, .listed, .data], laidTests := true, laidLooks := .later }
def FnExactExecuteCardSaid : Prop := Claim7.holds Tryz.pinned (.plain (OpenSpec.ofChange fnExactExecuteSpec)) fnExactExecuteCard

/-- THE TIED CARD OF 'laws.FnExactMany'. -/
def fnExactManyCard : Claim7 := { stood := { row := fnExactManyRow, standIns := [], harness := (true, "ebd16a25165af87bd4babf0d2ab94f3c0bb15235292d0bf412b42882d60c5e00"), looks := true }, kinds := [], alts := [], laidByText := true, laidKinds := [.data, .data, .data, .sentinel, .sentinel, .listed, .data], laidTests := true, laidLooks := .later }
def FnExactManyCardSaid : Prop := Claim7.holds Tryz.pinned (.plain (OpenSpec.ofChange fnExactManySpec)) fnExactManyCard

/-- THE TIED CARD OF 'laws.FnExactDoUnit'. -/
def fnExactDoUnitCard : Claim7 := { stood := { row := fnExactDoUnitRow, standIns := [], harness := (true, "ebd16a25165af87bd4babf0d2ab94f3c0bb15235292d0bf412b42882d60c5e00"), looks := true }, kinds := [], alts := [], laidByText := true, laidKinds := [.data, .data, .data, .sentinel, .sentinel, .listed, .data], laidTests := true, laidLooks := .later }
def FnExactDoUnitCardSaid : Prop := Claim7.holds Tryz.pinned (.plain (OpenSpec.ofChange fnExactDoUnitSpec)) fnExactDoUnitCard

/-- THE TIED CARD OF 'laws.FnExactReplay'. -/
def fnExactReplayCard : Claim7 := { stood := { row := fnExactReplayRow, standIns := [], harness := (true, "ebd16a25165af87bd4babf0d2ab94f3c0bb15235292d0bf412b42882d60c5e00"), looks := true }, kinds := [], alts := [], laidByText := true, laidKinds := [.data, .data, .data, .sentinel, .sentinel, .listed, .data], laidTests := true, laidLooks := .later }
def FnExactReplayCardSaid : Prop := Claim7.holds Tryz.pinned (.plain (OpenSpec.ofChange fnExactReplaySpec)) fnExactReplayCard

/-- THE SECOND FORM's CARD OF 'laws.FnExactOnSets'. -/
def fnExactOnSetsUptoCard : Claim7 := { stood := { row := fnExactOnSetsUptoRow, standIns := [], harness := (true, "ebd16a25165af87bd4babf0d2ab94f3c0bb15235292d0bf412b42882d60c5e00"), looks := true }, kinds := [], alts := [], laidByText := true, laidKinds := [.data, .data, .data, .listed, .data], laidTests := true, laidLooks := .later }
def FnExactOnSetsUptoCardSaid : Prop := Claim7.holds Tryz.pinned (.plain (OpenSpec.upto fnExactOnSetsSpec)) fnExactOnSetsUptoCard

/-- THE SECOND FORM's CARD OF 'laws.FnExactOnFields'. -/
def fnExactOnFieldsUptoCard : Claim7 := { stood := { row := fnExactOnFieldsUptoRow, standIns := [], harness := (true, "ebd16a25165af87bd4babf0d2ab94f3c0bb15235292d0bf412b42882d60c5e00"), looks := true }, kinds := [], alts := [], laidByText := true, laidKinds := [.data, .data, .data, .listed, .data], laidTests := true, laidLooks := .later }
def FnExactOnFieldsUptoCardSaid : Prop := Claim7.holds Tryz.pinned (.plain (OpenSpec.upto fnExactOnFieldsSpec)) fnExactOnFieldsUptoCard

/-- THE SECOND FORM's CARD OF 'laws.FnExactOnLists'. -/
def fnExactOnListsUptoCard : Claim7 := { stood := { row := fnExactOnListsUptoRow, standIns := [], harness := (true, "ebd16a25165af87bd4babf0d2ab94f3c0bb15235292d0bf412b42882d60c5e00"), looks := true }, kinds := [], alts := [], laidByText := true, laidKinds := [.data, .data, .data, .sentinel, .sentinel, .listed, .data], laidTests := true, laidLooks := .later }
def FnExactOnListsUptoCardSaid : Prop := Claim7.holds Tryz.pinned (.plain (OpenSpec.upto fnExactOnListsSpec)) fnExactOnListsUptoCard

/-- THE SECOND FORM's CARD OF 'laws.FnExactOnKeys'. -/
def fnExactOnKeysUptoCard : Claim7 := { stood := { row := fnExactOnKeysUptoRow, standIns := [], harness := (true, "ebd16a25165af87bd4babf0d2ab94f3c0bb15235292d0bf412b42882d60c5e00"), looks := true }, kinds := [], alts := [], laidByText := true, laidKinds := [.data, .data, .data, .sentinel, .sentinel, .listed, .data], laidTests := true, laidLooks := .later }
def FnExactOnKeysUptoCardSaid : Prop := Claim7.holds Tryz.pinned (.plain (OpenSpec.upto fnExactOnKeysSpec)) fnExactOnKeysUptoCard

/-- THE SECOND FORM's CARD OF 'laws.FnExactExecute'. -/
def fnExactExecuteUptoCard : Claim7 := { stood := { row := fnExactExecuteUptoRow, standIns := [], harness := (true, "ebd16a25165af87bd4babf0d2ab94f3c0bb15235292d0bf412b42882d60c5e00"), looks := true }, kinds := [], alts := [], laidByText := true, laidKinds := [.data, .data, .data, .sentinel, .sentinel, .listed, .data], laidTests := true, laidLooks := .later }
def FnExactExecuteUptoCardSaid : Prop := Claim7.holds Tryz.pinned (.plain (OpenSpec.upto fnExactExecuteSpec)) fnExactExecuteUptoCard

/-- THE SECOND FORM's CARD OF 'laws.FnExactMany'. -/
def fnExactManyUptoCard : Claim7 := { stood := { row := fnExactManyUptoRow, standIns := [], harness := (true, "ebd16a25165af87bd4babf0d2ab94f3c0bb15235292d0bf412b42882d60c5e00"), looks := true }, kinds := [], alts := [], laidByText := true, laidKinds := [.data, .data, .data, .sentinel, .sentinel, .listed, .data], laidTests := true, laidLooks := .later }
def FnExactManyUptoCardSaid : Prop := Claim7.holds Tryz.pinned (.plain (OpenSpec.upto fnExactManySpec)) fnExactManyUptoCard

/-- THE SECOND FORM's CARD OF 'laws.FnExactDoUnit'. -/
def fnExactDoUnitUptoCard : Claim7 := { stood := { row := fnExactDoUnitUptoRow, standIns := [], harness := (true, "ebd16a25165af87bd4babf0d2ab94f3c0bb15235292d0bf412b42882d60c5e00"), looks := true }, kinds := [], alts := [], laidByText := true, laidKinds := [.data, .data, .data, .sentinel, .sentinel, .listed, .data], laidTests := true, laidLooks := .later }
def FnExactDoUnitUptoCardSaid : Prop := Claim7.holds Tryz.pinned (.plain (OpenSpec.upto fnExactDoUnitSpec)) fnExactDoUnitUptoCard

/-- THE SECOND FORM's CARD OF 'laws.FnExactReplay'. -/
def fnExactReplayUptoCard : Claim7 := { stood := { row := fnExactReplayUptoRow, standIns := [], harness := (true, "ebd16a25165af87bd4babf0d2ab94f3c0bb15235292d0bf412b42882d60c5e00"), looks := true }, kinds := [], alts := [], laidByText := true, laidKinds := [.data, .data, .data, .sentinel, .sentinel, .listed, .data], laidTests := true, laidLooks := .later }
def FnExactReplayUptoCardSaid : Prop := Claim7.holds Tryz.pinned (.plain (OpenSpec.upto fnExactReplaySpec)) fnExactReplayUptoCard
end Rows
end Go.Proofs.YthfdlonnbkffnaaGreatDoor
