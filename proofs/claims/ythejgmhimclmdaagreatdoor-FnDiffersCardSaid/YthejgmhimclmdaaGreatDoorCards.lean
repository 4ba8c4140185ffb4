/-
  DERIVED. GIVEN WITH THE SEED: THE CARDS: each row of YthejgmhimclmdaaGreatDoorRows.lean that lists a variable, with what it lists TIED to the program's text (the seventh form; the later family's looks); each row that meets fmt, with fmt's text TOLD by the authors' own Lean function (tested against real Go, not proved from fmt's source: count such statements apart). THE CARD IS WHAT COUNTS. Prove the row's statement (the work); the ties are given (YthejgmhimclmdaaGreatDoorTie.lean); close each card by the builder's one call (the guide's Derived/Test/ToyasCard.lean, 'card_holds'). Laid BY PROGRAM, IN A SANDBOX (cutbox-door.mjs). By AI agents, Wed Nov 11 2026. No macro, syntax, notation, axiom, sorry.
-/
import Derived.Test.YthejgmhimclmdaaGreatDoorRows
import GoSem.ClaimSeven
namespace Go.Proofs.YthejgmhimclmdaaGreatDoor
namespace Rows

/-- THE TIED CARD OF 'laws.FnExactContents'. -/
def fnExactContentsCard : Claim7 := { stood := { row := fnExactContentsRow, standIns := [], harness := (true, "279616121f583a9bb50772b02051e0fe976c60d3105fd95cb0b9ee6bfb6ff7da"), looks := true }, kinds := [], alts := [], laidByText := true, laidKinds := [.data, .data, .data, .sentinel, .sentinel], laidTests := true, laidLooks := .later }
def FnExactContentsCardSaid : Prop := Claim7.holds Tryz.pinned (.plain (OpenSpec.ofChange fnExactContentsSpec)) fnExactContentsCard

/-- THE TIED CARD OF 'laws.FnMergesCut'. -/
def fnMergesCutCard : Claim7 := { stood := { row := fnMergesCutRow, standIns := [], harness := (true, "279616121f583a9bb50772b02051e0fe976c60d3105fd95cb0b9ee6bfb6ff7da"), looks := true }, kinds := [], alts := [], laidByText := true, laidKinds := [.data, .data, .data, .sentinel, .sentinel], laidTests := true, laidLooks := .later }
def FnMergesCutCardSaid : Prop := Claim7.holds Tryz.pinned (.plain (OpenSpec.ofChange fnMergesCutSpec)) fnMergesCutCard

/-- THE TIED CARD OF 'laws.FnExactMergeActs'. -/
def fnExactMergeActsCard : Claim7 := { stood := { row := fnExactMergeActsRow, standIns := [], harness := (true, "279616121f583a9bb50772b02051e0fe976c60d3105fd95cb0b9ee6bfb6ff7da"), looks := true }, kinds := [], alts := [], laidByText := true, laidKinds := [.data, .data, .data, .sentinel, .sentinel], laidTests := true, laidLooks := .later }
def FnExactMergeActsCardSaid : Prop := Claim7.holds Tryz.pinned (.plain (OpenSpec.ofChange fnExactMergeActsSpec)) fnExactMergeActsCard

/-- THE TIED CARD OF 'laws.FnPutsCut'. -/
def fnPutsCutCard : Claim7 := { stood := { row := fnPutsCutRow, standIns := [], harness := (true, "279616121f583a9bb50772b02051e0fe976c60d3105fd95cb0b9ee6bfb6ff7da"), looks := true }, kinds := [], alts := [], laidByText := true, laidKinds := [.data, .data, .data, .sentinel, .sentinel], laidTests := true, laidLooks := .later }
def FnPutsCutCardSaid : Prop := Claim7.holds Tryz.pinned (.plain (OpenSpec.ofChange fnPutsCutSpec)) fnPutsCutCard

/-- THE TIED CARD OF 'laws.FnMerges'. -/
def fnMergesCard : Claim7 := { stood := { row := fnMergesRow, standIns := [], harness := (true, "279616121f583a9bb50772b02051e0fe976c60d3105fd95cb0b9ee6bfb6ff7da"), looks := true }, kinds := [], alts := [], laidByText := true, laidKinds := [.data, .data, .data, .sentinel, .sentinel], laidTests := true, laidLooks := .later }
def FnMergesCardSaid : Prop := Claim7.holds Tryz.pinned (.plain (OpenSpec.ofChange fnMergesSpec)) fnMergesCard

/-- THE TIED CARD OF 'laws.FnExactBehind'. -/
def fnExactBehindCard : Claim7 := { stood := { row := fnExactBehindRow, standIns := [], harness := (true, "279616121f583a9bb50772b02051e0fe976c60d3105fd95cb0b9ee6bfb6ff7da"), looks := true }, kinds := [], alts := [], laidByText := true, laidKinds := [.data, .data, .data, .sentinel, .sentinel], laidTests := true, laidLooks := .later }
def FnExactBehindCardSaid : Prop := Claim7.holds Tryz.pinned (.plain (OpenSpec.ofChange fnExactBehindSpec)) fnExactBehindCard

/-- THE TIED CARD OF 'laws.FnExactMerge'. -/
def fnExactMergeCard : Claim7 := { stood := { row := fnExactMergeRow, standIns := [], harness := (true, "279616121f583a9bb50772b02051e0fe976c60d3105fd95cb0b9ee6bfb6ff7da"), looks := true }, kinds := [], alts := [], laidByText := true, laidKinds := [.data, .data, .data, .sentinel, .sentinel], laidTests := true, laidLooks := .later }
def FnExactMergeCardSaid : Prop := Claim7.holds Tryz.pinned (.plain (OpenSpec.ofChange fnExactMergeSpec)) fnExactMergeCard

/-- THE TIED CARD OF 'laws.FnExactPutBatch'. -/
def fnExactPutBatchCard : Claim7 := { stood := { row := fnExactPutBatchRow, standIns := [], harness := (true, "279616121f583a9bb50772b02051e0fe976c60d3105fd95cb0b9ee6bfb6ff7da"), looks := true }, kinds := [], alts := [], laidByText := true, laidKinds := [.data, .data, .data, .sentinel, .sentinel], laidTests := true, laidLooks := .later }
def FnExactPutBatchCardSaid : Prop := Claim7.holds Tryz.pinned (.plain (OpenSpec.ofChange fnExactPutBatchSpec)) fnExactPutBatchCard

/-- THE TIED CARD OF 'laws.FnExactTableOf'. -/
def fnExactTableOfCard : Claim7 := { stood := { row := fnExactTableOfRow, standIns := [], harness := (true, "279616121f583a9bb50772b02051e0fe976c60d3105fd95cb0b9ee6bfb6ff7da"), looks := true }, kinds := [], alts := [], laidByText := true, laidKinds := [.data, .data, .data, .sentinel, .sentinel], laidTests := true, laidLooks := .later }
def FnExactTableOfCardSaid : Prop := Claim7.holds Tryz.pinned (.plain (OpenSpec.ofChange fnExactTableOfSpec)) fnExactTableOfCard

/-- THE TIED CARD OF 'laws.FnDiffers'. -/
def fnDiffersCard : Claim7 := { stood := { row := fnDiffersRow, standIns := [], harness := (true, "279616121f583a9bb50772b02051e0fe976c60d3105fd95cb0b9ee6bfb6ff7da"), looks := true }, kinds := [], alts := [], laidByText := true, laidKinds := [.data, .data, .data, .sentinel, .sentinel], laidTests := true, laidLooks := .later }
def FnDiffersCardSaid : Prop := Claim7.holds Tryz.pinned (.plain (OpenSpec.ofChange fnDiffersSpec)) fnDiffersCard

/-- THE SECOND FORM's CARD OF 'laws.FnExactContents'. -/
def fnExactContentsUptoCard : Claim7 := { stood := { row := fnExactContentsUptoRow, standIns := [], harness := (true, "279616121f583a9bb50772b02051e0fe976c60d3105fd95cb0b9ee6bfb6ff7da"), looks := true }, kinds := [], alts := [], laidByText := true, laidKinds := [.data, .data, .data, .sentinel, .sentinel], laidTests := true, laidLooks := .later }
def FnExactContentsUptoCardSaid : Prop := Claim7.holds Tryz.pinned (.plain (OpenSpec.upto fnExactContentsSpec)) fnExactContentsUptoCard

/-- THE SECOND FORM's CARD OF 'laws.FnMergesCut'. -/
def fnMergesCutUptoCard : Claim7 := { stood := { row := fnMergesCutUptoRow, standIns := [], harness := (true, "279616121f583a9bb50772b02051e0fe976c60d3105fd95cb0b9ee6bfb6ff7da"), looks := true }, kinds := [], alts := [], laidByText := true, laidKinds := [.data, .data, .data, .sentinel, .sentinel], laidTests := true, laidLooks := .later }
def FnMergesCutUptoCardSaid : Prop := Claim7.holds Tryz.pinned (.plain (OpenSpec.upto fnMergesCutSpec)) fnMergesCutUptoCard

/-- THE SECOND FORM's CARD OF 'laws.FnExactMergeActs'. -/
def fnExactMergeActsUptoCard : Claim7 := { stood := { row := fnExactMergeActsUptoRow, standIns := [], harness := (true, "279616121f583a9bb50772b02051e0fe976c60d3105fd95cb0b9ee6bfb6ff7da"), looks := true }, kinds := [], alts := [], laidByText := true, laidKinds := [.data, .data, .data, .sentinel, .sentinel], laidTests := true, laidLooks := .later }
def FnExactMergeActsUptoCardSaid : Prop := Claim7.holds Tryz.pinned (.plain (OpenSpec.upto fnExactMergeActsSpec)) fnExactMergeActsUptoCard

/-- THE SECOND FORM's CARD OF 'laws.FnPutsCut'. -/
def fnPutsCutUptoCard : Claim7 := { stood := { row := fnPutsCutUptoRow, standIns := [], harness := (true, "279616121f583a9bb50772b02051e0fe976c60d3105fd95cb0b9ee6bfb6ff7da"), looks := true }, kinds := [], alts := [], laidByText := true, laidKinds := [.data, .data, .data, .sentinel, .sentinel], laidTests := true, laidLooks := .later }
def FnPutsCutUptoCardSaid : Prop := Claim7.holds Tryz.pinned (.plain (OpenSpec.upto fnPutsCutSpec)) fnPutsCutUptoCard

/-- THE SECOND FORM's CARD OF 'laws.FnMerges'. -/
def fnMergesUptoCard : Claim7 := { stood := { row := fnMergesUptoRow, standIns := [], harness := (true, "279616121f583a9bb50772b02051e0fe976c60d3105fd95cb0b9ee6bfb6ff7da"), looks := true }, kinds := [], alts := [], laidByText := true, laidKinds := [.data, .data, .data, .sentinel, .sentinel], laidTests := true, laidLooks := .later }
def FnMergesUptoCardSaid : Prop := Claim7.holds Tryz.pinned (.plain (OpenSpec.upto fnMergesSpec)) fnMergesUptoCard

/-- THE SECOND FORM's CARD OF 'laws.FnExactBehind'. -/
def fnExactBehindUptoCard : Claim7 := { stood := { row := fnExactBehindUptoRow, standIns := [], harness := (true, "279616121f583a9bb50772b02051e0fe976c60d3105fd95cb0b9ee6bfb6ff7da"), looks := true }, kinds := [], alts := [], laidByText := true, laidKinds := [.data, .data, .data, .sentinel, .sentinel], laidTests := true, laidLooks := .later }
def FnExactBehindUptoCardSaid : Prop := Claim7.holds Tryz.pinned (.plain (OpenSpec.upto fnExactBehindSpec)) fnExactBehindUptoCard

/-- THE SECOND FORM's CARD OF 'laws.FnExactMerge'. -/
def fnExactMergeUptoCard : Claim7 := { stood := { row := fnExactMergeUptoRow, standIns := [], harness := (true, "279616121f583a9bb50772b02051e0fe976c60d3105fd95cb0b9ee6bfb6ff7da"), looks := true }, kinds := [], alts := [], laidByText := true, laidKinds := [.data, .data, .data, .sentinel, .sentinel], laidTests := true, laidLooks := .later }
def FnExactMergeUptoCardSaid : Prop := Claim7.holds Tryz.pinned (.plain (OpenSpec.upto fnExactMergeSpec)) fnExactMergeUptoCard

/-- THE SECOND FORM's CARD OF 'laws.FnExactPutBatch'. -/
def fnExactPutBatchUptoCard : Claim7 := { stood := { row := fnExactPutBatchUptoRow, standIns := [], harness := (true, "279616121f583a9bb50772b02051e0fe976c60d3105fd95cb0b9ee6bfb6ff7da"), looks := true }, kinds := [], alts := [], laidByText := true, laidKinds := [.data, .data, .data, .sentinel, .sentinel], laidTests := true, laidLooks := .later }
def FnExactPutBatchUptoCardSaid : Prop := Claim7.holds Tryz.pinned (.plain (OpenSpec.upto fnExactPutBatchSpec)) fnExactPutBatchUptoCard

/-- THE SECOND FORM's CARD OF 'laws.FnExactTableOf'. -/
def fnExactTableOfUptoCard : Claim7 := { stood := { row := fnExactTableOfUptoRow, standIns := [], harness := (true, "279616121f583a9bb50772b02051e0fe976c60d3105fd95cb0b9ee6bfb6ff7da"), looks := true }, kinds := [], alts := [], laidByText := true, laidKinds := [.data, .data, .data, .sentinel, .sentinel], laidTests := true, laidLooks := .later }
def FnExactTableOfUptoCardSaid : Prop := Claim7.holds Tryz.pinned (.plain (OpenSpec.upto fnExactTableOfSpec)) fnExactTableOfUptoCard

/-- THE SECOND FORM's CARD OF 'laws.FnDiffers'. -/
def fnDiffersUptoCard : Claim7 := { stood := { row := fnDiffersUptoRow, standIns := [], harness := (true, "279616121f583a9bb50772b02051e0fe976c60d3105fd95cb0b9ee6bfb6ff7da"), looks := true }, kinds := [], alts := [], laidByText := true, laidKinds := [.data, .data, .data, .sentinel, .sentinel], laidTests := true, laidLooks := .later }
def FnDiffersUptoCardSaid : Prop := Claim7.holds Tryz.pinned (.plain (OpenSpec.upto fnDiffersSpec)) fnDiffersUptoCard
end Rows
end Go.Proofs.YthejgmhimclmdaaGreatDoor
