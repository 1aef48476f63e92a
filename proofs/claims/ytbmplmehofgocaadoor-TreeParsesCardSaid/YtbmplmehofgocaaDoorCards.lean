/-
  DERIVED. GIVEN WITH THE SEED: THE CARDS: each row of YtbmplmehofgocaaDoorRows.lean that lists a variable, with what it lists TIED to the program's text (the seventh form; the later family's looks); each row that meets fmt, with fmt's text TOLD by the authors' own Lean function (tested against real Go, not proved from fmt's source: count such statements apart). THE CARD IS WHAT COUNTS. Prove the row's statement (the work); the ties are given (YtbmplmehofgocaaDoorTie.lean); close each card by the builder's one call (the guide's Derived/Test/ToyasCard.lean, 'card_holds'). Laid BY PROGRAM, IN A SANDBOX (cutbox-door.mjs). By AI agents, Wed Nov 11 2026. No macro, syntax, notation, axiom, sorry.
-/
import Derived.Test.YtbmplmehofgocaaDoorRows
import GoSem.ClaimSeven
namespace Go.Proofs.YtbmplmehofgocaaDoor
namespace Rows

/-- THE TIED CARD OF 'shuttlelaw8.MergeMerges'. -/
def mergeMergesCard : Claim7 := { stood := { row := mergeMergesRow, standIns := [], harness := (true, "15001c0d047ba57ef3ee97864ce886e0e0230d47b44d51763952e6713b378424"), looks := true }, kinds := [], alts := [], laidByText := true, laidKinds := [.data, .pinned], laidTests := true, laidLooks := .later }
def MergeMergesCardSaid : Prop := Claim7.holds Tryd.pinned (.plain (OpenSpec.ofChange mergeMergesSpec)) mergeMergesCard

/-- THE TIED CARD OF 'shuttlelaw8.MergeParts'. -/
def mergePartsCard : Claim7 := { stood := { row := mergePartsRow, standIns := [], harness := (true, "15001c0d047ba57ef3ee97864ce886e0e0230d47b44d51763952e6713b378424"), looks := true }, kinds := [], alts := [], laidByText := true, laidKinds := [.data, .pinned], laidTests := true, laidLooks := .later }
def MergePartsCardSaid : Prop := Claim7.holds Tryd.pinned (.plain (OpenSpec.ofChange mergePartsSpec)) mergePartsCard

/-- THE TIED CARD OF 'shuttlelaw8.MergeEmpty'. -/
def mergeEmptyCard : Claim7 := { stood := { row := mergeEmptyRow, standIns := [], harness := (true, "15001c0d047ba57ef3ee97864ce886e0e0230d47b44d51763952e6713b378424"), looks := true }, kinds := [], alts := [], laidByText := true, laidKinds := [.data, .pinned], laidTests := true, laidLooks := .later }
def MergeEmptyCardSaid : Prop := Claim7.holds Tryd.pinned (.plain (OpenSpec.ofChange mergeEmptySpec)) mergeEmptyCard

/-- THE TIED CARD OF 'shuttlelaw8.MergeSteps'. -/
def mergeStepsCard : Claim7 := { stood := { row := mergeStepsRow, standIns := [], harness := (true, "15001c0d047ba57ef3ee97864ce886e0e0230d47b44d51763952e6713b378424"), looks := true }, kinds := [], alts := [], laidByText := true, laidKinds := [.data, .pinned], laidTests := true, laidLooks := .later }
def MergeStepsCardSaid : Prop := Claim7.holds Tryd.pinned (.plain (OpenSpec.ofChange mergeStepsSpec)) mergeStepsCard

/-- THE TIED CARD OF 'shuttlelaw4.TreeParses'. -/
def treeParsesCard : Claim7 := { stood := { row := treeParsesRow, standIns := [], harness := (true, "15001c0d047ba57ef3ee97864ce886e0e0230d47b44d51763952e6713b378424"), looks := true }, kinds := [], alts := [], laidByText := true, laidKinds := [.data, .data, .data, .data, .pinned], laidTests := true, laidLooks := .later }
def TreeParsesCardSaid : Prop := Claim7.holds Tryd.pinned (.plain (OpenSpec.ofChange treeParsesSpec)) treeParsesCard

/-- THE TIED CARD OF 'shuttlelaw4.TreeIs'. -/
def treeIsCard : Claim7 := { stood := { row := treeIsRow, standIns := [], harness := (true, "15001c0d047ba57ef3ee97864ce886e0e0230d47b44d51763952e6713b378424"), looks := true }, kinds := [], alts := [], laidByText := true, laidKinds := [.data, .data, .data, .data, .pinned], laidTests := true, laidLooks := .later }
def TreeIsCardSaid : Prop := Claim7.holds Tryd.pinned (.plain (OpenSpec.ofChange treeIsSpec)) treeIsCard

/-- THE TIED CARD OF 'shuttlelaw4.TreeGets'. -/
def treeGetsCard : Claim7 := { stood := { row := treeGetsRow, standIns := [], harness := (true, "15001c0d047ba57ef3ee97864ce886e0e0230d47b44d51763952e6713b378424"), looks := true }, kinds := [], alts := [], laidByText := true, laidKinds := [.data, .data, .data, .data, .pinned], laidTests := true, laidLooks := .later }
def TreeGetsCardSaid : Prop := Claim7.holds Tryd.pinned (.plain (OpenSpec.ofChange treeGetsSpec)) treeGetsCard

/-- THE TIED CARD OF 'shuttlelaw4.TreeTotal'. -/
def treeTotalCard : Claim7 := { stood := { row := treeTotalRow, standIns := [], harness := (true, "15001c0d047ba57ef3ee97864ce886e0e0230d47b44d51763952e6713b378424"), looks := true }, kinds := [], alts := [], laidByText := true, laidKinds := [.data, .data, .data, .data, .pinned], laidTests := true, laidLooks := .later }
def TreeTotalCardSaid : Prop := Claim7.holds Tryd.pinned (.plain (OpenSpec.ofChange treeTotalSpec)) treeTotalCard

/-- THE TIED CARD OF 'shuttlelaw4.TreeDeeper'. -/
def treeDeeperCard : Claim7 := { stood := { row := treeDeeperRow, standIns := [], harness := (true, "15001c0d047ba57ef3ee97864ce886e0e0230d47b44d51763952e6713b378424"), looks := true }, kinds := [], alts := [], laidByText := true, laidKinds := [.data, .data, .data, .data, .pinned], laidTests := true, laidLooks := .later }
def TreeDeeperCardSaid : Prop := Claim7.holds Tryd.pinned (.plain (OpenSpec.ofChange treeDeeperSpec)) treeDeeperCard

/-- THE TIED CARD OF 'shuttlelaw4.TreeTwice'. -/
def treeTwiceCard : Claim7 := { stood := { row := treeTwiceRow, standIns := [], harness := (true, "15001c0d047ba57ef3ee97864ce886e0e0230d47b44d51763952e6713b378424"), looks := true }, kinds := [], alts := [], laidByText := true, laidKinds := [.data, .data, .data, .data, .pinned], laidTests := true, laidLooks := .later }
def TreeTwiceCardSaid : Prop := Claim7.holds Tryd.pinned (.plain (OpenSpec.ofChange treeTwiceSpec)) treeTwiceCard

/-- THE TIED CARD OF 'shuttlelaw4.TreeBlocks'. -/
def treeBlocksCard : Claim7 := { stood := { row := treeBlocksRow, standIns := [], harness := (true, "15001c0d047ba57ef3ee97864ce886e0e0230d47b44d51763952e6713b378424"), looks := true }, kinds := [], alts := [], laidByText := true, laidKinds := [.data, .data, .data, .data, .pinned], laidTests := true, laidLooks := .later }
def TreeBlocksCardSaid : Prop := Claim7.holds Tryd.pinned (.plain (OpenSpec.ofChange treeBlocksSpec)) treeBlocksCard

/-- THE TIED CARD OF 'shuttlelaw4.TreeJoins'. -/
def treeJoinsCard : Claim7 := { stood := { row := treeJoinsRow, standIns := [], harness := (true, "15001c0d047ba57ef3ee97864ce886e0e0230d47b44d51763952e6713b378424"), looks := true }, kinds := [], alts := [], laidByText := true, laidKinds := [.data, .data, .data, .data, .pinned], laidTests := true, laidLooks := .later }
def TreeJoinsCardSaid : Prop := Claim7.holds Tryd.pinned (.plain (OpenSpec.ofChange treeJoinsSpec)) treeJoinsCard

/-- THE TIED CARD OF 'shuttlelaw8.MergeGets'. -/
def mergeGetsCard : Claim7 := { stood := { row := mergeGetsRow, standIns := [], harness := (true, "15001c0d047ba57ef3ee97864ce886e0e0230d47b44d51763952e6713b378424"), looks := true }, kinds := [], alts := [], laidByText := true, laidKinds := [.data, .data, .data, .data, .pinned], laidTests := true, laidLooks := .later }
def MergeGetsCardSaid : Prop := Claim7.holds Tryd.pinned (.plain (OpenSpec.ofChange mergeGetsSpec)) mergeGetsCard

/-- THE TIED CARD OF 'shuttlelaw8.MergeCuts'. -/
def mergeCutsCard : Claim7 := { stood := { row := mergeCutsRow, standIns := [], harness := (true, "15001c0d047ba57ef3ee97864ce886e0e0230d47b44d51763952e6713b378424"), looks := true }, kinds := [], alts := [], laidByText := true, laidKinds := [.data, .data, .data, .data, .pinned], laidTests := true, laidLooks := .later }
def MergeCutsCardSaid : Prop := Claim7.holds Tryd.pinned (.plain (OpenSpec.ofChange mergeCutsSpec)) mergeCutsCard

/-- THE SECOND FORM's CARD OF 'shuttlelaw8.MergeMerges'. -/
def mergeMergesUptoCard : Claim7 := { stood := { row := mergeMergesUptoRow, standIns := [], harness := (true, "15001c0d047ba57ef3ee97864ce886e0e0230d47b44d51763952e6713b378424"), looks := true }, kinds := [], alts := [], laidByText := true, laidKinds := [.data, .pinned], laidTests := true, laidLooks := .later }
def MergeMergesUptoCardSaid : Prop := Claim7.holds Tryd.pinned (.plain (OpenSpec.upto mergeMergesSpec)) mergeMergesUptoCard

/-- THE SECOND FORM's CARD OF 'shuttlelaw8.MergeParts'. -/
def mergePartsUptoCard : Claim7 := { stood := { row := mergePartsUptoRow, standIns := [], harness := (true, "15001c0d047ba57ef3ee97864ce886e0e0230d47b44d51763952e6713b378424"), looks := true }, kinds := [], alts := [], laidByText := true, laidKinds := [.data, .pinned], laidTests := true, laidLooks := .later }
def MergePartsUptoCardSaid : Prop := Claim7.holds Tryd.pinned (.plain (OpenSpec.upto mergePartsSpec)) mergePartsUptoCard

/-- THE SECOND FORM's CARD OF 'shuttlelaw8.MergeEmpty'. -/
def mergeEmptyUptoCard : Claim7 := { stood := { row := mergeEmptyUptoRow, standIns := [], harness := (true, "15001c0d047ba57ef3ee97864ce886e0e0230d47b44d51763952e6713b378424"), looks := true }, kinds := [], alts := [], laidByText := true, laidKinds := [.data, .pinned], laidTests := true, laidLooks := .later }
def MergeEmptyUptoCardSaid : Prop := Claim7.holds Tryd.pinned (.plain (OpenSpec.upto mergeEmptySpec)) mergeEmptyUptoCard

/-- THE SECOND FORM's CARD OF 'shuttlelaw8.MergeSteps'. -/
def mergeStepsUptoCard : Claim7 := { stood := { row := mergeStepsUptoRow, standIns := [], harness := (true, "15001c0d047ba57ef3ee97864ce886e0e0230d47b44d51763952e6713b378424"), looks := true }, kinds := [], alts := [], laidByText := true, laidKinds := [.data, .pinned], laidTests := true, laidLooks := .later }
def MergeStepsUptoCardSaid : Prop := Claim7.holds Tryd.pinned (.plain (OpenSpec.upto mergeStepsSpec)) mergeStepsUptoCard

/-- THE SECOND FORM's CARD OF 'shuttlelaw4.TreeParses'. -/
def treeParsesUptoCard : Claim7 := { stood := { row := treeParsesUptoRow, standIns := [], harness := (true, "15001c0d047ba57ef3ee97864ce886e0e0230d47b44d51763952e6713b378424"), looks := true }, kinds := [], alts := [], laidByText := true, laidKinds := [.data, .data, .data, .data, .pinned], laidTests := true, laidLooks := .later }
def TreeParsesUptoCardSaid : Prop := Claim7.holds Tryd.pinned (.plain (OpenSpec.upto treeParsesSpec)) treeParsesUptoCard

/-- THE SECOND FORM's CARD OF 'shuttlelaw4.TreeIs'. -/
def treeIsUptoCard : Claim7 := { stood := { row := treeIsUptoRow, standIns := [], harness := (true, "15001c0d047ba57ef3ee97864ce886e0e0230d47b44d51763952e6713b378424"), looks := true }, kinds := [], alts := [], laidByText := true, laidKinds := [.data, .data, .data, .data, .pinned], laidTests := true, laidLooks := .later }
def TreeIsUptoCardSaid : Prop := Claim7.holds Tryd.pinned (.plain (OpenSpec.upto treeIsSpec)) treeIsUptoCard

/-- THE SECOND FORM's CARD OF 'shuttlelaw4.TreeGets'. -/
def treeGetsUptoCard : Claim7 := { stood := { row := treeGetsUptoRow, standIns := [], harness := (true, "15001c0d047ba57ef3ee97864ce886e0e0230d47b44d51763952e6713b378424"), looks := true }, kinds := [], alts := [], laidByText := true, laidKinds := [.data, .data, .data, .data, .pinned], laidTests := true, laidLooks := .later }
def TreeGetsUptoCardSaid : Prop := Claim7.holds Tryd.pinned (.plain (OpenSpec.upto treeGetsSpec)) treeGetsUptoCard

/-- THE SECOND FORM's CARD OF 'shuttlelaw4.TreeTotal'. -/
def treeTotalUptoCard : Claim7 := { stood := { row := treeTotalUptoRow, standIns := [], harness := (true, "15001c0d047ba57ef3ee97864ce886e0e0230d47b44d51763952e6713b378424"), looks := true }, kinds := [], alts := [], laidByText := true, laidKinds := [.data, .data, .data, .data, .pinned], laidTests := true, laidLooks := .later }
def TreeTotalUptoCardSaid : Prop := Claim7.holds Tryd.pinned (.plain (OpenSpec.upto treeTotalSpec)) treeTotalUptoCard

/-- THE SECOND FORM's CARD OF 'shuttlelaw4.TreeDeeper'. -/
def treeDeeperUptoCard : Claim7 := { stood := { row := treeDeeperUptoRow, standIns := [], harness := (true, "15001c0d047ba57ef3ee97864ce886e0e0230d47b44d51763952e6713b378424"), looks := true }, kinds := [], alts := [], laidByText := true, laidKinds := [.data, .data, .data, .data, .pinned], laidTests := true, laidLooks := .later }
def TreeDeeperUptoCardSaid : Prop := Claim7.holds Tryd.pinned (.plain (OpenSpec.upto treeDeeperSpec)) treeDeeperUptoCard

/-- THE SECOND FORM's CARD OF 'shuttlelaw4.TreeTwice'. -/
def treeTwiceUptoCard : Claim7 := { stood := { row := treeTwiceUptoRow, standIns := [], harness := (true, "15001c0d047ba57ef3ee97864ce886e0e0230d47b44d51763952e6713b378424"), looks := true }, kinds := [], alts := [], laidByText := true, laidKinds := [.data, .data, .data, .data, .pinned], laidTests := true, laidLooks := .later }
def TreeTwiceUptoCardSaid : Prop := Claim7.holds Tryd.pinned (.plain (OpenSpec.upto treeTwiceSpec)) treeTwiceUptoCard

/-- THE SECOND FORM's CARD OF 'shuttlelaw4.TreeBlocks'. -/
def treeBlocksUptoCard : Claim7 := { stood := { row := treeBlocksUptoRow, standIns := [], harness := (true, "15001c0d047ba57ef3ee97864ce886e0e0230d47b44d51763952e6713b378424"), looks := true }, kinds := [], alts := [], laidByText := true, laidKinds := [.data, .data, .data, .data, .pinned], laidTests := true, laidLooks := .later }
def TreeBlocksUptoCardSaid : Prop := Claim7.holds Tryd.pinned (.plain (OpenSpec.upto treeBlocksSpec)) treeBlocksUptoCard

/-- THE SECOND FORM's CARD OF 'shuttlelaw4.TreeJoins'. -/
def treeJoinsUptoCard : Claim7 := { stood := { row := treeJoinsUptoRow, standIns := [], harness := (true, "15001c0d047ba57ef3ee97864ce886e0e0230d47b44d51763952e6713b378424"), looks := true }, kinds := [], alts := [], laidByText := true, laidKinds := [.data, .data, .data, .data, .pinned], laidTests := true, laidLooks := .later }
def TreeJoinsUptoCardSaid : Prop := Claim7.holds Tryd.pinned (.plain (OpenSpec.upto treeJoinsSpec)) treeJoinsUptoCard

/-- THE SECOND FORM's CARD OF 'shuttlelaw8.MergeGets'. -/
def mergeGetsUptoCard : Claim7 := { stood := { row := mergeGetsUptoRow, standIns := [], harness := (true, "15001c0d047ba57ef3ee97864ce886e0e0230d47b44d51763952e6713b378424"), looks := true }, kinds := [], alts := [], laidByText := true, laidKinds := [.data, .data, .data, .data, .pinned], laidTests := true, laidLooks := .later }
def MergeGetsUptoCardSaid : Prop := Claim7.holds Tryd.pinned (.plain (OpenSpec.upto mergeGetsSpec)) mergeGetsUptoCard

/-- THE SECOND FORM's CARD OF 'shuttlelaw8.MergeCuts'. -/
def mergeCutsUptoCard : Claim7 := { stood := { row := mergeCutsUptoRow, standIns := [], harness := (true, "15001c0d047ba57ef3ee97864ce886e0e0230d47b44d51763952e6713b378424"), looks := true }, kinds := [], alts := [], laidByText := true, laidKinds := [.data, .data, .data, .data, .pinned], laidTests := true, laidLooks := .later }
def MergeCutsUptoCardSaid : Prop := Claim7.holds Tryd.pinned (.plain (OpenSpec.upto mergeCutsSpec)) mergeCutsUptoCard
end Rows
end Go.Proofs.YtbmplmehofgocaaDoor
