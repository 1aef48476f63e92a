/-
  DERIVED. GIVEN WITH THE SEED: THE CARDS: each row of YtpnkfnenhgfhpaaDoorRows.lean that lists a variable, with what it lists TIED to the program's text (the seventh form; the later family's looks); each row that meets fmt, with fmt's text TOLD by the authors' own Lean function (tested against real Go, not proved from fmt's source: count such statements apart). THE CARD IS WHAT COUNTS. Prove the row's statement (the work); the ties are given (YtpnkfnenhgfhpaaDoorTie.lean); close each card by the builder's one call (the guide's Derived/Test/ToyasCard.lean, 'card_holds'). Laid BY PROGRAM, IN A SANDBOX (cutbox-door.mjs). By AI agents, Wed Nov 11 2026. No macro, syntax, notation, axiom, sorry.
-/
import Derived.Test.YtpnkfnenhgfhpaaDoorRows
import GoSem.ClaimSeven
namespace Go.Proofs.YtpnkfnenhgfhpaaDoor
namespace Rows

/-- THE TIED CARD OF 'shuttlelaw8.MergeMerges'. -/
def mergeMergesCard : Claim7 := { stood := { row := mergeMergesRow, standIns := [], harness := (true, "da996383be1a64ab5cc0c8486ed694fd99bb5cd1668e1e39337171094330c09c"), looks := true }, kinds := [], alts := [], laidByText := true, laidKinds := [.data, .pinned], laidTests := true, laidLooks := .later }
def MergeMergesCardSaid : Prop := Claim7.holds Tryd.pinned (.plain (OpenSpec.ofChange mergeMergesSpec)) mergeMergesCard

/-- THE TIED CARD OF 'shuttlelaw8.MergeParts'. -/
def mergePartsCard : Claim7 := { stood := { row := mergePartsRow, standIns := [], harness := (true, "da996383be1a64ab5cc0c8486ed694fd99bb5cd1668e1e39337171094330c09c"), looks := true }, kinds := [], alts := [], laidByText := true, laidKinds := [.data, .pinned], laidTests := true, laidLooks := .later }
def MergePartsCardSaid : Prop := Claim7.holds Tryd.pinned (.plain (OpenSpec.ofChange mergePartsSpec)) mergePartsCard

/-- THE TIED CARD OF 'shuttlelaw8.MergeEmpty'. -/
def mergeEmptyCard : Claim7 := { stood := { row := mergeEmptyRow, standIns := [], harness := (true, "da996383be1a64ab5cc0c8486ed694fd99bb5cd1668e1e39337171094330c09c"), looks := true }, kinds := [], alts := [], laidByText := true, laidKinds := [.data, .pinned], laidTests := true, laidLooks := .later }
def MergeEmptyCardSaid : Prop := Claim7.holds Tryd.pinned (.plain (OpenSpec.ofChange mergeEmptySpec)) mergeEmptyCard

/-- THE TIED CARD OF 'shuttlelaw8.MergeSteps'. -/
def mergeStepsCard : Claim7 := { stood := { row := mergeStepsRow, standIns := [], harness := (true, "da996383be1a64ab5cc0c8486ed694fd99bb5cd1668e1e39337171094330c09c"), looks := true }, kinds := [], alts := [], laidByText := true, laidKinds := [.data, .pinned], laidTests := true, laidLooks := .later }
def MergeStepsCardSaid : Prop := Claim7.holds Tryd.pinned (.plain (OpenSpec.ofChange mergeStepsSpec)) mergeStepsCard

/-- THE TIED CARD OF 'shuttlelaw7.IncludeSets'. -/
def includeSetsCard : Claim7 := { stood := { row := includeSetsRow, standIns := [], harness := (true, "da996383be1a64ab5cc0c8486ed694fd99bb5cd1668e1e39337171094330c09c"), looks := true }, kinds := [], alts := [], laidByText := true, laidKinds := [.data, .pinned], laidTests := true, laidLooks := .later }
def IncludeSetsCardSaid : Prop := Claim7.holds Tryd.pinned (.plain (OpenSpec.ofChange includeSetsSpec)) includeSetsCard

/-- THE TIED CARD OF 'shuttlelaw7.IncludeDeep'. -/
def includeDeepCard : Claim7 := { stood := { row := includeDeepRow, standIns := [], harness := (true, "da996383be1a64ab5cc0c8486ed694fd99bb5cd1668e1e39337171094330c09c"), looks := true }, kinds := [], alts := [], laidByText := true, laidKinds := [.data, .pinned], laidTests := true, laidLooks := .later }
def IncludeDeepCardSaid : Prop := Claim7.holds Tryd.pinned (.plain (OpenSpec.ofChange includeDeepSpec)) includeDeepCard

/-- THE TIED CARD OF 'shuttlelaw4.TreeParses'. -/
def treeParsesCard : Claim7 := { stood := { row := treeParsesRow, standIns := [], harness := (true, "da996383be1a64ab5cc0c8486ed694fd99bb5cd1668e1e39337171094330c09c"), looks := true }, kinds := [], alts := [], laidByText := true, laidKinds := [.data, .data, .data, .data, .pinned], laidTests := true, laidLooks := .later }
def TreeParsesCardSaid : Prop := Claim7.holds Tryd.pinned (.plain (OpenSpec.ofChange treeParsesSpec)) treeParsesCard

/-- THE TIED CARD OF 'shuttlelaw4.TreeIs'. -/
def treeIsCard : Claim7 := { stood := { row := treeIsRow, standIns := [], harness := (true, "da996383be1a64ab5cc0c8486ed694fd99bb5cd1668e1e39337171094330c09c"), looks := true }, kinds := [], alts := [], laidByText := true, laidKinds := [.data, .data, .data, .data, .pinned], laidTests := true, laidLooks := .later }
def TreeIsCardSaid : Prop := Claim7.holds Tryd.pinned (.plain (OpenSpec.ofChange treeIsSpec)) treeIsCard

/-- THE TIED CARD OF 'shuttlelaw4.TreeGets'. -/
def treeGetsCard : Claim7 := { stood := { row := treeGetsRow, standIns := [], harness := (true, "da996383be1a64ab5cc0c8486ed694fd99bb5cd1668e1e39337171094330c09c"), looks := true }, kinds := [], alts := [], laidByText := true, laidKinds := [.data, .data, .data, .data, .pinned], laidTests := true, laidLooks := .later }
def TreeGetsCardSaid : Prop := Claim7.holds Tryd.pinned (.plain (OpenSpec.ofChange treeGetsSpec)) treeGetsCard

/-- THE TIED CARD OF 'shuttlelaw4.TreeTotal'. -/
def treeTotalCard : Claim7 := { stood := { row := treeTotalRow, standIns := [], harness := (true, "da996383be1a64ab5cc0c8486ed694fd99bb5cd1668e1e39337171094330c09c"), looks := true }, kinds := [], alts := [], laidByText := true, laidKinds := [.data, .data, .data, .data, .pinned], laidTests := true, laidLooks := .later }
def TreeTotalCardSaid : Prop := Claim7.holds Tryd.pinned (.plain (OpenSpec.ofChange treeTotalSpec)) treeTotalCard

/-- THE TIED CARD OF 'shuttlelaw4.TreeDeeper'. -/
def treeDeeperCard : Claim7 := { stood := { row := treeDeeperRow, standIns := [], harness := (true, "da996383be1a64ab5cc0c8486ed694fd99bb5cd1668e1e39337171094330c09c"), looks := true }, kinds := [], alts := [], laidByText := true, laidKinds := [.data, .data, .data, .data, .pinned], laidTests := true, laidLooks := .later }
def TreeDeeperCardSaid : Prop := Claim7.holds Tryd.pinned (.plain (OpenSpec.ofChange treeDeeperSpec)) treeDeeperCard

/-- THE TIED CARD OF 'shuttlelaw4.TreeTwice'. -/
def treeTwiceCard : Claim7 := { stood := { row := treeTwiceRow, standIns := [], harness := (true, "da996383be1a64ab5cc0c8486ed694fd99bb5cd1668e1e39337171094330c09c"), looks := true }, kinds := [], alts := [], laidByText := true, laidKinds := [.data, .data, .data, .data, .pinned], laidTests := true, laidLooks := .later }
def TreeTwiceCardSaid : Prop := Claim7.holds Tryd.pinned (.plain (OpenSpec.ofChange treeTwiceSpec)) treeTwiceCard

/-- THE TIED CARD OF 'shuttlelaw4.TreeBlocks'. -/
def treeBlocksCard : Claim7 := { stood := { row := treeBlocksRow, standIns := [], harness := (true, "da996383be1a64ab5cc0c8486ed694fd99bb5cd1668e1e39337171094330c09c"), looks := true }, kinds := [], alts := [], laidByText := true, laidKinds := [.data, .data, .data, .data, .pinned], laidTests := true, laidLooks := .later }
def TreeBlocksCardSaid : Prop := Claim7.holds Tryd.pinned (.plain (OpenSpec.ofChange treeBlocksSpec)) treeBlocksCard

/-- THE TIED CARD OF 'shuttlelaw4.TreeJoins'. -/
def treeJoinsCard : Claim7 := { stood := { row := treeJoinsRow, standIns := [], harness := (true, "da996383be1a64ab5cc0c8486ed694fd99bb5cd1668e1e39337171094330c09c"), looks := true }, kinds := [], alts := [], laidByText := true, laidKinds := [.data, .data, .data, .data, .pinned], laidTests := true, laidLooks := .later }
def TreeJoinsCardSaid : Prop := Claim7.holds Tryd.pinned (.plain (OpenSpec.ofChange treeJoinsSpec)) treeJoinsCard

/-- THE TIED CARD OF 'shuttlelaw8.MergeGets'. -/
def mergeGetsCard : Claim7 := { stood := { row := mergeGetsRow, standIns := [], harness := (true, "da996383be1a64ab5cc0c8486ed694fd99bb5cd1668e1e39337171094330c09c"), looks := true }, kinds := [], alts := [], laidByText := true, laidKinds := [.data, .data, .data, .data, .pinned], laidTests := true, laidLooks := .later }
def MergeGetsCardSaid : Prop := Claim7.holds Tryd.pinned (.plain (OpenSpec.ofChange mergeGetsSpec)) mergeGetsCard

/-- THE TIED CARD OF 'shuttlelaw8.MergeCuts'. -/
def mergeCutsCard : Claim7 := { stood := { row := mergeCutsRow, standIns := [], harness := (true, "da996383be1a64ab5cc0c8486ed694fd99bb5cd1668e1e39337171094330c09c"), looks := true }, kinds := [], alts := [], laidByText := true, laidKinds := [.data, .data, .data, .data, .pinned], laidTests := true, laidLooks := .later }
def MergeCutsCardSaid : Prop := Claim7.holds Tryd.pinned (.plain (OpenSpec.ofChange mergeCutsSpec)) mergeCutsCard

/-- THE TIED CARD OF 'shuttlelaw7.IncludeWitness'. -/
def includeWitnessCard : Claim7 := { stood := { row := includeWitnessRow, standIns := [], harness := (true, "da996383be1a64ab5cc0c8486ed694fd99bb5cd1668e1e39337171094330c09c"), looks := true }, kinds := [], alts := [], laidByText := true, laidKinds := [.data, .data, .data, .data, .pinned], laidTests := true, laidLooks := .later }
def IncludeWitnessCardSaid : Prop := Claim7.holds Tryd.pinned (.plain (OpenSpec.ofChange includeWitnessSpec)) includeWitnessCard

/-- THE TIED CARD OF 'shuttlelaw7.IncludeOrder'. -/
def includeOrderCard : Claim7 := { stood := { row := includeOrderRow, standIns := [], harness := (true, "da996383be1a64ab5cc0c8486ed694fd99bb5cd1668e1e39337171094330c09c"), looks := true }, kinds := [], alts := [], laidByText := true, laidKinds := [.data, .data, .data, .data, .pinned], laidTests := true, laidLooks := .later }
def IncludeOrderCardSaid : Prop := Claim7.holds Tryd.pinned (.plain (OpenSpec.ofChange includeOrderSpec)) includeOrderCard

/-- THE TIED CARD OF 'shuttlelaw9.MouldPlain'. -/
def mouldPlainCard : Claim7 := { stood := { row := mouldPlainRow, standIns := [], harness := (true, "da996383be1a64ab5cc0c8486ed694fd99bb5cd1668e1e39337171094330c09c"), looks := true }, kinds := [], alts := [], laidByText := true, laidKinds := [.data, .data, .data, .data, .pinned], laidTests := true, laidLooks := .later }
def MouldPlainCardSaid : Prop := Claim7.holds Tryd.pinned (.plain (OpenSpec.ofChange mouldPlainSpec)) mouldPlainCard

/-- THE TIED CARD OF 'shuttlelaw9.MouldWritten'. -/
def mouldWrittenCard : Claim7 := { stood := { row := mouldWrittenRow, standIns := [], harness := (true, "da996383be1a64ab5cc0c8486ed694fd99bb5cd1668e1e39337171094330c09c"), looks := true }, kinds := [], alts := [], laidByText := true, laidKinds := [.data, .data, .data, .data, .pinned], laidTests := true, laidLooks := .later }
def MouldWrittenCardSaid : Prop := Claim7.holds Tryd.pinned (.plain (OpenSpec.ofChange mouldWrittenSpec)) mouldWrittenCard

/-- THE TIED CARD OF 'shuttlelaw9.MouldChains'. -/
def mouldChainsCard : Claim7 := { stood := { row := mouldChainsRow, standIns := [], harness := (true, "da996383be1a64ab5cc0c8486ed694fd99bb5cd1668e1e39337171094330c09c"), looks := true }, kinds := [], alts := [], laidByText := true, laidKinds := [.data, .data, .data, .data, .pinned], laidTests := true, laidLooks := .later }
def MouldChainsCardSaid : Prop := Claim7.holds Tryd.pinned (.plain (OpenSpec.ofChange mouldChainsSpec)) mouldChainsCard

/-- THE TIED CARD OF 'shuttlelaw9.MouldUnused'. -/
def mouldUnusedCard : Claim7 := { stood := { row := mouldUnusedRow, standIns := [], harness := (true, "da996383be1a64ab5cc0c8486ed694fd99bb5cd1668e1e39337171094330c09c"), looks := true }, kinds := [], alts := [], laidByText := true, laidKinds := [.data, .data, .data, .data, .pinned], laidTests := true, laidLooks := .later }
def MouldUnusedCardSaid : Prop := Claim7.holds Tryd.pinned (.plain (OpenSpec.ofChange mouldUnusedSpec)) mouldUnusedCard

/-- THE SECOND FORM's CARD OF 'shuttlelaw8.MergeMerges'. -/
def mergeMergesUptoCard : Claim7 := { stood := { row := mergeMergesUptoRow, standIns := [], harness := (true, "da996383be1a64ab5cc0c8486ed694fd99bb5cd1668e1e39337171094330c09c"), looks := true }, kinds := [], alts := [], laidByText := true, laidKinds := [.data, .pinned], laidTests := true, laidLooks := .later }
def MergeMergesUptoCardSaid : Prop := Claim7.holds Tryd.pinned (.plain (OpenSpec.upto mergeMergesSpec)) mergeMergesUptoCard

/-- THE SECOND FORM's CARD OF 'shuttlelaw8.MergeParts'. -/
def mergePartsUptoCard : Claim7 := { stood := { row := mergePartsUptoRow, standIns := [], harness := (true, "da996383be1a64ab5cc0c8486ed694fd99bb5cd1668e1e39337171094330c09c"), looks := true }, kinds := [], alts := [], laidByText := true, laidKinds := [.data, .pinned], laidTests := true, laidLooks := .later }
def MergePartsUptoCardSaid : Prop := Claim7.holds Tryd.pinned (.plain (OpenSpec.upto mergePartsSpec)) mergePartsUptoCard

/-- THE SECOND FORM's CARD OF 'shuttlelaw8.MergeEmpty'. -/
def mergeEmptyUptoCard : Claim7 := { stood := { row := mergeEmptyUptoRow, standIns := [], harness := (true, "da996383be1a64ab5cc0c8486ed694fd99bb5cd1668e1e39337171094330c09c"), looks := true }, kinds := [], alts := [], laidByText := true, laidKinds := [.data, .pinned], laidTests := true, laidLooks := .later }
def MergeEmptyUptoCardSaid : Prop := Claim7.holds Tryd.pinned (.plain (OpenSpec.upto mergeEmptySpec)) mergeEmptyUptoCard

/-- THE SECOND FORM's CARD OF 'shuttlelaw8.MergeSteps'. -/
def mergeStepsUptoCard : Claim7 := { stood := { row := mergeStepsUptoRow, standIns := [], harness := (true, "da996383be1a64ab5cc0c8486ed694fd99bb5cd1668e1e39337171094330c09c"), looks := true }, kinds := [], alts := [], laidByText := true, laidKinds := [.data, .pinned], laidTests := true, laidLooks := .later }
def MergeStepsUptoCardSaid : Prop := Claim7.holds Tryd.pinned (.plain (OpenSpec.upto mergeStepsSpec)) mergeStepsUptoCard

/-- THE SECOND FORM's CARD OF 'shuttlelaw7.IncludeSets'. -/
def includeSetsUptoCard : Claim7 := { stood := { row := includeSetsUptoRow, standIns := [], harness := (true, "da996383be1a64ab5cc0c8486ed694fd99bb5cd1668e1e39337171094330c09c"), looks := true }, kinds := [], alts := [], laidByText := true, laidKinds := [.data, .pinned], laidTests := true, laidLooks := .later }
def IncludeSetsUptoCardSaid : Prop := Claim7.holds Tryd.pinned (.plain (OpenSpec.upto includeSetsSpec)) includeSetsUptoCard

/-- THE SECOND FORM's CARD OF 'shuttlelaw7.IncludeDeep'. -/
def includeDeepUptoCard : Claim7 := { stood := { row := includeDeepUptoRow, standIns := [], harness := (true, "da996383be1a64ab5cc0c8486ed694fd99bb5cd1668e1e39337171094330c09c"), looks := true }, kinds := [], alts := [], laidByText := true, laidKinds := [.data, .pinned], laidTests := true, laidLooks := .later }
def IncludeDeepUptoCardSaid : Prop := Claim7.holds Tryd.pinned (.plain (OpenSpec.upto includeDeepSpec)) includeDeepUptoCard

/-- THE SECOND FORM's CARD OF 'shuttlelaw4.TreeParses'. -/
def treeParsesUptoCard : Claim7 := { stood := { row := treeParsesUptoRow, standIns := [], harness := (true, "da996383be1a64ab5cc0c8486ed694fd99bb5cd1668e1e39337171094330c09c"), looks := true }, kinds := [], alts := [], laidByText := true, laidKinds := [.data, .data, .data, .data, .pinned], laidTests := true, laidLooks := .later }
def TreeParsesUptoCardSaid : Prop := Claim7.holds Tryd.pinned (.plain (OpenSpec.upto treeParsesSpec)) treeParsesUptoCard

/-- THE SECOND FORM's CARD OF 'shuttlelaw4.TreeIs'. -/
def treeIsUptoCard : Claim7 := { stood := { row := treeIsUptoRow, standIns := [], harness := (true, "da996383be1a64ab5cc0c8486ed694fd99bb5cd1668e1e39337171094330c09c"), looks := true }, kinds := [], alts := [], laidByText := true, laidKinds := [.data, .data, .data, .data, .pinned], laidTests := true, laidLooks := .later }
def TreeIsUptoCardSaid : Prop := Claim7.holds Tryd.pinned (.plain (OpenSpec.upto treeIsSpec)) treeIsUptoCard

/-- THE SECOND FORM's CARD OF 'shuttlelaw4.TreeGets'. -/
def treeGetsUptoCard : Claim7 := { stood := { row := treeGetsUptoRow, standIns := [], harness := (true, "da996383be1a64ab5cc0c8486ed694fd99bb5cd1668e1e39337171094330c09c"), looks := true }, kinds := [], alts := [], laidByText := true, laidKinds := [.data, .data, .data, .data, .pinned], laidTests := true, laidLooks := .later }
def TreeGetsUptoCardSaid : Prop := Claim7.holds Tryd.pinned (.plain (OpenSpec.upto treeGetsSpec)) treeGetsUptoCard

/-- THE SECOND FORM's CARD OF 'shuttlelaw4.TreeTotal'. -/
def treeTotalUptoCard : Claim7 := { stood := { row := treeTotalUptoRow, standIns := [], harness := (true, "da996383be1a64ab5cc0c8486ed694fd99bb5cd1668e1e39337171094330c09c"), looks := true }, kinds := [], alts := [], laidByText := true, laidKinds := [.data, .data, .data, .data, .pinned], laidTests := true, laidLooks := .later }
def TreeTotalUptoCardSaid : Prop := Claim7.holds Tryd.pinned (.plain (OpenSpec.upto treeTotalSpec)) treeTotalUptoCard

/-- THE SECOND FORM's CARD OF 'shuttlelaw4.TreeDeeper'. -/
def treeDeeperUptoCard : Claim7 := { stood := { row := treeDeeperUptoRow, standIns := [], harness := (true, "da996383be1a64ab5cc0c8486ed694fd99bb5cd1668e1e39337171094330c09c"), looks := true }, kinds := [], alts := [], laidByText := true, laidKinds := [.data, .data, .data, .data, .pinned], laidTests := true, laidLooks := .later }
def TreeDeeperUptoCardSaid : Prop := Claim7.holds Tryd.pinned (.plain (OpenSpec.upto treeDeeperSpec)) treeDeeperUptoCard

/-- THE SECOND FORM's CARD OF 'shuttlelaw4.TreeTwice'. -/
def treeTwiceUptoCard : Claim7 := { stood := { row := treeTwiceUptoRow, standIns := [], harness := (true, "da996383be1a64ab5cc0c8486ed694fd99bb5cd1668e1e39337171094330c09c"), looks := true }, kinds := [], alts := [], laidByText := true, laidKinds := [.data, .data, .data, .data, .pinned], laidTests := true, laidLooks := .later }
def TreeTwiceUptoCardSaid : Prop := Claim7.holds Tryd.pinned (.plain (OpenSpec.upto treeTwiceSpec)) treeTwiceUptoCard

/-- THE SECOND FORM's CARD OF 'shuttlelaw4.TreeBlocks'. -/
def treeBlocksUptoCard : Claim7 := { stood := { row := treeBlocksUptoRow, standIns := [], harness := (true, "da996383be1a64ab5cc0c8486ed694fd99bb5cd1668e1e39337171094330c09c"), looks := true }, kinds := [], alts := [], laidByText := true, laidKinds := [.data, .data, .data, .data, .pinned], laidTests := true, laidLooks := .later }
def TreeBlocksUptoCardSaid : Prop := Claim7.holds Tryd.pinned (.plain (OpenSpec.upto treeBlocksSpec)) treeBlocksUptoCard

/-- THE SECOND FORM's CARD OF 'shuttlelaw4.TreeJoins'. -/
def treeJoinsUptoCard : Claim7 := { stood := { row := treeJoinsUptoRow, standIns := [], harness := (true, "da996383be1a64ab5cc0c8486ed694fd99bb5cd1668e1e39337171094330c09c"), looks := true }, kinds := [], alts := [], laidByText := true, laidKinds := [.data, .data, .data, .data, .pinned], laidTests := true, laidLooks := .later }
def TreeJoinsUptoCardSaid : Prop := Claim7.holds Tryd.pinned (.plain (OpenSpec.upto treeJoinsSpec)) treeJoinsUptoCard

/-- THE SECOND FORM's CARD OF 'shuttlelaw8.MergeGets'. -/
def mergeGetsUptoCard : Claim7 := { stood := { row := mergeGetsUptoRow, standIns := [], harness := (true, "da996383be1a64ab5cc0c8486ed694fd99bb5cd1668e1e39337171094330c09c"), looks := true }, kinds := [], alts := [], laidByText := true, laidKinds := [.data, .data, .data, .data, .pinned], laidTests := true, laidLooks := .later }
def MergeGetsUptoCardSaid : Prop := Claim7.holds Tryd.pinned (.plain (OpenSpec.upto mergeGetsSpec)) mergeGetsUptoCard

/-- THE SECOND FORM's CARD OF 'shuttlelaw8.MergeCuts'. -/
def mergeCutsUptoCard : Claim7 := { stood := { row := mergeCutsUptoRow, standIns := [], harness := (true, "da996383be1a64ab5cc0c8486ed694fd99bb5cd1668e1e39337171094330c09c"), looks := true }, kinds := [], alts := [], laidByText := true, laidKinds := [.data, .data, .data, .data, .pinned], laidTests := true, laidLooks := .later }
def MergeCutsUptoCardSaid : Prop := Claim7.holds Tryd.pinned (.plain (OpenSpec.upto mergeCutsSpec)) mergeCutsUptoCard

/-- THE SECOND FORM's CARD OF 'shuttlelaw7.IncludeWitness'. -/
def includeWitnessUptoCard : Claim7 := { stood := { row := includeWitnessUptoRow, standIns := [], harness := (true, "da996383be1a64ab5cc0c8486ed694fd99bb5cd1668e1e39337171094330c09c"), looks := true }, kinds := [], alts := [], laidByText := true, laidKinds := [.data, .data, .data, .data, .pinned], laidTests := true, laidLooks := .later }
def IncludeWitnessUptoCardSaid : Prop := Claim7.holds Tryd.pinned (.plain (OpenSpec.upto includeWitnessSpec)) includeWitnessUptoCard

/-- THE SECOND FORM's CARD OF 'shuttlelaw7.IncludeOrder'. -/
def includeOrderUptoCard : Claim7 := { stood := { row := includeOrderUptoRow, standIns := [], harness := (true, "da996383be1a64ab5cc0c8486ed694fd99bb5cd1668e1e39337171094330c09c"), looks := true }, kinds := [], alts := [], laidByText := true, laidKinds := [.data, .data, .data, .data, .pinned], laidTests := true, laidLooks := .later }
def IncludeOrderUptoCardSaid : Prop := Claim7.holds Tryd.pinned (.plain (OpenSpec.upto includeOrderSpec)) includeOrderUptoCard

/-- THE SECOND FORM's CARD OF 'shuttlelaw9.MouldPlain'. -/
def mouldPlainUptoCard : Claim7 := { stood := { row := mouldPlainUptoRow, standIns := [], harness := (true, "da996383be1a64ab5cc0c8486ed694fd99bb5cd1668e1e39337171094330c09c"), looks := true }, kinds := [], alts := [], laidByText := true, laidKinds := [.data, .data, .data, .data, .pinned], laidTests := true, laidLooks := .later }
def MouldPlainUptoCardSaid : Prop := Claim7.holds Tryd.pinned (.plain (OpenSpec.upto mouldPlainSpec)) mouldPlainUptoCard

/-- THE SECOND FORM's CARD OF 'shuttlelaw9.MouldWritten'. -/
def mouldWrittenUptoCard : Claim7 := { stood := { row := mouldWrittenUptoRow, standIns := [], harness := (true, "da996383be1a64ab5cc0c8486ed694fd99bb5cd1668e1e39337171094330c09c"), looks := true }, kinds := [], alts := [], laidByText := true, laidKinds := [.data, .data, .data, .data, .pinned], laidTests := true, laidLooks := .later }
def MouldWrittenUptoCardSaid : Prop := Claim7.holds Tryd.pinned (.plain (OpenSpec.upto mouldWrittenSpec)) mouldWrittenUptoCard

/-- THE SECOND FORM's CARD OF 'shuttlelaw9.MouldChains'. -/
def mouldChainsUptoCard : Claim7 := { stood := { row := mouldChainsUptoRow, standIns := [], harness := (true, "da996383be1a64ab5cc0c8486ed694fd99bb5cd1668e1e39337171094330c09c"), looks := true }, kinds := [], alts := [], laidByText := true, laidKinds := [.data, .data, .data, .data, .pinned], laidTests := true, laidLooks := .later }
def MouldChainsUptoCardSaid : Prop := Claim7.holds Tryd.pinned (.plain (OpenSpec.upto mouldChainsSpec)) mouldChainsUptoCard

/-- THE SECOND FORM's CARD OF 'shuttlelaw9.MouldUnused'. -/
def mouldUnusedUptoCard : Claim7 := { stood := { row := mouldUnusedUptoRow, standIns := [], harness := (true, "da996383be1a64ab5cc0c8486ed694fd99bb5cd1668e1e39337171094330c09c"), looks := true }, kinds := [], alts := [], laidByText := true, laidKinds := [.data, .data, .data, .data, .pinned], laidTests := true, laidLooks := .later }
def MouldUnusedUptoCardSaid : Prop := Claim7.holds Tryd.pinned (.plain (OpenSpec.upto mouldUnusedSpec)) mouldUnusedUptoCard
end Rows
end Go.Proofs.YtpnkfnenhgfhpaaDoor
