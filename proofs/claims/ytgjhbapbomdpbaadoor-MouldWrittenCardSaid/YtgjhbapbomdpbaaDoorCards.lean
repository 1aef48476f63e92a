/-
  DERIVED. GIVEN WITH THE SEED: THE CARDS: each row of YtgjhbapbomdpbaaDoorRows.lean that lists a variable, with what it lists TIED to the program's text (the seventh form; the later family's looks); each row that meets fmt, with fmt's text TOLD by the authors' own Lean function (tested against real Go, not proved from fmt's source: count such statements apart). THE CARD IS WHAT COUNTS. Prove the row's statement (the work); the ties are given (YtgjhbapbomdpbaaDoorTie.lean); close each card by the builder's one call (the guide's Derived/Test/ToyasCard.lean, 'card_holds'). Laid BY PROGRAM, IN A SANDBOX (cutbox-door.mjs). By AI agents, Wed Nov 11 2026. No macro, syntax, notation, axiom, sorry.
-/
import Derived.Test.YtgjhbapbomdpbaaDoorRows
import GoSem.ClaimSeven
namespace Go.Proofs.YtgjhbapbomdpbaaDoor
namespace Rows

/-- THE TIED CARD OF 'shuttlelaw7.IncludeSets'. -/
def includeSetsCard : Claim7 := { stood := { row := includeSetsRow, standIns := [], harness := (true, "cf5c0ded6a4db3ca16b0548351fdbd1ee7d7612a2bf8944ce22d5cde5a2fe944"), looks := true }, kinds := [], alts := [], laidByText := true, laidKinds := [.data, .pinned], laidTests := true, laidLooks := .later }
def IncludeSetsCardSaid : Prop := Claim7.holds Tryd.pinned (.plain (OpenSpec.ofChange includeSetsSpec)) includeSetsCard

/-- THE TIED CARD OF 'shuttlelaw7.IncludeDeep'. -/
def includeDeepCard : Claim7 := { stood := { row := includeDeepRow, standIns := [], harness := (true, "cf5c0ded6a4db3ca16b0548351fdbd1ee7d7612a2bf8944ce22d5cde5a2fe944"), looks := true }, kinds := [], alts := [], laidByText := true, laidKinds := [.data, .pinned], laidTests := true, laidLooks := .later }
def IncludeDeepCardSaid : Prop := Claim7.holds Tryd.pinned (.plain (OpenSpec.ofChange includeDeepSpec)) includeDeepCard

/-- THE TIED CARD OF 'shuttlelaw7.IncludeWitness'. -/
def includeWitnessCard : Claim7 := { stood := { row := includeWitnessRow, standIns := [], harness := (true, "cf5c0ded6a4db3ca16b0548351fdbd1ee7d7612a2bf8944ce22d5cde5a2fe944"), looks := true }, kinds := [], alts := [], laidByText := true, laidKinds := [.data, .data, .data, .data, .pinned], laidTests := true, laidLooks := .later }
def IncludeWitnessCardSaid : Prop := Claim7.holds Tryd.pinned (.plain (OpenSpec.ofChange includeWitnessSpec)) includeWitnessCard

/-- THE TIED CARD OF 'shuttlelaw7.IncludeOrder'. -/
def includeOrderCard : Claim7 := { stood := { row := includeOrderRow, standIns := [], harness := (true, "cf5c0ded6a4db3ca16b0548351fdbd1ee7d7612a2bf8944ce22d5cde5a2fe944"), looks := true }, kinds := [], alts := [], laidByText := true, laidKinds := [.data, .data, .data, .data, .pinned], laidTests := true, laidLooks := .later }
def IncludeOrderCardSaid : Prop := Claim7.holds Tryd.pinned (.plain (OpenSpec.ofChange includeOrderSpec)) includeOrderCard

/-- THE TIED CARD OF 'shuttlelaw9.MouldPlain'. -/
def mouldPlainCard : Claim7 := { stood := { row := mouldPlainRow, standIns := [], harness := (true, "cf5c0ded6a4db3ca16b0548351fdbd1ee7d7612a2bf8944ce22d5cde5a2fe944"), looks := true }, kinds := [], alts := [], laidByText := true, laidKinds := [.data, .data, .data, .data, .pinned], laidTests := true, laidLooks := .later }
def MouldPlainCardSaid : Prop := Claim7.holds Tryd.pinned (.plain (OpenSpec.ofChange mouldPlainSpec)) mouldPlainCard

/-- THE TIED CARD OF 'shuttlelaw9.MouldWritten'. -/
def mouldWrittenCard : Claim7 := { stood := { row := mouldWrittenRow, standIns := [], harness := (true, "cf5c0ded6a4db3ca16b0548351fdbd1ee7d7612a2bf8944ce22d5cde5a2fe944"), looks := true }, kinds := [], alts := [], laidByText := true, laidKinds := [.data, .data, .data, .data, .pinned], laidTests := true, laidLooks := .later }
def MouldWrittenCardSaid : Prop := Claim7.holds Tryd.pinned (.plain (OpenSpec.ofChange mouldWrittenSpec)) mouldWrittenCard

/-- THE TIED CARD OF 'shuttlelaw9.MouldChains'. -/
def mouldChainsCard : Claim7 := { stood := { row := mouldChainsRow, standIns := [], harness := (true, "cf5c0ded6a4db3ca16b0548351fdbd1ee7d7612a2bf8944ce22d5cde5a2fe944"), looks := true }, kinds := [], alts := [], laidByText := true, laidKinds := [.data, .data, .data, .data, .pinned], laidTests := true, laidLooks := .later }
def MouldChainsCardSaid : Prop := Claim7.holds Tryd.pinned (.plain (OpenSpec.ofChange mouldChainsSpec)) mouldChainsCard

/-- THE TIED CARD OF 'shuttlelaw9.MouldUnused'. -/
def mouldUnusedCard : Claim7 := { stood := { row := mouldUnusedRow, standIns := [], harness := (true, "cf5c0ded6a4db3ca16b0548351fdbd1ee7d7612a2bf8944ce22d5cde5a2fe944"), looks := true }, kinds := [], alts := [], laidByText := true, laidKinds := [.data, .data, .data, .data, .pinned], laidTests := true, laidLooks := .later }
def MouldUnusedCardSaid : Prop := Claim7.holds Tryd.pinned (.plain (OpenSpec.ofChange mouldUnusedSpec)) mouldUnusedCard

/-- THE SECOND FORM's CARD OF 'shuttlelaw7.IncludeSets'. -/
def includeSetsUptoCard : Claim7 := { stood := { row := includeSetsUptoRow, standIns := [], harness := (true, "cf5c0ded6a4db3ca16b0548351fdbd1ee7d7612a2bf8944ce22d5cde5a2fe944"), looks := true }, kinds := [], alts := [], laidByText := true, laidKinds := [.data, .pinned], laidTests := true, laidLooks := .later }
def IncludeSetsUptoCardSaid : Prop := Claim7.holds Tryd.pinned (.plain (OpenSpec.upto includeSetsSpec)) includeSetsUptoCard

/-- THE SECOND FORM's CARD OF 'shuttlelaw7.IncludeDeep'. -/
def includeDeepUptoCard : Claim7 := { stood := { row := includeDeepUptoRow, standIns := [], harness := (true, "cf5c0ded6a4db3ca16b0548351fdbd1ee7d7612a2bf8944ce22d5cde5a2fe944"), looks := true }, kinds := [], alts := [], laidByText := true, laidKinds := [.data, .pinned], laidTests := true, laidLooks := .later }
def IncludeDeepUptoCardSaid : Prop := Claim7.holds Tryd.pinned (.plain (OpenSpec.upto includeDeepSpec)) includeDeepUptoCard

/-- THE SECOND FORM's CARD OF 'shuttlelaw7.IncludeWitness'. -/
def includeWitnessUptoCard : Claim7 := { stood := { row := includeWitnessUptoRow, standIns := [], harness := (true, "cf5c0ded6a4db3ca16b0548351fdbd1ee7d7612a2bf8944ce22d5cde5a2fe944"), looks := true }, kinds := [], alts := [], laidByText := true, laidKinds := [.data, .data, .data, .data, .pinned], laidTests := true, laidLooks := .later }
def IncludeWitnessUptoCardSaid : Prop := Claim7.holds Tryd.pinned (.plain (OpenSpec.upto includeWitnessSpec)) includeWitnessUptoCard

/-- THE SECOND FORM's CARD OF 'shuttlelaw7.IncludeOrder'. -/
def includeOrderUptoCard : Claim7 := { stood := { row := includeOrderUptoRow, standIns := [], harness := (true, "cf5c0ded6a4db3ca16b0548351fdbd1ee7d7612a2bf8944ce22d5cde5a2fe944"), looks := true }, kinds := [], alts := [], laidByText := true, laidKinds := [.data, .data, .data, .data, .pinned], laidTests := true, laidLooks := .later }
def IncludeOrderUptoCardSaid : Prop := Claim7.holds Tryd.pinned (.plain (OpenSpec.upto includeOrderSpec)) includeOrderUptoCard

/-- THE SECOND FORM's CARD OF 'shuttlelaw9.MouldPlain'. -/
def mouldPlainUptoCard : Claim7 := { stood := { row := mouldPlainUptoRow, standIns := [], harness := (true, "cf5c0ded6a4db3ca16b0548351fdbd1ee7d7612a2bf8944ce22d5cde5a2fe944"), looks := true }, kinds := [], alts := [], laidByText := true, laidKinds := [.data, .data, .data, .data, .pinned], laidTests := true, laidLooks := .later }
def MouldPlainUptoCardSaid : Prop := Claim7.holds Tryd.pinned (.plain (OpenSpec.upto mouldPlainSpec)) mouldPlainUptoCard

/-- THE SECOND FORM's CARD OF 'shuttlelaw9.MouldWritten'. -/
def mouldWrittenUptoCard : Claim7 := { stood := { row := mouldWrittenUptoRow, standIns := [], harness := (true, "cf5c0ded6a4db3ca16b0548351fdbd1ee7d7612a2bf8944ce22d5cde5a2fe944"), looks := true }, kinds := [], alts := [], laidByText := true, laidKinds := [.data, .data, .data, .data, .pinned], laidTests := true, laidLooks := .later }
def MouldWrittenUptoCardSaid : Prop := Claim7.holds Tryd.pinned (.plain (OpenSpec.upto mouldWrittenSpec)) mouldWrittenUptoCard

/-- THE SECOND FORM's CARD OF 'shuttlelaw9.MouldChains'. -/
def mouldChainsUptoCard : Claim7 := { stood := { row := mouldChainsUptoRow, standIns := [], harness := (true, "cf5c0ded6a4db3ca16b0548351fdbd1ee7d7612a2bf8944ce22d5cde5a2fe944"), looks := true }, kinds := [], alts := [], laidByText := true, laidKinds := [.data, .data, .data, .data, .pinned], laidTests := true, laidLooks := .later }
def MouldChainsUptoCardSaid : Prop := Claim7.holds Tryd.pinned (.plain (OpenSpec.upto mouldChainsSpec)) mouldChainsUptoCard

/-- THE SECOND FORM's CARD OF 'shuttlelaw9.MouldUnused'. -/
def mouldUnusedUptoCard : Claim7 := { stood := { row := mouldUnusedUptoRow, standIns := [], harness := (true, "cf5c0ded6a4db3ca16b0548351fdbd1ee7d7612a2bf8944ce22d5cde5a2fe944"), looks := true }, kinds := [], alts := [], laidByText := true, laidKinds := [.data, .data, .data, .data, .pinned], laidTests := true, laidLooks := .later }
def MouldUnusedUptoCardSaid : Prop := Claim7.holds Tryd.pinned (.plain (OpenSpec.upto mouldUnusedSpec)) mouldUnusedUptoCard
end Rows
end Go.Proofs.YtgjhbapbomdpbaaDoor
