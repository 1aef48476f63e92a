/-
  DERIVED. GIVEN WITH THE SEED: THE CARDS: each row of YtgjhbapbomdpbaaGreatDoorRows.lean that lists a variable, with what it lists TIED to the program's text (the seventh form; the later family's looks); each row that meets fmt, with fmt's text TOLD by the authors' own Lean function (tested against real Go, not proved from fmt's source: count such statements apart). THE CARD IS WHAT COUNTS. Prove the row's statement (the work); the ties are given (YtgjhbapbomdpbaaGreatDoorTie.lean); close each card by the builder's one call (the guide's Derived/Test/ToyasCard.lean, 'card_holds'). Laid BY PROGRAM, IN A SANDBOX (cutbox-door.mjs). By AI agents, Wed Nov 11 2026. No macro, syntax, notation, axiom, sorry.
-/
import Derived.Test.YtgjhbapbomdpbaaGreatDoorRows
import GoSem.ClaimSeven
namespace Go.Proofs.YtgjhbapbomdpbaaGreatDoor
namespace Rows

/-- THE TIED CARD OF 'shuttlelaw7.IncludeLoads'. -/
def includeLoadsCard : Claim7 := { stood := { row := includeLoadsRow, standIns := [], harness := (true, "31e11a27477706d1bfc531cb9cf262e877ffa146559796e5fe2a33aa649cc046"), looks := true }, kinds := [], alts := [], laidByText := true, laidKinds := [.data, .pinned], laidTests := true, laidLooks := .later }
def IncludeLoadsCardSaid : Prop := Claim7.holds Tryz.pinned (.plain (OpenSpec.ofChange includeLoadsSpec)) includeLoadsCard

/-- THE TIED CARD OF 'shuttlelaw7.IncludeCycles'. -/
def includeCyclesCard : Claim7 := { stood := { row := includeCyclesRow, standIns := [], harness := (true, "31e11a27477706d1bfc531cb9cf262e877ffa146559796e5fe2a33aa649cc046"), looks := true }, kinds := [], alts := [], laidByText := true, laidKinds := [.data, .pinned], laidTests := true, laidLooks := .later }
def IncludeCyclesCardSaid : Prop := Claim7.holds Tryz.pinned (.plain (OpenSpec.ofChange includeCyclesSpec)) includeCyclesCard

/-- THE TIED CARD OF 'shuttlelaw9.MouldJobs'. -/
def mouldJobsCard : Claim7 := { stood := { row := mouldJobsRow, standIns := [], harness := (true, "31e11a27477706d1bfc531cb9cf262e877ffa146559796e5fe2a33aa649cc046"), looks := true }, kinds := [], alts := [], laidByText := true, laidKinds := [.data, .pinned], laidTests := true, laidLooks := .later }
def MouldJobsCardSaid : Prop := Claim7.holds Tryz.pinned (.plain (OpenSpec.ofChange mouldJobsSpec)) mouldJobsCard

/-- THE SECOND FORM's CARD OF 'shuttlelaw7.IncludeLoads'. -/
def includeLoadsUptoCard : Claim7 := { stood := { row := includeLoadsUptoRow, standIns := [], harness := (true, "31e11a27477706d1bfc531cb9cf262e877ffa146559796e5fe2a33aa649cc046"), looks := true }, kinds := [], alts := [], laidByText := true, laidKinds := [.data, .pinned], laidTests := true, laidLooks := .later }
def IncludeLoadsUptoCardSaid : Prop := Claim7.holds Tryz.pinned (.plain (OpenSpec.upto includeLoadsSpec)) includeLoadsUptoCard

/-- THE SECOND FORM's CARD OF 'shuttlelaw7.IncludeCycles'. -/
def includeCyclesUptoCard : Claim7 := { stood := { row := includeCyclesUptoRow, standIns := [], harness := (true, "31e11a27477706d1bfc531cb9cf262e877ffa146559796e5fe2a33aa649cc046"), looks := true }, kinds := [], alts := [], laidByText := true, laidKinds := [.data, .pinned], laidTests := true, laidLooks := .later }
def IncludeCyclesUptoCardSaid : Prop := Claim7.holds Tryz.pinned (.plain (OpenSpec.upto includeCyclesSpec)) includeCyclesUptoCard

/-- THE SECOND FORM's CARD OF 'shuttlelaw9.MouldJobs'. -/
def mouldJobsUptoCard : Claim7 := { stood := { row := mouldJobsUptoRow, standIns := [], harness := (true, "31e11a27477706d1bfc531cb9cf262e877ffa146559796e5fe2a33aa649cc046"), looks := true }, kinds := [], alts := [], laidByText := true, laidKinds := [.data, .pinned], laidTests := true, laidLooks := .later }
def MouldJobsUptoCardSaid : Prop := Claim7.holds Tryz.pinned (.plain (OpenSpec.upto mouldJobsSpec)) mouldJobsUptoCard
end Rows
end Go.Proofs.YtgjhbapbomdpbaaGreatDoor
