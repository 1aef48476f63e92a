/-
  DERIVED. GIVEN WITH THE SEED: THE CARDS: each row of YtkobcbjblllhlaaGreatDoorRows.lean that lists a variable, with what it lists TIED to the program's text (the seventh form; the later family's looks); each row that meets fmt, with fmt's text TOLD by the authors' own Lean function (tested against real Go, not proved from fmt's source: count such statements apart). THE CARD IS WHAT COUNTS. Prove the row's statement (the work); the ties are given (YtkobcbjblllhlaaGreatDoorTie.lean); close each card by the builder's one call (the guide's Derived/Test/ToyasCard.lean, 'card_holds'). Laid BY PROGRAM, IN A SANDBOX (cutbox-door.mjs). By AI agents, Wed Nov 11 2026. No macro, syntax, notation, axiom, sorry.
-/
import Derived.Test.YtkobcbjblllhlaaGreatDoorRows
import GoSem.ClaimSeven
namespace Go.Proofs.YtkobcbjblllhlaaGreatDoor
namespace Rows

/-- THE TIED CARD OF 'shuttlelaw3.DiagTexts'. -/
def diagTextsCard : Claim7 := { stood := { row := diagTextsRow, standIns := [], harness := (true, "35ca2cc47b573c3f7317d5954aea60811342eb50b85b9161e96e3d8174fddc89"), looks := true }, kinds := [], alts := [], laidByText := true, laidKinds := [.data, .data, .data, .data, .handle, .sentinel, .sentinel, .pinned], laidTests := true, laidLooks := .later }
def DiagTextsCardSaid : Prop := Claim7.holds Tryz.pinned (.plain (OpenSpec.ofChange diagTextsSpec)) diagTextsCard

/-- THE TIED CARD OF 'shuttlelaw3.DiagBack'. -/
def diagBackCard : Claim7 := { stood := { row := diagBackRow, standIns := [], harness := (true, "35ca2cc47b573c3f7317d5954aea60811342eb50b85b9161e96e3d8174fddc89"), looks := true }, kinds := [], alts := [], laidByText := true, laidKinds := [.data, .data, .data, .data, .handle, .sentinel, .sentinel, .pinned], laidTests := true, laidLooks := .later }
def DiagBackCardSaid : Prop := Claim7.holds Tryz.pinned (.plain (OpenSpec.ofChange diagBackSpec)) diagBackCard

/-- THE TIED CARD OF 'shuttlelaw3.DiagRight'. -/
def diagRightCard : Claim7 := { stood := { row := diagRightRow, standIns := [], harness := (true, "35ca2cc47b573c3f7317d5954aea60811342eb50b85b9161e96e3d8174fddc89"), looks := true }, kinds := [], alts := [], laidByText := true, laidKinds := [.data, .data, .data, .data, .handle, .sentinel, .sentinel, .pinned], laidTests := true, laidLooks := .later }
def DiagRightCardSaid : Prop := Claim7.holds Tryz.pinned (.plain (OpenSpec.ofChange diagRightSpec)) diagRightCard

/-- THE TIED CARD OF 'shuttlelaw3.DiagOrder'. -/
def diagOrderCard : Claim7 := { stood := { row := diagOrderRow, standIns := [], harness := (true, "35ca2cc47b573c3f7317d5954aea60811342eb50b85b9161e96e3d8174fddc89"), looks := true }, kinds := [], alts := [], laidByText := true, laidKinds := [.data, .data, .data, .data, .handle, .sentinel, .sentinel, .pinned], laidTests := true, laidLooks := .later }
def DiagOrderCardSaid : Prop := Claim7.holds Tryz.pinned (.plain (OpenSpec.ofChange diagOrderSpec)) diagOrderCard

/-- THE TIED CARD OF 'shuttlelaw3.DiagFirst'. -/
def diagFirstCard : Claim7 := { stood := { row := diagFirstRow, standIns := [], harness := (true, "35ca2cc47b573c3f7317d5954aea60811342eb50b85b9161e96e3d8174fddc89"), looks := true }, kinds := [], alts := [], laidByText := true, laidKinds := [.data, .data, .data, .data, .handle, .sentinel, .sentinel, .pinned], laidTests := true, laidLooks := .later }
def DiagFirstCardSaid : Prop := Claim7.holds Tryz.pinned (.plain (OpenSpec.ofChange diagFirstSpec)) diagFirstCard

/-- THE SECOND FORM's CARD OF 'shuttlelaw3.DiagTexts'. -/
def diagTextsUptoCard : Claim7 := { stood := { row := diagTextsUptoRow, standIns := [], harness := (true, "35ca2cc47b573c3f7317d5954aea60811342eb50b85b9161e96e3d8174fddc89"), looks := true }, kinds := [], alts := [], laidByText := true, laidKinds := [.data, .data, .data, .data, .handle, .sentinel, .sentinel, .pinned], laidTests := true, laidLooks := .later }
def DiagTextsUptoCardSaid : Prop := Claim7.holds Tryz.pinned (.plain (OpenSpec.upto diagTextsSpec)) diagTextsUptoCard

/-- THE SECOND FORM's CARD OF 'shuttlelaw3.DiagBack'. -/
def diagBackUptoCard : Claim7 := { stood := { row := diagBackUptoRow, standIns := [], harness := (true, "35ca2cc47b573c3f7317d5954aea60811342eb50b85b9161e96e3d8174fddc89"), looks := true }, kinds := [], alts := [], laidByText := true, laidKinds := [.data, .data, .data, .data, .handle, .sentinel, .sentinel, .pinned], laidTests := true, laidLooks := .later }
def DiagBackUptoCardSaid : Prop := Claim7.holds Tryz.pinned (.plain (OpenSpec.upto diagBackSpec)) diagBackUptoCard

/-- THE SECOND FORM's CARD OF 'shuttlelaw3.DiagRight'. -/
def diagRightUptoCard : Claim7 := { stood := { row := diagRightUptoRow, standIns := [], harness := (true, "35ca2cc47b573c3f7317d5954aea60811342eb50b85b9161e96e3d8174fddc89"), looks := true }, kinds := [], alts := [], laidByText := true, laidKinds := [.data, .data, .data, .data, .handle, .sentinel, .sentinel, .pinned], laidTests := true, laidLooks := .later }
def DiagRightUptoCardSaid : Prop := Claim7.holds Tryz.pinned (.plain (OpenSpec.upto diagRightSpec)) diagRightUptoCard

/-- THE SECOND FORM's CARD OF 'shuttlelaw3.DiagOrder'. -/
def diagOrderUptoCard : Claim7 := { stood := { row := diagOrderUptoRow, standIns := [], harness := (true, "35ca2cc47b573c3f7317d5954aea60811342eb50b85b9161e96e3d8174fddc89"), looks := true }, kinds := [], alts := [], laidByText := true, laidKinds := [.data, .data, .data, .data, .handle, .sentinel, .sentinel, .pinned], laidTests := true, laidLooks := .later }
def DiagOrderUptoCardSaid : Prop := Claim7.holds Tryz.pinned (.plain (OpenSpec.upto diagOrderSpec)) diagOrderUptoCard

/-- THE SECOND FORM's CARD OF 'shuttlelaw3.DiagFirst'. -/
def diagFirstUptoCard : Claim7 := { stood := { row := diagFirstUptoRow, standIns := [], harness := (true, "35ca2cc47b573c3f7317d5954aea60811342eb50b85b9161e96e3d8174fddc89"), looks := true }, kinds := [], alts := [], laidByText := true, laidKinds := [.data, .data, .data, .data, .handle, .sentinel, .sentinel, .pinned], laidTests := true, laidLooks := .later }
def DiagFirstUptoCardSaid : Prop := Claim7.holds Tryz.pinned (.plain (OpenSpec.upto diagFirstSpec)) diagFirstUptoCard
end Rows
end Go.Proofs.YtkobcbjblllhlaaGreatDoor
