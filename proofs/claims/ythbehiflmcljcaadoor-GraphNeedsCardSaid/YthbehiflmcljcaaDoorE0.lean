/- What the rows' lists give, and a world that meets them (graph's laws read no variable). -/
import Derived.Test.YthbehiflmcljcaaDoorGs
import Derived.Test.YthbehiflmcljcaaDoorCards
import Derived.Test.YthbehiflmcljcaaDoorTie
import Derived.WalkKit
import Derived.ProofKit
import Derived.OpenShut
import Derived.Deep.DeepHandedRow
import Derived.Lib.LaidTab
import Derived.LaidLaws
import Derived.LaidHandle
import Derived.LaidSub
import Derived.Stop.Joined
set_option linter.unusedVariables false
set_option linter.unusedSimpArgs false
set_option maxRecDepth 10000
namespace Go.Proofs.YthbehiflmcljcaaDoor.C
open Go.ChangeShapes Go.WideShapes Go.ChangeAt Go.RowKit Go.Proofs.YthbehiflmcljcaaDoor.Sh
theorem own : ownKnob Tryd.prog.godebug = none := by kernel_rfl
abbrev LaidL : List (String × DataW Unit) := Rows.graphOrdersRow.laid
abbrev Gl (_ : World) : Prop := True
theorem gl_of_laid {W : World} (h : laidMetH Tryd.prog LaidL W) (hsh : W.ShapedOpen Tryd.prog) : Gl W := trivial
/-- a datum's cells -/
def flatD : Nat → DataW Unit → List Value
  | 0, _ => []
  | n + 1, d => match d with
    | .lit (.int k z) => [.int k z]
    | .agg l => l.flatMap (flatD n)
    | _ => []
noncomputable def setG (h : Array Obj) (g : Nat) (cs : List Value) : Array Obj := h.modify g fun
  | .cells _ t frozen => .cells cs.toArray t frozen
  | o => o
noncomputable def laidWorld (os : Os) : World :=
  let w0 := World.holding Tryd.prog os ⟨#[], #[], []⟩
  { w0 with heap := setG (setG w0.heap 1 (flatD 9 Rows.laid_unicode_utf8_first)) 2 (flatD 9 Rows.laid_unicode_utf8_acceptRanges) }
theorem laid_met (os : Os) (args : Array Value) : laidMetH Tryd.prog LaidL ((laidWorld os).forCall (fun _ _ => 0) ⟨#[], args, []⟩).memory :=
  laidMetH_of_parts (laidMet_of_run' 12 (by kernel_rfl) (by kernel_rfl)) (by kernel_rfl)
end Go.Proofs.YthbehiflmcljcaaDoor.C
