/- What the rows of merge's laws give: fewer tables. -/
import Derived.Test.YtgjhbapbomdpbaaDoorE0
set_option linter.unusedVariables false
set_option linter.unusedSimpArgs false
set_option maxRecDepth 10000
namespace Go.Proofs.YtgjhbapbomdpbaaDoor.C
open Go.ChangeShapes Go.WideShapes Go.ChangeAt Go.RowKit Go.Proofs.YtgjhbapbomdpbaaDoor.Sh
abbrev LaidM : List (String × DataW Unit) := Rows.includeSetsRow.laid
theorem gm_of_laid {W : World} (h : laidMetH Tryd.prog LaidM W) (hsh : W.ShapedOpen Tryd.prog) : Gm W := ⟨Tryd.laysM145.s1_3 W hsh⟩
theorem laid_metM (os : Os) (args : Array Value) : laidMetH Tryd.prog LaidM ((laidWorld os).forCall (fun _ _ => 0) ⟨#[], args, []⟩).memory :=
  laidMetH_of_parts (laidMet_of_run' 12 (by kernel_rfl) (by kernel_rfl)) (by kernel_rfl)
end Go.Proofs.YtgjhbapbomdpbaaDoor.C
