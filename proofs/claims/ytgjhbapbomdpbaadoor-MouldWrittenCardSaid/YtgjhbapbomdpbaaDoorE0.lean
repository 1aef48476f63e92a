/- What the rows' lists give (the tables, the errors), and a world that meets them. -/
import Derived.Test.YtgjhbapbomdpbaaDoorJ4
import Derived.Test.YtgjhbapbomdpbaaDoorCards
import Derived.Test.YtgjhbapbomdpbaaDoorTie
import Derived.WalkKit
import Derived.ProofKit
import Derived.OpenShut
import Derived.Deep.DeepHandedRow
import Derived.Lib.LaidTab
import Derived.LaidLaws
import Derived.LaidHandle
import Derived.LaidSub
import Derived.Stop.Joined
set_option linter.unusedVariables false
set_option linter.unusedSimpArgs false
set_option maxRecDepth 10000
namespace Go.Proofs.YtgjhbapbomdpbaaDoor.C
open Go.ChangeShapes Go.WideShapes Go.ChangeAt Go.RowKit Go.Proofs.YtgjhbapbomdpbaaDoor.Sh
theorem own : ownKnob Tryd.prog.godebug = none := by kernel_rfl
abbrev LaidL : List (String × DataW Unit) := Rows.includeOrderRow.laid
theorem gTab : Tryd.prog.globalNamed "internal/strconv.uint64pow10" = some 3 := by kernel_rfl
theorem gTabT : (Tryd.prog.globals[3]?).map (·.type) = some 187 := by kernel_rfl
theorem cellsTab : Tryd.prog.cellsOf 187 = 20 := by kernel_rfl
theorem cellsU : Tryd.prog.cellsOf 175 = 1 := by kernel_rfl
theorem gl_of_laid {W : World} (h : laidMetH Tryd.prog LaidL W) (hsh : W.ShapedOpen Tryd.prog) : Gl W := by
  obtain ⟨h1, h2⟩ := laidMetH_iff.1 h
  refine ⟨⟨Tryd.laysM145.s1_3 W hsh⟩, ?_⟩
  exact Lib.tabIs_of_head (rest := []) gTab gTabT Tryd.underlying187 Tryd.underlying175 cellsU cellsTab (h1.filter (fun x => x.1 == "internal/strconv.uint64pow10"))
/-- a datum's cells -/
def flatD : Nat → DataW Unit → List Value
  | 0, _ => []
  | n + 1, d => match d with
    | .lit (.int k z) => [.int k z]
    | .agg l => l.flatMap (flatD n)
    | _ => []
noncomputable def low : Nat := (World.holding Tryd.prog default ⟨#[], #[], []⟩).heap.size
noncomputable def setG (h : Array Obj) (g : Nat) (cs : List Value) : Array Obj := h.modify g fun
  | .cells _ t frozen => .cells cs.toArray t frozen
  | o => o
noncomputable def laidWorld (os : Os) : World :=
  let w0 := World.holding Tryd.prog os ⟨#[], #[], []⟩
  { w0 with heap := setG (setG (setG (setG (setG w0.heap 3 (flatD 9 Rows.laid_internal_strconv_uint64pow10)) 1 (flatD 9 Rows.laid_unicode_utf8_first)) 2 (flatD 9 Rows.laid_unicode_utf8_acceptRanges))
      4 (flatD 9 Rows.laid_math_bits_deBruijn32tab)) 5 (flatD 9 Rows.laid_math_bits_deBruijn64tab) }
theorem laid_met (os : Os) (args : Array Value) : laidMetH Tryd.prog LaidL ((laidWorld os).forCall (fun _ _ => 0) ⟨#[], args, []⟩).memory :=
  laidMetH_of_parts (laidMet_of_run' 12 (by kernel_rfl) (by kernel_rfl)) (by kernel_rfl)
end Go.Proofs.YtgjhbapbomdpbaaDoor.C
