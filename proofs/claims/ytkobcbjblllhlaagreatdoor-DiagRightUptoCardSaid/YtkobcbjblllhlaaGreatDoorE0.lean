/- What the rows' lists give (the tables, the errors), and a world that meets them. -/
import Derived.Test.YtkobcbjblllhlaaGreatDoorD1
import Derived.Test.YtkobcbjblllhlaaGreatDoorCards
import Derived.Test.YtkobcbjblllhlaaGreatDoorTie
import Derived.WalkKit
import Derived.ProofKit
import Derived.OpenShut
import Derived.Deep.DeepHandedRow
import Derived.Lib.LaidTab
import Derived.LaidLaws
import Derived.LaidHandle
import Derived.LaidSub
import Derived.Stop.Joined
set_option linter.unusedVariables false
set_option linter.unusedSimpArgs false
set_option maxRecDepth 10000
namespace Go.Proofs.YtkobcbjblllhlaaGreatDoor.C
open Go.ChangeShapes Go.WideShapes Go.ChangeAt Go.RowKit Go.Proofs.YtkobcbjblllhlaaGreatDoor.Sh
theorem own : ownKnob Tryz.prog.godebug = none := by kernel_rfl
abbrev LaidL : List (String × DataW Unit) := Rows.diagOrderRow.laid
theorem gTab : Tryz.prog.globalNamed "internal/strconv.uint64pow10" = some 2 := by kernel_rfl
theorem gTabT : (Tryz.prog.globals[2]?).map (·.type) = some 135 := by kernel_rfl
theorem cellsTab : Tryz.prog.cellsOf 135 = 20 := by kernel_rfl
theorem cellsU : Tryz.prog.cellsOf 69 = 1 := by kernel_rfl
theorem gS : Tryz.prog.globalNamed "strconv.ErrSyntax" = some 3 := by kernel_rfl
theorem gST : (Tryz.prog.globals[3]?).map (·.type) = some 43 := by kernel_rfl
theorem gR : Tryz.prog.globalNamed "strconv.ErrRange" = some 4 := by kernel_rfl
theorem gRT : (Tryz.prog.globals[4]?).map (·.type) = some 43 := by kernel_rfl
theorem gE : Tryz.prog.globalNamed "errors.errorType" = some 0 := by kernel_rfl
theorem rtE : (Tryz.prog.cutTypes.find? (·.1 == "internal/reflectlite.rtype")).map (·.2) = some 105 := by kernel_rfl
theorem typesE : Tryz.prog.types.size = 185 := by kernel_rfl
theorem rowE : ((List.range 185).filter fun t => Tryz.prog.rowNamed t [101, 114, 114, 111, 114]) = [43] := by kernel_rfl
theorem iface_cell {W : World} {n : String} {g : Nat} {nm : String} {d : DataW Unit} (hg : Tryz.prog.globalNamed n = some g) (ht : (Tryz.prog.globals[g]?).map (·.type) = some 43) (h : laidMet Tryz.prog [(n, .iface nm d)] W) : ∃ ev, W.cell? ⟨g, 0, none⟩ = some ev ∧ (ev = .nilIface ∨ ∃ te pe, ev = .iface te pe) := by
  obtain ⟨ps, ⟨g', t', cs, fuel, p, q, hg', ht', hvar, hd, _, _⟩, _⟩ := h
  obtain rfl := Option.some.inj (hg.symm.trans hg')
  obtain rfl := Option.some.inj (ht.symm.trans ht')
  obtain ⟨l⟩ := cs
  obtain ⟨f1, u, v, hcs, hn, h1⟩ := iface_of_trod Tryz.underlying43 hd
  have hcs : l = [.iface u v] := hcs
  subst hcs
  exact ⟨.iface u v, by simpa using World.var?_cell hg hvar 0, .inr ⟨u, v, rfl⟩⟩
theorem gl_of_laid {W : World} (h : laidMetH Tryz.prog LaidL W) (hsh : W.ShapedOpen Tryz.prog) : Gl W := by
  obtain ⟨h1, h2⟩ := laidMetH_iff.1 h
  refine ⟨Tryz.laysM145.s1_3 W hsh, ?_, ?_, ?_, ?_⟩
  · exact Lib.tabIs_of_head (rest := []) gTab gTabT Tryz.underlying135 Tryz.underlying69 cellsU cellsTab (h1.filter (fun x => x.1 == "internal/strconv.uint64pow10"))
  · exact iface_cell gS gST (h1.filter (fun x => x.1 == "strconv.ErrSyntax"))
  · exact iface_cell gR gRT (h1.filter (fun x => x.1 == "strconv.ErrRange"))
  · obtain ⟨name, u, ty, e1, e2, e3, e4, e5⟩ := h2 ("errors.errorType", Rows.laid_errors_errorType) (List.mem_filter.2 ⟨.tail _ (.tail _ (.tail _ (.tail _ (.head _)))), by kernel_rfl⟩)
    have en : name = [101, 114, 114, 111, 114] := (Option.some.inj e1).symm
    subst en
    obtain rfl := Option.some.inj (rtE.symm.trans e2)
    have hm : ty ∈ (List.range 185).filter fun t => Tryz.prog.rowNamed t [101, 114, 114, 111, 114] := List.mem_filter.2 ⟨List.mem_range.2 (by rw [← typesE]; exact e3), e4⟩
    rw [rowE] at hm
    obtain rfl := List.mem_singleton.1 hm
    have hh : typeHandle Tryz.prog 43 = .pointer (some ⟨9, 43, none⟩) := by kernel_rfl
    rw [hh] at e5
    simpa using World.var?_cell gE e5 0
/-- a datum's cells -/
def flatD : Nat → DataW Unit → List Value
  | 0, _ => []
  | n + 1, d => match d with
    | .lit (.int k z) => [.int k z]
    | .agg l => l.flatMap (flatD n)
    | _ => []
noncomputable def low : Nat := (World.holding Tryz.prog default ⟨#[], #[], []⟩).heap.size
def rangeB : ByteArray := ⟨⟨[118, 97, 108, 117, 101, 32, 111, 117, 116, 32, 111, 102, 32, 114, 97, 110, 103, 101]⟩⟩
def syntaxB : ByteArray := ⟨⟨[105, 110, 118, 97, 108, 105, 100, 32, 115, 121, 110, 116, 97, 120]⟩⟩
noncomputable def setG (h : Array Obj) (g : Nat) (cs : List Value) : Array Obj := h.modify g fun
  | .cells _ t frozen => .cells cs.toArray t frozen
  | o => o
noncomputable def laidWorld (os : Os) : World :=
  let w0 := World.holding Tryz.prog os ⟨#[.cells #[.string rangeB] 154, .cells #[.string syntaxB] 154], #[], []⟩
  { w0 with heap := setG (setG (setG (setG (setG (setG (setG (setG w0.heap 0 [.iface 105 (.agg #[.pointer (some ⟨9, 43, none⟩)])])
      2 (flatD 9 Rows.laid_internal_strconv_uint64pow10)) 4 [.iface 152 (.pointer (some ⟨low, 0, none⟩))])
      3 [.iface 152 (.pointer (some ⟨low + 1, 0, none⟩))]) 5 (flatD 9 Rows.laid_unicode_utf8_first)) 6 (flatD 9 Rows.laid_unicode_utf8_acceptRanges))
      7 (flatD 9 Rows.laid_math_bits_deBruijn32tab)) 8 (flatD 9 Rows.laid_math_bits_deBruijn64tab) }
theorem laid_met (os : Os) (args : Array Value) : laidMetH Tryz.prog LaidL ((laidWorld os).forCall (fun _ _ => 0) ⟨#[], args, []⟩).memory :=
  laidMetH_of_parts (laidMet_of_run' 12 (by kernel_rfl) (by kernel_rfl)) (by kernel_rfl)
end Go.Proofs.YtkobcbjblllhlaaGreatDoor.C
