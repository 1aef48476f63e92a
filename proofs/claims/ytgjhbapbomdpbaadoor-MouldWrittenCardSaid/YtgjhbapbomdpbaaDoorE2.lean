/- Nodes that come in. -/
import Derived.Test.YtgjhbapbomdpbaaDoorEa
import Derived.Test.YtgjhbapbomdpbaaDoorJ5
set_option linter.unusedVariables false
set_option linter.unusedSimpArgs false
set_option maxRecDepth 10000
namespace Go.Proofs.YtgjhbapbomdpbaaDoor.C
open Go.ChangeShapes Go.WideShapes Go.ChangeAt Go.RowKit Go.Proofs.YtgjhbapbomdpbaaDoor.Sh
abbrev Nd.Ok (n : Nd) : Prop := inI n.kind ∧ inI n.depth ∧ inI n.line ∧ inI n.col ∧ inI n.val
theorem bytesNode : Tryd.prog.bytesOf 48 = 88 := by kernel_rfl
theorem node_elem {H : Type} {enc : TypeId × Value → H} {w : World} {base : Nat} {spare : Nat → Bool} {held : Bool} (n : Nat) (cs : List Value) (y : DataW H × List MemPlace) (h : DataW.trod enc Tryd.prog w base spare held n 48 cs = some y) (hl : cs.length = NdE.n) :
    ∃ a : Nd, cs = NdE.cells a ∧ a.Ok := by
  obtain ⟨xs, m, _, -, _, hlen, hf⟩ := DataW.trod_struct Tryd.underlying48 h
  match cs, hl with
  | [v0, v1, v2, v3, v4, v5, v6, v7], _ =>
    match xs, hlen with
    | [y0, y1, y2, y3, y4, y5, y6, y7], _ =>
      have c2 : Tryd.prog.cellsOf 9 = 1 := by kernel_rfl
      have c3 : Tryd.prog.cellsOf 3 = 1 := by kernel_rfl
      have h0 := hf 0 _ rfl
      have h1 := hf 1 _ rfl
      have h2 := hf 2 _ rfl
      have h3 := hf 3 _ rfl
      have h4 := hf 4 _ rfl
      have h5 := hf 5 _ rfl
      have h6 := hf 6 _ rfl
      have h7 := hf 7 _ rfl
      simp [c2, c3] at h0 h1 h2 h3 h4 h5 h6 h7
      obtain ⟨n0, e0, -, k0⟩ := DataW.trod_int Tryd.underlying3 h0
      obtain ⟨n1, e1, -, k1⟩ := DataW.trod_int Tryd.underlying3 h1
      obtain ⟨s2, e2, -, k2⟩ := DataW.trod_string Tryd.underlying9 h2
      obtain ⟨s3, e3, -, k3⟩ := DataW.trod_string Tryd.underlying9 h3
      obtain ⟨s4, e4, -, k4⟩ := DataW.trod_string Tryd.underlying9 h4
      obtain ⟨n5, e5, -, k5⟩ := DataW.trod_int Tryd.underlying3 h5
      obtain ⟨n6, e6, -, k6⟩ := DataW.trod_int Tryd.underlying3 h6
      obtain ⟨n7, e7, -, k7⟩ := DataW.trod_int Tryd.underlying3 h7
      injection e0 with e0; injection e1 with e1; injection e2 with e2; injection e3 with e3; injection e4 with e4; injection e5 with e5; injection e6 with e6; injection e7 with e7
      subst e0 e1 e2 e3 e4 e5 e6 e7
      exact ⟨⟨n0, n1, s2.data.toList, s3.data.toList, s4.data.toList, n5, n6, n7⟩, rfl, inI_wf k0, inI_wf k1, inI_wf k5, inI_wf k6, inI_wf k7⟩
theorem open_none {H : Type} {enc : TypeId × Value → H} {w : World} {base fuel : Nat} {spare : Nat → Bool} {held : Bool} {P : Program} {t e : TypeId} {A : Option Addr} {n c : Nat} {x : DataW H × List MemPlace} (ht : P.underlying t = some (.slice e)) (h : DataW.trod enc P w base spare held fuel t [.slice A n c] = some x) : A = none → c = 0 := by
  rcases Go.Deep.open_slice ht h with ⟨h1, -⟩ | ⟨a, len, cap, m, n', D, Pl, h1, -⟩
  · injection h1 with h1
    injection h1 with h1 h2 h3
    intro _; exact h3
  · injection h1 with h1
    injection h1 with h1 h2 h3
    intro q; rw [q] at h1; cases h1
end Go.Proofs.YtgjhbapbomdpbaaDoor.C
