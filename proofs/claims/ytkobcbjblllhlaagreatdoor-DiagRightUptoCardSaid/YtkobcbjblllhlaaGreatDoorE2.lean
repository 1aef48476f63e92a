/- A fault that comes in, with what its datum says. -/
import Derived.Test.YtkobcbjblllhlaaGreatDoorE1
set_option linter.unusedVariables false
set_option linter.unusedSimpArgs false
set_option maxRecDepth 10000
namespace Go.Proofs.YtkobcbjblllhlaaGreatDoor.C
open Go.ChangeShapes Go.WideShapes Go.ChangeAt Go.RowKit Go.Proofs.YtkobcbjblllhlaaGreatDoor.Sh
theorem inI_wf {n : Int} (h : Lit.wf (.int .i64 n) = true) : inI n := by
  have := h
  have e1 : IntKind.i64.min = -9223372036854775808 := by decide
  have e2 : IntKind.i64.max = 9223372036854775807 := by decide
  simp only [Lit.wf, e1, e2, Bool.and_eq_true, decide_eq_true_eq] at this
  exact this
theorem str_open {H : Type} {enc : TypeId × Value → H} {w : World} {base b0 : Nat} {spare : Nat → Bool} {held : Bool} {r : Reach} {v : Value} {d : DataW H} {p : List MemPlace} (hv : Value.okWide Tryz.prog w r b0 9 v)
    (h : DataW.Trod enc Tryz.prog w base spare held 9 v d p) : ∃ s : Bs, v = S s ∧ d = .lit (.string s) ∧ p = [] ∧ s.length ≤ maxLen := by
  obtain ⟨s, rfl⟩ := okWide_string Tryz.underlying9 hv
  obtain ⟨fuel, hf⟩ := h
  obtain ⟨s', h1, h2, h3⟩ := DataW.trod_string Tryz.underlying9 hf
  have h1 : [Value.string s] = [Value.string s'] := h1
  injection h1 with h1
  injection h1 with h1
  subst h1
  injection h2 with h4 h5
  exact ⟨s.data.toList, S_of s, h4, h5, h3⟩
theorem fault_open2 {H : Type} {enc : TypeId × Value → H} {w : World} {base b0 : Nat} {spare : Nat → Bool} {held : Bool} {r : Reach} {v : Value} {d : DataW H} {p : List MemPlace} (hv : Value.okWide Tryz.prog w r b0 24 v)
    (h : DataW.Trod enc Tryz.prog w base spare held 24 v d p) : ∃ f : Ft, v = .agg f.cs.toArray ∧ d = .agg [.lit (.int .i64 f.code), .lit (.string f.file), .lit (.int .i64 f.line), .lit (.int .i64 f.col)] ∧ (inI f.code ∧ inI f.line ∧ inI f.col) ∧ f.file.length ≤ maxLen := by
  obtain ⟨v0, v1, v2, v3, y0, y1, y2, y3, n, rfl, rfl, rfl, h0, h1, h2, h3⟩ := Joins.open_agg4 Tryz.underlying24 (by kernel_rfl) (by kernel_rfl) hv h
  obtain ⟨n0, e0, rfl, k0⟩ := DataW.trod_int Tryz.underlying22 h0
  obtain ⟨s1, e1, rfl, k1⟩ := DataW.trod_string Tryz.underlying9 h1
  obtain ⟨n2, e2, rfl, k2⟩ := DataW.trod_int Tryz.underlying3 h2
  obtain ⟨n3, e3, rfl, k3⟩ := DataW.trod_int Tryz.underlying3 h3
  injection e0 with e0; injection e1 with e1; injection e2 with e2; injection e3 with e3
  subst e0 e1 e2 e3
  exact ⟨⟨n0, s1.data.toList, n2, n3⟩, rfl, rfl, ⟨inI_wf k0, inI_wf k2, inI_wf k3⟩, k1⟩
end Go.Proofs.YtkobcbjblllhlaaGreatDoor.C
