/- Instances that come in. -/
import Derived.Test.YthbehiflmcljcaaDoorE2
import Derived.Test.YthbehiflmcljcaaDoorGy
set_option linter.unusedVariables false
set_option linter.unusedSimpArgs false
set_option maxRecDepth 10000
namespace Go.Proofs.YthbehiflmcljcaaDoor.C
open Go.ChangeShapes Go.WideShapes Go.ChangeAt Go.RowKit Go.Proofs.YthbehiflmcljcaaDoor.Sh
section
variable {H : Type} {enc : TypeId × Value → H} {w : World} {base : Nat} {spare : Nat → Bool} {held : Bool}
/-- a slice that comes in: what it holds, its bound, what each element's reading says -/
theorem open_sn {α : Type} [Inhabited α] (E : Enc α) (Pr : DataW H → α → Prop) {t e : TypeId} {fuel : Nat} {cs : List Value} {x : DataW H × List MemPlace} (R : Nat) (ht : Tryd.prog.underlying t = some (.slice e)) (hc : Tryd.prog.cellsOf e = E.n) (h0 : 0 < E.n)
    (hel : ∀ n cs y, DataW.trod enc Tryd.prog w base spare held n e cs = some y → cs.length = E.n → ∃ a, cs = E.cells a ∧ Pr y.1 a) (h : DataW.trod enc Tryd.prog w base spare held fuel t cs = some x) :
    ∃ s : Sn α, cs = [sv s] ∧ Rd E w s.1 s.2.2 ∧ (s.1 = none → s.2.1 = 0) ∧ (∀ a ∈ s.2.2, ∃ d, Pr d a) ∧ ((∀ n ∈ x.1.weights Tryd.prog t, n ≤ R) → s.2.2.length * Tryd.prog.bytesOf e ≤ R ∧ ∀ a ∈ s.2.2, ∃ d, Pr d a ∧ ∀ n ∈ d.weights Tryd.prog e, n ≤ R) ∧
      (s.2.2 = [] ∨ ∃ es sp : List (DataW H), x.1 = .slice es sp ∧ es.length = s.2.2.length ∧ ∀ (i : Nat) d, es[i]? = some d → ∃ a, s.2.2[i]? = some a ∧ Pr d a) := by
  obtain ⟨A, xs, c, rfl, hr, hcl, hm, hd⟩ := open_rd E Pr ht hc h0 hel h
  refine ⟨(A, c, xs), rfl, hr, open_none ht h, ?_, ?_, ?_⟩
  · intro a ha
    rcases hd with ⟨-, -, rfl, -⟩ | ⟨es, sp, -, hl, hall⟩
    · cases ha
    · obtain ⟨i, hi⟩ := List.mem_iff_getElem?.1 ha
      have hil : i < xs.length := (List.getElem?_eq_some_iff.1 hi).1
      obtain ⟨b, hb, hp⟩ := hall i es[i] (List.getElem?_eq_getElem (by omega))
      rw [hi] at hb
      injection hb with hb
      exact ⟨_, hb ▸ hp⟩
  · intro hw
    rcases hd with ⟨-, -, rfl, -⟩ | ⟨es, sp, hx, hl, hall⟩
    · exact ⟨by simp, fun a ha => by cases ha⟩
    · rw [hx] at hw
      refine ⟨?_, fun a ha => ?_⟩
      · have h1 : (es.length + sp.length) * Tryd.prog.bytesOf e ∈ (DataW.slice es sp).weights Tryd.prog t := by
          simp only [DataW.weights, ht, List.mem_cons]
          exact .inl trivial
        have h2 := hw _ h1
        rw [← hl]
        exact Nat.le_trans (Nat.mul_le_mul_right _ (Nat.le_add_right _ _)) h2
      · obtain ⟨i, hi⟩ := List.mem_iff_getElem?.1 ha
        have hil : i < xs.length := (List.getElem?_eq_some_iff.1 hi).1
        obtain ⟨b, hb, hp⟩ := hall i es[i] (List.getElem?_eq_getElem (by omega))
        rw [hi] at hb
        injection hb with hb
        subst hb
        refine ⟨_, hp, fun n hn => hw n ?_⟩
        simp only [DataW.weights, ht, List.mem_cons, List.mem_append]
        exact .inr (.inl (weights_all (List.getElem_mem _) n hn))
  · rcases hd with ⟨-, -, h1, -⟩ | h1
    · exact .inl h1
    · exact .inr h1
theorem va_elem (n : Nat) (cs : List Value) (y : DataW H × List MemPlace) (h : DataW.trod enc Tryd.prog w base spare held n 51 cs = some y) (hl : cs.length = VaE.n) : ∃ a : Va, cs = VaE.cells a ∧ True := by
  obtain ⟨xs, m, _, -, _, hlen, hf⟩ := DataW.trod_struct Tryd.underlying51 h
  match cs, hl with
  | [v0, v1], _ =>
    match xs, hlen with
    | [y0, y1], _ =>
      have c2 : Tryd.prog.cellsOf 9 = 1 := by kernel_rfl
      have h0 := hf 0 _ rfl
      have h1 := hf 1 _ rfl
      simp [c2] at h0 h1
      obtain ⟨s0, e0, -, -⟩ := DataW.trod_string Tryd.underlying9 h0
      obtain ⟨s1, e1, -, -⟩ := DataW.trod_string Tryd.underlying9 h1
      injection e0 with e0; injection e1 with e1
      subst e0 e1
      exact ⟨⟨s0.data.toList, s1.data.toList⟩, rfl, trivial⟩
theorem sp_elem (n : Nat) (cs : List Value) (y : DataW H × List MemPlace) (h : DataW.trod enc Tryd.prog w base spare held n 156 cs = some y) (hl : cs.length = SpE.n) : ∃ a : Sp, cs = SpE.cells a ∧ True := by
  obtain ⟨xs, m, _, -, _, hlen, hf⟩ := DataW.trod_struct Tryd.underlying156 h
  match cs, hl with
  | [v0, v1], _ =>
    match xs, hlen with
    | [y0, y1], _ =>
      have c2 : Tryd.prog.cellsOf 9 = 1 := by kernel_rfl
      have c3 : Tryd.prog.cellsOf 3 = 1 := by kernel_rfl
      have h0 := hf 0 _ rfl
      have h1 := hf 1 _ rfl
      simp [c2, c3] at h0 h1
      obtain ⟨n0, e0, -, -⟩ := DataW.trod_int Tryd.underlying3 h0
      obtain ⟨s1, e1, -, -⟩ := DataW.trod_string Tryd.underlying9 h1
      injection e0 with e0; injection e1 with e1
      subst e0 e1
      exact ⟨⟨n0, s1.data.toList⟩, rfl, trivial⟩
theorem ft_elem (n : Nat) (cs : List Value) (y : DataW H × List MemPlace) (h : DataW.trod enc Tryd.prog w base spare held n 44 cs = some y) (hl : cs.length = 4) : ∃ f : Ft, cs = f.cs := by
  obtain ⟨xs, m, _, -, _, hlen, hf⟩ := DataW.trod_struct Tryd.underlying44 h
  match cs, hl with
  | [v0, v1, v2, v3], _ =>
    match xs, hlen with
    | [y0, y1, y2, y3], _ =>
      have c2 : Tryd.prog.cellsOf 9 = 1 := by kernel_rfl
      have c3 : Tryd.prog.cellsOf 3 = 1 := by kernel_rfl
      have c4 : Tryd.prog.cellsOf 24 = 1 := by kernel_rfl
      have h0 := hf 0 _ rfl
      have h1 := hf 1 _ rfl
      have h2 := hf 2 _ rfl
      have h3 := hf 3 _ rfl
      simp [c2, c3, c4] at h0 h1 h2 h3
      obtain ⟨n0, e0, -, -⟩ := DataW.trod_int Tryd.underlying24 h0
      obtain ⟨s1, e1, -, -⟩ := DataW.trod_string Tryd.underlying9 h1
      obtain ⟨n2, e2, -, -⟩ := DataW.trod_int Tryd.underlying3 h2
      obtain ⟨n3, e3, -, -⟩ := DataW.trod_int Tryd.underlying3 h3
      injection e0 with e0; injection e1 with e1; injection e2 with e2; injection e3 with e3
      subst e0 e1 e2 e3
      exact ⟨⟨n0, s1.data.toList, n2, n3⟩, rfl⟩
theorem ne_elem (n : Nat) (cs : List Value) (y : DataW H × List MemPlace) (h : DataW.trod enc Tryd.prog w base spare held n 53 cs = some y) (hl : cs.length = NeE.n) : ∃ a : Ne, cs = NeE.cells a ∧ ∃ r, y.1 = .agg (.lit (.string a.text) :: r) := by
  obtain ⟨xs, m, _, hy, _, hlen, hf⟩ := DataW.trod_struct Tryd.underlying53 h
  match cs, hl with
  | [v0, v1, v2, v3, v4], _ =>
    match xs, hlen with
    | [y0, y1], _ =>
      have c2 : Tryd.prog.cellsOf 9 = 1 := by kernel_rfl
      have c5 : Tryd.prog.cellsOf 44 = 4 := by kernel_rfl
      have h0 := hf 0 _ rfl
      have h1 := hf 1 _ rfl
      simp [c2, c5] at h0 h1
      obtain ⟨s0, e0, g0, -⟩ := DataW.trod_string Tryd.underlying9 h0
      obtain ⟨f, e1⟩ := ft_elem _ _ _ h1 rfl
      injection e0 with e0; injection e1 with e1 e2; injection e2 with e2 e3; injection e3 with e3 e4; injection e4 with e4
      subst e0 e1 e2 e3 e4
      refine ⟨⟨s0.data.toList, f⟩, rfl, [y1.1], ?_⟩
      rw [hy, g0]
      rfl
/-- what a rule's reading says -/
def RuPr (w : World) (R : Nat) (d : DataW H) (a : Ru) : Prop := Rd SpE w a.code.1 a.code.2.2 ∧ (a.code.1 = none → a.code.2.1 = 0) ∧ ((∀ n ∈ d.weights Tryd.prog 89, n ≤ R) → a.code.2.2.length * Tryd.prog.bytesOf 156 ≤ R)
theorem ru_elem (R : Nat) (n : Nat) (cs : List Value) (y : DataW H × List MemPlace) (h : DataW.trod enc Tryd.prog w base spare held n 89 cs = some y) (hl : cs.length = RuE.n) : ∃ a : Ru, cs = RuE.cells a ∧ RuPr w R y.1 a := by
  obtain ⟨xs, m, _, hy, _, hlen, hf⟩ := DataW.trod_struct Tryd.underlying89 h
  match cs, hl with
  | [v0, v1], _ =>
    match xs, hlen with
    | [y0, y1], _ =>
      have c2 : Tryd.prog.cellsOf 86 = 1 := by kernel_rfl
      have c3 : Tryd.prog.cellsOf 3 = 1 := by kernel_rfl
      have h0 := hf 0 _ rfl
      have h1 := hf 1 _ rfl
      simp [c2, c3] at h0 h1
      obtain ⟨s, e0, hr, hcp, -, hw, -⟩ := open_sn SpE (fun _ _ => True) R Tryd.underlying86 (by kernel_rfl) (by decide) sp_elem h0
      obtain ⟨n1, e1, -, -⟩ := DataW.trod_int Tryd.underlying3 h1
      injection e0 with e0; injection e1 with e1
      subst e0 e1
      refine ⟨⟨s, n1⟩, rfl, hr, hcp, fun q => (hw fun n hn => q n ?_).1⟩
      rw [hy]
      simp only [DataW.weights, Tryd.underlying89]
      exact DataW.weights_mem_each (j := 0) rfl rfl n hn
/-- what an instance's reading says -/
def IsPr (w : World) (d : DataW H) (a : Ist) : Prop := InAt w a ∧ ((∀ n ∈ d.weights Tryd.prog 46, n ≤ 140737488351232) → InOk a) ∧ ∃ d0 d1 d2 d3 d4 d5 d6 d7 d8 d9 d10 d11 d12, d = .agg [d0, d1, d2, d3, d4, d5, d6, d7, d8, d9, d10, d11, d12] ∧ (a.needs.2.2 = [] ∨ ∃ es sp : List (DataW H), d5 = .slice es sp ∧ es.length = a.needs.2.2.length ∧ ∀ (i : Nat) d, es[i]? = some d → ∃ b, a.needs.2.2[i]? = some b ∧ ∃ r, d = .agg (.lit (.string b.text) :: r))
theorem bytesVar : Tryd.prog.bytesOf 51 = 32 := by kernel_rfl
theorem bytesNeed : Tryd.prog.bytesOf 53 = 56 := by kernel_rfl
theorem bytesRule : Tryd.prog.bytesOf 89 = 32 := by kernel_rfl
theorem bytesStep : Tryd.prog.bytesOf 156 = 24 := by kernel_rfl
theorem bytesInst : Tryd.prog.bytesOf 46 = 216 := by kernel_rfl
theorem inst_elem (n : Nat) (cs : List Value) (y : DataW H × List MemPlace) (h : DataW.trod enc Tryd.prog w base spare held n 46 cs = some y) (hl : cs.length = IsE.n) : ∃ a : Ist, cs = IsE.cells a ∧ IsPr w y.1 a := by
  obtain ⟨xs, m, _, hy, _, hlen, hf⟩ := DataW.trod_struct Tryd.underlying46 h
  match cs, hl with
  | [v0, v1, v2, v3, v4, v5, v6, v7, v8, v9, v10, v11, v12, v13, v14, v15], _ =>
    match xs, hlen with
    | [y0, y1, y2, y3, y4, y5, y6, y7, y8, y9, y10, y11, y12], _ =>
      have c2 : Tryd.prog.cellsOf 9 = 1 := by kernel_rfl
      have c3 : Tryd.prog.cellsOf 3 = 1 := by kernel_rfl
      have c4 : Tryd.prog.cellsOf 40 = 1 := by kernel_rfl
      have c5 : Tryd.prog.cellsOf 41 = 1 := by kernel_rfl
      have c6 : Tryd.prog.cellsOf 4 = 1 := by kernel_rfl
      have c7 : Tryd.prog.cellsOf 42 = 1 := by kernel_rfl
      have c8 : Tryd.prog.cellsOf 44 = 4 := by kernel_rfl
      have h0 := hf 0 _ rfl
      have h1 := hf 1 _ rfl
      have h2 := hf 2 _ rfl
      have h3 := hf 3 _ rfl
      have h4 := hf 4 _ rfl
      have h5 := hf 5 _ rfl
      have h6 := hf 6 _ rfl
      have h7 := hf 7 _ rfl
      have h8 := hf 8 _ rfl
      have h9 := hf 9 _ rfl
      have h10 := hf 10 _ rfl
      have h11 := hf 11 _ rfl
      have h12 := hf 12 _ rfl
      simp [c2, c3, c4, c5, c6, c7, c8] at h0 h1 h2 h3 h4 h5 h6 h7 h8 h9 h10 h11 h12
      obtain ⟨s0, e0, -, -⟩ := DataW.trod_string Tryd.underlying9 h0
      obtain ⟨n1, e1, -, -⟩ := DataW.trod_int Tryd.underlying3 h1
      obtain ⟨s2, e2, r2, p2, -, w2, -⟩ := open_sn VaE (fun _ _ => True) 140737488351232 Tryd.underlying40 (by kernel_rfl) (by decide) va_elem h2
      obtain ⟨s3, e3, r3, p3, -, w3, -⟩ := open_sn VaE (fun _ _ => True) 140737488351232 Tryd.underlying40 (by kernel_rfl) (by decide) va_elem h3
      obtain ⟨s4, e4, -, -⟩ := DataW.trod_string Tryd.underlying9 h4
      obtain ⟨s5, e5, r5, p5, -, w5, d5⟩ := open_sn NeE (fun d b => ∃ r, d = .agg (.lit (.string b.text) :: r)) 140737488351232 Tryd.underlying41 (by kernel_rfl) (by decide) ne_elem h5
      obtain ⟨n6, e6, -, -⟩ := DataW.trod_int Tryd.underlying3 h6
      obtain ⟨n7, e7, -, -⟩ := DataW.trod_int Tryd.underlying3 h7
      obtain ⟨b8, e8, -⟩ := DataW.trod_bool Tryd.underlying4 h8
      obtain ⟨n9, e9, -, -⟩ := DataW.trod_int Tryd.underlying3 h9
      obtain ⟨s10, e10, r10, p10, a10, w10, -⟩ := open_sn RuE (RuPr w 140737488351232) 140737488351232 Tryd.underlying42 (by kernel_rfl) (by decide) (ru_elem 140737488351232) h10
      obtain ⟨b11, e11, -⟩ := DataW.trod_bool Tryd.underlying4 h11
      obtain ⟨f, e12⟩ := ft_elem _ _ _ h12 rfl
      injection e0 with e0; injection e1 with e1; injection e2 with e2; injection e3 with e3; injection e4 with e4; injection e5 with e5; injection e6 with e6; injection e7 with e7; injection e8 with e8; injection e9 with e9; injection e10 with e10; injection e11 with e11
      injection e12 with e12 e13; injection e13 with e13 e14; injection e14 with e14 e15; injection e15 with e15
      subst e0 e1 e2 e3 e4 e5 e6 e7 e8 e9 e10 e11 e12 e13 e14 e15
      have hwt : ∀ {j : Nat} {t : TypeId} {d : DataW H}, ([9, 3, 40, 40, 9, 41, 3, 3, 4, 3, 42, 4, 44] : List TypeId)[j]? = some t → [y0.1, y1.1, y2.1, y3.1, y4.1, y5.1, y6.1, y7.1, y8.1, y9.1, y10.1, y11.1, y12.1][j]? = some d → ∀ n ∈ d.weights Tryd.prog t, n ∈ y.1.weights Tryd.prog 46 := fun ht hd n hn => by
        rw [hy]
        simp only [DataW.weights, Tryd.underlying46]
        exact DataW.weights_mem_each ht hd n hn
      refine ⟨⟨s0.data.toList, n1, s2, s3, s4.data.toList, s5, n6, n7, b8, n9, s10, b11, f⟩, rfl, ⟨r2, r3, r5, r10, fun r hr => ?_⟩, fun q => ?_, _, _, _, _, _, _, _, _, _, _, _, _, _, by rw [hy]; rfl, d5⟩
      · obtain ⟨d, hd, -⟩ := a10 r hr
        exact hd
      · have k2 := (w2 fun n hn => q n (hwt (j := 2) rfl rfl n hn)).1
        have k3 := (w3 fun n hn => q n (hwt (j := 3) rfl rfl n hn)).1
        have k5 := (w5 fun n hn => q n (hwt (j := 5) rfl rfl n hn)).1
        have k10 := w10 fun n hn => q n (hwt (j := 10) rfl rfl n hn)
        have k11 := k10.1
        rw [bytesVar] at k2 k3
        rw [bytesNeed] at k5
        rw [bytesRule] at k11
        refine ⟨⟨p2, ?_⟩, ⟨p3, ?_⟩, ⟨p5, ?_⟩, ⟨p10, ?_⟩, fun r hr => ?_⟩
        · show s2.2.2.length ≤ _
          omega
        · show s3.2.2.length ≤ _
          omega
        · show s5.2.2.length ≤ _
          omega
        · show s10.2.2.length ≤ _
          omega
        · obtain ⟨d, hd, hd2⟩ := k10.2 r hr
          have := hd.2.2 hd2
          rw [bytesStep] at this
          exact ⟨hd.2.1, by omega⟩
/-- instances that come in: all bounds -/
theorem insts_ok {ts : List TypeId} {ds : List (DataW H)} (hsz : (DataW.weightsEach Tryd.prog ts ds).all (· ≤ reachBytes) = true) {j : Nat} {t : TypeId} {A : Option Addr} {c : Nat} {xs : List Ist} {d : DataW H} (ht : ts[j]? = some t) (hd : ds[j]? = some d)
    (hu : Tryd.prog.underlying t = some (.slice 46)) (h : (A = none ∧ c = 0 ∧ xs = [] ∧ d = .nil) ∨ ∃ (es sp : List (DataW H)), d = .slice es sp ∧ es.length = xs.length ∧ ∀ (i : Nat) d, es[i]? = some d → ∃ a, xs[i]? = some a ∧ IsPr w d a) :
    ∀ x ∈ xs, InAt w x ∧ InOk x := by
  rcases h with ⟨_, _, rfl, _⟩ | ⟨es, sp, rfl, hl, hall⟩
  · intro f hf; cases hf
  · intro f hf
    obtain ⟨i, hi⟩ := List.mem_iff_getElem?.1 hf
    have hil := (List.getElem?_eq_some_iff.1 hi).1
    obtain ⟨b, hb, hp⟩ := hall i es[i] (List.getElem?_eq_getElem (by omega))
    rw [hi] at hb
    injection hb with hb
    subst hb
    refine ⟨hp.1, hp.2.1 fun n hn => ?_⟩
    have h1 : n ∈ (DataW.slice es sp).weights Tryd.prog t := by
      simp only [DataW.weights, hu, List.mem_cons, List.mem_append]
      exact .inr (.inl (weights_all (List.getElem_mem _) n hn))
    have := List.all_eq_true.1 hsz _ (DataW.weights_mem_each ht hd n h1)
    have h2 := of_decide_eq_true this
    simpa [reachBytes] using h2
end
end Go.Proofs.YthbehiflmcljcaaDoor.C
