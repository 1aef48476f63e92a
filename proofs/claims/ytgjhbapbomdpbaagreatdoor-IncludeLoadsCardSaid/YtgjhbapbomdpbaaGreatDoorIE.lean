/- Files that come in. -/
import Derived.Test.YtgjhbapbomdpbaaGreatDoorE3
import Derived.Test.YtgjhbapbomdpbaaGreatDoorJB
import Derived.SizedLaws
set_option linter.unusedVariables false
set_option linter.unusedSimpArgs false
set_option maxRecDepth 10000
namespace Go.Proofs.YtgjhbapbomdpbaaGreatDoor.C
open Go.ChangeShapes Go.WideShapes Go.ChangeAt Go.RowKit Go.Proofs.YtgjhbapbomdpbaaGreatDoor.Sh
theorem bytesFile : Tryz.prog.bytesOf 49 = 32 := by kernel_rfl
theorem file_elem {H : Type} {enc : TypeId × Value → H} {w : World} {base : Nat} {spare : Nat → Bool} {held : Bool} (n : Nat) (cs : List Value) (y : DataW H × List MemPlace) (h : DataW.trod enc Tryz.prog w base spare held n 49 cs = some y) (hl : cs.length = FlE.n) :
    ∃ a : Fl, cs = FlE.cells a ∧ y.1 = .agg [.lit (.string a.name), .lit (.string a.text)] := by
  obtain ⟨xs, m, _, hy, _, hlen, hf⟩ := DataW.trod_struct Tryz.underlying49 h
  match cs, hl with
  | [v0, v1], _ =>
    match xs, hlen with
    | [y0, y1], _ =>
      have c2 : Tryz.prog.cellsOf 9 = 1 := by kernel_rfl
      have h0 := hf 0 _ rfl
      have h1 := hf 1 _ rfl
      simp [c2] at h0 h1
      obtain ⟨s0, e0, g0, k0⟩ := DataW.trod_string Tryz.underlying9 h0
      obtain ⟨s1, e1, g1, k1⟩ := DataW.trod_string Tryz.underlying9 h1
      injection e0 with e0; injection e1 with e1
      subst e0 e1
      refine ⟨⟨s0.data.toList, s1.data.toList⟩, rfl, ?_⟩
      rw [hy, g0, g1]
      rfl
theorem weights_all {H : Type} {P : Program} {e : TypeId} : ∀ {es : List (DataW H)} {d : DataW H}, d ∈ es → ∀ n ∈ d.weights P e, n ∈ DataW.weightsAll P e es
  | [], _, h, _, _ => by cases h
  | x :: es, d, h, n, hn => by
    simp only [DataW.weightsAll, List.mem_append]
    rcases List.mem_cons.1 h with rfl | h
    · exact .inl hn
    · exact .inr (weights_all h n hn)
abbrev FlPr {H : Type} (d : DataW H) (a : Fl) : Prop := d = .agg [.lit (.string a.name), .lit (.string a.text)]
theorem files_small {H : Type} {ts : List TypeId} {ds : List (DataW H)} (hsz : (DataW.weightsEach Tryz.prog ts ds).all (· ≤ reachBytes) = true) {j : Nat} {t : TypeId} {A : Option Addr} {c : Nat} {xs : List Fl} {d : DataW H} (ht : ts[j]? = some t) (hd : ds[j]? = some d)
    (hu : Tryz.prog.underlying t = some (.slice 49)) (h : (A = none ∧ c = 0 ∧ xs = [] ∧ d = .nil) ∨ ∃ (es sp : List (DataW H)), d = .slice es sp ∧ es.length = xs.length ∧ ∀ (i : Nat) d, es[i]? = some d → ∃ a, xs[i]? = some a ∧ FlPr d a) :
    ∀ f ∈ xs, f.name.length ≤ 140737488351232 ∧ f.text.length ≤ 140737488351232 := by
  rcases h with ⟨_, _, rfl, _⟩ | ⟨es, sp, rfl, hl, hall⟩
  · intro f hf; cases hf
  · intro f hf
    obtain ⟨i, hi⟩ := List.mem_iff_getElem?.1 hf
    have hil := (List.getElem?_eq_some_iff.1 hi).1
    obtain ⟨b, hb, hp⟩ := hall i es[i] (List.getElem?_eq_getElem (by omega))
    rw [hi] at hb
    injection hb with hb
    subst hb
    have hmem : es[i] ∈ es := List.getElem_mem _
    have key : ∀ n ∈ (es[i]).weights Tryz.prog 49, n ≤ 140737488351232 := by
      intro n hn
      have h1 : n ∈ (DataW.slice es sp).weights Tryz.prog t := by
        simp only [DataW.weights, hu, List.mem_cons, List.mem_append]
        exact .inr (.inl (weights_all hmem n hn))
      have := List.all_eq_true.1 hsz _ (DataW.weights_mem_each ht hd n h1)
      have h2 := of_decide_eq_true this
      simpa [reachBytes] using h2
    have hw : (es[i]).weights Tryz.prog 49 = [f.name.length, f.text.length] := by
      rw [hp]
      simp only [DataW.weights, Tryz.underlying49]
      rfl
    rw [hw] at key
    exact ⟨key _ (by simp), key _ (by simp)⟩
end Go.Proofs.YtgjhbapbomdpbaaGreatDoor.C
