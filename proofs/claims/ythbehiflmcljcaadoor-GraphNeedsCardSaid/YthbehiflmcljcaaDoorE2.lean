/- Numbers, and lists of them, that come in. -/
import Derived.Test.YthbehiflmcljcaaDoorEa
import Derived.Test.YthbehiflmcljcaaDoorShM
import Derived.SizedLaws
set_option linter.unusedVariables false
set_option linter.unusedSimpArgs false
set_option maxRecDepth 10000
namespace Go.Proofs.YthbehiflmcljcaaDoor.C
open Go.ChangeShapes Go.WideShapes Go.ChangeAt Go.RowKit Go.Proofs.YthbehiflmcljcaaDoor.Sh
theorem open_none {H : Type} {enc : TypeId × Value → H} {w : World} {base fuel : Nat} {spare : Nat → Bool} {held : Bool} {P : Program} {t e : TypeId} {A : Option Addr} {n c : Nat} {x : DataW H × List MemPlace} (ht : P.underlying t = some (.slice e)) (h : DataW.trod enc P w base spare held fuel t [.slice A n c] = some x) : A = none → c = 0 := by
  rcases Go.Deep.open_slice ht h with ⟨h1, -⟩ | ⟨a, len, cap, m, n', D, Pl, h1, -⟩
  · injection h1 with h1
    injection h1 with h1 h2 h3
    intro _; exact h3
  · injection h1 with h1
    injection h1 with h1 h2 h3
    intro q; rw [q] at h1; cases h1
theorem bytesInt : Tryd.prog.bytesOf 3 = 8 := by kernel_rfl
theorem bytesInts : Tryd.prog.bytesOf 23 = 24 := by kernel_rfl
theorem int_elem {H : Type} {enc : TypeId × Value → H} {w : World} {base : Nat} {spare : Nat → Bool} {held : Bool} (n : Nat) (cs : List Value) (y : DataW H × List MemPlace) (h : DataW.trod enc Tryd.prog w base spare held n 3 cs = some y) (hl : cs.length = InE.n) : ∃ a : Int, cs = InE.cells a ∧ inI a := by
  obtain ⟨n, e, -, k⟩ := DataW.trod_int Tryd.underlying3 h
  exact ⟨n, e, inI_wf k⟩
/-- what a list's reading says -/
def LiPr {H : Type} (w : World) (d : DataW H) (a : Sl) : Prop := Rd InE w a.1 a.2.2 ∧ (a.1 = none → a.2.1 = 0) ∧ (a.2.2 = [] ∨ ∃ es sp : List (DataW H), d = .slice es sp ∧ es.length = a.2.2.length)
theorem list_elem {H : Type} {enc : TypeId × Value → H} {w : World} {base : Nat} {spare : Nat → Bool} {held : Bool} (n : Nat) (cs : List Value) (y : DataW H × List MemPlace) (h : DataW.trod enc Tryd.prog w base spare held n 23 cs = some y) (hl : cs.length = ShE.n) : ∃ a : Sl, cs = ShE.cells a ∧ LiPr w y.1 a := by
  obtain ⟨A, xs, c, rfl, hr, hc, hm, hd⟩ := open_rd InE (fun _ a => inI a) Tryd.underlying23 (by kernel_rfl) (by decide) int_elem h
  refine ⟨(A, c, xs), rfl, hr, open_none Tryd.underlying23 h, ?_⟩
  rcases hd with ⟨-, -, h1, -⟩ | ⟨es, sp, h1, h2, -⟩
  · exact .inl h1
  · exact .inr ⟨es, sp, h1, h2⟩
theorem weights_all {H : Type} {P : Program} {e : TypeId} : ∀ {es : List (DataW H)} {d : DataW H}, d ∈ es → ∀ n ∈ d.weights P e, n ∈ DataW.weightsAll P e es
  | [], _, h, _, _ => by cases h
  | x :: es, d, h, n, hn => by
    simp only [DataW.weightsAll, List.mem_append]
    rcases List.mem_cons.1 h with rfl | h
    · exact .inl hn
    · exact .inr (weights_all h n hn)
theorem lists_small {H : Type} {w : World} {ts : List TypeId} {ds : List (DataW H)} (hsz : (DataW.weightsEach Tryd.prog ts ds).all (· ≤ reachBytes) = true) {j : Nat} {t : TypeId} {A : Option Addr} {c : Nat} {xs : List Sl} {d : DataW H} (ht : ts[j]? = some t) (hd : ds[j]? = some d)
    (hu : Tryd.prog.underlying t = some (.slice 23)) (h : (A = none ∧ c = 0 ∧ xs = [] ∧ d = .nil) ∨ ∃ (es sp : List (DataW H)), d = .slice es sp ∧ es.length = xs.length ∧ ∀ (i : Nat) d, es[i]? = some d → ∃ a, xs[i]? = some a ∧ LiPr w d a) :
    (∀ x ∈ xs, x.2.2.length ≤ 17592186043904) ∧ CapOk xs ∧ ∀ x ∈ xs, Rd InE w x.1 x.2.2 := by
  rcases h with ⟨_, _, rfl, _⟩ | ⟨es, sp, rfl, hl, hall⟩
  · exact ⟨fun f hf => (by cases hf), fun f hf => (by cases hf), fun f hf => (by cases hf)⟩
  · have key : ∀ f ∈ xs, ∃ d ∈ es, LiPr w d f := fun f hf => by
      obtain ⟨i, hi⟩ := List.mem_iff_getElem?.1 hf
      have hil := (List.getElem?_eq_some_iff.1 hi).1
      obtain ⟨b, hb, hp⟩ := hall i es[i] (List.getElem?_eq_getElem (by omega))
      rw [hi] at hb
      injection hb with hb
      subst hb
      exact ⟨es[i], List.getElem_mem _, hp⟩
    refine ⟨fun f hf => ?_, fun f hf => ?_, fun f hf => ?_⟩
    · obtain ⟨d, hmem, hp⟩ := key f hf
      rcases hp.2.2 with h0 | ⟨es', sp', rfl, hl'⟩
      · rw [h0]; simp
      · have h0 : (es'.length + sp'.length) * Tryd.prog.bytesOf 3 ∈ (DataW.slice es' sp').weights Tryd.prog 23 := by
          simp only [DataW.weights, Tryd.underlying23, List.mem_cons]
          exact .inl trivial
        have h1 : (es'.length + sp'.length) * Tryd.prog.bytesOf 3 ∈ (DataW.slice es sp).weights Tryd.prog t := by
          simp only [DataW.weights, hu, List.mem_cons, List.mem_append]
          exact .inr (.inl (weights_all hmem _ h0))
        have := List.all_eq_true.1 hsz _ (DataW.weights_mem_each ht hd _ h1)
        have h2 := of_decide_eq_true this
        rw [bytesInt] at h2
        simp only [reachBytes] at h2
        rw [← hl']
        omega
    · obtain ⟨d, -, hp⟩ := key f hf
      exact hp.2.1
    · obtain ⟨d, -, hp⟩ := key f hf
      exact hp.1
end Go.Proofs.YthbehiflmcljcaaDoor.C
