/- Texts that come in. -/
import Derived.Test.YtgjhbapbomdpbaaGreatDoorE2
import Derived.Test.YtgjhbapbomdpbaaGreatDoorJ6
set_option linter.unusedVariables false
set_option linter.unusedSimpArgs false
set_option maxRecDepth 10000
namespace Go.Proofs.YtgjhbapbomdpbaaGreatDoor.C
open Go.ChangeShapes Go.WideShapes Go.ChangeAt Go.RowKit Go.Proofs.YtgjhbapbomdpbaaGreatDoor.Sh
theorem bytesStr : Tryz.prog.bytesOf 9 = 16 := by kernel_rfl
theorem text_elem {H : Type} {enc : TypeId × Value → H} {w : World} {base : Nat} {spare : Nat → Bool} {held : Bool} (n : Nat) (cs : List Value) (y : DataW H × List MemPlace) (h : DataW.trod enc Tryz.prog w base spare held n 9 cs = some y) (hl : cs.length = StE.n) :
    ∃ a : Bs, cs = StE.cells a ∧ a.length ≤ maxLen := by
  obtain ⟨s, e, -, k⟩ := DataW.trod_string Tryz.underlying9 h
  refine ⟨s.data.toList, ?_, k⟩
  rw [e, S_of]
theorem all_pr {H : Type} {α : Type} {Pr : DataW H → α → Prop} {A : Option Addr} {c : Nat} {xs : List α} {d : DataW H} {Q : α → Prop} (hQ : ∀ d a, Pr d a → Q a)
    (h : (A = none ∧ c = 0 ∧ xs = [] ∧ d = .nil) ∨ ∃ (es sp : List (DataW H)), d = .slice es sp ∧ es.length = xs.length ∧ ∀ (i : Nat) d, es[i]? = some d → ∃ a, xs[i]? = some a ∧ Pr d a) : ∀ a ∈ xs, Q a := by
  rcases h with ⟨_, _, rfl, _⟩ | ⟨es, sp, _, hl, hall⟩
  · intro a ha; cases ha
  · intro a ha
    obtain ⟨i, hi⟩ := List.mem_iff_getElem?.1 ha
    have hil := (List.getElem?_eq_some_iff.1 hi).1
    obtain ⟨b, hb, hp⟩ := hall i es[i] (List.getElem?_eq_getElem (by omega))
    rw [hi] at hb
    injection hb with hb
    subst hb
    exact hQ _ _ hp
theorem maxLen_le : maxLen ≤ 9223372036854775807 := by decide
end Go.Proofs.YtgjhbapbomdpbaaGreatDoor.C
