/- Arguments opened (generic: over any program). Part M: a slice of equal elements that comes in. -/
import Derived.Test.YthbehiflmcljcaaDoorShL
import Derived.Deep.Slices
import Derived.SizedLaws
set_option linter.unusedVariables false
set_option linter.unusedSimpArgs false
namespace Go.Proofs.YthbehiflmcljcaaDoor.Sh
open Go.RowKit Go.WideShapes Go.ChangeShapes
section
variable {α : Type} {H : Type} {enc : TypeId × Value → H} {P : Program} {w : World} {base : Nat} {spare : Nat → Bool} {held : Bool}
theorem add_eq {a : Addr} (hs : a.spot = none) (i : Nat) : a.add i = ⟨a.block, a.off + i, none⟩ := by
  obtain ⟨b, o, s⟩ := a
  simp only at hs
  subst hs
  unfold Addr.add
  split
  · simp_all
  · rfl
/-- A SLICE THAT COMES IN, of elements of some cells each: where it lies, what it holds, and what each element's reading says of it. -/
theorem open_rd [Inhabited α] (E : Enc α) (Pr : DataW H → α → Prop) {t e : TypeId} {fuel : Nat} {cs : List Value} {x : DataW H × List MemPlace} (ht : P.underlying t = some (.slice e)) (hc : P.cellsOf e = E.n) (h0 : 0 < E.n)
    (hel : ∀ n cs y, DataW.trod enc P w base spare held n e cs = some y → cs.length = E.n → ∃ a, cs = E.cells a ∧ Pr y.1 a) (h : DataW.trod enc P w base spare held fuel t cs = some x) :
    ∃ A xs c, cs = [.slice A xs.length c] ∧ Rd E w A xs ∧ xs.length ≤ c ∧ c ≤ maxLen ∧
      ((A = none ∧ c = 0 ∧ xs = [] ∧ x.1 = .nil) ∨ ∃ (es sp : List (DataW H)), x.1 = .slice es sp ∧ es.length = xs.length ∧ ∀ (i : Nat) d, es[i]? = some d → ∃ a, xs[i]? = some a ∧ Pr d a) := by
  rcases Go.Deep.open_slice ht h with ⟨rfl, rfl⟩ | ⟨a, len, cap, m, n, D, Pl, rfl, hb, hl, hm, hmm, rfl, hx⟩
  · exact ⟨none, [], 0, rfl, ⟨fun h => absurd h (by simp), fun j x h => by simp at h⟩, Nat.le_refl _, by simp, .inl ⟨rfl, rfl, rfl, rfl⟩⟩
  · have hlm : len ≤ m := by rw [hmm]; split <;> omega
    have hV : ∀ i, i < len → ∃ v : α, (∀ k u, (E.cells v)[k]? = some u → w.cell? (a.add (i * E.n + k)) = some u) ∧ Pr (D i) v := by
      intro i hi
      obtain ⟨cs', h1, h2⟩ := hx i (by omega)
      rw [hc] at h1
      obtain ⟨_, hlen, hce⟩ := World.cells?_some h1
      obtain ⟨v, rfl, hp⟩ := hel n cs' _ h2 hlen
      refine ⟨v, fun k u hk => ?_, hp⟩
      have hk' : k < E.n := by rw [← E.len v]; exact (List.getElem?_eq_some_iff.1 hk).1
      rw [← Go.Deep.add_add, hce k hk', hk]
    obtain ⟨V, hV⟩ := Go.Deep.choose_lt hV
    refine ⟨some a, (List.range len).map V, cap, by simp, ⟨fun hpos => ?_, ?_⟩, by simpa using hl, hm, .inr ⟨_, _, rfl, by simp, fun i d hd => ?_⟩⟩
    · have hpos : 0 < len := by simpa using hpos
      obtain ⟨u, hu⟩ : ∃ u, (E.cells (V 0))[0]? = some u := ⟨_, List.getElem?_eq_getElem (by rw [E.len]; exact h0)⟩
      have h1 := (hV 0 hpos).1 0 u hu
      have h2 := World.cell?_spot h1
      have h3 : a.add (0 * E.n + 0) = a := by simp [Addr.add]
      rw [h3] at h2
      simp only [pb, pq]
      obtain ⟨b, o, s⟩ := a
      simp only at h2
      rw [h2]
    · intro j v hj k u hk
      have hjl : j < len := by
        have := (List.getElem?_eq_some_iff.1 hj).1
        simpa using this
      rw [List.getElem?_map, List.getElem?_range hjl] at hj
      simp only [Option.map_some, Option.some.injEq] at hj
      subst hj
      have h1 := (hV j hjl).1 k u hk
      have h2 : a.spot = none := by
        by_cases hz : j * E.n + k = 0
        · rw [hz] at h1
          have := World.cell?_spot h1
          simpa [Addr.add] using this
        · obtain ⟨u0, hu0⟩ : ∃ u, (E.cells (V 0))[0]? = some u := ⟨_, List.getElem?_eq_getElem (by rw [E.len]; exact h0)⟩
          have h3 := World.cell?_spot ((hV 0 (by omega)).1 0 u0 hu0)
          simpa [Addr.add] using h3
      rw [add_eq h2] at h1
      simp only [pb, pq]
      rw [Nat.add_assoc]
      exact h1
    · have hil : i < len := by
        have := (List.getElem?_eq_some_iff.1 hd).1
        simpa using this
      rw [List.getElem?_map, List.getElem?_range hil] at hd
      simp only [Option.map_some, Option.some.injEq] at hd
      subst hd
      exact ⟨V i, by simp [hil], (hV i hil).2⟩
/-- how long it can be -/
theorem sized_rd [Inhabited α] {E : Enc α} {Pr : DataW H → α → Prop} {ts : List TypeId} {ds : List (DataW H)} (hsz : (DataW.weightsEach P ts ds).all (· ≤ reachBytes) = true) {j : Nat} {t e : TypeId} {A : Option Addr} {c : Nat} {xs : List α} {d : DataW H} (ht : ts[j]? = some t) (hd : ds[j]? = some d)
    (hu : P.underlying t = some (.slice e)) (h : (A = none ∧ c = 0 ∧ xs = [] ∧ d = .nil) ∨ ∃ (es sp : List (DataW H)), d = .slice es sp ∧ es.length = xs.length ∧ ∀ (i : Nat) d, es[i]? = some d → ∃ a, xs[i]? = some a ∧ Pr d a) : xs.length * P.bytesOf e ≤ reachBytes := by
  rcases h with ⟨_, _, rfl, _⟩ | ⟨es, sp, rfl, hl, _⟩
  · simp
  · have := sized_slice hsz ht hd hu
    rw [← hl]
    exact Nat.le_trans (Nat.mul_le_mul_right _ (Nat.le_add_right _ _)) this
end
end Go.Proofs.YthbehiflmcljcaaDoor.Sh
