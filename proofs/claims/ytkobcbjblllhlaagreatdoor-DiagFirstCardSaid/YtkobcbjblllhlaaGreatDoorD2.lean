/- The first of some faults: the plain law, and the walk of DiagFirst. -/
import Derived.Test.YtkobcbjblllhlaaGreatDoorD0
set_option linter.unusedVariables false
set_option linter.unusedSimpArgs false
set_option maxRecDepth 10000
namespace Go.Proofs.YtkobcbjblllhlaaGreatDoor.C
open Go.RowKit Go.Proofs.YtkobcbjblllhlaaGreatDoor.Sh
abbrev Z : Ft := ⟨0, [], 0, 0⟩
/-- nothing, or one of them that none comes ahead of -/
def IsL (xs : List Ft) (o : Ft) : Prop := (o = Z ∧ ∀ f ∈ xs, f.code = 0) ∨ (o ∈ xs ∧ o.code ≠ 0 ∧ ∀ f ∈ xs, f.code ≠ 0 → rlessB f o = false)
theorem isL_step {ys : List Ft} {o : Ft} (f : Ft) (h : IsL ys o) : IsL (ys ++ [f]) (if f.code ≠ 0 ∧ (o.code = 0 ∨ lessB f o) then f else o) := by
  by_cases hf : f.code = 0
  · rw [if_neg (by simp [hf])]
    rcases h with ⟨rfl, h⟩ | ⟨h1, h2, h3⟩
    · exact .inl ⟨rfl, fun g hg => by rcases List.mem_append.1 hg with h1 | h1; exact h g h1; simp at h1; rw [h1]; exact hf⟩
    · exact .inr ⟨by simp [h1], h2, fun g hg hgc => h3 g (by rcases List.mem_append.1 hg with h | h; exact h; simp at h; subst h; exact absurd hf hgc) hgc⟩
  · rcases h with ⟨rfl, h⟩ | ⟨h1, h2, h3⟩
    · rw [if_pos ⟨hf, .inl rfl⟩]
      refine .inr ⟨by simp, hf, fun g hg hgc => ?_⟩
      rcases List.mem_append.1 hg with hg | hg
      · exact absurd (h g hg) hgc
      · simp at hg
        subst hg
        exact rless_irrefl g
    · by_cases hl : lessB f o = true
      · rw [if_pos ⟨hf, .inr hl⟩]
        rw [less_eq] at hl
        refine .inr ⟨by simp, hf, fun g hg hgc => ?_⟩
        rcases List.mem_append.1 hg with hg | hg
        · cases hq : rlessB g f
          · rfl
          · have := rless_trans g f o hq hl
            rw [h3 g hg hgc] at this
            cases this
        · simp at hg
          subst hg
          exact rless_irrefl g
      · rw [if_neg (by simp [h2, hl])]
        rw [less_eq] at hl
        refine .inr ⟨by simp [h1], h2, fun g hg hgc => ?_⟩
        rcases List.mem_append.1 hg with hg | hg
        · exact h3 g hg hgc
        · simp at hg
          subst hg
          simpa using hl
theorem isL_least : ∀ (xs ys : List Ft) (o : Ft), IsL ys o → IsL (ys ++ xs) (leastF xs o)
  | [], ys, o, h => by simpa [leastF] using h
  | f :: xs, ys, o, h => by
    rw [leastF, List.append_cons]
    exact isL_least xs (ys ++ [f]) _ (isL_step f h)
theorem isL_of (xs : List Ft) : IsL xs (leastF xs Z) := by simpa using isL_least xs [] Z (.inl ⟨rfl, by simp⟩)
theorem isL_congr {xs ys : List Ft} {o : Ft} (he : ∀ f, f ∈ xs ↔ f ∈ ys) (h : IsL xs o) : IsL ys o := by
  rcases h with ⟨h1, h2⟩ | ⟨h1, h2, h3⟩
  · exact .inl ⟨h1, fun f hf => h2 f ((he f).2 hf)⟩
  · exact .inr ⟨(he o).1 h1, h2, fun f hf => h3 f ((he f).2 hf)⟩
theorem isL_one {xs : List Ft} {o p : Ft} (h : IsL xs o) (k : IsL xs p) : o = p := by
  rcases h with ⟨rfl, h2⟩ | ⟨h1, h2, h3⟩ <;> rcases k with ⟨rfl, k2⟩ | ⟨k1, k2, k3⟩
  · rfl
  · exact absurd (h2 _ k1) k2
  · exact absurd (k2 _ h1) h2
  · by_cases e : o = p
    · exact e
    · have := rless_flip o p e
      rw [h3 p k1 k2, k3 o h1 h2] at this
      cases this
theorem isL_two {xs ys : List Ft} {o p q : Ft} (h : IsL xs o) (k : IsL ys p) (l : IsL [o, p] q) : IsL (xs ++ ys) q := by
  rcases l with ⟨rfl, l⟩ | ⟨l1, l2, l3⟩
  · refine .inl ⟨rfl, fun f hf => ?_⟩
    have ho := l o (by simp)
    have hp := l p (by simp)
    rcases List.mem_append.1 hf with hf | hf
    · rcases h with ⟨_, h⟩ | ⟨_, h, _⟩
      · exact h f hf
      · exact absurd ho h
    · rcases k with ⟨_, h⟩ | ⟨_, h, _⟩
      · exact h f hf
      · exact absurd hp h
  · have key : ∀ (zs : List Ft) (z : Ft), IsL zs z → z ∈ [o, p] → ∀ f ∈ zs, f.code ≠ 0 → rlessB f q = false := by
      intro zs z hz hm f hf hc
      rcases hz with ⟨_, h⟩ | ⟨h1, h2, h3⟩
      · exact absurd (h f hf) hc
      · have a := h3 f hf hc
        have b := l3 z hm h2
        by_cases e1 : f = z
        · rw [e1]; exact b
        · by_cases e2 : z = q
          · rw [← e2]; exact a
          · cases hq : rlessB f q
            · rfl
            · have c := rless_flip z q e2
              rw [b] at c
              have c : rlessB q z = true := by simpa using c.symm
              have := rless_trans f q z hq c
              rw [a] at this
              cases this
    refine .inr ⟨?_, l2, fun f hf hc => ?_⟩
    · simp only [List.mem_cons, List.mem_nil_iff, or_false] at l1
      rcases l1 with rfl | rfl
      · rcases h with ⟨rfl, _⟩ | ⟨h, _⟩
        · exact absurd rfl l2
        · exact List.mem_append.2 (.inl h)
      · rcases k with ⟨rfl, _⟩ | ⟨h, _⟩
        · exact absurd rfl l2
        · exact List.mem_append.2 (.inr h)
    · rcases List.mem_append.1 hf with hf | hf
      · exact key xs o h (by simp) f hf hc
      · exact key ys p k (by simp) f hf hc
theorem least_rev (xs : List Ft) : leastF xs.reverse Z = leastF xs Z := isL_one (isL_congr (by simp) (isL_of xs.reverse)) (isL_of xs)
theorem least_two (xs : List Ft) (k : Nat) : leastF [leastF (xs.take k) Z, leastF (xs.drop k) Z] Z = leastF xs Z := by
  refine isL_one (xs := xs) ?_ (isL_of xs)
  have := isL_two (isL_of (xs.take k)) (isL_of (xs.drop k)) (isL_of [leastF (xs.take k) Z, leastF (xs.drop k) Z])
  rwa [List.take_append_drop] at this
theorem least_no (xs : List Ft) (f : Ft) (hf : f ∈ xs) (hc : f.code ≠ 0) : (leastF xs Z).code ≠ 0 ∧ lessB f (leastF xs Z) = false := by
  rcases isL_of xs with ⟨_, h⟩ | ⟨_, h2, h3⟩
  · exact absurd (h f hf) hc
  · exact ⟨h2, by rw [less_eq]; exact h3 f hf hc⟩
end Go.Proofs.YtkobcbjblllhlaaGreatDoor.C
