/- An order of numbers, each behind its preds: the plain answer. At each step the least rank, and of these the least number, of all that are ready. -/
import Derived.Test.YthbehiflmcljcaaDoorGa
import Derived.Test.YthbehiflmcljcaaDoorShD
set_option linter.unusedVariables false
set_option linter.unusedSimpArgs false
namespace Go.Proofs.YthbehiflmcljcaaDoor.C
open Go.Proofs.YthbehiflmcljcaaDoor.Sh
abbrev Is := List Int
def formL (n : Nat) (l : Is) : Prop := ∀ k, k < l.length → 0 ≤ nth l (k : Int) ∧ nth l (k : Int) < n ∧ (0 < k → nth l ((k : Int) - 1) < nth l (k : Int))
instance (n : Nat) (l : Is) : Decidable (formL n l) := inferInstanceAs (Decidable (∀ k, k < l.length → _))
def formS (ps : List Is) : Prop := ∀ i, i < ps.length → formL ps.length (nth ps (i : Int))
instance (ps : List Is) : Decidable (formS ps) := inferInstanceAs (Decidable (∀ i, i < ps.length → _))
/-- may a number come next? -/
def rdyS (ps : List Is) (o : Is) (k : Nat) : Prop := (k : Int) ∉ o ∧ ∀ p ∈ nth ps (k : Int), p ∈ o
instance (ps : List Is) (o : Is) (k : Nat) : Decidable (rdyS ps o k) := inferInstanceAs (Decidable (_ ∧ _))
/-- the best of the first m -/
def bestS (ps : List Is) (rs o : Is) : Nat → Option Nat
  | 0 => none
  | m + 1 => match bestS ps rs o m with
    | none => if rdyS ps o m then some m else none
    | some b => if rdyS ps o m ∧ nth rs (m : Int) < nth rs (b : Int) then some m else some b
theorem best_none {ps : List Is} {rs o : Is} : ∀ {m : Nat}, bestS ps rs o m = none ↔ ∀ i, i < m → ¬ rdyS ps o i
  | 0 => ⟨fun _ i hi => absurd hi (Nat.not_lt_zero i), fun _ => rfl⟩
  | m + 1 => by
    have ih := best_none (ps := ps) (rs := rs) (o := o) (m := m)
    unfold bestS
    cases hb : bestS ps rs o m with
    | none =>
      have ih := ih.1 hb
      by_cases hr : rdyS ps o m
      · simp only [if_pos hr]
        exact ⟨fun h => (by cases h), fun h => absurd hr (h m (by omega))⟩
      · simp only [if_neg hr]
        refine ⟨fun _ i hi => ?_, fun _ => trivial⟩
        by_cases he : i = m
        · rw [he]; exact hr
        · exact ih i (by omega)
    | some b =>
      refine ⟨fun h => ?_, fun h => ?_⟩
      · simp only at h; split at h <;> simp at h
      · have := ih.2 (fun i hi => h i (by omega))
        rw [hb] at this
        cases this
theorem best_some {ps : List Is} {rs o : Is} : ∀ {m b : Nat}, bestS ps rs o m = some b → b < m ∧ rdyS ps o b ∧ ∀ i, i < m → rdyS ps o i → nth rs (b : Int) < nth rs (i : Int) ∨ (nth rs (b : Int) = nth rs (i : Int) ∧ b ≤ i)
  | 0, b, h => by cases h
  | m + 1, b, h => by
    unfold bestS at h
    cases hb : bestS ps rs o m with
    | none =>
      rw [hb] at h
      have hn := best_none.1 hb
      simp only at h
      split at h
      · rename_i hr
        obtain rfl := Option.some.inj h
        refine ⟨by omega, hr, fun i hi hri => ?_⟩
        by_cases he : i = m
        · subst he; exact .inr ⟨rfl, Nat.le_refl _⟩
        · exact absurd hri (hn i (by omega))
      · cases h
    | some c =>
      rw [hb] at h
      obtain ⟨h1, h2, h3⟩ := best_some hb
      simp only at h
      split at h
      · rename_i hr
        obtain rfl := Option.some.inj h
        refine ⟨by omega, hr.1, fun i hi hri => ?_⟩
        by_cases he : i = m
        · subst he; exact .inr ⟨rfl, Nat.le_refl _⟩
        · have := h3 i (by omega) hri
          have := hr.2
          omega
      · rename_i hr
        obtain rfl := Option.some.inj h
        refine ⟨by omega, h2, fun i hi hri => ?_⟩
        by_cases he : i = m
        · subst he
          have : ¬ nth rs (i : Int) < nth rs (c : Int) := fun q => hr ⟨hri, q⟩
          omega
        · exact h3 i (by omega) hri
/-- who is ready, and least of the ready, is the best -/
theorem best_eq {ps : List Is} {rs o : Is} {m b : Nat} (hb : b < m) (hr : rdyS ps o b) (hl : ∀ i, i < m → rdyS ps o i → nth rs (b : Int) < nth rs (i : Int) ∨ (nth rs (b : Int) = nth rs (i : Int) ∧ b ≤ i)) : bestS ps rs o m = some b := by
  cases h : bestS ps rs o m with
  | none => exact absurd hr (best_none.1 h b hb)
  | some c =>
    obtain ⟨h1, h2, h3⟩ := best_some h
    have a1 := h3 b hb hr
    have a2 := hl c h1 h2
    have : c = b := by omega
    rw [this]
def still (n : Nat) (o : Is) : Nat := ((List.range n).filter (fun k : Nat => decide ((k : Int) ∉ o))).length
theorem still_le (n : Nat) (o : Is) : still n o ≤ n := Nat.le_trans (List.length_filter_le _ _) (by simp)
theorem filt_lt {α : Type} (p q : α → Bool) : ∀ (l : List α) (x : α), x ∈ l → (∀ a, q a = true → p a = true) → p x = true → q x = false → (l.filter q).length < (l.filter p).length
  | [], x, hx, _, _, _ => by cases hx
  | a :: l, x, hx, hpq, hp, hq => by
    have hle : (l.filter q).length ≤ (l.filter p).length := by
      clear hx hp hq x
      induction l with
      | nil => simp
      | cons c l ih =>
        simp only [List.filter_cons]
        cases hqc : q c with
        | true => rw [hpq c hqc]; simpa using ih
        | false => cases p c <;> simp <;> omega
    simp only [List.filter_cons]
    rcases List.mem_cons.1 hx with rfl | hx
    · rw [hp, hq]; simp; omega
    · have ih := filt_lt p q l x hx hpq hp hq
      cases hqa : q a with
      | true => rw [hpq a hqa]; simpa using ih
      | false => cases p a <;> simp <;> omega
theorem still_dec {n b : Nat} {o : Is} (hb : b < n) (h : (b : Int) ∉ o) : still n (o ++ [(b : Int)]) < still n o := by
  unfold still
  refine filt_lt _ _ _ b (List.mem_range.2 hb) (fun a ha => ?_) (by simpa using h) (by simp)
  simp only [decide_eq_true_eq, List.mem_append, List.mem_singleton, not_or] at ha ⊢
  exact ha.1
def ordF (ps : List Is) (rs : Is) : Nat → Is → Is
  | 0, o => o
  | f + 1, o => match bestS ps rs o ps.length with
    | none => o
    | some b => ordF ps rs f (o ++ [(b : Int)])
theorem ordF_none {ps : List Is} {rs o : Is} (f : Nat) (h : bestS ps rs o ps.length = none) : ordF ps rs f o = o := by
  cases f with
  | zero => rfl
  | succ f => unfold ordF; rw [h]
theorem ordF_more {ps : List Is} {rs : Is} : ∀ (f : Nat) (o : Is), still ps.length o ≤ f → ordF ps rs (f + 1) o = ordF ps rs f o
  | 0, o, h => by
    cases hb : bestS ps rs o ps.length with
    | none => rw [ordF_none _ hb, ordF_none _ hb]
    | some b =>
      obtain ⟨h1, h2, -⟩ := best_some hb
      have := still_dec h1 h2.1
      omega
  | f + 1, o, h => by
    cases hb : bestS ps rs o ps.length with
    | none => rw [ordF_none _ hb, ordF_none _ hb]
    | some b =>
      obtain ⟨h1, h2, -⟩ := best_some hb
      have := still_dec h1 h2.1
      have ih := ordF_more (ps := ps) (rs := rs) f (o ++ [(b : Int)]) (by omega)
      have e1 : ordF ps rs (f + 1 + 1) o = ordF ps rs (f + 1) (o ++ [(b : Int)]) := by rw [ordF, hb]
      have e2 : ordF ps rs (f + 1) o = ordF ps rs f (o ++ [(b : Int)]) := by rw [ordF, hb]
      rw [e1, e2, ih]
theorem ordF_step {ps : List Is} {rs o : Is} {b : Nat} (hb : bestS ps rs o ps.length = some b) : ordF ps rs ps.length o = ordF ps rs ps.length (o ++ [(b : Int)]) := by
  obtain ⟨h1, h2, -⟩ := best_some hb
  have h3 := still_dec h1 h2.1
  have h4 := still_le ps.length o
  obtain ⟨f, hf⟩ : ∃ f, ps.length = f + 1 := ⟨ps.length - 1, by omega⟩
  rw [hf] at h3 h4 ⊢
  have e : ordF ps rs (f + 1) o = ordF ps rs f (o ++ [(b : Int)]) := by rw [ordF, hb]
  rw [e, ordF_more f _ (by rw [hf]; omega)]
/-- the whole order, and what is said of it: 0, or that there is a cycle -/
def ordS (ps : List Is) (rs : Is) : Is := ordF ps rs ps.length []
def okS (ps : List Is) (rs : Is) : Prop := rs.length = ps.length ∧ formS ps
instance (ps : List Is) (rs : Is) : Decidable (okS ps rs) := inferInstanceAs (Decidable (_ ∧ _))
def orderS (ps : List Is) (rs : Is) : Is := if okS ps rs then ordS ps rs else []
end Go.Proofs.YthbehiflmcljcaaDoor.C
