/- tree.Is answers as the document does. -/
import Derived.Test.YtpnkfnenhgfhpaaDoorBm
import Derived.Test.YtpnkfnenhgfhpaaDoorBg
set_option linter.unusedVariables false
set_option linter.unusedSimpArgs false
set_option maxRecDepth 10000
namespace Go.Proofs.YtpnkfnenhgfhpaaDoor.C
open Go.RowKit Go.Proofs.YtpnkfnenhgfhpaaDoor.Sh
def Par (t : List Nd) (p k : Nat) : Prop := p < k ∧ (nth t (k : Int)).depth = (nth t (p : Int)).depth + 1 ∧ ∀ j : Nat, p < j → j < k → (nth t (p : Int)).depth < (nth t (j : Int)).depth
theorem nth_cons_s {α : Type} [Inhabited α] (x : α) (r : List α) (m : Nat) : nth (x :: r) ((m + 1 : Nat) : Int) = nth r (m : Int) := by rw [nth_nat, nth_nat]; rfl
theorem nth_cons_z {α : Type} [Inhabited α] (x : α) (r : List α) : nth (x :: r) ((0 : Nat) : Int) = x := rfl
theorem mem_partsR (d : Int) : ∀ (r : List Nd) (k x : Nat), x ∈ partsR d r k ↔ ∃ m, x = k + m ∧ m < r.length ∧ (nth r (m : Int)).depth = d + 1 ∧ ∀ j : Nat, j < m → d < (nth r (j : Int)).depth
  | [], k, x => by simp [partsR]
  | n :: r, k, x => by
    have ih := mem_partsR d r (k + 1) x
    have up : (∃ m, x = k + (m + 1) ∧ m < r.length ∧ (nth r (m : Int)).depth = d + 1 ∧ (∀ j : Nat, j < m → d < (nth r (j : Int)).depth)) ↔ x ∈ partsR d r (k + 1) := by
      rw [ih]
      constructor
      · rintro ⟨m, h1, h2⟩; exact ⟨m, by omega, h2⟩
      · rintro ⟨m, h1, h2⟩; exact ⟨m, by omega, h2⟩
    rw [partsR]
    by_cases h : d < n.depth
    · rw [if_pos h]
      have sp : (∃ m, x = k + m ∧ m < (n :: r).length ∧ (nth (n :: r) (m : Int)).depth = d + 1 ∧ ∀ j : Nat, j < m → d < (nth (n :: r) (j : Int)).depth) ↔ (x = k ∧ n.depth = d + 1) ∨ x ∈ partsR d r (k + 1) := by
        rw [← up]
        constructor
        · rintro ⟨m, h1, h2, h3, h4⟩
          cases m with
          | zero => exact .inl ⟨by omega, h3⟩
          | succ m =>
            rw [nth_cons_s] at h3
            refine .inr ⟨m, h1, by simpa using h2, h3, fun j hj => ?_⟩
            have := h4 (j + 1) (by omega)
            rw [nth_cons_s] at this
            exact this
        · rintro (⟨h1, h2⟩ | ⟨m, h1, h2, h3, h4⟩)
          · exact ⟨0, by omega, by simp, h2, fun j hj => absurd hj (Nat.not_lt_zero j)⟩
          · refine ⟨m + 1, h1, by simpa using h2, by rw [nth_cons_s]; exact h3, fun j hj => ?_⟩
            cases j with
            | zero => exact h
            | succ j => rw [nth_cons_s]; exact h4 j (by omega)
      rw [sp]
      by_cases h2 : n.depth = d + 1
      · rw [if_pos h2, List.mem_cons]
        simp [h2]
      · rw [if_neg h2]
        simp [h2]
    · rw [if_neg h]
      constructor
      · intro q; cases q
      · rintro ⟨m, h1, h2, h3, h4⟩
        cases m with
        | zero => have h3 : n.depth = d + 1 := h3; omega
        | succ m => exact absurd (h4 0 (by omega)) h
theorem nth_drop {α : Type} [Inhabited α] (l : List α) (a m : Nat) : nth (l.drop a) (m : Int) = nth l ((a + m : Nat) : Int) := by
  rw [nth_nat, nth_nat]; simp [List.getElem?_drop]
theorem mem_partsS {t : List Nd} {p k : Nat} : k ∈ partsS t p ↔ Par t p k ∧ k < t.length := by
  unfold partsS Par
  rw [mem_partsR]
  constructor
  · rintro ⟨m, h1, h2, h3, h4⟩
    rw [nth_drop] at h3
    simp only [List.length_drop] at h2
    refine ⟨⟨by omega, by rw [h1]; exact h3, fun j hj1 hj2 => ?_⟩, by omega⟩
    have := h4 (j - (p + 1)) (by omega)
    rw [nth_drop] at this
    have e : p + 1 + (j - (p + 1)) = j := by omega
    rw [e] at this
    exact this
  · rintro ⟨⟨h1, h2, h3⟩, h4⟩
    refine ⟨k - (p + 1), by omega, by simp only [List.length_drop]; omega, ?_, fun j hj => ?_⟩
    · rw [nth_drop]
      have e : p + 1 + (k - (p + 1)) = k := by omega
      rw [e]; exact h2
    · rw [nth_drop]
      exact h3 _ (by omega) (by omega)
theorem incR (d : Int) : ∀ (r : List Nd) (k : Nat), (partsR d r k).Pairwise (· < ·)
  | [], k => by rw [partsR]; exact .nil
  | n :: r, k => by
    rw [partsR]
    split
    · split
      · refine .cons (fun x hx => ?_) (incR d r (k + 1))
        have := partsR_mem _ _ _ x hx
        omega
      · exact incR d r (k + 1)
    · exact .nil
theorem distI_iff (t : List Nd) : ∀ l : List Nat, l.Pairwise (· < ·) → (distI t l = true ↔ ∀ x ∈ l, ∀ y ∈ l, x < y → (nth t (x : Int)).key ≠ (nth t (y : Int)).key)
  | [], _ => by simp [distI]
  | a :: l, h => by
    cases h with
    | cons h1 h2 =>
      rw [distI, Bool.and_eq_true, distI_iff t l h2]
      constructor
      · rintro ⟨q1, q2⟩ x hx y hy hxy
        rcases List.mem_cons.1 hx with hx1 | hx1
        · rcases List.mem_cons.1 hy with hy1 | hy1
          · omega
          · intro e
            rw [Bool.not_eq_true', List.any_eq_false] at q1
            rw [hx1] at e
            exact q1 y hy1 (by rw [e]; exact beq_self_eq_true _)
        · rcases List.mem_cons.1 hy with hy1 | hy1
          · have := h1 x hx1; omega
          · exact q2 x hx1 y hy1 hxy
      · intro q
        refine ⟨?_, fun x hx y hy => q x (List.mem_cons_of_mem _ hx) y (List.mem_cons_of_mem _ hy)⟩
        rw [Bool.not_eq_true', List.any_eq_false]
        intro y hy e
        exact q a (List.mem_cons_self ..) y (List.mem_cons_of_mem _ hy) (h1 y hy) (eq_of_beq e)
/-- no two parts of a map have one key -/
def Uniq (t : List Nd) (k : Nat) : Prop := ∀ j : Nat, k ≤ j → j < t.length → ∀ p : Nat, (nth t (p : Int)).kind = 1 → Par t p j → ∀ i : Nat, i < j → Par t p i → (nth t (i : Int)).key ≠ (nth t (j : Int)).key
theorem mapsOk_iff (t : List Nd) : mapsOk t = true ↔ Uniq t 1 := by
  unfold mapsOk Uniq
  rw [List.all_eq_true]
  constructor
  · intro h j hj hjl p hp hpj i hij hpi
    have h1 := h p (List.mem_range.2 (by have := hpj.1; omega))
    rw [hp] at h1
    have h1 : distI t (partsS t p) = true := by simpa using h1
    exact (distI_iff t _ (incR _ _ _)).1 h1 i (mem_partsS.2 ⟨hpi, by omega⟩) j (mem_partsS.2 ⟨hpj, hjl⟩) hij
  · intro h p hp
    by_cases hk : (nth t (p : Int)).kind = 1
    · have : distI t (partsS t p) = true := by
        refine (distI_iff t _ (incR _ _ _)).2 fun x hx y hy hxy => ?_
        have hx := mem_partsS.1 hx
        have hy := mem_partsS.1 hy
        exact h y (by have := hy.1.1; omega) hy.2 p hk hy.1 x hxy hx.1
      rw [this]; simp
    · have : ((nth t (p : Int)).kind == 1) = false := by simpa using hk
      rw [this]; rfl
/-! ### the open blocks, and the kinds by depth -/
def SI (t : List Nd) (k : Nat) (ks : List Int) : List OB → Prop
  | [] => True
  | b :: st => (∃ p : Nat, b.node = p ∧ p < k ∧ (nth t (p : Int)).depth = st.length ∧ (∀ j : Nat, p < j → j < k → (nth t (p : Int)).depth < (nth t (j : Int)).depth) ∧ nth ks (st.length : Int) = (nth t (p : Int)).kind ∧
      ((nth t (p : Int)).kind ≠ 2 → ∀ key, (alook key b.keys).isSome = true ↔ ∃ j : Nat, j < k ∧ Par t p j ∧ (nth t (j : Int)).key = key)) ∧ SI t k ks st
theorem si_drop {t : List Nd} {k : Nat} {ks : List Int} : ∀ {st : List OB} (m : Nat), SI t k ks st → SI t k ks (st.drop m)
  | [], m, h => by simpa using h
  | b :: st, 0, h => h
  | b :: st, m + 1, h => si_drop (st := st) m h.2
theorem nth_set_ne' {α : Type} [Inhabited α] (l : List α) (x : α) {i j : Nat} (h : i ≠ j) : nth (l.set i x) (j : Int) = nth l (j : Int) := nth_set_ne l x h
theorem si_next {t : List Nd} {k : Nat} {ks : List Int} {d : Nat} {v : Int} (hd : (nth t (k : Int)).depth = d) : ∀ {st : List OB}, st.length < d → SI t k ks st → SI t (k + 1) (ks.set d v) st
  | [], _, _ => trivial
  | b :: st, hl, ⟨⟨p, h1, h2, h3, h4, h5, h6⟩, hr⟩ => by
    simp only [List.length_cons] at hl
    refine ⟨⟨p, h1, by omega, h3, fun j hj1 hj2 => ?_, ?_, fun hk key => ?_⟩, si_next hd (by omega) hr⟩
    · by_cases hjk : j = k
      · subst hjk; rw [hd, h3]; omega
      · exact h4 j hj1 (by omega)
    · rw [nth_set_ne' _ _ (by omega)]; exact h5
    · rw [h6 hk key]
      constructor
      · rintro ⟨j, q1, q2⟩; exact ⟨j, by omega, q2⟩
      · rintro ⟨j, q1, q2, q3⟩
        by_cases hjk : j = k
        · subst hjk
          have := q2.2.1
          rw [hd, h3] at this
          omega
        · exact ⟨j, by omega, q2, q3⟩
theorem form_fits {n a : Nd} {q : Int} (h : formB n a q = true) : fitsB n a = true ∧ ((q = 1 ∧ (n.key.length : Int) ≤ 64) ∨ (q = 2 ∧ n.key = [])) := by
  unfold formB at h
  split at h
  · cases h
  rename_i h1
  split at h
  · cases h
  rename_i h2
  simp only [Bool.or_eq_true, Bool.and_eq_true, decide_eq_true_eq, beq_iff_eq, bne_iff_ne, not_or, not_and, ne_eq] at h h1 h2
  refine ⟨?_, h⟩
  unfold fitsB
  simp only [Bool.or_eq_true, Bool.and_eq_true, decide_eq_true_eq, beq_iff_eq, bne_iff_ne, ne_eq]
  refine ⟨⟨⟨⟨by omega, by omega⟩, by omega⟩, ?_⟩, ?_⟩
  · by_cases hd : n.depth ≤ a.depth
    · exact .inl hd
    · have : n.depth = a.depth + 1 := by omega
      exact .inr ⟨this, h2.2 this⟩
  · by_cases h3 : n.kind = 3
    · exact .inr h3
    · exact .inl (by have := h1.2 h3; simpa using this)
theorem fits_form {n a : Nd} {q : Int} (h : fitsB n a = true) (hq : (q = 1 ∧ (n.key.length : Int) ≤ 64) ∨ (q = 2 ∧ n.key = [])) : formB n a q = true := by
  unfold fitsB at h
  simp only [Bool.or_eq_true, Bool.and_eq_true, decide_eq_true_eq, beq_iff_eq, bne_iff_ne, ne_eq] at h
  obtain ⟨⟨⟨⟨h1, h2⟩, h3⟩, h4⟩, h5⟩ := h
  unfold formB
  rw [if_neg, if_neg]
  · simpa using hq
  · simp only [Bool.or_eq_true, Bool.and_eq_true, decide_eq_true_eq, beq_iff_eq, not_or, not_and]
    refine ⟨⟨⟨by omega, by omega⟩, by omega⟩, fun hd => ?_⟩
    rcases h4 with h4 | h4
    · omega
    · exact h4.2
  · simp only [Bool.or_eq_true, Bool.and_eq_true, decide_eq_true_eq, bne_iff_ne, ne_eq, not_or, not_and, Classical.not_not]
    refine ⟨⟨by omega, by omega⟩, fun hd => ?_⟩
    rcases h5 with h5 | h5
    · exact h5
    · exact absurd h5 hd
end Go.Proofs.YtpnkfnenhgfhpaaDoor.C
