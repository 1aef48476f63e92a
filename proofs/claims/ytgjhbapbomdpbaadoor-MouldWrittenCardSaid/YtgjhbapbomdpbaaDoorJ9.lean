/- tree.Is answers as the document does. -/
import Derived.Test.YtgjhbapbomdpbaaDoorJ8
import Derived.Test.YtgjhbapbomdpbaaDoorJ6
import Derived.Test.YtgjhbapbomdpbaaDoorMa
set_option linter.unusedVariables false
set_option linter.unusedSimpArgs false
set_option maxRecDepth 10000
/-! tree.Is answers as the document does. -/
namespace Go.Proofs.YtgjhbapbomdpbaaDoor.C
open Go.RowKit Go.Proofs.YtgjhbapbomdpbaaDoor.Sh
def Par (t : List Nd) (p k : Nat) : Prop := p < k ∧ (nth t (k : Int)).depth = (nth t (p : Int)).depth + 1 ∧ ∀ j : Nat, p < j → j < k → (nth t (p : Int)).depth < (nth t (j : Int)).depth
theorem nth_cons_s {α : Type} [Inhabited α] (x : α) (r : List α) (m : Nat) : nth (x :: r) ((m + 1 : Nat) : Int) = nth r (m : Int) := by rw [nth_nat, nth_nat]; rfl
theorem nth_cons_z {α : Type} [Inhabited α] (x : α) (r : List α) : nth (x :: r) ((0 : Nat) : Int) = x := rfl
theorem mem_partsR (d : Int) : ∀ (r : List Nd) (k x : Nat), x ∈ partsR d r k ↔ ∃ m, x = k + m ∧ m < r.length ∧ (nth r (m : Int)).depth = d + 1 ∧ ∀ j : Nat, j < m → d < (nth r (j : Int)).depth
  | [], k, x => by simp [partsR]
  | n :: r, k, x => by
    have ih := mem_partsR d r (k + 1) x
    have up : (∃ m, x = k + (m + 1) ∧ m < r.length ∧ (nth r (m : Int)).depth = d + 1 ∧ (∀ j : Nat, j < m → d < (nth r (j : Int)).depth)) ↔ x ∈ partsR d r (k + 1) := by
      rw [ih]
      constructor
      · rintro ⟨m, h1, h2⟩; exact ⟨m, by omega, h2⟩
      · rintro ⟨m, h1, h2⟩; exact ⟨m, by omega, h2⟩
    rw [partsR]
    by_cases h : d < n.depth
    · rw [if_pos h]
      have sp : (∃ m, x = k + m ∧ m < (n :: r).length ∧ (nth (n :: r) (m : Int)).depth = d + 1 ∧ ∀ j : Nat, j < m → d < (nth (n :: r) (j : Int)).depth) ↔ (x = k ∧ n.depth = d + 1) ∨ x ∈ partsR d r (k + 1) := by
        rw [← up]
        constructor
        · rintro ⟨m, h1, h2, h3, h4⟩
          cases m with
          | zero => exact .inl ⟨by omega, h3⟩
          | succ m =>
            rw [nth_cons_s] at h3
            refine .inr ⟨m, h1, by simpa using h2, h3, fun j hj => ?_⟩
            have := h4 (j + 1) (by omega)
            rw [nth_cons_s] at this
            exact this
        · rintro (⟨h1, h2⟩ | ⟨m, h1, h2, h3, h4⟩)
          · exact ⟨0, by omega, by simp, h2, fun j hj => absurd hj (Nat.not_lt_zero j)⟩
          · refine ⟨m + 1, h1, by simpa using h2, by rw [nth_cons_s]; exact h3, fun j hj => ?_⟩
            cases j with
            | zero => exact h
            | succ j => rw [nth_cons_s]; exact h4 j (by omega)
      rw [sp]
      by_cases h2 : n.depth = d + 1
      · rw [if_pos h2, List.mem_cons]
        simp [h2]
      · rw [if_neg h2]
        simp [h2]
    · rw [if_neg h]
      constructor
      · intro q; cases q
      · rintro ⟨m, h1, h2, h3, h4⟩
        cases m with
        | zero => have h3 : n.depth = d + 1 := h3; omega
        | succ m => exact absurd (h4 0 (by omega)) h
theorem nth_drop {α : Type} [Inhabited α] (l : List α) (a m : Nat) : nth (l.drop a) (m : Int) = nth l ((a + m : Nat) : Int) := by
  rw [nth_nat, nth_nat]; simp [List.getElem?_drop]
theorem mem_partsS {t : List Nd} {p k : Nat} : k ∈ partsS t p ↔ Par t p k ∧ k < t.length := by
  unfold partsS Par
  rw [mem_partsR]
  constructor
  · rintro ⟨m, h1, h2, h3, h4⟩
    rw [nth_drop] at h3
    simp only [List.length_drop] at h2
    refine ⟨⟨by omega, by rw [h1]; exact h3, fun j hj1 hj2 => ?_⟩, by omega⟩
    have := h4 (j - (p + 1)) (by omega)
    rw [nth_drop] at this
    have e : p + 1 + (j - (p + 1)) = j := by omega
    rw [e] at this
    exact this
  · rintro ⟨⟨h1, h2, h3⟩, h4⟩
    refine ⟨k - (p + 1), by omega, by simp only [List.length_drop]; omega, ?_, fun j hj => ?_⟩
    · rw [nth_drop]
      have e : p + 1 + (k - (p + 1)) = k := by omega
      rw [e]; exact h2
    · rw [nth_drop]
      exact h3 _ (by omega) (by omega)
theorem incR (d : Int) : ∀ (r : List Nd) (k : Nat), (partsR d r k).Pairwise (· < ·)
  | [], k => by rw [partsR]; exact .nil
  | n :: r, k => by
    rw [partsR]
    split
    · split
      · refine .cons (fun x hx => ?_) (incR d r (k + 1))
        have := partsR_mem _ _ _ x hx
        omega
      · exact incR d r (k + 1)
    · exact .nil
theorem distI_iff (t : List Nd) : ∀ l : List Nat, l.Pairwise (· < ·) → (distI t l = true ↔ ∀ x ∈ l, ∀ y ∈ l, x < y → (nth t (x : Int)).key ≠ (nth t (y : Int)).key)
  | [], _ => by simp [distI]
  | a :: l, h => by
    cases h with
    | cons h1 h2 =>
      rw [distI, Bool.and_eq_true, distI_iff t l h2]
      constructor
      · rintro ⟨q1, q2⟩ x hx y hy hxy
        rcases List.mem_cons.1 hx with hx1 | hx1
        · rcases List.mem_cons.1 hy with hy1 | hy1
          · omega
          · intro e
            rw [Bool.not_eq_true', List.any_eq_false] at q1
            rw [hx1] at e
            exact q1 y hy1 (by rw [e]; exact beq_self_eq_true _)
        · rcases List.mem_cons.1 hy with hy1 | hy1
          · have := h1 x hx1; omega
          · exact q2 x hx1 y hy1 hxy
      · intro q
        refine ⟨?_, fun x hx y hy => q x (List.mem_cons_of_mem _ hx) y (List.mem_cons_of_mem _ hy)⟩
        rw [Bool.not_eq_true', List.any_eq_false]
        intro y hy e
        exact q a (List.mem_cons_self ..) y (List.mem_cons_of_mem _ hy) (h1 y hy) (eq_of_beq e)
/-- no two parts of a map have one key -/
def Uniq (t : List Nd) (k : Nat) : Prop := ∀ j : Nat, k ≤ j → j < t.length → ∀ p : Nat, (nth t (p : Int)).kind = 1 → Par t p j → ∀ i : Nat, i < j → Par t p i → (nth t (i : Int)).key ≠ (nth t (j : Int)).key
theorem mapsOk_iff (t : List Nd) : mapsOk t = true ↔ Uniq t 1 := by
  unfold mapsOk Uniq
  rw [List.all_eq_true]
  constructor
  · intro h j hj hjl p hp hpj i hij hpi
    have h1 := h p (List.mem_range.2 (by have := hpj.1; omega))
    rw [hp] at h1
    have h1 : distI t (partsS t p) = true := by simpa using h1
    exact (distI_iff t _ (incR _ _ _)).1 h1 i (mem_partsS.2 ⟨hpi, by omega⟩) j (mem_partsS.2 ⟨hpj, hjl⟩) hij
  · intro h p hp
    by_cases hk : (nth t (p : Int)).kind = 1
    · have : distI t (partsS t p) = true := by
        refine (distI_iff t _ (incR _ _ _)).2 fun x hx y hy hxy => ?_
        have hx := mem_partsS.1 hx
        have hy := mem_partsS.1 hy
        exact h y (by have := hy.1.1; omega) hy.2 p hk hy.1 x hxy hx.1
      rw [this]; simp
    · have : ((nth t (p : Int)).kind == 1) = false := by simpa using hk
      rw [this]; rfl
/-! ### the open blocks, and the kinds by depth -/
def SI (t : List Nd) (k : Nat) (ks : List Int) : List OB → Prop
  | [] => True
  | b :: st => (∃ p : Nat, b.node = p ∧ p < k ∧ (nth t (p : Int)).depth = st.length ∧ (∀ j : Nat, p < j → j < k → (nth t (p : Int)).depth < (nth t (j : Int)).depth) ∧ nth ks (st.length : Int) = (nth t (p : Int)).kind ∧
      ((nth t (p : Int)).kind ≠ 2 → ∀ key, (alook key b.keys).isSome = true ↔ ∃ j : Nat, j < k ∧ Par t p j ∧ (nth t (j : Int)).key = key)) ∧ SI t k ks st
theorem si_drop {t : List Nd} {k : Nat} {ks : List Int} : ∀ {st : List OB} (m : Nat), SI t k ks st → SI t k ks (st.drop m)
  | [], m, h => by simpa using h
  | b :: st, 0, h => h
  | b :: st, m + 1, h => si_drop (st := st) m h.2
theorem nth_set_ne' {α : Type} [Inhabited α] (l : List α) (x : α) {i j : Nat} (h : i ≠ j) : nth (l.set i x) (j : Int) = nth l (j : Int) := nth_set_ne l x h
theorem si_next {t : List Nd} {k : Nat} {ks : List Int} {d : Nat} {v : Int} (hd : (nth t (k : Int)).depth = d) : ∀ {st : List OB}, st.length < d → SI t k ks st → SI t (k + 1) (ks.set d v) st
  | [], _, _ => trivial
  | b :: st, hl, ⟨⟨p, h1, h2, h3, h4, h5, h6⟩, hr⟩ => by
    simp only [List.length_cons] at hl
    refine ⟨⟨p, h1, by omega, h3, fun j hj1 hj2 => ?_, ?_, fun hk key => ?_⟩, si_next hd (by omega) hr⟩
    · by_cases hjk : j = k
      · subst hjk; rw [hd, h3]; omega
      · exact h4 j hj1 (by omega)
    · rw [nth_set_ne' _ _ (by omega)]; exact h5
    · rw [h6 hk key]
      constructor
      · rintro ⟨j, q1, q2⟩; exact ⟨j, by omega, q2⟩
      · rintro ⟨j, q1, q2, q3⟩
        by_cases hjk : j = k
        · subst hjk
          have := q2.2.1
          rw [hd, h3] at this
          omega
        · exact ⟨j, by omega, q2, q3⟩
theorem form_fits {n a : Nd} {q : Int} (h : formB n a q = true) : fitsB n a = true ∧ ((q = 1 ∧ (n.key.length : Int) ≤ 64) ∨ (q = 2 ∧ n.key = [])) := by
  unfold formB at h
  split at h
  · cases h
  rename_i h1
  split at h
  · cases h
  rename_i h2
  simp only [Bool.or_eq_true, Bool.and_eq_true, decide_eq_true_eq, beq_iff_eq, bne_iff_ne, not_or, not_and, ne_eq] at h h1 h2
  refine ⟨?_, h⟩
  unfold fitsB
  simp only [Bool.or_eq_true, Bool.and_eq_true, decide_eq_true_eq, beq_iff_eq, bne_iff_ne, ne_eq]
  refine ⟨⟨⟨⟨by omega, by omega⟩, by omega⟩, ?_⟩, ?_⟩
  · by_cases hd : n.depth ≤ a.depth
    · exact .inl hd
    · have : n.depth = a.depth + 1 := by omega
      exact .inr ⟨this, h2.2 this⟩
  · by_cases h3 : n.kind = 3
    · exact .inr h3
    · exact .inl (by have := h1.2 h3; simpa using this)
theorem fits_form {n a : Nd} {q : Int} (h : fitsB n a = true) (hq : (q = 1 ∧ (n.key.length : Int) ≤ 64) ∨ (q = 2 ∧ n.key = [])) : formB n a q = true := by
  unfold fitsB at h
  simp only [Bool.or_eq_true, Bool.and_eq_true, decide_eq_true_eq, beq_iff_eq, bne_iff_ne, ne_eq] at h
  obtain ⟨⟨⟨⟨h1, h2⟩, h3⟩, h4⟩, h5⟩ := h
  unfold formB
  rw [if_neg, if_neg]
  · simpa using hq
  · simp only [Bool.or_eq_true, Bool.and_eq_true, decide_eq_true_eq, beq_iff_eq, not_or, not_and]
    refine ⟨⟨⟨by omega, by omega⟩, by omega⟩, fun hd => ?_⟩
    rcases h4 with h4 | h4
    · omega
    · exact h4.2
  · simp only [Bool.or_eq_true, Bool.and_eq_true, decide_eq_true_eq, bne_iff_ne, ne_eq, not_or, not_and, Classical.not_not]
    refine ⟨⟨by omega, by omega⟩, fun hd => ?_⟩
    rcases h5 with h5 | h5
    · exact h5
    · exact absurd h5 hd
end Go.Proofs.YtgjhbapbomdpbaaDoor.C
/-! tree.Is answers as the document does: the induction. -/
namespace Go.Proofs.YtgjhbapbomdpbaaDoor.C
open Go.RowKit Go.Proofs.YtgjhbapbomdpbaaDoor.Sh
theorem par_uniq {t : List Nd} {p q k : Nat} (h1 : Par t p k) (h2 : Par t q k) : p = q := by
  obtain ⟨a1, a2, a3⟩ := h1
  obtain ⟨b1, b2, b3⟩ := h2
  rcases Nat.lt_trichotomy p q with h | h | h
  · have := a3 q h b1; omega
  · exact h
  · have := b3 p h a1; omega
theorem uniq_step {t : List Nd} {k : Nat} (hk : k < t.length) : Uniq t k ↔ Uniq t (k + 1) ∧ ∀ p : Nat, (nth t (p : Int)).kind = 1 → Par t p k → ∀ i : Nat, i < k → Par t p i → (nth t (i : Int)).key ≠ (nth t (k : Int)).key := by
  constructor
  · intro h
    exact ⟨fun j hj => h j (by omega), h k (Nat.le_refl _) hk⟩
  · rintro ⟨h1, h2⟩ j hj
    by_cases hjk : j = k
    · subst hjk; exact fun _ => h2
    · exact h1 j (by omega)
theorem is_main (t : List Nd) : ∀ (r : List Nd) (k : Nat) (st : List OB) (ks : List Int), r = t.drop k → 1 ≤ k → k ≤ t.length → SI t k ks st → (st.length : Int) = (nth t ((k : Int) - 1)).depth + 1 → (∃ s0, st = ⟨0, false, (k : Int) - 1, []⟩ :: s0) →
    (∀ b ∈ st.tail, (nth t b.node).kind = 1 ∨ (nth t b.node).kind = 2) → ((nth t ((k : Int) - 1)).kind = 1 ∨ (nth t ((k : Int) - 1)).kind = 2 ∨ (nth t ((k : Int) - 1)).kind = 3) → ks.length = 34 → 0 ≤ (nth t ((k : Int) - 1)).depth → (nth t ((k : Int) - 1)).depth ≤ 32 →
    (isGo t r (nth t ((k : Int) - 1)) k st = true ↔ formGo r (nth t ((k : Int) - 1)) ks = true ∧ Uniq t k)
  | [], k, st, ks, hr, hk1, hk2, hsi, hlen, hhd, htl, hkd, hksl, hd0, hd1 => by
    have : t.length ≤ k := by
      have := congrArg List.length hr
      simp only [List.length_nil, List.length_drop] at this
      omega
    rw [isGo, formGo]
    exact ⟨fun _ => ⟨rfl, fun j hj hjl => by omega⟩, fun _ => rfl⟩
  | n :: r, k, st, ks, hr, hk1, hk2, hsi, hlen, hhd, htl, hkd, hksl, hd0, hd1 => by
    have hkl : k < t.length := by
      have := congrArg List.length hr
      simp only [List.length_cons, List.length_drop] at this
      omega
    rw [drop_cons hkl] at hr
    injection hr with hn hr
    obtain ⟨a, ha⟩ : ∃ a, a = nth t ((k : Int) - 1) := ⟨_, rfl⟩
    rw [← ha] at hlen hkd hd0 hd1 ⊢
    by_cases hf : fitsB n a = true
    · have hff := hf
      unfold fitsB at hff
      simp only [Bool.or_eq_true, Bool.and_eq_true, decide_eq_true_eq, beq_iff_eq, bne_iff_ne, ne_eq] at hff
      obtain ⟨⟨⟨⟨hf1, hf2⟩, hf3⟩, hf4⟩, hf5⟩ := hff
      obtain ⟨d, hd⟩ : ∃ d : Nat, n.depth = d := ⟨n.depth.toNat, by omega⟩
      have hdt : n.depth.toNat = d := by omega
      have hdl : d ≤ st.length := by omega
      obtain ⟨b, r0, hb⟩ : ∃ b r0, st.drop (st.length - d) = b :: r0 := by
        refine List.exists_cons_of_ne_nil fun h => ?_
        have := congrArg List.length h
        simp only [List.length_drop, List.length_nil] at this
        omega
      have hbl : r0.length + 1 = d := by
        have := congrArg List.length hb
        simp only [List.length_drop, List.length_cons] at this
        omega
      have hsd := si_drop (st.length - d) hsi
      rw [hb] at hsd
      obtain ⟨⟨p, hp1, hp2, hp3, hp4, hp5, hp6⟩, hsr⟩ := hsd
      have hkd' : (nth t (k : Int)).depth = d := by rw [← hn]; exact hd
      have hpar : Par t p k := ⟨hp2, by rw [hkd', hp3]; omega, hp4⟩
      obtain ⟨s0, hs0⟩ := hhd
      have hr0t : ∀ x ∈ r0, x ∈ st.tail := by
        intro x hx
        rw [hs0, List.tail_cons]
        have hx2 : x ∈ (st.drop (st.length - d)).tail := by rw [hb]; exact hx
        rw [hs0] at hx2
        rw [List.tail_drop] at hx2
        exact List.mem_of_mem_drop (by rw [List.drop_succ_cons] at hx2; exact hx2)
      have hpk : (nth t (p : Int)).kind = 1 ∨ (nth t (p : Int)).kind = 2 := by
        by_cases hz : st.length - d = 0
        · rw [hz, List.drop_zero, hs0] at hb
          injection hb with hb1 hb2
          have hpe : (p : Int) = (k : Int) - 1 := by rw [← hp1, ← hb1]
          rw [hpe, ← ha]
          rcases hf4 with h | h
          · omega
          · rcases hkd with h1 | h1 | h1
            · exact .inl h1
            · exact .inr h1
            · exact absurd h1 h.2
        · have : b ∈ st.tail := by
            rw [hs0, List.tail_cons]
            have e : st.length - d = (st.length - d - 1) + 1 := by omega
            rw [e, hs0, List.drop_succ_cons] at hb
            exact List.mem_of_mem_drop (by rw [hb]; exact List.mem_cons_self ..)
          have := htl b this
          rw [hp1] at this
          exact this
      have hks1 : nth ks (n.depth - 1) = (nth t (p : Int)).kind := by
        have : n.depth - 1 = (r0.length : Int) := by omega
        rw [this]; exact hp5
      have hform : ∀ v : Bool, formB n a (nth t (p : Int)).kind = v → formGo (n :: r) a ks = (v && formGo r n (ks.set d n.kind)) := by
        intro v hv
        rw [formGo, hks1, hv, hdt]
        have q1 : decide (n.depth < 1) = false := decide_eq_false (by omega)
        have q2 : decide (32 < n.depth) = false := decide_eq_false (by omega)
        rw [q1, q2]
        cases v <;> simp
      have e1 : ((k + 1 : Nat) : Int) - 1 = k := by omega
      have IH : ∀ b' : OB, b'.node = p → ((nth t (p : Int)).kind ≠ 2 → ∀ key, (alook key b'.keys).isSome = true ↔ ∃ j : Nat, j < k + 1 ∧ Par t p j ∧ (nth t (j : Int)).key = key) →
          (isGo t r n ((k : Int) + 1) (⟨0, false, (k : Int), []⟩ :: b' :: r0) = true ↔ formGo r n (ks.set d n.kind) = true ∧ Uniq t (k + 1)) := by
        intro b' hb'n hb'k
        have := is_main t r (k + 1) (⟨0, false, (k : Int), []⟩ :: b' :: r0) (ks.set d n.kind) hr (by omega) (by omega) ?_ ?_ ⟨b' :: r0, by rw [e1]⟩ ?_ ?_ (by simp [hksl]) ?_ ?_
        · rw [e1, ← hn] at this
          exact this
        · refine ⟨⟨k, rfl, by omega, ?_, fun j hj1 hj2 => by omega, ?_, fun _ key => ?_⟩, ⟨p, hb'n, by omega, hp3, fun j hj1 hj2 => ?_, ?_, hb'k⟩, si_next hkd' (by omega) hsr⟩
          · rw [hkd']; simp only [List.length_cons]; omega
          · have : ((b' :: r0).length : Int) = (d : Int) := by simp only [List.length_cons]; omega
            rw [this, nth_set_eq _ _ (by omega), hn]
          · constructor
            · intro h; simp [alook] at h
            · rintro ⟨j, q1, q2, -⟩
              have := q2.1
              omega
          · by_cases hjk : j = k
            · subst hjk; rw [hkd', hp3]; omega
            · exact hp4 j hj1 (by omega)
          · rw [nth_set_ne' _ _ (by omega)]; exact hp5
        · rw [e1, ← hn, hd]; simp only [List.length_cons]; omega
        · intro x hx
          rw [List.tail_cons] at hx
          rcases List.mem_cons.1 hx with rfl | hx
          · rw [hb'n]; exact hpk
          · exact htl x (hr0t x hx)
        · rw [e1, ← hn]
          rcases hf1 with (h | h) | h
          · exact .inl h
          · exact .inr (.inl h)
          · exact .inr (.inr h)
        · rw [e1, ← hn]; omega
        · rw [e1, ← hn]; omega
      rw [uniq_step hkl]
      rw [isGo, if_neg (by rw [hf]; decide), hdt, hb]
      simp only
      rw [hp1]
      rcases hpk with hpk | hpk
      · -- a map
        rw [if_neg (by rw [hpk]; decide)]
        by_cases hlen64 : (n.key.length : Int) ≤ 64
        · rw [hform true (fits_form hf (.inl ⟨hpk, hlen64⟩)), Bool.true_and]
          by_cases hdup : (alook n.key b.keys).isSome = true
          · rw [if_pos (by rw [hdup]; rfl)]
            obtain ⟨j, q1, q2, q3⟩ := (hp6 (by rw [hpk]; decide) n.key).1 hdup
            constructor
            · intro h; cases h
            · rintro ⟨-, -, h⟩
              exact absurd (by rw [q3, hn]) (h p hpk hpar j q1 q2)
          · rw [if_neg (by simp [hdup]; omega)]
            have := IH { b with keys := aput n.key (w64 ((alook n.key b.keys).getD 0 + 1)) b.keys } hp1 (fun h2 key => by
              simp only [alook_aput]
              constructor
              · intro h
                by_cases hke : n.key = key
                · exact ⟨k, by omega, hpar, by rw [← hn]; exact hke⟩
                · rw [if_neg hke] at h
                  obtain ⟨j, q1, q2⟩ := (hp6 h2 key).1 h
                  exact ⟨j, by omega, q2⟩
              · rintro ⟨j, q1, q2, q3⟩
                by_cases hke : n.key = key
                · rw [if_pos hke]; rfl
                · rw [if_neg hke]
                  refine (hp6 h2 key).2 ⟨j, ?_, q2, q3⟩
                  by_cases hjk : j = k
                  · subst hjk; rw [← hn] at q3; exact absurd q3 hke
                  · omega)
            rw [hp1] at this
            rw [this]
            constructor
            · rintro ⟨q1, q2⟩
              refine ⟨q1, q2, fun p' hp' hpar' i hi hpi e => ?_⟩
              have := par_uniq hpar hpar'
              subst this
              exact hdup ((hp6 (by rw [hpk]; decide) n.key).2 ⟨i, hi, hpi, by rw [e, hn]⟩)
            · rintro ⟨q1, q2, -⟩; exact ⟨q1, q2⟩
        · rw [if_pos (by simp; right; omega)]
          constructor
          · intro h; cases h
          · rintro ⟨h, -⟩
            cases hv : formB n a (nth t (p : Int)).kind with
            | false => rw [hform false hv] at h; cases h
            | true =>
              rcases (form_fits hv).2 with q | q
              · exact absurd q.2 hlen64
              · rw [hpk] at q; exact absurd q.1 (by decide)
      · -- a list
        rw [if_pos hpk]
        by_cases hkey : n.key = []
        · rw [if_neg (by simp [hkey]), hform true (fits_form hf (.inr ⟨hpk, hkey⟩)), Bool.true_and]
          have := IH b hp1 (fun h => absurd hpk h)
          rw [this]
          constructor
          · rintro ⟨q1, q2⟩
            refine ⟨q1, q2, fun p' hp' hpar' => ?_⟩
            have := par_uniq hpar hpar'
            subst this
            rw [hpk] at hp'
            exact absurd hp' (by decide)
          · rintro ⟨q1, q2, -⟩; exact ⟨q1, q2⟩
        · rw [if_pos hkey]
          constructor
          · intro h; cases h
          · rintro ⟨h, -⟩
            cases hv : formB n a (nth t (p : Int)).kind with
            | false => rw [hform false hv] at h; cases h
            | true =>
              rcases (form_fits hv).2 with q | q
              · rw [hpk] at q; exact absurd q.1 (by decide)
              · exact absurd q.2 hkey
    · rw [isGo, if_pos (by simpa using hf)]
      constructor
      · intro h; cases h
      · rintro ⟨h, -⟩
        rw [formGo] at h
        split at h
        · cases h
        · rename_i h1
          simp only [Bool.or_eq_true, not_or, Bool.not_eq_true', Bool.not_eq_false] at h1
          exact absurd (form_fits h1.2).1 hf
theorem is_ref (t : List Nd) : isS t = refIsS t := by
  cases t with
  | nil => rfl
  | cons a r =>
    unfold isS refIsS
    simp only
    split
    · rfl
    split
    · rfl
    rename_i h1 h2
    have hro : rootOk a = true := by simpa using h2
    have hrr : a.kind = 1 ∧ a.depth = 0 := by
      unfold rootOk at hro
      simp at hro
      omega
    have := is_main (a :: r) r 1 [⟨0, false, 0, []⟩] ks0 rfl (Nat.le_refl _) (by simp) ⟨⟨0, rfl, by omega, by show a.depth = 0; exact hrr.2, fun j h1 h2 => by omega, by show (1 : Int) = a.kind; exact hrr.1.symm, fun _ key => ⟨fun h => by simp [alook] at h, fun ⟨j, q1, q2, _⟩ => by have := q2.1; omega⟩⟩, trivial⟩
      (by show (1 : Int) = a.depth + 1; omega) ⟨[], rfl⟩ (fun b hb => by cases hb) (.inl hrr.1) rfl (by show 0 ≤ a.depth; omega) (by show a.depth ≤ 32; omega)
    have this : isGo (a :: r) r a 1 [⟨0, false, 0, []⟩] = true ↔ formGo r a ks0 = true ∧ Uniq (a :: r) 1 := this
    rw [← mapsOk_iff] at this
    cases hfg : formGo r a ks0 with
    | false =>
      rw [if_pos rfl]
      cases hi : isGo (a :: r) r a 1 [⟨0, false, 0, []⟩] with
      | false => rfl
      | true => have := (this.1 hi).1; rw [hfg] at this; cases this
    | true =>
      rw [if_neg (by decide)]
      cases hm : mapsOk (a :: r) with
      | true => exact this.2 ⟨hfg, hm⟩
      | false =>
        cases hi : isGo (a :: r) r a 1 [⟨0, false, 0, []⟩] with
        | false => rfl
        | true => have := (this.1 hi).2; rw [hm] at this; cases this
theorem ris_wf2 {t : List Nd} (h : refIsS t = true) : 0 < t.length ∧ t.length ≤ 16384 ∧ ∀ j : Nat, j < t.length → (0 ≤ (nth t (j : Int)).depth ∧ (nth t (j : Int)).depth ≤ 32) ∧ (j + 1 < t.length → (nth t ((j + 1 : Nat) : Int)).depth ≤ (nth t (j : Int)).depth + 1) := by
  cases t with
  | nil => cases h
  | cons a r =>
    unfold refIsS at h
    simp only at h
    split at h
    · cases h
    rename_i hl
    split at h
    · cases h
    rename_i hro
    split at h
    · cases h
    rename_i hfg
    have hfg : formGo r a ks0 = true := by simpa using hfg
    have hro : rootOk a = true := by simpa using hro
    have hd0 : a.depth = 0 := by unfold rootOk at hro; simp at hro; omega
    have h1 := formGo_wf r a ks0 hfg
    refine ⟨by simp, by omega, fun j hj => ⟨?_, fun hj1 => ?_⟩⟩
    · cases j with
      | zero => show 0 ≤ a.depth ∧ a.depth ≤ 32; omega
      | succ j => rw [nth_cons_s]; have := h1 j (by simpa using hj); omega
    · rw [nth_cons_s]
      exact (h1 j (by simpa using hj1)).2.2
theorem isS_deep0 {t : List Nd} (h : isS t = true) : ∀ n ∈ t.drop 1, 1 ≤ n.depth := by
  cases t with
  | nil => simp
  | cons a r =>
    unfold isS at h
    simp only at h
    split at h
    · cases h
    split at h
    · cases h
    · exact fun n hn => (isGo_depth _ _ _ _ _ h n hn).1
theorem isS_deep' {a : Nd} {r : List Nd} (h : isS (a :: r) = true) : ∀ n ∈ r, 1 ≤ n.depth := isS_deep0 h
end Go.Proofs.YtgjhbapbomdpbaaDoor.C
/- Trees as forests: a list of nodes is a tree just if it is a root and a good forest, laid flat. -/
set_option linter.unusedVariables false
set_option linter.unusedSimpArgs false
set_option maxRecDepth 10000
namespace Go.Proofs.YtgjhbapbomdpbaaDoor.C
open Go.RowKit Go.Proofs.YtgjhbapbomdpbaaDoor.Sh
/-- some trees, one behind the other: the first one's node, what is in it, and the others -/
inductive RF where
  | nil
  | cons (n : Nd) (k : RF) (r : RF)
namespace RF
def flat : RF → List Nd
  | .nil => []
  | .cons n k r => n :: (k.flat ++ r.flat)
def at_ : RF → Int → Prop
  | .nil, _ => True
  | .cons n k r, d => n.depth = d ∧ k.at_ (d + 1) ∧ r.at_ d
/-- the keys that a block has behind these entries -/
def keysA : RF → List (Bs × Int) → List (Bs × Int)
  | .nil, m => m
  | .cons n _ r, m => r.keysA (aput n.key (w64 ((alook n.key m).getD 0 + 1)) m)
/-- what is in a node that is a text: nothing -/
def leafOk (n : Nd) : RF → Bool
  | .nil => true
  | .cons .. => n.kind != 3
def good : RF → Int → List (Bs × Int) → Bool
  | .nil, _, _ => true
  | .cons n k r, q, m =>
    (((n.kind == 1 || n.kind == 2) || n.kind == 3) && (decide (1 ≤ n.depth) && decide (n.depth ≤ 32)) && (n.text == [] || n.kind == 3)) &&
    leafOk n k &&
    (if q = 2 then n.key == [] else !((alook n.key m).isSome || decide ((64 : Int) < n.key.length))) && (k.good n.kind [] && r.good q (if q = 2 then m else aput n.key (w64 ((alook n.key m).getD 0 + 1)) m))
end RF
open RF
theorem at_deep : ∀ (F : RF) (d : Int), F.at_ d → ∀ n ∈ F.flat, d ≤ n.depth
  | .nil, d, _, n, h => by cases h
  | .cons x k r, d, ⟨h1, h2, h3⟩, n, h => by
    rcases List.mem_cons.1 h with rfl | h
    · omega
    rcases List.mem_append.1 h with h | h
    · have := at_deep k (d + 1) h2 n h; omega
    · exact at_deep r d h3 n h
/-- steps of depth at most one down -/
def chainD : Int → List Nd → Prop
  | _, [] => True
  | d, n :: r => n.depth ≤ d + 1 ∧ chainD n.depth r
theorem chain_append : ∀ (l1 l2 : List Nd) (d : Int), chainD d (l1 ++ l2) → (∀ n ∈ l1, d ≤ n.depth) → ∃ e, chainD e l2
  | [], l2, d, h, _ => ⟨d, h⟩
  | n :: l1, l2, d, h, _ => by
    have : ∀ (l1 l2 : List Nd) (d : Int), chainD d (l1 ++ l2) → ∃ e, chainD e l2 := by
      intro l1
      induction l1 with
      | nil => exact fun l2 d h => ⟨d, h⟩
      | cons x l1 ih => exact fun l2 d h => ih l2 _ h.2
    exact this l1 l2 _ h.2
theorem forest_build : ∀ (m : Nat) (l : List Nd) (d e : Int), l.length ≤ m → chainD e l → (∀ n, l.head? = some n → n.depth ≤ d) →
    ∃ (F : RF) (rest : List Nd), l = F.flat ++ rest ∧ F.at_ d ∧ (∀ n, rest.head? = some n → n.depth < d)
  | 0, l, d, e, hl, _, _ => by
    obtain rfl := List.eq_nil_of_length_eq_zero (Nat.le_zero.1 hl)
    exact ⟨.nil, [], rfl, trivial, by simp⟩
  | m + 1, [], d, e, hl, _, _ => ⟨.nil, [], rfl, trivial, by simp⟩
  | m + 1, n :: r, d, e, hl, hc, hh => by
    by_cases hd : n.depth < d
    · exact ⟨.nil, n :: r, rfl, trivial, by simpa using hd⟩
    have hnd : n.depth = d := by have := hh n rfl; omega
    simp only [List.length_cons] at hl
    obtain ⟨K, r1, e1, k1, h1⟩ := forest_build m r (d + 1) n.depth (by omega) hc.2 (by
      intro x hx
      cases r with
      | nil => cases hx
      | cons y r => injection hx with hx; subst hx; have := hc.2.1; omega)
    have hl1 : r1.length ≤ r.length := by rw [e1]; simp
    have hc1 : ∃ e', chainD e' r1 := by
      have := hc.2
      rw [e1] at this
      have key : ∀ (l1 l2 : List Nd) (d : Int), chainD d (l1 ++ l2) → ∃ e, chainD e l2 := by
        intro l1
        induction l1 with
        | nil => exact fun l2 d h => ⟨d, h⟩
        | cons x l1 ih => exact fun l2 d h => ih l2 _ h.2
      exact key _ _ _ this
    obtain ⟨e', hc1⟩ := hc1
    obtain ⟨R, r2, e2, k2, h2⟩ := forest_build m r1 d e' (by omega) hc1 (by intro x hx; have := h1 x hx; omega)
    exact ⟨.cons n K R, r2, by rw [e1, e2]; simp [RF.flat], ⟨hnd, k1, k2⟩, h2⟩
theorem stI_eq {t : List Nd} {n a : Nd} {i : Int} {st : List OB} {b : OB} {s : List OB} (hd : st.drop (st.length - n.depth.toNat) = b :: s) :
    stI t a n i st = if (fitsB n a && (if (nth t b.node).kind = 2 then n.key == [] else !((alook n.key b.keys).isSome || decide ((64 : Int) < n.key.length)))) = true then
      some (⟨0, false, i, []⟩ :: (if (nth t b.node).kind = 2 then b else { b with keys := aput n.key (w64 ((alook n.key b.keys).getD 0 + 1)) b.keys }) :: s) else none := by
  unfold stI
  rw [hd]
  by_cases h1 : fitsB n a = false
  · rw [if_pos h1, if_neg (by simp [h1])]
  have h1' : fitsB n a = true := by simpa using h1
  rw [if_neg h1]
  simp only
  by_cases h2 : (nth t b.node).kind = 2
  · rw [if_pos h2, if_pos h2, if_pos h2, h1']
    by_cases h3 : n.key ≠ []
    · rw [if_pos h3, if_neg (by simpa using h3)]
    · have h3 : n.key = [] := by simpa using h3
      rw [if_neg (by simp [h3]), if_pos (by simp [h3])]
  · rw [if_neg h2, if_neg h2, if_neg h2, h1']
    by_cases h3 : ((alook n.key b.keys).isSome || decide ((64 : Int) < n.key.length)) = true
    · rw [if_pos h3, if_neg (by simp [h3])]
    · rw [if_neg h3, if_pos (by simp at h3 ⊢; exact h3)]
/-- the last node of a list behind one -/
def lastN : Nd → List Nd → Nd
  | a, [] => a
  | _, n :: r => lastN n r
theorem lastN_app : ∀ (l1 l2 : List Nd) (a : Nd), lastN a (l1 ++ l2) = lastN (lastN a l1) l2
  | [], _, _ => rfl
  | n :: l1, l2, a => lastN_app l1 l2 n
theorem lastN_deep : ∀ (l : List Nd) (a : Nd) (d : Int), d ≤ a.depth → (∀ n ∈ l, d ≤ n.depth) → d ≤ (lastN a l).depth
  | [], _, _, h, _ => h
  | n :: l, a, d, _, h => lastN_deep l n d (h n (List.mem_cons_self ..)) (fun x hx => h x (List.mem_cons_of_mem _ hx))
theorem isGo_forest (t : List Nd) : ∀ (F : RF) (d : Nat) (q : Int) (b : OB) (s : List OB) (a : Nd) (i : Int) (st : List OB) (rest : List Nd), F.at_ d → 1 ≤ d → st.drop (st.length - d) = b :: s → s.length + 1 = d → (nth t b.node).kind = q →
    ((d : Int) ≤ a.depth ∨ ((d : Int) = a.depth + 1 ∧ a.kind ≠ 3)) ∨ F = .nil → (∀ (j : Nat) n, F.flat[j]? = some n → nth t (i + j) = n) →
    ∃ st2, st2.drop (st2.length - d) = { b with keys := if q = 2 then b.keys else F.keysA b.keys } :: s ∧ isGo t (F.flat ++ rest) a i st = (F.good q b.keys && isGo t rest (lastN a F.flat) (i + F.flat.length) st2)
  | .nil, d, q, b, s, a, i, st, rest, hat, h1, hst, hs, hq, ha, hn => by
    refine ⟨st, ?_, by simp [RF.flat, RF.good, lastN]⟩
    rw [hst]
    simp [RF.keysA]
  | .cons n k r, d, q, b, s, a, i, st, rest, ⟨hnd, hk, hr⟩, h1, hst, hs, hq, ha, hn => by
    have ha : (d : Int) ≤ a.depth ∨ ((d : Int) = a.depth + 1 ∧ a.kind ≠ 3) := by
      rcases ha with ha | ha
      · exact ha
      · cases ha
    have hdn : n.depth.toNat = d := by omega
    have e1 : (RF.cons n k r).flat ++ rest = n :: (k.flat ++ (r.flat ++ rest)) := by simp [RF.flat]
    have hst' := hst
    rw [← hdn] at hst'
    rw [e1, isGo_cons, stI_eq hst', hq]
    have hni : nth t i = n := by have := hn 0 n rfl; simpa using this
    have hfit : fitsB n a = (((n.kind == 1 || n.kind == 2) || n.kind == 3) && (decide (1 ≤ n.depth) && decide (n.depth ≤ 32)) && (n.text == [] || n.kind == 3)) := by
      have hx : (decide (n.depth ≤ a.depth) || (n.depth == a.depth + 1 && a.kind != 3)) = true := by
        rw [hnd]
        rcases ha with ha | ⟨ha, hb⟩
        · simp [ha]
        · simp [ha, hb]
      unfold fitsB
      revert hx
      generalize (decide (n.depth ≤ a.depth) || (n.depth == a.depth + 1 && a.kind != 3)) = x
      rintro rfl
      cases (n.kind == 1 || n.kind == 2) || n.kind == 3 <;> cases decide (1 ≤ n.depth) <;> cases decide (n.depth ≤ 32) <;> rfl
    have hgood : (RF.cons n k r).good q b.keys = ((((n.kind == 1 || n.kind == 2) || n.kind == 3) && (decide (1 ≤ n.depth) && decide (n.depth ≤ 32)) && (n.text == [] || n.kind == 3)) &&
    leafOk n k &&
    (if q = 2 then n.key == [] else !((alook n.key b.keys).isSome || decide ((64 : Int) < n.key.length))) && (k.good n.kind [] && r.good q (if q = 2 then b.keys else aput n.key (w64 ((alook n.key b.keys).getD 0 + 1)) b.keys))) := by
      cases k <;> rfl
    rw [hgood, hfit]
    generalize hg1 : (((n.kind == 1 || n.kind == 2) || n.kind == 3) && (decide (1 ≤ n.depth) && decide (n.depth ≤ 32)) && (n.text == [] || n.kind == 3)) = g1
    generalize hg2 : (if q = 2 then n.key == [] else !((alook n.key b.keys).isSome || decide ((64 : Int) < n.key.length))) = g2
    obtain ⟨b', hb'⟩ : ∃ b', b' = (if q = 2 then b else { b with keys := aput n.key (w64 ((alook n.key b.keys).getD 0 + 1)) b.keys } : OB) := ⟨_, rfl⟩
    rw [← hb']
    have hbn : b'.node = b.node := by rw [hb']; split <;> rfl
    have hbk : b'.keys = if q = 2 then b.keys else aput n.key (w64 ((alook n.key b.keys).getD 0 + 1)) b.keys := by rw [hb']; split <;> rfl
    -- what is in the node
    have hnk : ∀ (j : Nat) x, k.flat[j]? = some x → nth t ((i + 1) + j) = x := by
      intro j x hx
      have hj := (List.getElem?_eq_some_iff.1 hx).1
      have := hn (j + 1) x (by simp only [RF.flat, List.getElem?_cons_succ]; rw [List.getElem?_append_left hj]; exact hx)
      rw [← this]; congr 1; omega
    have hnr : ∀ (j : Nat) x, r.flat[j]? = some x → nth t (((i + 1) + k.flat.length) + j) = x := by
      intro j x hx
      have := hn (k.flat.length + j + 1) x (by
        simp only [RF.flat, List.getElem?_cons_succ]
        rw [List.getElem?_append_right (by omega), Nat.add_sub_cancel_left]; exact hx)
      rw [← this]; congr 1; omega
    have hdd1 : ((d : Int) + 1) = ((d + 1 : Nat) : Int) := by omega
    have hstk : (⟨0, false, i, []⟩ :: b' :: s : List OB).drop ((⟨0, false, i, []⟩ :: b' :: s : List OB).length - (d + 1)) = (⟨0, false, i, []⟩ : OB) :: (b' :: s) := by
      have : (⟨0, false, i, []⟩ :: b' :: s : List OB).length - (d + 1) = 0 := by simp only [List.length_cons]; omega
      rw [this]; rfl
    have hlast : ∀ x : Nd, (d : Int) ≤ (lastN n k.flat).depth := fun _ => lastN_deep k.flat n d (by omega) fun x hx => by have := at_deep k _ hk x hx; omega
    have hkl : lastN a (RF.cons n k r).flat = lastN (lastN n k.flat) r.flat := by simp [RF.flat, lastN, lastN_app]
    have hlen : i + ((RF.cons n k r).flat.length : Nat) = ((i + 1) + k.flat.length) + r.flat.length := by simp [RF.flat]; omega
    by_cases hk3 : leafOk n k = true
    · obtain ⟨st1, s1, s2⟩ := isGo_forest t k (d + 1) n.kind ⟨0, false, i, []⟩ (b' :: s) n (i + 1) (⟨0, false, i, []⟩ :: b' :: s) (r.flat ++ rest) (by rw [← hdd1]; exact hk) (by omega) hstk (by simp only [List.length_cons]; omega) (by rw [hni])
        (by
          cases k with
          | nil => exact .inr rfl
          | cons x y z => exact .inl (.inr ⟨by omega, by simpa [leafOk] using hk3⟩)) hnk
      have hst1 : st1.drop (st1.length - d) = b' :: s := by
        have hl := congrArg List.length s1
        simp only [List.length_drop, List.length_cons] at hl
        have e : st1.length - d = (st1.length - (d + 1)) + 1 := by omega
        rw [e, ← List.drop_drop, s1]; rfl
      obtain ⟨st2, u1, u2⟩ := isGo_forest t r d q b' s (lastN n k.flat) ((i + 1) + k.flat.length) st1 rest hr h1 hst1 hs (by rw [hbn]; exact hq) (.inl (.inl (hlast n))) hnr
      refine ⟨st2, ?_, ?_⟩
      · rw [u1, hbk]
        congr 1
        rw [hb']
        by_cases h2 : q = 2
        · simp [h2]
        · simp [h2, RF.keysA]
      · rw [hkl, hlen, hbk] at *
        cases g1 with
        | false => simp
        | true =>
          cases g2 with
          | false => simp
          | true =>
            simp only [Bool.and_self, if_true]
            rw [s2, u2]
            simp only [Bool.true_and, Bool.and_assoc]
            rw [hk3]
            simp
    · have hk3 : leafOk n k = false := by simpa using hk3
      cases k with
      | nil => cases hk3
      | cons x y z =>
        have hn3 : n.kind = 3 := by simpa [leafOk] using hk3
        have hx : fitsB x n = false := by
          unfold fitsB
          have : x.depth = d + 1 := hk.1
          have e : (decide (x.depth ≤ n.depth) || (x.depth == n.depth + 1 && n.kind != 3)) = false := by rw [hn3]; simp; omega
          rw [e]
          simp
        refine ⟨{ b with keys := if q = 2 then b.keys else (RF.cons n (.cons x y z) r).keysA b.keys } :: s, by
          have : ({ b with keys := if q = 2 then b.keys else (RF.cons n (.cons x y z) r).keysA b.keys } :: s : List OB).length - d = 0 := by simp only [List.length_cons]; omega
          rw [this]; rfl, ?_⟩
        have e5 : leafOk n (.cons x y z) = false := by simp [leafOk, hn3]
        have e4 : ∀ st', isGo t ((RF.cons x y z).flat ++ (r.flat ++ rest)) n (i + 1) st' = false := by
          intro st'
          have : (RF.cons x y z).flat ++ (r.flat ++ rest) = x :: ((y.flat ++ z.flat) ++ (r.flat ++ rest)) := by simp [RF.flat]
          rw [this, isGo, if_pos hx]
        simp only [e5]
        split <;> simp_all
theorem is_forest (a : Nd) (F : RF) (h : F.at_ 1) : isS (a :: F.flat) = (decide ((a :: F.flat).length ≤ 16384) && rootOk a && F.good 1 []) := by
  unfold isS
  simp only
  by_cases h1 : (16384 : Int) < ((a :: F.flat).length : Int)
  · rw [if_pos h1]
    have : decide ((a :: F.flat).length ≤ 16384) = false := by rw [decide_eq_false_iff_not]; omega
    rw [this]; simp
  rw [if_neg h1]
  have e1 : decide ((a :: F.flat).length ≤ 16384) = true := by rw [decide_eq_true_eq]; omega
  rw [e1]
  by_cases h2 : rootOk a = true
  · have hr := h2
    unfold rootOk at hr
    simp at hr
    rw [if_neg (by rw [h2]; decide), h2]
    obtain ⟨st2, -, u⟩ := isGo_forest (a :: F.flat) F 1 1 ⟨0, false, 0, []⟩ [] a 1 [⟨0, false, 0, []⟩] [] h (Nat.le_refl _) rfl rfl (by
      show (nth (a :: F.flat) ((0 : Nat) : Int)).kind = 1
      rw [nth_nat]; exact hr.1.1.1) (.inl (.inr ⟨by rw [hr.1.1.2]; rfl, by rw [hr.1.1.1]; decide⟩)) (by
      intro j n hj
      have : ((1 : Int) + j) = ((j + 1 : Nat) : Int) := by omega
      rw [this]
      exact nth_of (by simpa using hj))
    rw [List.append_nil] at u
    have : isGo (a :: F.flat) F.flat a 1 [⟨0, false, 0, []⟩] = F.good 1 [] := by rw [u, isGo]; simp
    simpa using this
  · have h2 : rootOk a = false := by simpa using h2
    rw [if_pos h2, h2]; simp
theorem is_build {t : List Nd} (h : isS t = true) : ∃ (a : Nd) (F : RF), t = a :: F.flat ∧ F.at_ 1 := by
  cases t with
  | nil => cases h
  | cons a r =>
    have hw := ris_wf2 (by rw [← is_ref]; exact h)
    have ha : a.depth = 0 := by
      unfold isS at h
      simp only at h
      split at h
      · cases h
      split at h
      · cases h
      · rename_i h1
        have hr : rootOk a = true := by simpa using h1
        unfold rootOk at hr
        simp at hr
        exact hr.1.1.2
    have hch : ∀ (l1 l2 : List Nd), (a :: r) = l1 ++ l2 → ∀ d, (∀ x, l1.getLast? = some x → x.depth = d) → (l1 = [] → d = -1) → chainD d l2 := by
      intro l1 l2
      induction l2 generalizing l1 with
      | nil => intros; trivial
      | cons n l2 ih =>
        intro e d h1 h2
        refine ⟨?_, ih (l1 ++ [n]) (by rw [e]; simp) n.depth (by simp) (by simp)⟩
        cases hl : l1.getLast? with
        | none =>
          have hl := List.getLast?_eq_none_iff.1 hl
          subst hl
          injection e with e1 e2
          rw [h2 rfl, ← e1, ha]; omega
        | some x =>
          have hx := h1 x hl
          have hne : l1 ≠ [] := by rintro rfl; cases hl
          have hlp := List.length_pos_iff.2 hne
          have g1 : (a :: r)[l1.length - 1]? = some x := by
            rw [e, List.getElem?_append_left (by omega), ← List.getLast?_eq_getElem?]; exact hl
          have g2 : (a :: r)[l1.length]? = some n := by rw [e]; simp
          have := (hw.2.2 (l1.length - 1) (by rw [e]; simp; omega)).2 (by rw [e]; simp; omega)
          have e3 : l1.length - 1 + 1 = l1.length := by omega
          rw [e3, nth_of g1, nth_of g2, hx] at this
          exact this
    have hc := hch [a] r rfl 0 (by simp [ha]) (by simp)
    obtain ⟨F, rest, e1, e2, e3⟩ := forest_build r.length r 1 0 (Nat.le_refl _) hc (by
      intro n hn
      cases r with
      | nil => cases hn
      | cons x r => injection hn with hn; subst hn; have := hc.1; omega)
    have hrest : rest = [] := by
      cases rest with
      | nil => rfl
      | cons x rest =>
        have h1 := e3 x rfl
        have h2 := isS_deep' h x (by rw [e1]; simp)
        omega
    subst hrest
    rw [List.append_nil] at e1
    exact ⟨a, F, by rw [e1], e2⟩
end Go.Proofs.YtgjhbapbomdpbaaDoor.C
/- Trees laid over trees, as forests. -/
set_option linter.unusedVariables false
set_option linter.unusedSimpArgs false
set_option maxRecDepth 10000
namespace Go.Proofs.YtgjhbapbomdpbaaDoor.C
open Go.RowKit Go.Proofs.YtgjhbapbomdpbaaDoor.Sh
/-! ### 1. forests -/
theorem cong2 {α β γ : Type} (f : α → β → γ) {a a' : α} {b b' : β} (h1 : a = a') (h2 : b = b') : f a b = f a' b' := by rw [h1, h2]
namespace RF
def keysL : RF → List Bs
  | .nil => []
  | .cons n _ r => n.key :: r.keysL
def app : RF → RF → RF
  | .nil, g => g
  | .cons n k r, g => .cons n k (r.app g)
def findR : RF → Bs → Option (Nd × RF)
  | .nil, _ => none
  | .cons n k r, key => if n.key = key then some (n, k) else r.findR key
/-- those whose keys are none of these -/
def rest (ks : List Bs) : RF → RF
  | .nil => .nil
  | .cons n k r => if n.key ∈ ks then r.rest ks else .cons n k (r.rest ks)
def layA : RF → RF → RF
  | .nil, _ => .nil
  | .cons n k r, B => match B.findR n.key with
    | some (m, km) => if n.kind = 1 ∧ m.kind = 1 then .cons m ((k.layA km).app (km.rest k.keysL)) (r.layA B) else .cons m km (r.layA B)
    | none => .cons n k (r.layA B)
def layK (A B : RF) : RF := (A.layA B).app (B.rest A.keysL)
/-- what makes a forest below a node of kind q good -/
def GN : RF → Int → Prop
  | .nil, _ => True
  | .cons n k r, q => (((n.kind == 1 || n.kind == 2) || n.kind == 3) && (decide (1 ≤ n.depth) && decide (n.depth ≤ 32)) && (n.text == [] || n.kind == 3)) = true ∧ leafOk n k = true ∧ (q = 2 → n.key = []) ∧ (q ≠ 2 → n.key.length ≤ 64 ∧ n.key ∉ r.keysL) ∧ k.GN n.kind ∧ r.GN q
end RF
open RF
theorem flat_app : ∀ F G : RF, (F.app G).flat = F.flat ++ G.flat
  | .nil, G => rfl
  | .cons n k r, G => by simp [RF.app, RF.flat, flat_app r G]
theorem keysL_app : ∀ F G : RF, (F.app G).keysL = F.keysL ++ G.keysL
  | .nil, G => rfl
  | .cons n k r, G => by simp [RF.app, RF.keysL, keysL_app r G]
theorem at_app : ∀ (F G : RF) (d : Int), F.at_ d → G.at_ d → (F.app G).at_ d
  | .nil, G, d, _, h => h
  | .cons n k r, G, d, ⟨h1, h2, h3⟩, h => ⟨h1, h2, at_app r G d h3 h⟩
theorem good_iff : ∀ (F : RF) (q : Int) (m : List (Bs × Int)), F.good q m = true ↔ F.GN q ∧ (q ≠ 2 → ∀ key ∈ F.keysL, (alook key m).isSome = false)
  | .nil, q, m => by simp [RF.good, RF.GN, RF.keysL]
  | .cons n k r, q, m => by
    have e : (RF.cons n k r).good q m = ((((n.kind == 1 || n.kind == 2) || n.kind == 3) && (decide (1 ≤ n.depth) && decide (n.depth ≤ 32)) && (n.text == [] || n.kind == 3)) &&
    leafOk n k && (if q = 2 then n.key == [] else !((alook n.key m).isSome || decide ((64 : Int) < n.key.length))) && (k.good n.kind [] && r.good q (if q = 2 then m else aput n.key (w64 ((alook n.key m).getD 0 + 1)) m))) := by
      cases k <;> rfl
    rw [e]
    simp only [RF.GN, RF.keysL]
    generalize (((n.kind == 1 || n.kind == 2) || n.kind == 3) && (decide (1 ≤ n.depth) && decide (n.depth ≤ 32)) && (n.text == [] || n.kind == 3)) = g0
    have i1 := good_iff k n.kind []
    by_cases hq : q = 2
    · have i2 := good_iff r q m
      simp only [if_pos hq]
      simp only [Bool.and_eq_true, i1, i2]
      constructor
      · rintro ⟨⟨⟨a1, a2⟩, a3⟩, a4, a5⟩
        exact ⟨⟨a1, a2, fun _ => by simpa using a3, fun h => (h hq).elim, a4.1, a5.1⟩, fun h => (h hq).elim⟩
      · rintro ⟨⟨a1, a2, a3, a4, a5, a6⟩, a7⟩
        exact ⟨⟨⟨a1, a2⟩, by simpa using a3 hq⟩, ⟨a5, fun _ _ _ => rfl⟩, a6, fun h => (h hq).elim⟩
    · have i2 := good_iff r q (aput n.key (w64 ((alook n.key m).getD 0 + 1)) m)
      simp only [if_neg hq]
      simp only [Bool.and_eq_true, i1, i2]
      constructor
      · rintro ⟨⟨⟨a1, a2⟩, a3⟩, a4, a5, a6⟩
        simp only [Bool.not_eq_true', Bool.or_eq_false_iff, decide_eq_false_iff_not] at a3
        refine ⟨⟨a1, a2, fun h => (hq h).elim, fun _ => ⟨by omega, fun hm => ?_⟩, a4.1, a5⟩, fun _ key hk => ?_⟩
        · have := a6 hq n.key hm
          rw [alook_aput, if_pos rfl] at this
          cases this
        · rcases List.mem_cons.1 hk with rfl | hk
          · exact a3.1
          · have := a6 hq key hk
            rw [alook_aput] at this
            split at this
            · cases this
            · exact this
      · rintro ⟨⟨a1, a2, a3, a4, a5, a6⟩, a7⟩
        obtain ⟨b1, b2⟩ := a4 hq
        have a7 := a7 hq
        refine ⟨⟨⟨a1, a2⟩, ?_⟩, ⟨a5, fun _ _ _ => rfl⟩, a6, fun _ key hk => ?_⟩
        · simp only [Bool.not_eq_true', Bool.or_eq_false_iff, decide_eq_false_iff_not]
          exact ⟨a7 n.key (List.mem_cons_self ..), by omega⟩
        · rw [alook_aput, if_neg]
          · exact a7 key (List.mem_cons_of_mem _ hk)
          · rintro rfl; exact b2 hk
theorem gn_app : ∀ (F G : RF) (q : Int), F.GN q → G.GN q → (q ≠ 2 → ∀ key ∈ F.keysL, key ∉ G.keysL) → (F.app G).GN q
  | .nil, G, q, _, h, _ => h
  | .cons n k r, G, q, ⟨a1, a2, a3, a4, a5, a6⟩, h, hd => by
    refine ⟨a1, a2, a3, fun hq => ⟨(a4 hq).1, ?_⟩, a5, gn_app r G q a6 h fun hq key hk => hd hq key (List.mem_cons_of_mem _ hk)⟩
    rw [keysL_app]
    intro hm
    rcases List.mem_append.1 hm with hm | hm
    · exact (a4 hq).2 hm
    · exact hd hq n.key (List.mem_cons_self ..) hm
theorem rest_keys (ks : List Bs) : ∀ (B : RF) (key : Bs), key ∈ (B.rest ks).keysL ↔ key ∈ B.keysL ∧ key ∉ ks
  | .nil, key => by simp [RF.rest, RF.keysL]
  | .cons n k r, key => by
    rw [RF.rest]
    split
    · rename_i h
      rw [rest_keys ks r key]
      simp only [RF.keysL, List.mem_cons]
      constructor
      · rintro ⟨h1, h2⟩; exact ⟨.inr h1, h2⟩
      · rintro ⟨rfl | h1, h2⟩
        · exact (h2 h).elim
        · exact ⟨h1, h2⟩
    · rename_i h
      simp only [RF.keysL, List.mem_cons, rest_keys ks r key]
      constructor
      · rintro (rfl | ⟨h1, h2⟩)
        · exact ⟨.inl rfl, h⟩
        · exact ⟨.inr h1, h2⟩
      · rintro ⟨rfl | h1, h2⟩
        · exact .inl rfl
        · exact .inr ⟨h1, h2⟩
theorem gn_rest (ks : List Bs) (q : Int) : ∀ (B : RF), B.GN q → (B.rest ks).GN q
  | .nil, h => h
  | .cons n k r, ⟨a1, a2, a3, a4, a5, a6⟩ => by
    rw [RF.rest]
    split
    · exact gn_rest ks q r a6
    · exact ⟨a1, a2, a3, fun hq => ⟨(a4 hq).1, fun hm => (a4 hq).2 ((rest_keys ks r n.key).1 hm).1⟩, a5, gn_rest ks q r a6⟩
theorem at_rest (ks : List Bs) (d : Int) : ∀ (B : RF), B.at_ d → (B.rest ks).at_ d
  | .nil, h => h
  | .cons n k r, ⟨h1, h2, h3⟩ => by
    rw [RF.rest]
    split
    · exact at_rest ks d r h3
    · exact ⟨h1, h2, at_rest ks d r h3⟩
theorem findR_gn {q : Int} : ∀ (B : RF) (key : Bs) (m : Nd) (km : RF), B.GN q → B.findR key = some (m, km) → m.key = key ∧ (((m.kind == 1 || m.kind == 2) || m.kind == 3) && (decide (1 ≤ m.depth) && decide (m.depth ≤ 32)) && (m.text == [] || m.kind == 3)) = true ∧ leafOk m km = true ∧ (q ≠ 2 → m.key.length ≤ 64) ∧ km.GN m.kind
  | .nil, key, m, km, _, h => by cases h
  | .cons n k r, key, m, km, ⟨a1, a2, a3, a4, a5, a6⟩, h => by
    rw [RF.findR] at h
    split at h
    · rename_i hk
      injection h with h
      injection h with h1 h2
      subst h1 h2
      exact ⟨hk, a1, a2, fun hq => (a4 hq).1, a5⟩
    · exact findR_gn r key m km a6 h
theorem findR_at {d : Int} : ∀ (B : RF) (key : Bs) (m : Nd) (km : RF), B.at_ d → B.findR key = some (m, km) → m.depth = d ∧ km.at_ (d + 1)
  | .nil, key, m, km, _, h => by cases h
  | .cons n k r, key, m, km, ⟨h1, h2, h3⟩, h => by
    rw [RF.findR] at h
    split at h
    · injection h with h
      injection h with e1 e2
      subst e1 e2
      exact ⟨h1, h2⟩
    · exact findR_at r key m km h3 h
theorem layA_keys : ∀ (A B : RF) (q : Int), B.GN q → (A.layA B).keysL = A.keysL
  | .nil, B, q, _ => rfl
  | .cons n k r, B, q, hB => by
    rw [RF.layA]
    cases hf : B.findR n.key with
    | none => simp [RF.keysL, layA_keys r B q hB]
    | some x =>
      obtain ⟨m, km⟩ := x
      have := (findR_gn B n.key m km hB hf).1
      simp only
      split
      · simp [RF.keysL, layA_keys r B q hB, this]
      · simp [RF.keysL, layA_keys r B q hB, this]
theorem layA_at : ∀ (A B : RF) (d : Int), A.at_ d → B.at_ d → (A.layA B).at_ d
  | .nil, B, d, _, _ => trivial
  | .cons n k r, B, d, ⟨h1, h2, h3⟩, hB => by
    rw [RF.layA]
    cases hf : B.findR n.key with
    | none => exact ⟨h1, h2, layA_at r B d h3 hB⟩
    | some x =>
      obtain ⟨m, km⟩ := x
      obtain ⟨g1, g2⟩ := findR_at B n.key m km hB hf
      simp only
      split
      · exact ⟨g1, at_app _ _ _ (layA_at k km (d + 1) h2 g2) (at_rest _ _ km g2), layA_at r B d h3 hB⟩
      · exact ⟨g1, g2, layA_at r B d h3 hB⟩
theorem layA_gn : ∀ (A B : RF), A.GN 1 → B.GN 1 → (A.layA B).GN 1
  | .nil, B, _, _ => trivial
  | .cons n k r, B, ⟨a1, a2, a3, a4, a5, a6⟩, hB => by
    have ih := layA_gn r B a6 hB
    have hk := layA_keys r B 1 hB
    rw [RF.layA]
    cases hf : B.findR n.key with
    | none => exact ⟨a1, a2, a3, fun hq => by rw [hk]; exact a4 hq, a5, ih⟩
    | some x =>
      obtain ⟨m, km⟩ := x
      obtain ⟨g1, g2, g3, g4, g5⟩ := findR_gn B n.key m km hB hf
      simp only
      split
      · rename_i hkk
        refine ⟨g2, ?_, fun h => absurd h (by decide), fun hq => by rw [hk, g1]; exact a4 hq, ?_, ih⟩
        · unfold leafOk
          split
          · rfl
          · rw [hkk.2]; rfl
        · rw [hkk.1] at a5
          rw [hkk.2] at g5 ⊢
          refine gn_app _ _ _ (layA_gn k km a5 g5) (gn_rest _ _ km g5) fun _ key h1 h2 => ?_
          rw [layA_keys k km 1 g5] at h1
          exact ((rest_keys _ km key).1 h2).2 h1
      · exact ⟨g2, g3, fun h => absurd h (by decide), fun hq => by rw [hk, g1]; exact a4 hq, g5, ih⟩
theorem layK_gn {A B : RF} (hA : A.GN 1) (hB : B.GN 1) : (A.layK B).GN 1 := by
  refine gn_app _ _ _ (layA_gn A B hA hB) (gn_rest _ _ B hB) fun _ key h1 h2 => ?_
  rw [layA_keys A B 1 hB] at h1
  exact ((rest_keys _ B key).1 h2).2 h1
theorem layK_at {A B : RF} {d : Int} (hA : A.at_ d) (hB : B.at_ d) : (A.layK B).at_ d := at_app _ _ _ (layA_at A B d hA hB) (at_rest _ _ B hB)
/-! ### 2. places in a list -/
def posF : RF → Nat → List Nat
  | .nil, _ => []
  | .cons _ k r, p => p :: posF r (p + 1 + k.flat.length)
theorem endR_app (d : Int) : ∀ (l1 l2 : List Nd) (p : Nat), (∀ n ∈ l1, d < n.depth) → (∀ x, l2.head? = some x → x.depth ≤ d) → endR d (l1 ++ l2) p = p + l1.length
  | [], [], p, _, _ => rfl
  | [], x :: l2, p, _, h => by
    have := h x rfl
    rw [List.nil_append, endR, if_neg (by omega)]; rfl
  | n :: l1, l2, p, h1, h2 => by
    rw [List.cons_append, endR, if_pos (h1 n (List.mem_cons_self ..)), endR_app d l1 l2 (p + 1) (fun x hx => h1 x (List.mem_cons_of_mem _ hx)) h2]
    simp; omega
theorem partsR_skip (d : Int) : ∀ (l1 l2 : List Nd) (p : Nat), (∀ n ∈ l1, d + 1 < n.depth) → partsR d (l1 ++ l2) p = partsR d l2 (p + l1.length)
  | [], l2, p, _ => rfl
  | n :: l1, l2, p, h => by
    have := h n (List.mem_cons_self ..)
    rw [List.cons_append, partsR, if_pos (by omega), if_neg (by omega), partsR_skip d l1 l2 (p + 1) (fun x hx => h x (List.mem_cons_of_mem _ hx))]
    congr 1
    simp; omega
theorem partsR_pos (d : Int) : ∀ (F : RF) (post : List Nd) (p : Nat), F.at_ (d + 1) → (∀ x, post.head? = some x → x.depth ≤ d) → partsR d (F.flat ++ post) p = posF F p
  | .nil, [], p, _, _ => rfl
  | .nil, x :: post, p, _, h => by
    have := h x rfl
    rw [RF.flat, List.nil_append, partsR, if_neg (by omega)]; rfl
  | .cons n k r, post, p, ⟨h1, h2, h3⟩, h => by
    have e : (RF.cons n k r).flat ++ post = n :: (k.flat ++ (r.flat ++ post)) := by simp [RF.flat]
    rw [e, partsR, if_pos (by omega), if_pos h1, partsR_skip d _ _ _ (fun x hx => by have := at_deep k _ h2 x hx; omega), partsR_pos d r post _ h3 h]
    rfl
/-- a node of a list, with what is in it -/
structure AtN (t : List Nd) (i : Nat) (n : Nd) (k : RF) (post : List Nd) : Prop where
  eq : t.drop i = n :: (k.flat ++ post)
  at_ : k.at_ (n.depth + 1)
  post : ∀ x, post.head? = some x → x.depth ≤ n.depth
theorem AtN.lt {t : List Nd} {i : Nat} {n : Nd} {k : RF} {post : List Nd} (h : AtN t i n k post) : i < t.length := by
  have := congrArg List.length h.eq
  simp only [List.length_drop, List.length_cons] at this
  omega
theorem AtN.nth {t : List Nd} {i : Nat} {n : Nd} {k : RF} {post : List Nd} (h : AtN t i n k post) : nth t (i : Int) = n := by
  refine nth_of ?_
  have := congrArg (fun l => l[0]?) h.eq
  simpa using this
theorem AtN.next {t : List Nd} {i : Nat} {n : Nd} {k : RF} {post : List Nd} (h : AtN t i n k post) : t.drop (i + 1) = k.flat ++ post := by
  have := congrArg (List.drop 1) h.eq
  rw [List.drop_drop] at this
  exact this
theorem AtN.endS {t : List Nd} {i : Nat} {n : Nd} {k : RF} {post : List Nd} (h : AtN t i n k post) : C.endS t i = i + 1 + k.flat.length := by
  unfold C.endS
  rw [h.nth, h.next, endR_app n.depth _ _ _ (fun x hx => by have := at_deep k _ h.at_ x hx; omega) h.post]
theorem AtN.sub {t : List Nd} {i : Nat} {n : Nd} {k : RF} {post : List Nd} (h : AtN t i n k post) : subS t i = n :: k.flat := by
  unfold subS
  rw [h.endS, List.drop_take, h.eq]
  have : i + 1 + k.flat.length - i = k.flat.length + 1 := by omega
  rw [this, List.take_succ_cons, List.take_left']
  rfl
theorem AtN.parts {t : List Nd} {i : Nat} {n : Nd} {k : RF} {post : List Nd} (h : AtN t i n k post) : partsS t i = posF k (i + 1) := by
  unfold partsS
  rw [h.nth, h.next]
  exact partsR_pos n.depth k post (i + 1) h.at_ h.post
/-- the first of a forest in a list -/
theorem atN_cons {t : List Nd} {p : Nat} {n : Nd} {k r : RF} {post : List Nd} {d : Int} (h : t.drop p = (RF.cons n k r).flat ++ post) (hat : (RF.cons n k r).at_ d) (hp : ∀ x, post.head? = some x → x.depth ≤ d) :
    AtN t p n k (r.flat ++ post) ∧ t.drop (p + 1 + k.flat.length) = r.flat ++ post := by
  obtain ⟨h1, h2, h3⟩ := hat
  refine ⟨⟨by rw [h]; simp [RF.flat], by rw [h1]; exact h2, ?_⟩, ?_⟩
  · intro x hx
    cases r with
    | nil => have := hp x hx; omega
    | cons y a b => injection hx with hx; subst hx; have := h3.1; omega
  · have := congrArg (List.drop (1 + k.flat.length)) h
    rw [List.drop_drop] at this
    rw [Nat.add_assoc, this]
    simp [RF.flat, Nat.add_comm 1]
def findP : RF → Nat → Bs → Option Nat
  | .nil, _, _ => none
  | .cons n k r, p, key => if n.key = key then some p else findP r (p + 1 + k.flat.length) key
/-- unique keys -/
def uniqF : RF → Prop
  | .nil => True
  | .cons n _ r => n.key ∉ r.keysL ∧ uniqF r
theorem gn_uniq {q : Int} (hq : q ≠ 2) : ∀ F : RF, F.GN q → uniqF F
  | .nil, _ => trivial
  | .cons n k r, ⟨a1, a2, a3, a4, a5, a6⟩ => ⟨(a4 hq).2, gn_uniq hq r a6⟩
theorem findP_none : ∀ (F : RF) (p : Nat) (key : Bs), key ∉ F.keysL → findP F p key = none
  | .nil, _, _, _ => rfl
  | .cons n k r, p, key, h => by
    simp only [RF.keysL, List.mem_cons, not_or] at h
    rw [findP, if_neg (fun e => h.1 e.symm)]
    exact findP_none r _ key h.2
theorem keysR_pos {t : List Nd} {post : List Nd} {d : Int} (hp : ∀ x, post.head? = some x → x.depth ≤ d) : ∀ (F : RF) (p : Nat) (m : List (Bs × Int)), t.drop p = F.flat ++ post → F.at_ d → uniqF F → ∀ key, alook key (keysR t (posF F p) m) = match findP F p key with
    | some x => some (x : Int)
    | none => alook key m
  | .nil, p, m, _, _, _, key => rfl
  | .cons n k r, p, m, h, hat, ⟨u1, u2⟩, key => by
    obtain ⟨h1, h2⟩ := atN_cons h hat hp
    have e : keysR t (posF (.cons n k r) p) m = keysR t (posF r (p + 1 + k.flat.length)) (aput n.key (p : Int) m) := by
      unfold keysR
      rw [posF, List.foldl_cons, h1.nth]
    rw [e, keysR_pos hp r _ _ h2 hat.2.2 u2 key, findP]
    by_cases hk : n.key = key
    · subst hk
      rw [if_pos rfl, findP_none r _ _ u1, alook_aput, if_pos rfl]
    · rw [if_neg hk]
      cases findP r (p + 1 + k.flat.length) key with
      | some x => rfl
      | none => simp only; rw [alook_aput, if_neg hk]
theorem keysR_some {t : List Nd} {post : List Nd} {d : Int} (hp : ∀ x, post.head? = some x → x.depth ≤ d) : ∀ (F : RF) (p : Nat) (m : List (Bs × Int)), t.drop p = F.flat ++ post → F.at_ d → ∀ key, (alook key (keysR t (posF F p) m)).isSome = true ↔ key ∈ F.keysL ∨ (alook key m).isSome = true
  | .nil, p, m, _, _, key => by simp [RF.keysL, posF, keysR]
  | .cons n k r, p, m, h, hat, key => by
    obtain ⟨h1, h2⟩ := atN_cons h hat hp
    have e : keysR t (posF (.cons n k r) p) m = keysR t (posF r (p + 1 + k.flat.length)) (aput n.key (p : Int) m) := by
      unfold keysR
      rw [posF, List.foldl_cons, h1.nth]
    rw [e, keysR_some hp r _ _ h2 hat.2.2 key, alook_aput]
    simp only [RF.keysL, List.mem_cons]
    by_cases hk : n.key = key
    · subst hk; simp
    · rw [if_neg hk]
      constructor
      · rintro (h | h)
        · exact .inl (.inr h)
        · exact .inr h
      · rintro ((h | h) | h)
        · exact (hk h.symm).elim
        · exact .inl h
        · exact .inr h
theorem findP_find {t : List Nd} {post : List Nd} {d : Int} (hp : ∀ x, post.head? = some x → x.depth ≤ d) : ∀ (F : RF) (p : Nat) (key : Bs), t.drop p = F.flat ++ post → F.at_ d → match findP F p key with
    | some x => ∃ m km post', F.findR key = some (m, km) ∧ AtN t x m km post'
    | none => F.findR key = none
  | .nil, p, key, _, _ => rfl
  | .cons n k r, p, key, h, hat => by
    obtain ⟨h1, h2⟩ := atN_cons h hat hp
    rw [findP, RF.findR]
    by_cases hk : n.key = key
    · rw [if_pos hk, if_pos hk]
      exact ⟨n, k, _, rfl, h1⟩
    · rw [if_neg hk, if_neg hk]
      exact findP_find hp r _ key h2 hat.2.2
/-! ### 3. what is laid -/
theorem rest_flat {b : List Nd} {post : List Nd} {d : Int} (hp : ∀ x, post.head? = some x → x.depth ≤ d) (m : List (Bs × Int)) (ks : List Bs) (hm : ∀ key, (alook key m).isSome = true ↔ key ∈ ks) : ∀ (F : RF) (p : Nat), b.drop p = F.flat ++ post → F.at_ d →
    (posF F p).flatMap (fun n : Nat => if (alook (nth b (n : Int)).key m).isSome then [] else subS b n) = (F.rest ks).flat
  | .nil, p, _, _ => rfl
  | .cons n k r, p, h, hat => by
    obtain ⟨h1, h2⟩ := atN_cons h hat hp
    rw [posF, List.flatMap_cons, rest_flat hp m ks hm r _ h2 hat.2.2, h1.nth, h1.sub, RF.rest]
    by_cases hk : n.key ∈ ks
    · rw [if_pos ((hm n.key).2 hk), if_pos hk]; rfl
    · rw [if_neg (fun e => hk ((hm n.key).1 e)), if_neg hk]
      simp [RF.flat]
theorem layA_flat (a b : List Nd) : ∀ (A : RF) (f p : Nat) (post : List Nd) (d : Int) (j : Nat) (nb : Nd) (B : RF) (pb : List Nd), a.drop p = A.flat ++ post → A.at_ d → (∀ x, post.head? = some x → x.depth ≤ d) → A.GN 1 → AtN b j nb B pb → B.GN 1 → a.length - p ≤ f →
    (posF A p).flatMap (fun n : Nat => match alook (nth a (n : Int)).key (keysS b j) with
        | some m => layF a b f n m.toNat
        | none => subS a n) = (A.layA B).flat
  | .nil, f, p, post, d, j, nb, B, pb, _, _, _, _, _, _, _ => rfl
  | .cons n k r, f, p, post, d, j, nb, B, pb, h, hat, hp, hgn, hb, hB, hf => by
    obtain ⟨h1, h2⟩ := atN_cons h hat hp
    obtain ⟨a1, a2, a3, a4, a5, a6⟩ := hgn
    have hpl := h1.lt
    have ihr := layA_flat a b r f _ post d j nb B pb h2 hat.2.2 hp a6 hb hB (by omega)
    rw [posF, List.flatMap_cons, ihr, h1.nth, RF.layA]
    have hkb : alook n.key (keysS b j) = match findP B (j + 1) n.key with
        | some x => some (x : Int)
        | none => alook n.key [] := by
      unfold keysS
      rw [hb.parts]
      exact keysR_pos (d := nb.depth + 1) (fun x hx => by have := hb.post x hx; omega) B (j + 1) [] hb.next hb.at_ (gn_uniq (by decide) B hB) n.key
    have hfp := findP_find (d := nb.depth + 1) (fun x hx => by have := hb.post x hx; omega) B (j + 1) n.key hb.next hb.at_
    cases hx : findP B (j + 1) n.key with
    | none =>
      rw [hx] at hkb hfp
      simp only at hkb hfp
      rw [hkb, hfp, h1.sub]
      simp [alook, RF.flat]
    | some x =>
      rw [hx] at hkb hfp
      simp only at hkb hfp
      obtain ⟨m, km, pm, e1, e2⟩ := hfp
      obtain ⟨g1, g2, g3, g4, g5⟩ := findR_gn B n.key m km hB e1
      rw [hkb, e1]
      simp only [Int.toNat_natCast]
      obtain ⟨f', rfl⟩ : ∃ f', f = f' + 1 := ⟨f - 1, by omega⟩
      rw [layF, h1.nth, e2.nth]
      by_cases hkk : n.kind = 1 ∧ m.kind = 1
      · rw [if_neg (by simp [hkk.1, hkk.2]), if_pos hkk, h1.parts, e2.parts]
        rw [hkk.1] at a5
        rw [hkk.2] at g5
        have q1 := layA_flat a b k f' (p + 1) _ (n.depth + 1) x m km pm h1.next h1.at_ (fun y hy => by have := h1.post y hy; omega) a5 e2 g5 (by omega)
        have q2 := rest_flat (d := m.depth + 1) (fun y hy => by have := e2.post y hy; omega) (keysS a p) k.keysL (fun key => by
          unfold keysS
          rw [h1.parts, keysR_some (d := n.depth + 1) (fun y hy => by have := h1.post y hy; omega) k (p + 1) [] h1.next h1.at_ key]
          simp [alook]) km (x + 1) e2.next e2.at_
        refine (cong2 (fun y z => (m :: y ++ z) ++ (r.layA B).flat) q1 q2).trans ?_
        simp [RF.flat, flat_app]
      · rw [if_pos (by
          by_cases h1' : n.kind = 1
          · exact .inr fun h2' => hkk ⟨h1', h2'⟩
          · exact .inl h1'), if_neg hkk, e2.sub]
        simp [RF.flat]
theorem layS_flat {na nb : Nd} {A B : RF} (hA : A.at_ (na.depth + 1)) (hB : B.at_ (nb.depth + 1)) (gA : A.GN 1) (gB : B.GN 1) (ka : na.kind = 1) (kb : nb.kind = 1) : layS (na :: A.flat) (nb :: B.flat) = nb :: (A.layK B).flat := by
  have h1 : AtN (na :: A.flat) 0 na A [] := ⟨by simp, hA, by simp⟩
  have h2 : AtN (nb :: B.flat) 0 nb B [] := ⟨by simp, hB, by simp⟩
  unfold layS
  have e : (na :: A.flat).length = A.flat.length + 1 := rfl
  rw [e, layF, h1.nth, h2.nth, if_neg (by simp [ka, kb]), h1.parts, h2.parts]
  have q1 := layA_flat (na :: A.flat) (nb :: B.flat) A A.flat.length 1 [] (na.depth + 1) 0 nb B [] h1.next hA (by simp) gA h2 gB (by simp)
  have q2 := rest_flat (d := nb.depth + 1) (by simp) (keysS (na :: A.flat) 0) A.keysL (fun key => by
    unfold keysS
    rw [h1.parts, keysR_some (d := na.depth + 1) (by simp) A (0 + 1) [] h1.next hA key]
    simp [alook]) B (0 + 1) h2.next hB
  refine (cong2 (fun y z => nb :: y ++ z) q1 q2).trans ?_
  simp [RF.layK, flat_app]
/-- trees as roots with good forests -/
theorem is_tree {t : List Nd} (h : isS t = true) : ∃ (a : Nd) (F : RF), t = a :: F.flat ∧ F.at_ 1 ∧ F.GN 1 ∧ rootOk a = true ∧ a.kind = 1 ∧ a.depth = 0 ∧ t.length ≤ 16384 := by
  obtain ⟨a, F, rfl, hat⟩ := is_build h
  have h' := h
  rw [is_forest a F hat] at h'
  simp only [Bool.and_eq_true, decide_eq_true_eq] at h'
  have hr := h'.1.2
  have hr2 := hr
  unfold rootOk at hr2
  simp at hr2
  exact ⟨a, F, rfl, hat, ((good_iff F 1 []).1 h'.2).1, hr, hr2.1.1.1, hr2.1.1.2, h'.1.1⟩
theorem tree_is {a : Nd} {F : RF} (hat : F.at_ 1) (hg : F.GN 1) (hr : rootOk a = true) (hl : (a :: F.flat).length ≤ 16384) : isS (a :: F.flat) = true := by
  rw [is_forest a F hat, hr, decide_eq_true hl, (good_iff F 1 []).2 ⟨hg, fun _ key _ => rfl⟩]
  rfl
theorem layS_is {a b : List Nd} (ha : isS a = true) (hb : isS b = true) (hl : (layS a b).length ≤ 16384) : isS (layS a b) = true := by
  obtain ⟨na, A, rfl, a1, a2, a3, a4, a5, -⟩ := is_tree ha
  obtain ⟨nb, B, rfl, b1, b2, b3, b4, b5, -⟩ := is_tree hb
  have e := layS_flat (A := A) (B := B) (by rw [a5]; exact a1) (by rw [b5]; exact b1) a2 b2 a4 b4
  rw [e] at hl ⊢
  exact tree_is (layK_at a1 b1) (layK_gn a2 b2) b3 hl
end Go.Proofs.YtgjhbapbomdpbaaDoor.C
/- MergeSteps is walked: its answer is true. -/
set_option linter.unusedVariables false
set_option linter.unusedSimpArgs false
set_option maxRecDepth 10000
namespace Go.Proofs.YtgjhbapbomdpbaaDoor.C
open Go.RowKit Go.Proofs.YtgjhbapbomdpbaaDoor.Sh
theorem foldS_err : ∀ (ts : List (List Nd)) (out : List Nd), (foldS out ts).2 ≠ 0 → (foldS out ts).1 = []
  | [], out, h => (h rfl).elim
  | t :: r, out, h => by
    rw [foldS] at h ⊢
    split
    · rfl
    · rename_i h1
      rw [if_neg h1] at h
      exact foldS_err r _ h
theorem mergeS_err {ts : List (List Nd)} (h : (mergeS ts).2 ≠ 0) : (mergeS ts).1 = [] := by
  unfold mergeS at h ⊢
  split
  · rename_i h1
    rw [if_pos h1] at h
    cases ts with
    | nil => exact (h rfl).elim
    | cons t r => exact foldS_err r t h
  · rfl
theorem steps_law {a b c : List Nd} (h : (mergeS [a, b, c]).2 = 0) : (mergeS [a, b]).2 = 0 ∧ (mergeS [(mergeS [a, b]).1, c]) = mergeS [a, b, c] ∧ isS (mergeS [a, b, c]).1 = true := by
  by_cases h1 : ([a, b, c] : List (List Nd)).all isS = true
  · have ea : isS a = true ∧ isS b = true ∧ isS c = true := by simpa using h1
    obtain ⟨ia, ib, ic⟩ := ea
    have e3 : mergeS [a, b, c] = foldS a [b, c] := by unfold mergeS; rw [if_pos h1]
    have e2 : mergeS [a, b] = foldS a [b] := by unfold mergeS; rw [if_pos (by simp [ia, ib])]
    rw [e3] at h ⊢
    rw [e2]
    rw [foldS] at h
    split at h
    · cases h
    rename_i h2
    rw [foldS] at h
    split at h
    · cases h
    rename_i h3
    have i2 : isS (layS a b) = true := layS_is ia ib (by omega)
    have i3 : isS (layS (layS a b) c) = true := layS_is i2 ic (by omega)
    have e4 : foldS a [b] = (layS a b, 0) := by rw [foldS, if_neg h2, foldS]
    have e5 : foldS (layS a b) [c] = (layS (layS a b) c, 0) := by rw [foldS, if_neg h3, foldS]
    have e6 : foldS a [b, c] = (layS (layS a b) c, 0) := by rw [foldS, if_neg h2, e5]
    have e7 : mergeS [layS a b, c] = foldS (layS a b) [c] := by unfold mergeS; rw [if_pos (by simp [i2, ic])]
    rw [e4, e6]
    exact ⟨rfl, by rw [e7, e5], i3⟩
  · have e3 : mergeS [a, b, c] = ([], 80) := by unfold mergeS; rw [if_neg h1]
    rw [e3] at h
    cases h
theorem foldS_len : ∀ (ts : List (List Nd)) (out : List Nd), out.length ≤ 16384 → (foldS out ts).1.length ≤ 16384
  | [], out, h => h
  | t :: r, out, h => by
    rw [foldS]
    split
    · simp
    · exact foldS_len r _ (by omega)
theorem mergeS_len (ts : List (List Nd)) : (mergeS ts).1.length ≤ 16384 := by
  unfold mergeS
  split
  · rename_i h
    cases ts with
    | nil => simp
    | cons t r =>
      have : isS t = true := by simp at h; exact h.1
      exact foldS_len r t (isS_depth this).2.1
  · simp
end Go.Proofs.YtgjhbapbomdpbaaDoor.C
/- MergeEmpty is walked: its answer is true. -/
set_option linter.unusedVariables false
set_option linter.unusedSimpArgs false
set_option maxRecDepth 10000
namespace Go.Proofs.YtgjhbapbomdpbaaDoor.C
open Go.RowKit Go.Proofs.YtgjhbapbomdpbaaDoor.Sh
open RF
/-! ### 1. laid over nothing, and over itself -/
theorem app_nil : ∀ F : RF, F.app .nil = F
  | .nil => rfl
  | .cons n k r => by rw [RF.app, app_nil r]
theorem app_assoc : ∀ F G H : RF, (F.app G).app H = F.app (G.app H)
  | .nil, G, H => rfl
  | .cons n k r, G, H => by simp [RF.app, app_assoc r G H]
theorem layA_nil : ∀ A : RF, A.layA .nil = A
  | .nil => rfl
  | .cons n k r => by rw [RF.layA]; simp [RF.findR, layA_nil r]
theorem rest_none : ∀ B : RF, B.rest [] = B
  | .nil => rfl
  | .cons n k r => by rw [RF.rest, if_neg (by simp), rest_none r]
theorem rest_all (ks : List Bs) : ∀ B : RF, (∀ key ∈ B.keysL, key ∈ ks) → B.rest ks = .nil
  | .nil, _ => rfl
  | .cons n k r, h => by rw [RF.rest, if_pos (h _ (List.mem_cons_self ..)), rest_all ks r fun key hk => h key (List.mem_cons_of_mem _ hk)]
theorem findR_pre : ∀ (pre : RF) (n : Nd) (k r : RF), uniqF (pre.app (.cons n k r)) → (pre.app (.cons n k r)).findR n.key = some (n, k)
  | .nil, n, k, r, _ => by simp [RF.app, RF.findR]
  | .cons m km p, n, k, r, ⟨h1, h2⟩ => by
    rw [RF.app, RF.findR, if_neg]
    · exact findR_pre p n k r h2
    · intro e
      apply h1
      rw [keysL_app, e]
      simp [RF.keysL]
theorem layA_self : ∀ (F pre : RF), uniqF (pre.app F) → F.GN 1 → F.layA (pre.app F) = F
  | .nil, pre, _, _ => rfl
  | .cons n k r, pre, hu, ⟨a1, a2, a3, a4, a5, a6⟩ => by
    have ih := layA_self r (pre.app (.cons n k .nil)) (by rw [app_assoc]; exact hu) a6
    have e : (pre.app (.cons n k .nil)).app r = pre.app (.cons n k r) := by rw [app_assoc]; rfl
    rw [e] at ih
    rw [RF.layA, findR_pre pre n k r hu]
    simp only [ih]
    split
    · rename_i hk
      rw [hk.1] at a5
      have := layA_self k .nil (gn_uniq (by decide) k a5) a5
      have e2 : (RF.nil).app k = k := rfl
      rw [e2] at this
      rw [this, rest_all k.keysL k (fun _ h => h), app_nil]
    · rfl
theorem layK_self {A : RF} (h : A.GN 1) : A.layK A = A := by
  have := layA_self A .nil (gn_uniq (by decide) A h) h
  have e2 : (RF.nil).app A = A := rfl
  rw [e2] at this
  unfold RF.layK
  rw [this, rest_all A.keysL A (fun _ h => h), app_nil]
abbrev ak (n : Nd) : Int × Int × Bs × Bs := (n.kind, n.depth, n.key, n.text)
theorem ndR_is : isS [ndR] = true := by decide +kernel
theorem empty_law {t : List Nd} (h : isS t = true) : mergeS [t] = (t, 0) ∧ (∃ b, mergeS [t, [ndR]] = (b, 0) ∧ b.map ak = t.map ak) ∧ mergeS [[ndR], t] = (t, 0) ∧ mergeS [t, t] = (t, 0) := by
  obtain ⟨a, F, rfl, f1, f2, f3, f4, f5, f6⟩ := is_tree h
  have e0 : ([ndR] : List Nd) = ndR :: (RF.nil).flat := rfl
  have l1 := layS_flat (na := a) (nb := ndR) (A := F) (B := .nil) (by rw [f5]; exact f1) trivial f2 trivial f4 rfl
  have l2 := layS_flat (na := ndR) (nb := a) (A := .nil) (B := F) trivial (by rw [f5]; exact f1) trivial f2 rfl f4
  have l3 := layS_flat (na := a) (nb := a) (A := F) (B := F) (by rw [f5]; exact f1) (by rw [f5]; exact f1) f2 f2 f4 f4
  rw [← e0] at l1 l2
  have k1 : F.layK .nil = F := by unfold RF.layK; rw [layA_nil]; exact app_nil F
  have k2 : (RF.nil).layK F = F := by
    unfold RF.layK
    have : (RF.nil).layA F = .nil := rfl
    rw [this]
    have : (RF.nil).keysL = [] := rfl
    rw [this, rest_none]; rfl
  rw [k1] at l1
  rw [k2] at l2
  rw [layK_self f2] at l3
  have hl : ¬ (16384 : Int) < ((a :: F.flat : List Nd).length : Int) := by omega
  have hl2 : ¬ (16384 : Int) < ((ndR :: F.flat : List Nd).length : Int) := by simp only [List.length_cons] at hl ⊢; exact hl
  have m2 : ∀ x y : List Nd, isS x = true → isS y = true → ¬ (16384 : Int) < ((layS x y).length : Int) → mergeS [x, y] = (layS x y, 0) := by
    intro x y hx hy hxy
    unfold mergeS
    rw [if_pos (by simp [hx, hy])]
    simp only
    rw [foldS, if_neg hxy, foldS]
  refine ⟨?_, ⟨ndR :: F.flat, ?_, ?_⟩, ?_, ?_⟩
  · unfold mergeS
    rw [if_pos (by simp [h])]
    rfl
  · rw [m2 _ _ h ndR_is (by rw [l1]; exact hl2), l1]
  · have hr := f3
    unfold rootOk at hr
    simp at hr
    simp [ak, hr.1.1.1, hr.1.1.2, hr.1.2, hr.2]
  · rw [m2 _ _ ndR_is h (by rw [l2]; exact hl), l2]
  · rw [m2 _ _ h h (by rw [l3]; exact hl), l3]
/-! ### 2. the walk -/
theorem alike_cv (A : Option Addr) (c : Nat) (xs : List Nd) (B : Option Addr) (d : Nat) (ys : List Nd) (w0 : World) (hx : Rd NdE w0 A xs) (hy : Rd NdE w0 B ys) (hl : xs.length < 4000000000000000000) :
    Cv Tryd.prog 31 [.slice A xs.length c, .slice B ys.length d] (.bool (decide (xs.map ak = ys.map ak))) w0 := by
  intro w hk
  have hx := hx.keep hk
  have hy := hy.keep hk
  refine calls_of_Wp (vs := [_, _]) Tryd.func31 ?_
  refine Wp.seq (Wp.reads (is := [0]) (Keep.refl _) (Rn.s rfl Yv.as (Rn.nil)) ?_)
  refine Wp.seq (Wp.seq (Wp.reads (is := [0, 1, 2, 3, 4]) (Keep.refl _) (Rn.s rfl Yv.mv (Rn.s rfl (Yv.len_v (e := 48) (m := 8)) (Rn.s rfl Yv.mv (Rn.s rfl (Yv.len_v (e := 48) (m := 8)) (Rn.s rfl (Yv.cmp _ rfl) (Rn.nil)))))) ?_))
  refine Wp.cond rfl (fun h => ?_) (fun h => ?_)
  · refine Wp.seq (Wp.reads (is := [0]) (Keep.refl _) (Rn.s rfl Yv.as (Rn.nil)) ?_)
    have hne : xs.map ak ≠ ys.map ak := by
      intro e
      have := congrArg List.length e
      simp only [List.length_map] at this
      simp [this] at h
    exact Wp.ret (Fin.ret (Res.one rfl rfl) ⟨by rw [decide_eq_false hne], Keep.refl _⟩)
  have hle : xs.length = ys.length := by
    have : (xs.length : Int) = ys.length := by simpa using h
    omega
  refine Wp.skip (Wp.seq (Wp.seq (Wp.reads (is := [0]) (Keep.refl _) (Rn.s rfl Yv.as (Rn.nil)) ?_)))
  refine Wp.block ?_
  refine Wp.loop (α := Nat) (fun i ρ ds w' => ds = [] ∧ Keep w w' ∧ i ≤ xs.length ∧ (∀ j : Nat, j < i → ak (nth xs (j : Int)) = ak (nth ys (j : Int))) ∧ Sub [(0, .slice A xs.length c), (1, .slice B ys.length d), (5, .int .i64 (i : Int))] ρ) (fun i => xs.length - i) 0
    ⟨rfl, Keep.refl _, Nat.zero_le _, fun j hj => absurd hj (Nat.not_lt_zero j), rfl, rfl, rfl, trivial⟩ ?_
  rintro i ρ ds w' ⟨rfl, hk, hi, hall, hs⟩
  refine Wp.forget _ ?_ hs
  have hx' := hx.keep hk
  have hy' := hy.keep hk
  refine Wp.seq (Wp.seq (Wp.reads (is := [0, 1, 2, 3]) (Keep.refl _) (Rn.s rfl Yv.mv (Rn.s rfl Yv.mv (Rn.s rfl (Yv.len_v (e := 48) (m := 8)) (Rn.s rfl (Yv.cmp _ rfl) (Rn.nil))))) ?_))
  refine Wp.cond rfl (fun h2 => ?_) (fun h2 => ?_)
  · have h2 := of_decide_eq_true h2
    have hil : i < xs.length := by omega
    have gx : nth xs (i : Int) = xs[i] := nth_of (List.getElem?_eq_getElem hil)
    have gy : nth ys (i : Int) = ys[i] := nth_of (List.getElem?_eq_getElem (by omega))
    refine Wp.skip (Wp.seq (Wp.block ?_))
    refine Wp.seq (Wp.readsD (is := [0, 1, 2, 3, 4, 5, 6, 7, 8, 9, 10, 11, 12, 13, 14, 15, 16, 17, 18, 19, 20, 21, 22, 23, 24, 25, 26, 27, 28, 29, 30, 31, 32, 33, 34, 35, 36, 37, 38, 39, 40, 41, 42, 43, 44, 45, 46, 47, 48, 49]) mixed (fun _ _ _ _ _ h => h) (Keep.refl _) (Rn.s rfl Yv.mv (Rn.s rfl Yv.mv (Rn.s rfl (Yv.ia (e := 48) hx' (by omega) (by omega)) (Rn.s rfl (Yv.fa (off := 0)) (Rn.s rfl (Yv.ld (hx'.ld 0 (by omega) (by omega))) (Rn.s rfl Yv.mv (Rn.s rfl Yv.mv (Rn.s rfl (Yv.ia (e := 48) hy' (by omega) (by omega)) (Rn.s rfl (Yv.fa (off := 0)) (Rn.s rfl (Yv.ld (hy'.ld 0 (by omega) (by omega))) (Rn.s rfl (Yv.cmp _ rfl) (Rn.s rfl Yv.mv (Rn.or (is := [12, 13, 14, 15, 16, 17, 18, 19, 20, 21, 22, 23]) (js := [24, 25, 26, 27, 28, 29, 30, 31, 32, 33, 34, 35, 36, 37, 38, 39, 40, 41, 42, 43, 44, 45, 46, 47, 48, 49]) (t := 28) (d := 40) (hg := rfl) (hf := fun h11 => have h11 := bne_eq_false_iff_eq.1 h11; Rn.s rfl Yv.mv (Rn.s rfl Yv.mv (Rn.s rfl (Yv.ia (e := 48) hx' (by omega) (by omega)) (Rn.s rfl (Yv.fa (off := 1)) (Rn.s rfl (Yv.ld (hx'.ld 1 (by omega) (by omega))) (Rn.s rfl Yv.mv (Rn.s rfl Yv.mv (Rn.s rfl (Yv.ia (e := 48) hy' (by omega) (by omega)) (Rn.s rfl (Yv.fa (off := 1)) (Rn.s rfl (Yv.ld (hy'.ld 1 (by omega) (by omega))) (Rn.s rfl (Yv.cmp _ rfl) (Rn.s rfl Yv.pick_f ((Rn.e 12 rfl rfl)))))))))))))) (ht := fun _ => Rn.no rfl (Rn.no rfl (Rn.no rfl (Rn.no rfl (Rn.no rfl (Rn.no rfl (Rn.no rfl (Rn.no rfl (Rn.no rfl (Rn.no rfl (Rn.no rfl (Rn.s rfl Yv.pick_t (Rn.e 12 rfl rfl))))))))))))) (k := Rn.s rfl Yv.mv (Rn.or (is := [25, 26, 27, 28, 29, 30, 31, 32, 33, 34, 35, 36]) (js := [37, 38, 39, 40, 41, 42, 43, 44, 45, 46, 47, 48, 49]) (t := 41) (d := 53) (hg := rfl) (hf := fun h24 => Rn.s rfl Yv.mv (Rn.s rfl Yv.mv (Rn.s rfl (Yv.ia (e := 48) hx' (by omega) (by omega)) (Rn.s rfl (Yv.fa (off := 2)) (Rn.s rfl (Yv.ld (hx'.ld 2 (by omega) (by omega))) (Rn.s rfl Yv.mv (Rn.s rfl Yv.mv (Rn.s rfl (Yv.ia (e := 48) hy' (by omega) (by omega)) (Rn.s rfl (Yv.fa (off := 2)) (Rn.s rfl (Yv.ld (hy'.ld 2 (by omega) (by omega))) (Rn.s rfl (Yv.scm _ rfl) (Rn.s rfl Yv.pick_f ((Rn.e 12 rfl rfl)))))))))))))) (ht := fun _ => Rn.no rfl (Rn.no rfl (Rn.no rfl (Rn.no rfl (Rn.no rfl (Rn.no rfl (Rn.no rfl (Rn.no rfl (Rn.no rfl (Rn.no rfl (Rn.no rfl (Rn.s rfl Yv.pick_t (Rn.e 12 rfl rfl))))))))))))) (k := Rn.s rfl Yv.mv (Rn.or (is := [38, 39, 40, 41, 42, 43, 44, 45, 46, 47, 48, 49]) (js := []) (t := 54) (d := 66) (hg := rfl) (hf := fun h37 => Rn.s rfl Yv.mv (Rn.s rfl Yv.mv (Rn.s rfl (Yv.ia (e := 48) hx' (by omega) (by omega)) (Rn.s rfl (Yv.fa (off := 3)) (Rn.s rfl (Yv.ld (hx'.ld 3 (by omega) (by omega))) (Rn.s rfl Yv.mv (Rn.s rfl Yv.mv (Rn.s rfl (Yv.ia (e := 48) hy' (by omega) (by omega)) (Rn.s rfl (Yv.fa (off := 3)) (Rn.s rfl (Yv.ld (hy'.ld 3 (by omega) (by omega))) (Rn.s rfl (Yv.scm _ rfl) (Rn.s rfl Yv.pick_f ((Rn.e 12 rfl rfl)))))))))))))) (ht := fun _ => Rn.no rfl (Rn.no rfl (Rn.no rfl (Rn.no rfl (Rn.no rfl (Rn.no rfl (Rn.no rfl (Rn.no rfl (Rn.no rfl (Rn.no rfl (Rn.no rfl (Rn.s rfl Yv.pick_t (Rn.e 12 rfl rfl))))))))))))) (k := Rn.nil)))))))))))))))))) ?_)
    refine Wp.cond rfl (fun h3 => ?_) (fun h3 => ?_)
    · refine Wp.seq (Wp.reads (is := [0]) (Keep.refl _) (Rn.s rfl Yv.as (Rn.nil)) ?_)
      have hne : xs.map ak ≠ ys.map ak := by
        intro e
        have e1 := congrArg (fun l => l[i]?) e
        simp only [List.getElem?_map, List.getElem?_eq_getElem hil, List.getElem?_eq_getElem (show i < ys.length by omega), Option.map_some, Option.some.injEq, Prod.mk.injEq, ak] at e1
        rw [← gx, ← gy] at e1
        simp [e1.1, e1.2.1, e1.2.2.1, e1.2.2.2] at h3
      exact Wp.ret (Fin.ret (Res.one rfl rfl) ⟨by rw [decide_eq_false hne], hk.trans (Keep.drew _)⟩)
    · simp only [Bool.or_eq_false_iff, bne_eq_false_iff_eq] at h3
      refine Wp.skip (Wp.reads (is := [0, 1, 2]) (Keep.refl _) (Rn.s rfl Yv.mv (Rn.s rfl (Yv.add (by unfold inI; omega)) (Rn.s rfl Yv.as (Rn.nil)))) ?_)
      refine ⟨i + 1, ⟨rfl, hk.trans (Keep.drew _), by omega, fun j hj => ?_, rfl, rfl, rfl, trivial⟩, by omega⟩
      by_cases hji : j = i
      · subst hji
        simp only [ak, h3.1.1.1, h3.1.1.2, h3.1.2, h3.2]
      · exact hall j (by omega)
  · have h2 := of_decide_eq_false h2
    refine Wp.exit ?_
    refine Wp.seq (Wp.reads (is := [0]) (Keep.refl _) (Rn.s rfl Yv.as (Rn.nil)) ?_)
    have he : xs.map ak = ys.map ak := by
      refine List.ext_getElem (by simp [hle]) fun j h1 h4 => ?_
      simp only [List.length_map] at h1 h4
      have := hall j (by omega)
      rw [nth_of (List.getElem?_eq_getElem h1), nth_of (List.getElem?_eq_getElem h4)] at this
      simpa using this
    exact Wp.ret (Fin.ret (Res.one rfl rfl) ⟨by rw [decide_eq_true he], hk⟩)
end Go.Proofs.YtgjhbapbomdpbaaDoor.C
/- Trees over trees: what a path leads to, and a part cut out and laid over again. -/
set_option linter.unusedVariables false
set_option linter.unusedSimpArgs false
set_option maxRecDepth 10000
namespace Go.Proofs.YtgjhbapbomdpbaaDoor.C
open Go.RowKit Go.Proofs.YtgjhbapbomdpbaaDoor.Sh
open RF
/-! ### 1. a key's place -/
theorem findP_pos {t : List Nd} {post : List Nd} {d : Int} (hp : ∀ x, post.head? = some x → x.depth ≤ d) (key : Bs) : ∀ (F : RF) (p : Nat), t.drop p = F.flat ++ post → F.at_ d → (posF F p).find? (fun n : Nat => (nth t (n : Int)).key == key) = findP F p key
  | .nil, p, _, _ => rfl
  | .cons n k r, p, h, hat => by
    obtain ⟨h1, h2⟩ := atN_cons h hat hp
    rw [posF, List.find?_cons, h1.nth, findP, findP_pos hp key r _ h2 hat.2.2]
    by_cases hk : n.key = key
    · rw [if_pos hk, beq_iff_eq.2 hk]
    · rw [if_neg hk, beq_eq_false_iff_ne.2 hk]
theorem find_at {t : List Nd} {i : Nat} {n : Nd} {k : RF} {post : List Nd} (h : AtN t i n k post) (key : Bs) :
    (findS t i key = -1 ∧ k.findR key = none) ∨ ∃ (x : Nat) (m : Nd) (km : RF) (post' : List Nd), findS t i key = x ∧ k.findR key = some (m, km) ∧ AtN t x m km post' := by
  have hp : ∀ x, post.head? = some x → x.depth ≤ n.depth + 1 := fun x hx => by have := h.post x hx; omega
  have e : findS t i key = orN (findP k (i + 1) key) := by
    unfold findS
    rw [h.parts, findP_pos hp key k (i + 1) h.next h.at_]
  have hf := findP_find hp k (i + 1) key h.next h.at_
  cases hx : findP k (i + 1) key with
  | none =>
    rw [hx] at hf e
    exact .inl ⟨e, hf⟩
  | some x =>
    rw [hx] at hf e
    obtain ⟨m, km, post', g1, g2⟩ := hf
    exact .inr ⟨x, m, km, post', e, g1, g2⟩
theorem itemI_sign (key : Bs) : ∀ (l1 l2 : List Nat) (no : Nat), l1.length = l2.length → (0 ≤ itemI key l1 no ↔ 0 ≤ itemI key l2 no)
  | [], [], _, _ => Iff.rfl
  | [], _ :: _, _, h => by cases h
  | _ :: _, [], _, h => by cases h
  | a :: l1, b :: l2, no, h => by
    rw [itemI, itemI]
    split
    · constructor <;> intro <;> omega
    · exact itemI_sign key l1 l2 (no + 1) (by simpa using h)
theorem posF_len : ∀ (F : RF) (p q : Nat), (posF F p).length = (posF F q).length
  | .nil, _, _ => rfl
  | .cons n k r, p, q => by
    rw [posF, posF, List.length_cons, List.length_cons, posF_len r _ (q + 1 + k.flat.length)]
theorem step_sign {t u : List Nd} {i j : Nat} {n : Nd} {k : RF} {p q : List Nd} (h1 : AtN t i n k p) (h2 : AtN u j n k q) (more : Bs) : 0 ≤ stepS t i more ↔ 0 ≤ stepS u j more := by
  unfold stepS
  rw [h1.nth, h2.nth]
  split
  · rcases find_at h1 more with ⟨e1, f1⟩ | ⟨x, m, km, p', e1, f1, -⟩ <;> rcases find_at h2 more with ⟨e2, f2⟩ | ⟨y, m', km', q', e2, f2, -⟩
    · rw [e1, e2]
    · rw [f1] at f2; cases f2
    · rw [f1] at f2; cases f2
    · rw [e1, e2]; omega
  · split
    · exact Iff.rfl
    · rw [h1.parts, h2.parts]
      exact itemI_sign more _ _ 0 (posF_len k _ _)
/-! ### 2. a key in what is laid -/
theorem findR_none : ∀ (F : RF) (key : Bs), F.findR key = none ↔ key ∉ F.keysL
  | .nil, key => by simp [RF.findR, RF.keysL]
  | .cons n k r, key => by
    rw [RF.findR]
    by_cases hk : n.key = key
    · rw [if_pos hk]; simp [RF.keysL, hk]
    · rw [if_neg hk, findR_none r key]
      simp only [RF.keysL, List.mem_cons, not_or]
      exact ⟨fun h => ⟨fun e => hk e.symm, h⟩, fun h => h.2⟩
theorem findR_app : ∀ (F G : RF) (key : Bs), (F.app G).findR key = match F.findR key with
    | some x => some x
    | none => G.findR key
  | .nil, G, key => rfl
  | .cons n k r, G, key => by
    rw [RF.app, RF.findR, RF.findR, findR_app r G key]
    by_cases hk : n.key = key
    · rw [if_pos hk, if_pos hk]
    · rw [if_neg hk, if_neg hk]
theorem findR_rest (ks : List Bs) : ∀ (B : RF) (key : Bs), (B.rest ks).findR key = if key ∈ ks then none else B.findR key
  | .nil, key => by simp [RF.rest, RF.findR]
  | .cons n k r, key => by
    rw [RF.rest, RF.findR]
    by_cases h : n.key ∈ ks
    · rw [if_pos h, findR_rest ks r key]
      by_cases hk : n.key = key
      · subst hk; rw [if_pos h, if_pos h]
      · rw [if_neg hk]
    · rw [if_neg h, RF.findR, findR_rest ks r key]
      by_cases hk : n.key = key
      · subst hk; rw [if_pos rfl, if_pos rfl, if_neg h]
      · rw [if_neg hk, if_neg hk]
theorem findR_layA : ∀ (A B : RF) (key : Bs), B.GN 1 → (A.layA B).findR key = match A.findR key with
    | none => none
    | some (n, k) => match B.findR key with
      | none => some (n, k)
      | some (m, km) => if n.kind = 1 ∧ m.kind = 1 then some (m, k.layK km) else some (m, km)
  | .nil, B, key, _ => rfl
  | .cons n k r, B, key, hB => by
    have ih := findR_layA r B key hB
    rw [RF.layA, RF.findR]
    cases hf : B.findR n.key with
    | none =>
      simp only
      rw [RF.findR, ih]
      by_cases hk : n.key = key
      · subst hk; rw [if_pos rfl, if_pos rfl, hf]
      · rw [if_neg hk, if_neg hk]
    | some x =>
      obtain ⟨m, km⟩ := x
      have hm := (findR_gn B n.key m km hB hf).1
      simp only
      by_cases hkk : n.kind = 1 ∧ m.kind = 1
      · rw [if_pos hkk, RF.findR, ih, hm]
        by_cases hk : n.key = key
        · subst hk; rw [if_pos rfl, if_pos rfl, hf]
          simp only
          rw [if_pos hkk]; rfl
        · rw [if_neg hk, if_neg hk]
      · rw [if_neg hkk, RF.findR, ih, hm]
        by_cases hk : n.key = key
        · subst hk; rw [if_pos rfl, if_pos rfl, hf]
          simp only
          rw [if_neg hkk]
        · rw [if_neg hk, if_neg hk]
theorem findR_layK (A B : RF) (key : Bs) (hB : B.GN 1) : (A.layK B).findR key = match A.findR key with
    | none => B.findR key
    | some (n, k) => match B.findR key with
      | none => some (n, k)
      | some (m, km) => if n.kind = 1 ∧ m.kind = 1 then some (m, k.layK km) else some (m, km) := by
  unfold RF.layK
  rw [findR_app, findR_layA A B key hB, findR_rest]
  cases hA : A.findR key with
  | none =>
    simp only
    rw [if_neg ((findR_none A key).1 hA)]
  | some x =>
    obtain ⟨n, k⟩ := x
    simp only
    cases hB : B.findR key with
    | none => rfl
    | some y =>
      obtain ⟨m, km⟩ := y
      simp only
      by_cases hkk : n.kind = 1 ∧ m.kind = 1
      · rw [if_pos hkk]; exact (if_pos hkk).symm
      · rw [if_neg hkk]; exact (if_neg hkk).symm
/-! ### 3. paths of one and two keys -/
theorem getS_one {t : List Nd} (h : isS t = true) (key : Bs) : getS t [key] = findS t 0 key := by
  obtain ⟨a, F, rfl, f1, f2, f3, f4, f5, f6⟩ := is_tree h
  have hk : (nth (a :: F.flat) ((0 : Nat) : Int)).kind = 1 := by rw [nth_nat]; exact f4
  have hb := findS_bd (t := a :: F.flat) (i := 0) (by simp) key
  unfold getS
  rw [if_pos h, getGo]
  unfold stepS
  rw [if_pos hk]
  split
  · omega
  · rw [getGo]; omega
theorem getS_two {t : List Nd} (h : isS t = true) (key more : Bs) : getS t [key, more] = if findS t 0 key < 0 then -1 else stepS t (findS t 0 key).toNat more := by
  obtain ⟨a, F, rfl, f1, f2, f3, f4, f5, f6⟩ := is_tree h
  have hk : (nth (a :: F.flat) ((0 : Nat) : Int)).kind = 1 := by rw [nth_nat]; exact f4
  have hb := findS_bd (t := a :: F.flat) (i := 0) (by simp) key
  have e : stepS (a :: F.flat) 0 key = findS (a :: F.flat) 0 key := by unfold stepS; rw [if_pos hk]
  unfold getS
  rw [if_pos h, getGo, e]
  split
  · rfl
  · rename_i h1
    have hb2 := stepS_bd (a :: F.flat) (findS (a :: F.flat) 0 key).toNat more (by omega)
    rw [getGo]
    split
    · omega
    · rw [getGo]; omega
theorem gets_law {a b : List Nd} (ha : isS a = true) (hb : isS b = true) (hl : (layS a b).length ≤ 16384) (key more : Bs) (x y z p q r : Int) (hx : x = getS a [key]) (hy : y = getS b [key]) (hz : z = getS (layS a b) [key]) (hp : p = getS a [key, more]) (hq : q = getS b [key, more]) (hr : r = getS (layS a b) [key, more]) :
    (0 ≤ z ↔ 0 ≤ x ∨ 0 ≤ y) ∧
    (¬ (0 ≤ x ∧ 0 ≤ y ∧ (nth a x).kind = 1 ∧ (nth b y).kind = 1) → 0 ≤ y → nth (layS a b) z = nth b y ∧ (0 ≤ r ↔ 0 ≤ q)) ∧
    (y < 0 → 0 ≤ x → nth (layS a b) z = nth a x ∧ (0 ≤ r ↔ 0 ≤ p)) ∧
    (0 ≤ x → 0 ≤ y → (nth a x).kind = 1 → (nth b y).kind = 1 → (nth (layS a b) z).kind = 1 ∧ (0 ≤ r ↔ 0 ≤ p ∨ 0 ≤ q) ∧ (0 ≤ r → 0 ≤ q → nth (layS a b) r = nth b q) ∧ (0 ≤ r → q < 0 → nth (layS a b) r = nth a p)) := by
  have hT := layS_is ha hb hl
  rw [getS_one ha] at hx
  rw [getS_one hb] at hy
  rw [getS_one hT] at hz
  rw [getS_two ha, ← hx] at hp
  rw [getS_two hb, ← hy] at hq
  rw [getS_two hT, ← hz] at hr
  obtain ⟨na, A, rfl, a1, a2, a3, a4, a5, -⟩ := is_tree ha
  obtain ⟨nb, B, rfl, b1, b2, b3, b4, b5, -⟩ := is_tree hb
  have e := layS_flat (A := A) (B := B) (by rw [a5]; exact a1) (by rw [b5]; exact b1) a2 b2 a4 b4
  have gK := layK_gn a2 b2
  have tK : (A.layK B).at_ 1 := layK_at a1 b1
  have rA : AtN (na :: A.flat) 0 na A [] := ⟨by simp, by rw [a5]; exact a1, by simp⟩
  have rB : AtN (nb :: B.flat) 0 nb B [] := ⟨by simp, by rw [b5]; exact b1, by simp⟩
  have rT : AtN (layS (na :: A.flat) (nb :: B.flat)) 0 nb (A.layK B) [] := by rw [e]; exact ⟨by simp, by rw [b5]; exact tK, by simp⟩
  have hk := findR_layK A B key b2
  generalize layS (na :: A.flat) (nb :: B.flat) = T at *
  generalize na :: A.flat = a at *
  generalize nb :: B.flat = b at *
  rcases find_at rA key with ⟨e1, f1⟩ | ⟨i, n, k, p1, e1, f1, g1⟩
  · rcases find_at rB key with ⟨e2, f2⟩ | ⟨j, m, km, p2, e2, f2, g2⟩
    · rw [f1, f2] at hk
      rcases find_at rT key with ⟨e3, f3⟩ | ⟨l, o, ko, p3, e3, f3, g3⟩
      · rw [e1] at hx; rw [e2] at hy; rw [e3] at hz
        subst hx hy hz
        refine ⟨by decide, fun _ h => absurd h (by decide), fun _ h => absurd h (by decide), fun h => absurd h (by decide)⟩
      · rw [f3] at hk; cases hk
    · rw [f1, f2] at hk
      rcases find_at rT key with ⟨e3, f3⟩ | ⟨l, o, ko, p3, e3, f3, g3⟩
      · rw [f3] at hk; cases hk
      · rw [f3] at hk
        injection hk with hk
        injection hk with h1 h2
        subst h1 h2
        rw [e1] at hx; rw [e2] at hy; rw [e3] at hz
        subst hx hy hz
        rw [if_neg (by omega), Int.toNat_natCast] at hq hr
        refine ⟨by omega, fun _ _ => ⟨by rw [g2.nth, g3.nth], ?_⟩, fun h => by omega, fun h => absurd h (by decide)⟩
        rw [hq, hr]
        exact step_sign g3 g2 more
  · rcases find_at rB key with ⟨e2, f2⟩ | ⟨j, m, km, p2, e2, f2, g2⟩
    · rw [f1, f2] at hk
      rcases find_at rT key with ⟨e3, f3⟩ | ⟨l, o, ko, p3, e3, f3, g3⟩
      · rw [f3] at hk; cases hk
      · rw [f3] at hk
        injection hk with hk
        injection hk with h1 h2
        subst h1 h2
        rw [e1] at hx; rw [e2] at hy; rw [e3] at hz
        subst hx hy hz
        rw [if_neg (by omega), Int.toNat_natCast] at hp hr
        refine ⟨by omega, fun _ h => absurd h (by decide), fun _ _ => ⟨by rw [g1.nth, g3.nth], ?_⟩, fun _ h => absurd h (by decide)⟩
        rw [hp, hr]
        exact step_sign g3 g1 more
    · rw [f1, f2] at hk
      simp only at hk
      rcases find_at rT key with ⟨e3, f3⟩ | ⟨l, o, ko, p3, e3, f3, g3⟩
      · rw [f3] at hk; split at hk <;> cases hk
      · rw [f3] at hk
        rw [e1] at hx; rw [e2] at hy; rw [e3] at hz
        subst hx hy hz
        rw [if_neg (by omega), Int.toNat_natCast] at hp hq hr
        by_cases hkk : n.kind = 1 ∧ m.kind = 1
        · rw [if_pos hkk] at hk
          injection hk with hk
          injection hk with h1 h2
          subst h1 h2
          refine ⟨by omega, fun h => ?_, fun h => by omega, fun _ _ _ _ => ?_⟩
          · exact (h ⟨by omega, by omega, by rw [g1.nth]; exact hkk.1, by rw [g2.nth]; exact hkk.2⟩).elim
          have gkm : km.GN 1 := by
            have := (findR_gn B key o km b2 f2).2.2.2.2
            rw [hkk.2] at this
            exact this
          have hk2 := findR_layK k km more gkm
          have s1 : stepS a i more = findS a i more := by unfold stepS; rw [g1.nth, if_pos hkk.1]
          have s2 : stepS b j more = findS b j more := by unfold stepS; rw [g2.nth, if_pos hkk.2]
          have s3 : stepS T l more = findS T l more := by unfold stepS; rw [g3.nth, if_pos hkk.2]
          rw [s1] at hp; rw [s2] at hq; rw [s3] at hr
          refine ⟨by rw [g3.nth]; exact hkk.2, ?_⟩
          rcases find_at g1 more with ⟨u1, v1⟩ | ⟨i', n', k', p1', u1, v1, w1⟩ <;> rcases find_at g2 more with ⟨u2, v2⟩ | ⟨j', m', km', p2', u2, v2, w2⟩ <;> rcases find_at g3 more with ⟨u3, v3⟩ | ⟨l', o', ko', p3', u3, v3, w3⟩ <;> rw [v1, v2, v3] at hk2 <;> simp only at hk2
          · rw [hp, hq, hr, u1, u2, u3]
            exact ⟨by decide, fun h => absurd h (by decide), fun h => absurd h (by decide)⟩
          · cases hk2
          · cases hk2
          · injection hk2 with hk2
            injection hk2 with h1 h2
            subst h1 h2
            rw [hp, hq, hr, u1, u2, u3]
            exact ⟨by omega, fun _ _ => by rw [w2.nth, w3.nth], fun _ h => by omega⟩
          · cases hk2
          · injection hk2 with hk2
            injection hk2 with h1 h2
            subst h1 h2
            rw [hp, hq, hr, u1, u2, u3]
            exact ⟨by omega, fun _ h => absurd h (by decide), fun _ h => by rw [w1.nth, w3.nth]⟩
          · split at hk2 <;> cases hk2
          · have : o' = m' := by
              split at hk2
              · injection hk2 with hk2
                injection hk2
              · injection hk2 with hk2
                injection hk2
            subst this
            rw [hp, hq, hr, u1, u2, u3]
            exact ⟨by omega, fun _ _ => by rw [w2.nth, w3.nth], fun _ h => by omega⟩
        · rw [if_neg hkk] at hk
          injection hk with hk
          injection hk with h1 h2
          subst h1 h2
          refine ⟨by omega, fun _ _ => ⟨by rw [g2.nth, g3.nth], ?_⟩, fun h => by omega, fun _ _ h1 h2 => ?_⟩
          · rw [hq, hr]
            exact step_sign g3 g2 more
          · rw [g1.nth] at h1; rw [g2.nth] at h2
            exact (hkk ⟨h1, h2⟩).elim
/-! ### 4. cut out, and laid over -/
theorem findP_split : ∀ (F : RF) (p : Nat) (key : Bs) (x : Nat), findP F p key = some x → ∃ (pre : RF) (n : Nd) (k r : RF), F = pre.app (.cons n k r) ∧ key ∉ pre.keysL ∧ n.key = key ∧ x = p + pre.flat.length
  | .nil, p, key, x, h => by cases h
  | .cons n k r, p, key, x, h => by
    rw [findP] at h
    split at h
    · rename_i hk
      injection h with h
      exact ⟨.nil, n, k, r, rfl, by simp [RF.keysL], hk, by simp [RF.flat, h]⟩
    · rename_i hk
      obtain ⟨pre, n', k', r', e1, e2, e3, e4⟩ := findP_split r _ key x h
      refine ⟨.cons n k pre, n', k', r', by rw [e1]; rfl, ?_, e3, ?_⟩
      · simp only [RF.keysL, List.mem_cons, not_or]
        exact ⟨fun e => hk e.symm, e2⟩
      · rw [e4]; simp [RF.flat]; omega
theorem at_app_inv : ∀ (F G : RF) (d : Int), (F.app G).at_ d → F.at_ d ∧ G.at_ d
  | .nil, G, d, h => ⟨trivial, h⟩
  | .cons n k r, G, d, ⟨h1, h2, h3⟩ => ⟨⟨h1, h2, (at_app_inv r G d h3).1⟩, (at_app_inv r G d h3).2⟩
theorem gn_app_inv : ∀ (F G : RF) (q : Int), (F.app G).GN q → F.GN q ∧ G.GN q ∧ (q ≠ 2 → ∀ key ∈ F.keysL, key ∉ G.keysL)
  | .nil, G, q, h => ⟨trivial, h, fun _ key h => by cases h⟩
  | .cons n k r, G, q, ⟨a1, a2, a3, a4, a5, a6⟩ => by
    obtain ⟨i1, i2, i3⟩ := gn_app_inv r G q a6
    rw [keysL_app] at a4
    refine ⟨⟨a1, a2, a3, fun hq => ⟨(a4 hq).1, fun h => (a4 hq).2 (List.mem_append.2 (.inl h))⟩, a5, i1⟩, i2, fun hq key hk => ?_⟩
    rcases List.mem_cons.1 hk with rfl | hk
    · exact fun h => (a4 hq).2 (List.mem_append.2 (.inr h))
    · exact i3 hq key hk
theorem layA_free : ∀ (A : RF) (n : Nd) (k : RF), n.key ∉ A.keysL → A.layA (.cons n k .nil) = A
  | .nil, n, k, _ => rfl
  | .cons m km r, n, k, h => by
    simp only [RF.keysL, List.mem_cons, not_or] at h
    rw [RF.layA, layA_free r n k h.2]
    have : (RF.cons n k .nil).findR m.key = none := by rw [RF.findR, if_neg h.1]; rfl
    rw [this]
/-- what is left where a key's part is cut out, and that part laid over it -/
structure CutsTo (t : List Nd) (key : Bs) (x : Nat) (u : List Nd) : Prop where
  dep : (nth t (x : Int)).depth = 1
  lt : x < t.length
  pos : 0 < x
  is : isS (withoutL t key) = true
  eq : withoutL t key = t.take x ++ t.drop (endS t x)
  get : findS (withoutL t key) 0 key = -1
  merge : mergeS [withoutL t key, ndR :: (t.take (endS t x)).drop x] = (u, 0)
  len : u.length = t.length
  ak : (t.take x ++ t.drop (endS t x)).map ak = (u.take (withoutL t key).length ++ u.drop t.length).map ak
theorem cuts_law {t : List Nd} (h : isS t = true) (key : Bs) : (findS t 0 key = -1 ∧ withoutL t key = t) ∨ ∃ (x : Nat) (u : List Nd), findS t 0 key = x ∧ CutsTo t key x u := by
  obtain ⟨a, F, rfl, f1, f2, f3, f4, f5, f6⟩ := is_tree h
  have r0 : AtN (a :: F.flat) 0 a F [] := ⟨by simp, by rw [f5]; exact f1, by simp⟩
  have e : findS (a :: F.flat) 0 key = orN (findP F 1 key) := by
    unfold findS
    rw [r0.parts, findP_pos (d := a.depth + 1) (by simp) key F (0 + 1) r0.next r0.at_]
  cases hx : findP F 1 key with
  | none =>
    rw [hx] at e
    refine .inl ⟨e, ?_⟩
    unfold withoutL
    rw [e, if_pos (by decide)]
  | some x =>
    rw [hx] at e
    obtain ⟨pre, n, k, r, rfl, hn1, hn2, rfl⟩ := findP_split F 1 key x hx
    have e : findS (a :: (pre.app (RF.cons n k r)).flat) 0 key = ((1 + pre.flat.length : Nat) : Int) := e
    obtain ⟨t1, t2⟩ := at_app_inv pre _ 1 f1
    obtain ⟨s1, s2, s3⟩ := gn_app_inv pre _ 1 f2
    obtain ⟨t3, t4, t5⟩ := t2
    obtain ⟨c1, c2, c3, c4, c5, c6⟩ := s2
    have hfl : (pre.app (RF.cons n k r)).flat = pre.flat ++ n :: (k.flat ++ r.flat) := by rw [flat_app]; rfl
    obtain ⟨t, ht⟩ : ∃ t, t = a :: (pre.flat ++ n :: (k.flat ++ r.flat)) := ⟨_, rfl⟩
    have htl : t.length = 1 + pre.flat.length + (1 + k.flat.length + r.flat.length) := by rw [ht]; simp; omega
    rw [hfl, ← ht] at e h f6 ⊢
    have hdr : t.drop (1 + pre.flat.length) = n :: (k.flat ++ r.flat) := by
      rw [ht, Nat.add_comm, List.drop_succ_cons, List.drop_left]
    have htk : t.take (1 + pre.flat.length) = a :: pre.flat := by
      rw [ht, Nat.add_comm, List.take_succ_cons, List.take_left]
    have hat : AtN t (1 + pre.flat.length) n k r.flat := ⟨hdr, by rw [t3]; exact t4, fun x hx => by
      cases r with
      | nil => cases hx
      | cons y ky ry => injection hx with hx; subst hx; rw [t5.1, t3]; omega⟩
    have hend := hat.endS
    have hdr2 : t.drop (1 + pre.flat.length + 1 + k.flat.length) = r.flat := by
      rw [Nat.add_assoc (1 + pre.flat.length) 1, ← List.drop_drop, hdr, Nat.add_comm 1, List.drop_succ_cons, List.drop_left]
    have hw : withoutL t key = a :: (pre.app r).flat := by
      unfold withoutL cutL
      rw [e, if_neg (by omega), Int.toNat_natCast, hend, htk, hdr2, flat_app]; rfl
    have hwl : (a :: (pre.app r).flat).length = 1 + pre.flat.length + r.flat.length := by rw [flat_app]; simp; omega
    have gW : (pre.app r).GN 1 := gn_app pre r 1 s1 c6 fun hq key hk hr => s3 hq key hk (by simp [RF.keysL, hr])
    have tW : (pre.app r).at_ 1 := at_app pre r 1 t1 t5
    have hW : isS (a :: (pre.app r).flat) = true := tree_is tW gW f3 (by omega)
    have hnk : n.key ∉ (pre.app r).keysL := by
      rw [keysL_app, List.mem_append]
      rintro (h | h)
      · rw [hn2] at h; exact hn1 h
      · exact (c4 (by decide)).2 h
    have gN : (RF.cons n k .nil).GN 1 := ⟨c1, c2, c3, fun hq => ⟨(c4 hq).1, by simp [RF.keysL]⟩, c5, trivial⟩
    have tN : (RF.cons n k .nil).at_ 1 := ⟨t3, t4, trivial⟩
    have hsub : (t.take (1 + pre.flat.length + 1 + k.flat.length)).drop (1 + pre.flat.length) = n :: k.flat := by
      have := hat.sub
      unfold subS at this
      rw [hend] at this
      exact this
    have hN : isS (ndR :: (RF.cons n k .nil).flat) = true := tree_is tN gN (by decide) (by simp [RF.flat]; omega)
    have hNf : (RF.cons n k .nil).flat = n :: k.flat := by simp [RF.flat]
    have hlay := layS_flat (na := a) (nb := ndR) (A := pre.app r) (B := .cons n k .nil) (by rw [f5]; exact tW) tN gW gN f4 rfl
    have hK : (pre.app r).layK (.cons n k .nil) = (pre.app r).app (.cons n k .nil) := by
      unfold RF.layK
      rw [layA_free _ n k hnk, RF.rest, if_neg hnk]; rfl
    rw [hK, flat_app (pre.app r) (.cons n k .nil), hNf] at hlay
    rw [hNf] at hN
    have hul : (ndR :: ((pre.app r).flat ++ (n :: k.flat))).length = t.length := by rw [htl, flat_app]; simp; omega
    refine .inr ⟨1 + pre.flat.length, ndR :: ((pre.app r).flat ++ (n :: k.flat)), e, ?_⟩
    refine ⟨by rw [hat.nth]; exact t3, hat.lt, by omega, by rw [hw]; exact hW, ?_, ?_, ?_, hul, ?_⟩
    · rw [hw, hend, htk, hdr2, flat_app]; rfl
    · rw [hw]
      have r1 : AtN (a :: (pre.app r).flat) 0 a (pre.app r) [] := ⟨by simp, by rw [f5]; exact tW, by simp⟩
      rcases find_at r1 key with ⟨g1, -⟩ | ⟨_, m, km, _, -, g2, -⟩
      · exact g1
      · have := (findR_none (pre.app r) key).2 (by rw [← hn2]; exact hnk)
        rw [this] at g2
        cases g2
    · rw [hw, hend, hsub]
      unfold mergeS
      rw [if_pos (by simp [hW, hN])]
      simp only
      rw [foldS, hlay, if_neg (by omega), foldS]
    · rw [hw, hend, htk, hdr2]
      have e1 : (ndR :: ((pre.app r).flat ++ (n :: k.flat))).drop t.length = [] := List.drop_eq_nil_of_le (by omega)
      have e2 : (ndR :: ((pre.app r).flat ++ (n :: k.flat))).take (a :: (pre.app r).flat).length = ndR :: (pre.app r).flat := by
        rw [List.length_cons, List.take_succ_cons, List.take_left]
      rw [e1, e2, List.append_nil, flat_app]
      have hr := f3
      unfold rootOk at hr
      simp at hr
      simp [C.ak, hr.1.1.1, hr.1.1.2, hr.1.2, hr.2]
end Go.Proofs.YtgjhbapbomdpbaaDoor.C
