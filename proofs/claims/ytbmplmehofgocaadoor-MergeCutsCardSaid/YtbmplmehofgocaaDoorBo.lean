/- tree.Is answers as the document does. -/
import Derived.Test.YtbmplmehofgocaaDoorBk
import Derived.Test.YtbmplmehofgocaaDoorBf
set_option linter.unusedVariables false
set_option linter.unusedSimpArgs false
set_option maxRecDepth 10000
/-! tree.Is answers as the document does. -/
namespace Go.Proofs.YtbmplmehofgocaaDoor.C
open Go.RowKit Go.Proofs.YtbmplmehofgocaaDoor.Sh
def Par (t : List Nd) (p k : Nat) : Prop := p < k ∧ (nth t (k : Int)).depth = (nth t (p : Int)).depth + 1 ∧ ∀ j : Nat, p < j → j < k → (nth t (p : Int)).depth < (nth t (j : Int)).depth
theorem nth_cons_s {α : Type} [Inhabited α] (x : α) (r : List α) (m : Nat) : nth (x :: r) ((m + 1 : Nat) : Int) = nth r (m : Int) := by rw [nth_nat, nth_nat]; rfl
theorem nth_cons_z {α : Type} [Inhabited α] (x : α) (r : List α) : nth (x :: r) ((0 : Nat) : Int) = x := rfl
theorem mem_partsR (d : Int) : ∀ (r : List Nd) (k x : Nat), x ∈ partsR d r k ↔ ∃ m, x = k + m ∧ m < r.length ∧ (nth r (m : Int)).depth = d + 1 ∧ ∀ j : Nat, j < m → d < (nth r (j : Int)).depth
  | [], k, x => by simp [partsR]
  | n :: r, k, x => by
    have ih := mem_partsR d r (k + 1) x
    have up : (∃ m, x = k + (m + 1) ∧ m < r.length ∧ (nth r (m : Int)).depth = d + 1 ∧ (∀ j : Nat, j < m → d < (nth r (j : Int)).depth)) ↔ x ∈ partsR d r (k + 1) := by
      rw [ih]
      constructor
      · rintro ⟨m, h1, h2⟩; exact ⟨m, by omega, h2⟩
      · rintro ⟨m, h1, h2⟩; exact ⟨m, by omega, h2⟩
    rw [partsR]
    by_cases h : d < n.depth
    · rw [if_pos h]
      have sp : (∃ m, x = k + m ∧ m < (n :: r).length ∧ (nth (n :: r) (m : Int)).depth = d + 1 ∧ ∀ j : Nat, j < m → d < (nth (n :: r) (j : Int)).depth) ↔ (x = k ∧ n.depth = d + 1) ∨ x ∈ partsR d r (k + 1) := by
        rw [← up]
        constructor
        · rintro ⟨m, h1, h2, h3, h4⟩
          cases m with
          | zero => exact .inl ⟨by omega, h3⟩
          | succ m =>
            rw [nth_cons_s] at h3
            refine .inr ⟨m, h1, by simpa using h2, h3, fun j hj => ?_⟩
            have := h4 (j + 1) (by omega)
            rw [nth_cons_s] at this
            exact this
        · rintro (⟨h1, h2⟩ | ⟨m, h1, h2, h3, h4⟩)
          · exact ⟨0, by omega, by simp, h2, fun j hj => absurd hj (Nat.not_lt_zero j)⟩
          · refine ⟨m + 1, h1, by simpa using h2, by rw [nth_cons_s]; exact h3, fun j hj => ?_⟩
            cases j with
            | zero => exact h
            | succ j => rw [nth_cons_s]; exact h4 j (by omega)
      rw [sp]
      by_cases h2 : n.depth = d + 1
      · rw [if_pos h2, List.mem_cons]
        simp [h2]
      · rw [if_neg h2]
        simp [h2]
    · rw [if_neg h]
      constructor
      · intro q; cases q
      · rintro ⟨m, h1, h2, h3, h4⟩
        cases m with
        | zero => have h3 : n.depth = d + 1 := h3; omega
        | succ m => exact absurd (h4 0 (by omega)) h
theorem nth_drop {α : Type} [Inhabited α] (l : List α) (a m : Nat) : nth (l.drop a) (m : Int) = nth l ((a + m : Nat) : Int) := by
  rw [nth_nat, nth_nat]; simp [List.getElem?_drop]
theorem mem_partsS {t : List Nd} {p k : Nat} : k ∈ partsS t p ↔ Par t p k ∧ k < t.length := by
  unfold partsS Par
  rw [mem_partsR]
  constructor
  · rintro ⟨m, h1, h2, h3, h4⟩
    rw [nth_drop] at h3
    simp only [List.length_drop] at h2
    refine ⟨⟨by omega, by rw [h1]; exact h3, fun j hj1 hj2 => ?_⟩, by omega⟩
    have := h4 (j - (p + 1)) (by omega)
    rw [nth_drop] at this
    have e : p + 1 + (j - (p + 1)) = j := by omega
    rw [e] at this
    exact this
  · rintro ⟨⟨h1, h2, h3⟩, h4⟩
    refine ⟨k - (p + 1), by omega, by simp only [List.length_drop]; omega, ?_, fun j hj => ?_⟩
    · rw [nth_drop]
      have e : p + 1 + (k - (p + 1)) = k := by omega
      rw [e]; exact h2
    · rw [nth_drop]
      exact h3 _ (by omega) (by omega)
theorem incR (d : Int) : ∀ (r : List Nd) (k : Nat), (partsR d r k).Pairwise (· < ·)
  | [], k => by rw [partsR]; exact .nil
  | n :: r, k => by
    rw [partsR]
    split
    · split
      · refine .cons (fun x hx => ?_) (incR d r (k + 1))
        have := partsR_mem _ _ _ x hx
        omega
      · exact incR d r (k + 1)
    · exact .nil
theorem distI_iff (t : List Nd) : ∀ l : List Nat, l.Pairwise (· < ·) → (distI t l = true ↔ ∀ x ∈ l, ∀ y ∈ l, x < y → (nth t (x : Int)).key ≠ (nth t (y : Int)).key)
  | [], _ => by simp [distI]
  | a :: l, h => by
    cases h with
    | cons h1 h2 =>
      rw [distI, Bool.and_eq_true, distI_iff t l h2]
      constructor
      · rintro ⟨q1, q2⟩ x hx y hy hxy
        rcases List.mem_cons.1 hx with hx1 | hx1
        · rcases List.mem_cons.1 hy with hy1 | hy1
          · omega
          · intro e
            rw [Bool.not_eq_true', List.any_eq_false] at q1
            rw [hx1] at e
            exact q1 y hy1 (by rw [e]; exact beq_self_eq_true _)
        · rcases List.mem_cons.1 hy with hy1 | hy1
          · have := h1 x hx1; omega
          · exact q2 x hx1 y hy1 hxy
      · intro q
        refine ⟨?_, fun x hx y hy => q x (List.mem_cons_of_mem _ hx) y (List.mem_cons_of_mem _ hy)⟩
        rw [Bool.not_eq_true', List.any_eq_false]
        intro y hy e
        exact q a (List.mem_cons_self ..) y (List.mem_cons_of_mem _ hy) (h1 y hy) (eq_of_beq e)
/-- no two parts of a map have one key -/
def Uniq (t : List Nd) (k : Nat) : Prop := ∀ j : Nat, k ≤ j → j < t.length → ∀ p : Nat, (nth t (p : Int)).kind = 1 → Par t p j → ∀ i : Nat, i < j → Par t p i → (nth t (i : Int)).key ≠ (nth t (j : Int)).key
theorem mapsOk_iff (t : List Nd) : mapsOk t = true ↔ Uniq t 1 := by
  unfold mapsOk Uniq
  rw [List.all_eq_true]
  constructor
  · intro h j hj hjl p hp hpj i hij hpi
    have h1 := h p (List.mem_range.2 (by have := hpj.1; omega))
    rw [hp] at h1
    have h1 : distI t (partsS t p) = true := by simpa using h1
    exact (distI_iff t _ (incR _ _ _)).1 h1 i (mem_partsS.2 ⟨hpi, by omega⟩) j (mem_partsS.2 ⟨hpj, hjl⟩) hij
  · intro h p hp
    by_cases hk : (nth t (p : Int)).kind = 1
    · have : distI t (partsS t p) = true := by
        refine (distI_iff t _ (incR _ _ _)).2 fun x hx y hy hxy => ?_
        have hx := mem_partsS.1 hx
        have hy := mem_partsS.1 hy
        exact h y (by have := hy.1.1; omega) hy.2 p hk hy.1 x hxy hx.1
      rw [this]; simp
    · have : ((nth t (p : Int)).kind == 1) = false := by simpa using hk
      rw [this]; rfl
/-! ### the open blocks, and the kinds by depth -/
def SI (t : List Nd) (k : Nat) (ks : List Int) : List OB → Prop
  | [] => True
  | b :: st => (∃ p : Nat, b.node = p ∧ p < k ∧ (nth t (p : Int)).depth = st.length ∧ (∀ j : Nat, p < j → j < k → (nth t (p : Int)).depth < (nth t (j : Int)).depth) ∧ nth ks (st.length : Int) = (nth t (p : Int)).kind ∧
      ((nth t (p : Int)).kind ≠ 2 → ∀ key, (alook key b.keys).isSome = true ↔ ∃ j : Nat, j < k ∧ Par t p j ∧ (nth t (j : Int)).key = key)) ∧ SI t k ks st
theorem si_drop {t : List Nd} {k : Nat} {ks : List Int} : ∀ {st : List OB} (m : Nat), SI t k ks st → SI t k ks (st.drop m)
  | [], m, h => by simpa using h
  | b :: st, 0, h => h
  | b :: st, m + 1, h => si_drop (st := st) m h.2
theorem nth_set_ne' {α : Type} [Inhabited α] (l : List α) (x : α) {i j : Nat} (h : i ≠ j) : nth (l.set i x) (j : Int) = nth l (j : Int) := nth_set_ne l x h
theorem si_next {t : List Nd} {k : Nat} {ks : List Int} {d : Nat} {v : Int} (hd : (nth t (k : Int)).depth = d) : ∀ {st : List OB}, st.length < d → SI t k ks st → SI t (k + 1) (ks.set d v) st
  | [], _, _ => trivial
  | b :: st, hl, ⟨⟨p, h1, h2, h3, h4, h5, h6⟩, hr⟩ => by
    simp only [List.length_cons] at hl
    refine ⟨⟨p, h1, by omega, h3, fun j hj1 hj2 => ?_, ?_, fun hk key => ?_⟩, si_next hd (by omega) hr⟩
    · by_cases hjk : j = k
      · subst hjk; rw [hd, h3]; omega
      · exact h4 j hj1 (by omega)
    · rw [nth_set_ne' _ _ (by omega)]; exact h5
    · rw [h6 hk key]
      constructor
      · rintro ⟨j, q1, q2⟩; exact ⟨j, by omega, q2⟩
      · rintro ⟨j, q1, q2, q3⟩
        by_cases hjk : j = k
        · subst hjk
          have := q2.2.1
          rw [hd, h3] at this
          omega
        · exact ⟨j, by omega, q2, q3⟩
theorem form_fits {n a : Nd} {q : Int} (h : formB n a q = true) : fitsB n a = true ∧ ((q = 1 ∧ (n.key.length : Int) ≤ 64) ∨ (q = 2 ∧ n.key = [])) := by
  unfold formB at h
  split at h
  · cases h
  rename_i h1
  split at h
  · cases h
  rename_i h2
  simp only [Bool.or_eq_true, Bool.and_eq_true, decide_eq_true_eq, beq_iff_eq, bne_iff_ne, not_or, not_and, ne_eq] at h h1 h2
  refine ⟨?_, h⟩
  unfold fitsB
  simp only [Bool.or_eq_true, Bool.and_eq_true, decide_eq_true_eq, beq_iff_eq, bne_iff_ne, ne_eq]
  refine ⟨⟨⟨⟨by omega, by omega⟩, by omega⟩, ?_⟩, ?_⟩
  · by_cases hd : n.depth ≤ a.depth
    · exact .inl hd
    · have : n.depth = a.depth + 1 := by omega
      exact .inr ⟨this, h2.2 this⟩
  · by_cases h3 : n.kind = 3
    · exact .inr h3
    · exact .inl (by have := h1.2 h3; simpa using this)
theorem fits_form {n a : Nd} {q : Int} (h : fitsB n a = true) (hq : (q = 1 ∧ (n.key.length : Int) ≤ 64) ∨ (q = 2 ∧ n.key = [])) : formB n a q = true := by
  unfold fitsB at h
  simp only [Bool.or_eq_true, Bool.and_eq_true, decide_eq_true_eq, beq_iff_eq, bne_iff_ne, ne_eq] at h
  obtain ⟨⟨⟨⟨h1, h2⟩, h3⟩, h4⟩, h5⟩ := h
  unfold formB
  rw [if_neg, if_neg]
  · simpa using hq
  · simp only [Bool.or_eq_true, Bool.and_eq_true, decide_eq_true_eq, beq_iff_eq, not_or, not_and]
    refine ⟨⟨⟨by omega, by omega⟩, by omega⟩, fun hd => ?_⟩
    rcases h4 with h4 | h4
    · omega
    · exact h4.2
  · simp only [Bool.or_eq_true, Bool.and_eq_true, decide_eq_true_eq, bne_iff_ne, ne_eq, not_or, not_and, Classical.not_not]
    refine ⟨⟨by omega, by omega⟩, fun hd => ?_⟩
    rcases h5 with h5 | h5
    · exact h5
    · exact absurd h5 hd
end Go.Proofs.YtbmplmehofgocaaDoor.C
/-! tree.Is answers as the document does: the induction. -/
namespace Go.Proofs.YtbmplmehofgocaaDoor.C
open Go.RowKit Go.Proofs.YtbmplmehofgocaaDoor.Sh
theorem par_uniq {t : List Nd} {p q k : Nat} (h1 : Par t p k) (h2 : Par t q k) : p = q := by
  obtain ⟨a1, a2, a3⟩ := h1
  obtain ⟨b1, b2, b3⟩ := h2
  rcases Nat.lt_trichotomy p q with h | h | h
  · have := a3 q h b1; omega
  · exact h
  · have := b3 p h a1; omega
theorem uniq_step {t : List Nd} {k : Nat} (hk : k < t.length) : Uniq t k ↔ Uniq t (k + 1) ∧ ∀ p : Nat, (nth t (p : Int)).kind = 1 → Par t p k → ∀ i : Nat, i < k → Par t p i → (nth t (i : Int)).key ≠ (nth t (k : Int)).key := by
  constructor
  · intro h
    exact ⟨fun j hj => h j (by omega), h k (Nat.le_refl _) hk⟩
  · rintro ⟨h1, h2⟩ j hj
    by_cases hjk : j = k
    · subst hjk; exact fun _ => h2
    · exact h1 j (by omega)
theorem is_main (t : List Nd) : ∀ (r : List Nd) (k : Nat) (st : List OB) (ks : List Int), r = t.drop k → 1 ≤ k → k ≤ t.length → SI t k ks st → (st.length : Int) = (nth t ((k : Int) - 1)).depth + 1 → (∃ s0, st = ⟨0, false, (k : Int) - 1, []⟩ :: s0) →
    (∀ b ∈ st.tail, (nth t b.node).kind = 1 ∨ (nth t b.node).kind = 2) → ((nth t ((k : Int) - 1)).kind = 1 ∨ (nth t ((k : Int) - 1)).kind = 2 ∨ (nth t ((k : Int) - 1)).kind = 3) → ks.length = 34 → 0 ≤ (nth t ((k : Int) - 1)).depth → (nth t ((k : Int) - 1)).depth ≤ 32 →
    (isGo t r (nth t ((k : Int) - 1)) k st = true ↔ formGo r (nth t ((k : Int) - 1)) ks = true ∧ Uniq t k)
  | [], k, st, ks, hr, hk1, hk2, hsi, hlen, hhd, htl, hkd, hksl, hd0, hd1 => by
    have : t.length ≤ k := by
      have := congrArg List.length hr
      simp only [List.length_nil, List.length_drop] at this
      omega
    rw [isGo, formGo]
    exact ⟨fun _ => ⟨rfl, fun j hj hjl => by omega⟩, fun _ => rfl⟩
  | n :: r, k, st, ks, hr, hk1, hk2, hsi, hlen, hhd, htl, hkd, hksl, hd0, hd1 => by
    have hkl : k < t.length := by
      have := congrArg List.length hr
      simp only [List.length_cons, List.length_drop] at this
      omega
    rw [drop_cons hkl] at hr
    injection hr with hn hr
    obtain ⟨a, ha⟩ : ∃ a, a = nth t ((k : Int) - 1) := ⟨_, rfl⟩
    rw [← ha] at hlen hkd hd0 hd1 ⊢
    by_cases hf : fitsB n a = true
    · have hff := hf
      unfold fitsB at hff
      simp only [Bool.or_eq_true, Bool.and_eq_true, decide_eq_true_eq, beq_iff_eq, bne_iff_ne, ne_eq] at hff
      obtain ⟨⟨⟨⟨hf1, hf2⟩, hf3⟩, hf4⟩, hf5⟩ := hff
      obtain ⟨d, hd⟩ : ∃ d : Nat, n.depth = d := ⟨n.depth.toNat, by omega⟩
      have hdt : n.depth.toNat = d := by omega
      have hdl : d ≤ st.length := by omega
      obtain ⟨b, r0, hb⟩ : ∃ b r0, st.drop (st.length - d) = b :: r0 := by
        refine List.exists_cons_of_ne_nil fun h => ?_
        have := congrArg List.length h
        simp only [List.length_drop, List.length_nil] at this
        omega
      have hbl : r0.length + 1 = d := by
        have := congrArg List.length hb
        simp only [List.length_drop, List.length_cons] at this
        omega
      have hsd := si_drop (st.length - d) hsi
      rw [hb] at hsd
      obtain ⟨⟨p, hp1, hp2, hp3, hp4, hp5, hp6⟩, hsr⟩ := hsd
      have hkd' : (nth t (k : Int)).depth = d := by rw [← hn]; exact hd
      have hpar : Par t p k := ⟨hp2, by rw [hkd', hp3]; omega, hp4⟩
      obtain ⟨s0, hs0⟩ := hhd
      have hr0t : ∀ x ∈ r0, x ∈ st.tail := by
        intro x hx
        rw [hs0, List.tail_cons]
        have hx2 : x ∈ (st.drop (st.length - d)).tail := by rw [hb]; exact hx
        rw [hs0] at hx2
        rw [List.tail_drop] at hx2
        exact List.mem_of_mem_drop (by rw [List.drop_succ_cons] at hx2; exact hx2)
      have hpk : (nth t (p : Int)).kind = 1 ∨ (nth t (p : Int)).kind = 2 := by
        by_cases hz : st.length - d = 0
        · rw [hz, List.drop_zero, hs0] at hb
          injection hb with hb1 hb2
          have hpe : (p : Int) = (k : Int) - 1 := by rw [← hp1, ← hb1]
          rw [hpe, ← ha]
          rcases hf4 with h | h
          · omega
          · rcases hkd with h1 | h1 | h1
            · exact .inl h1
            · exact .inr h1
            · exact absurd h1 h.2
        · have : b ∈ st.tail := by
            rw [hs0, List.tail_cons]
            have e : st.length - d = (st.length - d - 1) + 1 := by omega
            rw [e, hs0, List.drop_succ_cons] at hb
            exact List.mem_of_mem_drop (by rw [hb]; exact List.mem_cons_self ..)
          have := htl b this
          rw [hp1] at this
          exact this
      have hks1 : nth ks (n.depth - 1) = (nth t (p : Int)).kind := by
        have : n.depth - 1 = (r0.length : Int) := by omega
        rw [this]; exact hp5
      have hform : ∀ v : Bool, formB n a (nth t (p : Int)).kind = v → formGo (n :: r) a ks = (v && formGo r n (ks.set d n.kind)) := by
        intro v hv
        rw [formGo, hks1, hv, hdt]
        have q1 : decide (n.depth < 1) = false := decide_eq_false (by omega)
        have q2 : decide (32 < n.depth) = false := decide_eq_false (by omega)
        rw [q1, q2]
        cases v <;> simp
      have e1 : ((k + 1 : Nat) : Int) - 1 = k := by omega
      have IH : ∀ b' : OB, b'.node = p → ((nth t (p : Int)).kind ≠ 2 → ∀ key, (alook key b'.keys).isSome = true ↔ ∃ j : Nat, j < k + 1 ∧ Par t p j ∧ (nth t (j : Int)).key = key) →
          (isGo t r n ((k : Int) + 1) (⟨0, false, (k : Int), []⟩ :: b' :: r0) = true ↔ formGo r n (ks.set d n.kind) = true ∧ Uniq t (k + 1)) := by
        intro b' hb'n hb'k
        have := is_main t r (k + 1) (⟨0, false, (k : Int), []⟩ :: b' :: r0) (ks.set d n.kind) hr (by omega) (by omega) ?_ ?_ ⟨b' :: r0, by rw [e1]⟩ ?_ ?_ (by simp [hksl]) ?_ ?_
        · rw [e1, ← hn] at this
          exact this
        · refine ⟨⟨k, rfl, by omega, ?_, fun j hj1 hj2 => by omega, ?_, fun _ key => ?_⟩, ⟨p, hb'n, by omega, hp3, fun j hj1 hj2 => ?_, ?_, hb'k⟩, si_next hkd' (by omega) hsr⟩
          · rw [hkd']; simp only [List.length_cons]; omega
          · have : ((b' :: r0).length : Int) = (d : Int) := by simp only [List.length_cons]; omega
            rw [this, nth_set_eq _ _ (by omega), hn]
          · constructor
            · intro h; simp [alook] at h
            · rintro ⟨j, q1, q2, -⟩
              have := q2.1
              omega
          · by_cases hjk : j = k
            · subst hjk; rw [hkd', hp3]; omega
            · exact hp4 j hj1 (by omega)
          · rw [nth_set_ne' _ _ (by omega)]; exact hp5
        · rw [e1, ← hn, hd]; simp only [List.length_cons]; omega
        · intro x hx
          rw [List.tail_cons] at hx
          rcases List.mem_cons.1 hx with rfl | hx
          · rw [hb'n]; exact hpk
          · exact htl x (hr0t x hx)
        · rw [e1, ← hn]
          rcases hf1 with (h | h) | h
          · exact .inl h
          · exact .inr (.inl h)
          · exact .inr (.inr h)
        · rw [e1, ← hn]; omega
        · rw [e1, ← hn]; omega
      rw [uniq_step hkl]
      rw [isGo, if_neg (by rw [hf]; decide), hdt, hb]
      simp only
      rw [hp1]
      rcases hpk with hpk | hpk
      · -- a map
        rw [if_neg (by rw [hpk]; decide)]
        by_cases hlen64 : (n.key.length : Int) ≤ 64
        · rw [hform true (fits_form hf (.inl ⟨hpk, hlen64⟩)), Bool.true_and]
          by_cases hdup : (alook n.key b.keys).isSome = true
          · rw [if_pos (by rw [hdup]; rfl)]
            obtain ⟨j, q1, q2, q3⟩ := (hp6 (by rw [hpk]; decide) n.key).1 hdup
            constructor
            · intro h; cases h
            · rintro ⟨-, -, h⟩
              exact absurd (by rw [q3, hn]) (h p hpk hpar j q1 q2)
          · rw [if_neg (by simp [hdup]; omega)]
            have := IH { b with keys := aput n.key (w64 ((alook n.key b.keys).getD 0 + 1)) b.keys } hp1 (fun h2 key => by
              simp only [alook_aput]
              constructor
              · intro h
                by_cases hke : n.key = key
                · exact ⟨k, by omega, hpar, by rw [← hn]; exact hke⟩
                · rw [if_neg hke] at h
                  obtain ⟨j, q1, q2⟩ := (hp6 h2 key).1 h
                  exact ⟨j, by omega, q2⟩
              · rintro ⟨j, q1, q2, q3⟩
                by_cases hke : n.key = key
                · rw [if_pos hke]; rfl
                · rw [if_neg hke]
                  refine (hp6 h2 key).2 ⟨j, ?_, q2, q3⟩
                  by_cases hjk : j = k
                  · subst hjk; rw [← hn] at q3; exact absurd q3 hke
                  · omega)
            rw [hp1] at this
            rw [this]
            constructor
            · rintro ⟨q1, q2⟩
              refine ⟨q1, q2, fun p' hp' hpar' i hi hpi e => ?_⟩
              have := par_uniq hpar hpar'
              subst this
              exact hdup ((hp6 (by rw [hpk]; decide) n.key).2 ⟨i, hi, hpi, by rw [e, hn]⟩)
            · rintro ⟨q1, q2, -⟩; exact ⟨q1, q2⟩
        · rw [if_pos (by simp; right; omega)]
          constructor
          · intro h; cases h
          · rintro ⟨h, -⟩
            cases hv : formB n a (nth t (p : Int)).kind with
            | false => rw [hform false hv] at h; cases h
            | true =>
              rcases (form_fits hv).2 with q | q
              · exact absurd q.2 hlen64
              · rw [hpk] at q; exact absurd q.1 (by decide)
      · -- a list
        rw [if_pos hpk]
        by_cases hkey : n.key = []
        · rw [if_neg (by simp [hkey]), hform true (fits_form hf (.inr ⟨hpk, hkey⟩)), Bool.true_and]
          have := IH b hp1 (fun h => absurd hpk h)
          rw [this]
          constructor
          · rintro ⟨q1, q2⟩
            refine ⟨q1, q2, fun p' hp' hpar' => ?_⟩
            have := par_uniq hpar hpar'
            subst this
            rw [hpk] at hp'
            exact absurd hp' (by decide)
          · rintro ⟨q1, q2, -⟩; exact ⟨q1, q2⟩
        · rw [if_pos hkey]
          constructor
          · intro h; cases h
          · rintro ⟨h, -⟩
            cases hv : formB n a (nth t (p : Int)).kind with
            | false => rw [hform false hv] at h; cases h
            | true =>
              rcases (form_fits hv).2 with q | q
              · rw [hpk] at q; exact absurd q.1 (by decide)
              · exact absurd q.2 hkey
    · rw [isGo, if_pos (by simpa using hf)]
      constructor
      · intro h; cases h
      · rintro ⟨h, -⟩
        rw [formGo] at h
        split at h
        · cases h
        · rename_i h1
          simp only [Bool.or_eq_true, not_or, Bool.not_eq_true', Bool.not_eq_false] at h1
          exact absurd (form_fits h1.2).1 hf
theorem is_ref (t : List Nd) : isS t = refIsS t := by
  cases t with
  | nil => rfl
  | cons a r =>
    unfold isS refIsS
    simp only
    split
    · rfl
    split
    · rfl
    rename_i h1 h2
    have hro : rootOk a = true := by simpa using h2
    have hrr : a.kind = 1 ∧ a.depth = 0 := by
      unfold rootOk at hro
      simp at hro
      omega
    have := is_main (a :: r) r 1 [⟨0, false, 0, []⟩] ks0 rfl (Nat.le_refl _) (by simp) ⟨⟨0, rfl, by omega, by show a.depth = 0; exact hrr.2, fun j h1 h2 => by omega, by show (1 : Int) = a.kind; exact hrr.1.symm, fun _ key => ⟨fun h => by simp [alook] at h, fun ⟨j, q1, q2, _⟩ => by have := q2.1; omega⟩⟩, trivial⟩
      (by show (1 : Int) = a.depth + 1; omega) ⟨[], rfl⟩ (fun b hb => by cases hb) (.inl hrr.1) rfl (by show 0 ≤ a.depth; omega) (by show a.depth ≤ 32; omega)
    have this : isGo (a :: r) r a 1 [⟨0, false, 0, []⟩] = true ↔ formGo r a ks0 = true ∧ Uniq (a :: r) 1 := this
    rw [← mapsOk_iff] at this
    cases hfg : formGo r a ks0 with
    | false =>
      rw [if_pos rfl]
      cases hi : isGo (a :: r) r a 1 [⟨0, false, 0, []⟩] with
      | false => rfl
      | true => have := (this.1 hi).1; rw [hfg] at this; cases this
    | true =>
      rw [if_neg (by decide)]
      cases hm : mapsOk (a :: r) with
      | true => exact this.2 ⟨hfg, hm⟩
      | false =>
        cases hi : isGo (a :: r) r a 1 [⟨0, false, 0, []⟩] with
        | false => rfl
        | true => have := (this.1 hi).2; rw [hm] at this; cases this
theorem ris_wf2 {t : List Nd} (h : refIsS t = true) : 0 < t.length ∧ t.length ≤ 16384 ∧ ∀ j : Nat, j < t.length → (0 ≤ (nth t (j : Int)).depth ∧ (nth t (j : Int)).depth ≤ 32) ∧ (j + 1 < t.length → (nth t ((j + 1 : Nat) : Int)).depth ≤ (nth t (j : Int)).depth + 1) := by
  cases t with
  | nil => cases h
  | cons a r =>
    unfold refIsS at h
    simp only at h
    split at h
    · cases h
    rename_i hl
    split at h
    · cases h
    rename_i hro
    split at h
    · cases h
    rename_i hfg
    have hfg : formGo r a ks0 = true := by simpa using hfg
    have hro : rootOk a = true := by simpa using hro
    have hd0 : a.depth = 0 := by unfold rootOk at hro; simp at hro; omega
    have h1 := formGo_wf r a ks0 hfg
    refine ⟨by simp, by omega, fun j hj => ⟨?_, fun hj1 => ?_⟩⟩
    · cases j with
      | zero => show 0 ≤ a.depth ∧ a.depth ≤ 32; omega
      | succ j => rw [nth_cons_s]; have := h1 j (by simpa using hj); omega
    · rw [nth_cons_s]
      exact (h1 j (by simpa using hj1)).2.2
theorem isS_deep0 {t : List Nd} (h : isS t = true) : ∀ n ∈ t.drop 1, 1 ≤ n.depth := by
  cases t with
  | nil => simp
  | cons a r =>
    unfold isS at h
    simp only at h
    split at h
    · cases h
    split at h
    · cases h
    · exact fun n hn => (isGo_depth _ _ _ _ _ h n hn).1
theorem isS_deep' {a : Nd} {r : List Nd} (h : isS (a :: r) = true) : ∀ n ∈ r, 1 ≤ n.depth := isS_deep0 h
end Go.Proofs.YtbmplmehofgocaaDoor.C
