/- tree.Is answers as the document does: the induction. -/
import Derived.Test.YtpnkfnenhgfhpaaDoorBo
set_option linter.unusedVariables false
set_option linter.unusedSimpArgs false
set_option maxRecDepth 10000
namespace Go.Proofs.YtpnkfnenhgfhpaaDoor.C
open Go.RowKit Go.Proofs.YtpnkfnenhgfhpaaDoor.Sh
theorem par_uniq {t : List Nd} {p q k : Nat} (h1 : Par t p k) (h2 : Par t q k) : p = q := by
  obtain ⟨a1, a2, a3⟩ := h1
  obtain ⟨b1, b2, b3⟩ := h2
  rcases Nat.lt_trichotomy p q with h | h | h
  · have := a3 q h b1; omega
  · exact h
  · have := b3 p h a1; omega
theorem uniq_step {t : List Nd} {k : Nat} (hk : k < t.length) : Uniq t k ↔ Uniq t (k + 1) ∧ ∀ p : Nat, (nth t (p : Int)).kind = 1 → Par t p k → ∀ i : Nat, i < k → Par t p i → (nth t (i : Int)).key ≠ (nth t (k : Int)).key := by
  constructor
  · intro h
    exact ⟨fun j hj => h j (by omega), h k (Nat.le_refl _) hk⟩
  · rintro ⟨h1, h2⟩ j hj
    by_cases hjk : j = k
    · subst hjk; exact fun _ => h2
    · exact h1 j (by omega)
theorem is_main (t : List Nd) : ∀ (r : List Nd) (k : Nat) (st : List OB) (ks : List Int), r = t.drop k → 1 ≤ k → k ≤ t.length → SI t k ks st → (st.length : Int) = (nth t ((k : Int) - 1)).depth + 1 → (∃ s0, st = ⟨0, false, (k : Int) - 1, []⟩ :: s0) →
    (∀ b ∈ st.tail, (nth t b.node).kind = 1 ∨ (nth t b.node).kind = 2) → ((nth t ((k : Int) - 1)).kind = 1 ∨ (nth t ((k : Int) - 1)).kind = 2 ∨ (nth t ((k : Int) - 1)).kind = 3) → ks.length = 34 → 0 ≤ (nth t ((k : Int) - 1)).depth → (nth t ((k : Int) - 1)).depth ≤ 32 →
    (isGo t r (nth t ((k : Int) - 1)) k st = true ↔ formGo r (nth t ((k : Int) - 1)) ks = true ∧ Uniq t k)
  | [], k, st, ks, hr, hk1, hk2, hsi, hlen, hhd, htl, hkd, hksl, hd0, hd1 => by
    have : t.length ≤ k := by
      have := congrArg List.length hr
      simp only [List.length_nil, List.length_drop] at this
      omega
    rw [isGo, formGo]
    exact ⟨fun _ => ⟨rfl, fun j hj hjl => by omega⟩, fun _ => rfl⟩
  | n :: r, k, st, ks, hr, hk1, hk2, hsi, hlen, hhd, htl, hkd, hksl, hd0, hd1 => by
    have hkl : k < t.length := by
      have := congrArg List.length hr
      simp only [List.length_cons, List.length_drop] at this
      omega
    rw [drop_cons hkl] at hr
    injection hr with hn hr
    obtain ⟨a, ha⟩ : ∃ a, a = nth t ((k : Int) - 1) := ⟨_, rfl⟩
    rw [← ha] at hlen hkd hd0 hd1 ⊢
    by_cases hf : fitsB n a = true
    · have hff := hf
      unfold fitsB at hff
      simp only [Bool.or_eq_true, Bool.and_eq_true, decide_eq_true_eq, beq_iff_eq, bne_iff_ne, ne_eq] at hff
      obtain ⟨⟨⟨⟨hf1, hf2⟩, hf3⟩, hf4⟩, hf5⟩ := hff
      obtain ⟨d, hd⟩ : ∃ d : Nat, n.depth = d := ⟨n.depth.toNat, by omega⟩
      have hdt : n.depth.toNat = d := by omega
      have hdl : d ≤ st.length := by omega
      obtain ⟨b, r0, hb⟩ : ∃ b r0, st.drop (st.length - d) = b :: r0 := by
        refine List.exists_cons_of_ne_nil fun h => ?_
        have := congrArg List.length h
        simp only [List.length_drop, List.length_nil] at this
        omega
      have hbl : r0.length + 1 = d := by
        have := congrArg List.length hb
        simp only [List.length_drop, List.length_cons] at this
        omega
      have hsd := si_drop (st.length - d) hsi
      rw [hb] at hsd
      obtain ⟨⟨p, hp1, hp2, hp3, hp4, hp5, hp6⟩, hsr⟩ := hsd
      have hkd' : (nth t (k : Int)).depth = d := by rw [← hn]; exact hd
      have hpar : Par t p k := ⟨hp2, by rw [hkd', hp3]; omega, hp4⟩
      obtain ⟨s0, hs0⟩ := hhd
      have hr0t : ∀ x ∈ r0, x ∈ st.tail := by
        intro x hx
        rw [hs0, List.tail_cons]
        have hx2 : x ∈ (st.drop (st.length - d)).tail := by rw [hb]; exact hx
        rw [hs0] at hx2
        rw [List.tail_drop] at hx2
        exact List.mem_of_mem_drop (by rw [List.drop_succ_cons] at hx2; exact hx2)
      have hpk : (nth t (p : Int)).kind = 1 ∨ (nth t (p : Int)).kind = 2 := by
        by_cases hz : st.length - d = 0
        · rw [hz, List.drop_zero, hs0] at hb
          injection hb with hb1 hb2
          have hpe : (p : Int) = (k : Int) - 1 := by rw [← hp1, ← hb1]
          rw [hpe, ← ha]
          rcases hf4 with h | h
          · omega
          · rcases hkd with h1 | h1 | h1
            · exact .inl h1
            · exact .inr h1
            · exact absurd h1 h.2
        · have : b ∈ st.tail := by
            rw [hs0, List.tail_cons]
            have e : st.length - d = (st.length - d - 1) + 1 := by omega
            rw [e, hs0, List.drop_succ_cons] at hb
            exact List.mem_of_mem_drop (by rw [hb]; exact List.mem_cons_self ..)
          have := htl b this
          rw [hp1] at this
          exact this
      have hks1 : nth ks (n.depth - 1) = (nth t (p : Int)).kind := by
        have : n.depth - 1 = (r0.length : Int) := by omega
        rw [this]; exact hp5
      have hform : ∀ v : Bool, formB n a (nth t (p : Int)).kind = v → formGo (n :: r) a ks = (v && formGo r n (ks.set d n.kind)) := by
        intro v hv
        rw [formGo, hks1, hv, hdt]
        have q1 : decide (n.depth < 1) = false := decide_eq_false (by omega)
        have q2 : decide (32 < n.depth) = false := decide_eq_false (by omega)
        rw [q1, q2]
        cases v <;> simp
      have e1 : ((k + 1 : Nat) : Int) - 1 = k := by omega
      have IH : ∀ b' : OB, b'.node = p → ((nth t (p : Int)).kind ≠ 2 → ∀ key, (alook key b'.keys).isSome = true ↔ ∃ j : Nat, j < k + 1 ∧ Par t p j ∧ (nth t (j : Int)).key = key) →
          (isGo t r n ((k : Int) + 1) (⟨0, false, (k : Int), []⟩ :: b' :: r0) = true ↔ formGo r n (ks.set d n.kind) = true ∧ Uniq t (k + 1)) := by
        intro b' hb'n hb'k
        have := is_main t r (k + 1) (⟨0, false, (k : Int), []⟩ :: b' :: r0) (ks.set d n.kind) hr (by omega) (by omega) ?_ ?_ ⟨b' :: r0, by rw [e1]⟩ ?_ ?_ (by simp [hksl]) ?_ ?_
        · rw [e1, ← hn] at this
          exact this
        · refine ⟨⟨k, rfl, by omega, ?_, fun j hj1 hj2 => by omega, ?_, fun _ key => ?_⟩, ⟨p, hb'n, by omega, hp3, fun j hj1 hj2 => ?_, ?_, hb'k⟩, si_next hkd' (by omega) hsr⟩
          · rw [hkd']; simp only [List.length_cons]; omega
          · have : ((b' :: r0).length : Int) = (d : Int) := by simp only [List.length_cons]; omega
            rw [this, nth_set_eq _ _ (by omega), hn]
          · constructor
            · intro h; simp [alook] at h
            · rintro ⟨j, q1, q2, -⟩
              have := q2.1
              omega
          · by_cases hjk : j = k
            · subst hjk; rw [hkd', hp3]; omega
            · exact hp4 j hj1 (by omega)
          · rw [nth_set_ne' _ _ (by omega)]; exact hp5
        · rw [e1, ← hn, hd]; simp only [List.length_cons]; omega
        · intro x hx
          rw [List.tail_cons] at hx
          rcases List.mem_cons.1 hx with rfl | hx
          · rw [hb'n]; exact hpk
          · exact htl x (hr0t x hx)
        · rw [e1, ← hn]
          rcases hf1 with (h | h) | h
          · exact .inl h
          · exact .inr (.inl h)
          · exact .inr (.inr h)
        · rw [e1, ← hn]; omega
        · rw [e1, ← hn]; omega
      rw [uniq_step hkl]
      rw [isGo, if_neg (by rw [hf]; decide), hdt, hb]
      simp only
      rw [hp1]
      rcases hpk with hpk | hpk
      · -- a map
        rw [if_neg (by rw [hpk]; decide)]
        by_cases hlen64 : (n.key.length : Int) ≤ 64
        · rw [hform true (fits_form hf (.inl ⟨hpk, hlen64⟩)), Bool.true_and]
          by_cases hdup : (alook n.key b.keys).isSome = true
          · rw [if_pos (by rw [hdup]; rfl)]
            obtain ⟨j, q1, q2, q3⟩ := (hp6 (by rw [hpk]; decide) n.key).1 hdup
            constructor
            · intro h; cases h
            · rintro ⟨-, -, h⟩
              exact absurd (by rw [q3, hn]) (h p hpk hpar j q1 q2)
          · rw [if_neg (by simp [hdup]; omega)]
            have := IH { b with keys := aput n.key (w64 ((alook n.key b.keys).getD 0 + 1)) b.keys } hp1 (fun h2 key => by
              simp only [alook_aput]
              constructor
              · intro h
                by_cases hke : n.key = key
                · exact ⟨k, by omega, hpar, by rw [← hn]; exact hke⟩
                · rw [if_neg hke] at h
                  obtain ⟨j, q1, q2⟩ := (hp6 h2 key).1 h
                  exact ⟨j, by omega, q2⟩
              · rintro ⟨j, q1, q2, q3⟩
                by_cases hke : n.key = key
                · rw [if_pos hke]; rfl
                · rw [if_neg hke]
                  refine (hp6 h2 key).2 ⟨j, ?_, q2, q3⟩
                  by_cases hjk : j = k
                  · subst hjk; rw [← hn] at q3; exact absurd q3 hke
                  · omega)
            rw [hp1] at this
            rw [this]
            constructor
            · rintro ⟨q1, q2⟩
              refine ⟨q1, q2, fun p' hp' hpar' i hi hpi e => ?_⟩
              have := par_uniq hpar hpar'
              subst this
              exact hdup ((hp6 (by rw [hpk]; decide) n.key).2 ⟨i, hi, hpi, by rw [e, hn]⟩)
            · rintro ⟨q1, q2, -⟩; exact ⟨q1, q2⟩
        · rw [if_pos (by simp; right; omega)]
          constructor
          · intro h; cases h
          · rintro ⟨h, -⟩
            cases hv : formB n a (nth t (p : Int)).kind with
            | false => rw [hform false hv] at h; cases h
            | true =>
              rcases (form_fits hv).2 with q | q
              · exact absurd q.2 hlen64
              · rw [hpk] at q; exact absurd q.1 (by decide)
      · -- a list
        rw [if_pos hpk]
        by_cases hkey : n.key = []
        · rw [if_neg (by simp [hkey]), hform true (fits_form hf (.inr ⟨hpk, hkey⟩)), Bool.true_and]
          have := IH b hp1 (fun h => absurd hpk h)
          rw [this]
          constructor
          · rintro ⟨q1, q2⟩
            refine ⟨q1, q2, fun p' hp' hpar' => ?_⟩
            have := par_uniq hpar hpar'
            subst this
            rw [hpk] at hp'
            exact absurd hp' (by decide)
          · rintro ⟨q1, q2, -⟩; exact ⟨q1, q2⟩
        · rw [if_pos hkey]
          constructor
          · intro h; cases h
          · rintro ⟨h, -⟩
            cases hv : formB n a (nth t (p : Int)).kind with
            | false => rw [hform false hv] at h; cases h
            | true =>
              rcases (form_fits hv).2 with q | q
              · rw [hpk] at q; exact absurd q.1 (by decide)
              · exact absurd q.2 hkey
    · rw [isGo, if_pos (by simpa using hf)]
      constructor
      · intro h; cases h
      · rintro ⟨h, -⟩
        rw [formGo] at h
        split at h
        · cases h
        · rename_i h1
          simp only [Bool.or_eq_true, not_or, Bool.not_eq_true', Bool.not_eq_false] at h1
          exact absurd (form_fits h1.2).1 hf
theorem is_ref (t : List Nd) : isS t = refIsS t := by
  cases t with
  | nil => rfl
  | cons a r =>
    unfold isS refIsS
    simp only
    split
    · rfl
    split
    · rfl
    rename_i h1 h2
    have hro : rootOk a = true := by simpa using h2
    have hrr : a.kind = 1 ∧ a.depth = 0 := by
      unfold rootOk at hro
      simp at hro
      omega
    have := is_main (a :: r) r 1 [⟨0, false, 0, []⟩] ks0 rfl (Nat.le_refl _) (by simp) ⟨⟨0, rfl, by omega, by show a.depth = 0; exact hrr.2, fun j h1 h2 => by omega, by show (1 : Int) = a.kind; exact hrr.1.symm, fun _ key => ⟨fun h => by simp [alook] at h, fun ⟨j, q1, q2, _⟩ => by have := q2.1; omega⟩⟩, trivial⟩
      (by show (1 : Int) = a.depth + 1; omega) ⟨[], rfl⟩ (fun b hb => by cases hb) (.inl hrr.1) rfl (by show 0 ≤ a.depth; omega) (by show a.depth ≤ 32; omega)
    have this : isGo (a :: r) r a 1 [⟨0, false, 0, []⟩] = true ↔ formGo r a ks0 = true ∧ Uniq (a :: r) 1 := this
    rw [← mapsOk_iff] at this
    cases hfg : formGo r a ks0 with
    | false =>
      rw [if_pos rfl]
      cases hi : isGo (a :: r) r a 1 [⟨0, false, 0, []⟩] with
      | false => rfl
      | true => have := (this.1 hi).1; rw [hfg] at this; cases this
    | true =>
      rw [if_neg (by decide)]
      cases hm : mapsOk (a :: r) with
      | true => exact this.2 ⟨hfg, hm⟩
      | false =>
        cases hi : isGo (a :: r) r a 1 [⟨0, false, 0, []⟩] with
        | false => rfl
        | true => have := (this.1 hi).2; rw [hm] at this; cases this
end Go.Proofs.YtpnkfnenhgfhpaaDoor.C
