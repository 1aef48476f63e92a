/- A heap of pairs as a list: what container/heap's up and down do to it, and that the least of all stands first. -/
import Derived.Test.YthbehiflmcljcaaDoorShA
set_option linter.unusedVariables false
set_option linter.unusedSimpArgs false
namespace Go.Proofs.YthbehiflmcljcaaDoor.C
abbrev It := Int × Int
def ilt (a b : It) : Bool := decide (a.1 < b.1) || (decide (a.1 = b.1) && decide (a.2 < b.2))
theorem ilt_iff {a b : It} : ilt a b = true ↔ a.1 < b.1 ∨ (a.1 = b.1 ∧ a.2 < b.2) := by
  unfold ilt
  simp
theorem ilt_no {a b : It} : ilt a b = false ↔ b.1 < a.1 ∨ (b.1 = a.1 ∧ b.2 ≤ a.2) := by
  rw [← Bool.not_eq_true, ilt_iff]
  omega
def G (xs : List It) (k : Nat) : It := (xs[k]?).getD (0, 0)
theorem G_get {xs : List It} {k : Nat} (h : k < xs.length) : xs[k]? = some (G xs k) := by
  unfold G
  rw [List.getElem?_eq_getElem h]
  rfl
theorem G_mem {xs : List It} {k : Nat} (h : k < xs.length) : G xs k ∈ xs := List.mem_of_getElem? (G_get h)
def swp (xs : List It) (i j : Nat) : List It := (xs.set i (G xs j)).set j (G xs i)
theorem swp_length (xs : List It) (i j : Nat) : (swp xs i j).length = xs.length := by simp [swp]
theorem G_set {xs : List It} {i k : Nat} (x : It) (hi : i < xs.length) : G (xs.set i x) k = if k = i then x else G xs k := by
  unfold G
  by_cases h : k = i
  · subst h
    rw [if_pos rfl, List.getElem?_set_self hi]
    rfl
  · rw [if_neg h, List.getElem?_set_ne (by omega)]
theorem G_swp {xs : List It} {i j : Nat} (hi : i < xs.length) (hj : j < xs.length) (k : Nat) : G (swp xs i j) k = if k = j then G xs i else if k = i then G xs j else G xs k := by
  unfold swp
  rw [G_set _ (by simpa using hj)]
  split
  · rfl
  · rw [G_set _ hi]
theorem swp_perm {xs : List It} {i j : Nat} (hi : i < xs.length) (hj : j < xs.length) : (swp xs i j).Perm xs := by
  rw [List.perm_iff_count]
  intro a
  unfold swp
  rw [List.count_set (by simpa using hj), List.count_set hi]
  have e1 : xs[i] = G xs i := by unfold G; rw [List.getElem?_eq_getElem hi]; rfl
  have e2 : xs[j] = G xs j := by unfold G; rw [List.getElem?_eq_getElem hj]; rfl
  have e3 : (xs.set i (G xs j))[j]'(by simpa using hj) = if j = i then G xs j else G xs j := by
    rw [List.getElem_set]
    split
    · rw [if_pos (by omega)]
    · rw [if_neg (by omega), e2]
  rw [e3, ite_self, e1]
  have p1 : (if G xs i == a then 1 else 0) ≤ List.count a xs := by
    split
    · rename_i h
      rw [beq_iff_eq] at h
      exact List.count_pos_iff.2 (h ▸ G_mem hi)
    · omega
  omega
def par (k : Nat) : Nat := (k - 1) / 2
/-- container/heap's up -/
def upL (xs : List It) (j : Nat) : List It :=
  if h : 0 < j ∧ ilt (G xs j) (G xs (par j)) = true then upL (swp xs (par j) j) (par j) else xs
termination_by j
decreasing_by unfold par; omega
theorem upL_stop {xs : List It} {j : Nat} (h : ¬ (0 < j ∧ ilt (G xs j) (G xs (par j)) = true)) : upL xs j = xs := by rw [upL, dif_neg h]
theorem upL_go {xs : List It} {j : Nat} (h : 0 < j ∧ ilt (G xs j) (G xs (par j)) = true) : upL xs j = upL (swp xs (par j) j) (par j) := by rw [upL, dif_pos h]
/-- no one is less than who stands above -/
def Hp (xs : List It) (n : Nat) : Prop := ∀ k, 0 < k → k < n → ilt (G xs k) (G xs (par k)) = false
theorem up_ok : ∀ (j : Nat) (xs : List It), j < xs.length → (∀ k, 0 < k → k < xs.length → k ≠ j → ilt (G xs k) (G xs (par k)) = false) →
    (∀ k, 0 < k → k < xs.length → par k = j → 0 < j → ilt (G xs k) (G xs (par j)) = false) → (upL xs j).Perm xs ∧ Hp (upL xs j) xs.length := by
  intro j
  induction j using Nat.strongRecOn with
  | _ j ih =>
    intro xs hj h1 h2
    by_cases h : 0 < j ∧ ilt (G xs j) (G xs (par j)) = true
    · have hpj : par j < j := by unfold par; omega
      rw [upL_go h]
      have hs := swp_perm (xs := xs) (i := par j) (j := j) (by omega) hj
      have hg := G_swp (xs := xs) (i := par j) (j := j) (by omega) hj
      obtain ⟨q1, q2⟩ := ih (par j) hpj (swp xs (par j) j) (by rw [swp_length]; omega) (by
        intro k h0 hk hne
        rw [swp_length] at hk
        rw [hg, hg]
        have hjl := ilt_iff.1 h.2
        by_cases hkj : k = j
        · subst hkj
          rw [if_pos rfl, if_neg (by omega), if_pos rfl]
          rw [ilt_no]
          omega
        · rw [if_neg hkj, if_neg hne]
          by_cases hp : par k = j
          · rw [if_pos hp]
            exact h2 k h0 hk hp h.1
          · rw [if_neg hp]
            by_cases hp2 : par k = par j
            · rw [if_pos hp2]
              have := ilt_no.1 (h1 k h0 hk hkj)
              rw [hp2] at this
              rw [ilt_no]
              omega
            · rw [if_neg hp2]
              exact h1 k h0 hk hkj) (by
        intro k h0 hk hpk h0j
        rw [swp_length] at hk
        rw [hg, hg]
        have hpp : par (par j) < par j := by unfold par at h0j ⊢; omega
        rw [if_neg (by omega : ¬ par (par j) = j), if_neg (by omega : ¬ par (par j) = par j)]
        have hup := ilt_no.1 (h1 (par j) h0j (by omega) (by omega))
        by_cases hkj : k = j
        · rw [if_pos hkj]
          exact ilt_no.2 hup
        · rw [if_neg hkj, if_neg (by intro e; rw [e] at hpk; omega)]
          have := ilt_no.1 (h1 k h0 hk hkj)
          rw [hpk] at this
          rw [ilt_no]
          omega)
      rw [swp_length] at q2
      exact ⟨q1.trans hs, q2⟩
    · rw [upL_stop h]
      refine ⟨List.Perm.refl _, fun k h0 hk => ?_⟩
      by_cases hkj : k = j
      · subst hkj
        cases hb : ilt (G xs k) (G xs (par k)) with
        | false => rfl
        | true => exact absurd ⟨h0, hb⟩ h
      · exact h1 k h0 hk hkj
/-- the lesser of the two below -/
def low (xs : List It) (i n : Nat) : Nat := if 2 * i + 2 < n ∧ ilt (G xs (2 * i + 2)) (G xs (2 * i + 1)) = true then 2 * i + 2 else 2 * i + 1
/-- container/heap's down -/
def dnL (xs : List It) (i n : Nat) : List It :=
  if h : 2 * i + 1 < n ∧ ilt (G xs (low xs i n)) (G xs i) = true then dnL (swp xs i (low xs i n)) (low xs i n) n else xs
termination_by n - i
decreasing_by unfold low; split <;> omega
theorem dnL_stop {xs : List It} {i n : Nat} (h : ¬ (2 * i + 1 < n ∧ ilt (G xs (low xs i n)) (G xs i) = true)) : dnL xs i n = xs := by rw [dnL, dif_neg h]
theorem dnL_go {xs : List It} {i n : Nat} (h : 2 * i + 1 < n ∧ ilt (G xs (low xs i n)) (G xs i) = true) : dnL xs i n = dnL (swp xs i (low xs i n)) (low xs i n) n := by rw [dnL, dif_pos h]
theorem low_two (xs : List It) (i n : Nat) : low xs i n = 2 * i + 1 ∨ low xs i n = 2 * i + 2 := by unfold low; split <;> simp
theorem low_lt {xs : List It} {i n : Nat} (h : 2 * i + 1 < n) : low xs i n < n := by unfold low; split <;> omega
theorem low_le {xs : List It} {i n k : Nat} (h : 2 * i + 1 < n) (hk : k < n) (hp : k = 2 * i + 1 ∨ k = 2 * i + 2) : ilt (G xs k) (G xs (low xs i n)) = false := by
  unfold low
  split
  · rename_i h2
    have := ilt_iff.1 h2.2
    rw [ilt_no]
    rcases hp with rfl | rfl <;> omega
  · rename_i h2
    rcases hp with rfl | rfl
    · rw [ilt_no]; omega
    · cases hb : ilt (G xs (2 * i + 2)) (G xs (2 * i + 1)) with
      | false => rfl
      | true => exact absurd ⟨hk, hb⟩ h2
theorem par_two {k i : Nat} (h0 : 0 < k) (hp : par k = i) : k = 2 * i + 1 ∨ k = 2 * i + 2 := by unfold par at hp; omega
theorem two_par {k i : Nat} (h : k = 2 * i + 1 ∨ k = 2 * i + 2) : par k = i := by unfold par; omega
theorem dn_ok (n : Nat) : ∀ (m i : Nat) (xs : List It), n - i = m → i < n → n ≤ xs.length → (∀ k, 0 < k → k < n → par k ≠ i → ilt (G xs k) (G xs (par k)) = false) →
    (∀ k, 0 < k → k < n → par k = i → 0 < i → ilt (G xs k) (G xs (par i)) = false) → (dnL xs i n).Perm xs ∧ Hp (dnL xs i n) n ∧ (∀ k, n ≤ k → G (dnL xs i n) k = G xs k) := by
  intro m
  induction m using Nat.strongRecOn with
  | _ m ih =>
    intro i xs hm hi hn h1 h2
    by_cases h : 2 * i + 1 < n ∧ ilt (G xs (low xs i n)) (G xs i) = true
    · rw [dnL_go h]
      have hl := low_lt (xs := xs) h.1
      have hl2 := low_two xs i n
      have hle := fun k hk hp => low_le (xs := xs) (k := k) h.1 hk hp
      generalize low xs i n = j at h hl hl2 hle ⊢
      have hpj : par j = i := two_par hl2
      have hs := swp_perm (xs := xs) (i := i) (j := j) (by omega) (by omega)
      have hg := G_swp (xs := xs) (i := i) (j := j) (by omega) (by omega)
      have hjl := ilt_iff.1 h.2
      obtain ⟨q1, q2, q3⟩ := ih (n - j) (by omega) j (swp xs i j) rfl hl (by rw [swp_length]; exact hn) (by
        intro k h0 hk hpk
        rw [hg, hg, if_neg hpk]
        by_cases hkj : k = j
        · subst hkj
          rw [if_pos rfl, if_pos hpj, ilt_no]
          omega
        · rw [if_neg hkj]
          by_cases hki : k = i
          · subst hki
            rw [if_pos rfl, if_neg (by unfold par; omega)]
            exact h2 j (by omega) hl hpj h0
          · rw [if_neg hki]
            by_cases hpi : par k = i
            · rw [if_pos hpi]
              exact hle k hk (par_two h0 hpi)
            · rw [if_neg hpi]
              exact h1 k h0 hk hpi) (by
        intro k h0 hk hpk h0j
        have hk2 := par_two h0 hpk
        rw [hg, hg, if_neg (by omega : ¬ k = j), if_neg (by omega : ¬ k = i), hpj, if_neg (by omega : ¬ i = j), if_pos rfl]
        have := h1 k h0 hk (by omega)
        rw [hpk] at this
        exact this)
      refine ⟨q1.trans hs, q2, fun k hk => ?_⟩
      rw [q3 k hk, hg, if_neg (by omega), if_neg (by omega)]
    · rw [dnL_stop h]
      refine ⟨List.Perm.refl _, fun k h0 hk => ?_, fun _ _ => rfl⟩
      by_cases hp : par k = i
      · have hk2 := par_two h0 hp
        have h3 := ilt_no.1 (low_le (xs := xs) (i := i) (k := k) (by omega) hk hk2)
        have h4 : ilt (G xs (low xs i n)) (G xs i) = false := by
          cases hb : ilt (G xs (low xs i n)) (G xs i) with
          | false => rfl
          | true => exact absurd ⟨by omega, hb⟩ h
        have h5 := ilt_no.1 h4
        rw [hp, ilt_no]
        omega
      · exact h1 k h0 hk hp
theorem heap_min {xs : List It} {n : Nat} (h : Hp xs n) : ∀ k, k < n → ilt (G xs k) (G xs 0) = false := by
  intro k
  induction k using Nat.strongRecOn with
  | _ k ih =>
    intro hk
    by_cases h0 : k = 0
    · subst h0; rw [ilt_no]; omega
    · have h1 := ilt_no.1 (h k (by omega) hk)
      have h2 := ilt_no.1 (ih (par k) (by unfold par; omega) (by unfold par; omega))
      rw [ilt_no]
      omega
/-- one is laid into a heap -/
def pushL (xs : List It) (x : It) : List It := upL (xs ++ [x]) xs.length
/-- the first is taken out of a heap -/
def popL (xs : List It) : List It := (dnL (swp xs 0 (xs.length - 1)) 0 (xs.length - 1))
theorem G_append_left {xs ys : List It} {k : Nat} (h : k < xs.length) : G (xs ++ ys) k = G xs k := by
  unfold G
  rw [List.getElem?_append_left h]
theorem push_ok {xs : List It} (x : It) (h : Hp xs xs.length) : (pushL xs x).Perm (x :: xs) ∧ Hp (pushL xs x) (pushL xs x).length ∧ (pushL xs x).length = xs.length + 1 := by
  unfold pushL
  obtain ⟨q1, q2⟩ := up_ok xs.length (xs ++ [x]) (by simp) (by
    intro k h0 hk hne
    simp only [List.length_append, List.length_cons, List.length_nil] at hk
    rw [G_append_left (by omega), G_append_left (by unfold par; omega)]
    exact h k h0 (by omega)) (by
    intro k h0 hk hp h0j
    simp only [List.length_append, List.length_cons, List.length_nil] at hk
    unfold par at hp
    omega)
  have hl := q1.length_eq
  refine ⟨q1.trans (List.perm_append_singleton _ _), by rw [hl]; exact q2, by rw [hl]; simp⟩
theorem pop_ok {xs : List It} (h : Hp xs xs.length) (h0 : 0 < xs.length) : (popL xs).length = xs.length ∧ G (popL xs) (xs.length - 1) = G xs 0 ∧
    Hp ((popL xs).take (xs.length - 1)) (xs.length - 1) ∧ (G xs 0 :: (popL xs).take (xs.length - 1)).Perm xs := by
  obtain ⟨n, hn⟩ : ∃ n, xs.length = n + 1 := ⟨xs.length - 1, by omega⟩
  have hg := G_swp (xs := xs) (i := 0) (j := xs.length - 1) h0 (by omega)
  have hp := swp_perm (xs := xs) (i := 0) (j := xs.length - 1) h0 (by omega)
  have main : (popL xs).Perm (swp xs 0 (xs.length - 1)) ∧ Hp (popL xs) (xs.length - 1) ∧ (∀ k, xs.length - 1 ≤ k → G (popL xs) k = G (swp xs 0 (xs.length - 1)) k) := by
    by_cases h1 : 1 < xs.length
    · refine dn_ok (xs.length - 1) _ 0 (swp xs 0 (xs.length - 1)) rfl (by omega) (by rw [swp_length]; omega) ?_ (fun _ _ _ _ hz => absurd hz (by omega))
      intro k hk0 hk hpk
      rw [hg, hg, if_neg (by omega), if_neg (by omega), if_neg (by unfold par; omega), if_neg hpk]
      exact h k hk0 (by omega)
    · have e : popL xs = swp xs 0 (xs.length - 1) := dnL_stop (by omega)
      rw [e]
      exact ⟨List.Perm.refl _, fun k hk0 hk => by omega, fun _ _ => rfl⟩
  obtain ⟨q1, q2, q3⟩ := main
  have hl : (popL xs).length = xs.length := (q1.trans hp).length_eq
  have hlast : G (popL xs) (xs.length - 1) = G xs 0 := by rw [q3 _ (Nat.le_refl _), hg, if_pos rfl]
  refine ⟨hl, hlast, fun k hk0 hk => ?_, ?_⟩
  · have t : ∀ m, m < xs.length - 1 → G ((popL xs).take (xs.length - 1)) m = G (popL xs) m := fun m hm => by
      unfold G
      rw [List.getElem?_take_of_lt hm]
    rw [t k hk, t _ (by unfold par; omega)]
    exact q2 k hk0 hk
  · have e : popL xs = (popL xs).take (xs.length - 1) ++ [G xs 0] := by
      have h2 : (popL xs).drop (xs.length - 1) = [G xs 0] := by
        rw [List.drop_eq_getElem_cons (by omega)]
        have h3 : (popL xs)[xs.length - 1]'(by omega) = G xs 0 := by
          have := G_get (xs := popL xs) (k := xs.length - 1) (by omega)
          rw [List.getElem?_eq_getElem (by omega)] at this
          rw [← hlast]
          exact Option.some.inj this
        rw [h3, List.drop_eq_nil_of_le (by omega)]
      conv => lhs; rw [← List.take_append_drop (xs.length - 1) (popL xs), h2]
    have := (q1.trans hp)
    rw [e] at this
    exact (List.perm_append_singleton _ _).symm.trans this
end Go.Proofs.YthbehiflmcljcaaDoor.C
