/- The plain law behind graph's order: counts of what is open, lists of what is behind, the ready ones as a heap's items. -/
import Derived.Test.YthbehiflmcljcaaDoorGf
set_option linter.unusedVariables false
set_option linter.unusedSimpArgs false
namespace Go.Proofs.YthbehiflmcljcaaDoor.C
open Go.Proofs.YthbehiflmcljcaaDoor.Sh
/-! ### lists over a range -/
theorem nth_range {α : Type} [Inhabited α] {n k : Nat} (f : Nat → α) (hk : k < n) : nth ((List.range n).map f) (k : Int) = f k := by
  unfold nth
  rw [Int.toNat_natCast, List.getD_eq_getElem?_getD, List.getElem?_map, List.getElem?_range hk]
  rfl
theorem map_set {α : Type} {n k : Nat} (f g : Nat → α) (v : α) (hk : k < n) (h1 : g k = v) (h2 : ∀ i, i < n → i ≠ k → f i = g i) : ((List.range n).map f).set k v = (List.range n).map g := by
  apply List.ext_getElem?
  intro i
  rw [List.getElem?_set, List.getElem?_map]
  simp only [List.length_map, List.length_range]
  by_cases hi : k = i
  · subst hi
    rw [if_pos rfl, if_pos hk, List.getElem?_map, List.getElem?_range hk, ← h1]
    rfl
  · rw [if_neg hi, List.getElem?_map]
    by_cases hin : i < n
    · rw [List.getElem?_range hin]
      simp only [Option.map_some]
      rw [h2 i hin (fun e => hi e.symm)]
    · rw [List.getElem?_eq_none (by simp; omega)]
      rfl
theorem map_congr_range {α : Type} {n : Nat} {f g : Nat → α} (h : ∀ i, i < n → f i = g i) : (List.range n).map f = (List.range n).map g := List.map_congr_left fun i hi => h i (List.mem_range.1 hi)
theorem filt_eq (n k : Nat) : (List.range n).filter (fun i => decide (i = k)) = if k < n then [k] else [] := by
  induction n with
  | zero => rfl
  | succ n ih =>
    rw [List.range_succ, List.filter_append, ih]
    by_cases h : n = k
    · subst h
      rw [if_neg (by omega), if_pos (by omega)]
      simp
    · by_cases h2 : k < n
      · rw [if_pos h2, if_pos (by omega)]
        simp [h]
      · rw [if_neg h2, if_neg (by omega)]
        simp [h]
theorem filt_or {α : Type} (p q r : α → Bool) : ∀ (l : List α), (∀ x ∈ l, p x = (q x || r x) ∧ (q x && r x) = false) → (l.filter p).Perm (l.filter q ++ l.filter r)
  | [], _ => List.Perm.refl _
  | a :: l, h => by
    have ih := filt_or p q r l (fun x hx => h x (List.mem_cons_of_mem _ hx))
    obtain ⟨h1, h2⟩ := h a (List.mem_cons_self ..)
    simp only [List.filter_cons, h1]
    cases hq : q a <;> cases hr : r a <;> simp only [hq, hr, Bool.and_self, Bool.or_false, Bool.or_true, Bool.false_or, Bool.true_or, if_true, Bool.false_eq_true, if_false, Bool.and_false, Bool.and_true] at h2 ⊢
    · exact ih
    · exact (ih.cons a).trans List.perm_middle.symm
    · exact ih.cons a
    · cases h2
theorem filt_none {α : Type} {p : α → Bool} {l : List α} (h : ∀ x ∈ l, p x = false) : l.filter p = [] := List.filter_eq_nil_iff.2 fun x hx => by simp [h x hx]
theorem filt_congr {α : Type} {p q : α → Bool} {l : List α} (h : ∀ x ∈ l, p x = q x) : l.filter p = l.filter q := List.filter_congr h
/-! ### lists that rise -/
theorem form_lt {n : Nat} {l : Is} (h : formL n l) : ∀ (b a : Nat), a < b → b < l.length → nth l (a : Int) < nth l (b : Int)
  | 0, a, hab, _ => absurd hab (Nat.not_lt_zero a)
  | b + 1, a, hab, hb => by
    have h1 := (h (b + 1) hb).2.2 (by omega)
    have e : ((b + 1 : Nat) : Int) - 1 = (b : Int) := by omega
    rw [e] at h1
    by_cases he : a = b
    · rw [he]; exact h1
    · have := form_lt h b a (by omega) (by omega)
      omega
theorem nth_getElem {α : Type} [Inhabited α] {l : List α} {k : Nat} (h : k < l.length) : nth l (k : Int) = l[k] := by
  unfold nth
  rw [Int.toNat_natCast, List.getD_eq_getElem?_getD, List.getElem?_eq_getElem h]
  rfl
theorem form_nodup {n : Nat} {l : Is} (h : formL n l) : l.Nodup := by
  unfold List.Nodup
  rw [List.pairwise_iff_getElem]
  intro i j hi hj hij
  have := form_lt h j i hij hj
  rw [nth_getElem hi, nth_getElem hj] at this
  omega
theorem form_mem {n : Nat} {l : Is} (h : formL n l) {p : Int} (hp : p ∈ l) : ∃ i : Nat, i < n ∧ p = (i : Int) := by
  obtain ⟨j, hj, rfl⟩ := List.mem_iff_getElem.1 hp
  have := h j hj
  rw [nth_getElem hj] at this
  exact ⟨l[j].toNat, by omega, by omega⟩
theorem form_take {n : Nat} {l : Is} (h : formL n l) {j : Nat} (hj : j < l.length) : nth l (j : Int) ∉ l.take j := by
  intro hm
  obtain ⟨m, hm, e⟩ := List.mem_iff_getElem.1 hm
  rw [List.length_take] at hm
  rw [List.getElem_take] at e
  have := form_lt h j m (by omega) hj
  rw [nth_getElem (by omega), e] at this
  omega
theorem mem_take_succ {l : Is} {j : Nat} (hj : j < l.length) (x : Int) : x ∈ l.take (j + 1) ↔ x ∈ l.take j ∨ x = nth l (j : Int) := by
  rw [List.take_add_one, List.getElem?_eq_getElem hj, nth_getElem hj, List.mem_append]
  simp
/-! ### the first loop: how many are open, who is behind whom -/
abbrev itm (rs : Is) (k : Nat) : It := (nth rs (k : Int), (k : Int))
abbrev castN (l : List Nat) : Is := l.map (fun i : Nat => (i : Int))
def opA (ps : List Is) (n k : Nat) : Is := (List.range n).map (fun i => if i < k then ((nth ps (i : Int)).length : Int) else 0)
theorem opA_set (ps : List Is) {n k : Nat} (hk : k < n) : (opA ps n k).set k ((nth ps (k : Int)).length : Int) = opA ps n (k + 1) := by
  unfold opA
  refine map_set _ _ _ hk (by rw [if_pos (by omega)]) (fun i hi hne => ?_)
  by_cases h : i < k
  · rw [if_pos h, if_pos (by omega)]
  · rw [if_neg h, if_neg (by omega)]
theorem opA_zero (ps : List Is) (n : Nat) : opA ps n 0 = List.replicate n 0 := by
  unfold opA
  have : (fun i : Nat => if i < 0 then ((nth ps (i : Int)).length : Int) else 0) = fun _ => 0 := by funext i; rw [if_neg (Nat.not_lt_zero i)]
  rw [this, List.map_const', List.length_range]
/-- who has p among the preds, of the first k -/
def bhF (ps : List Is) (k p : Nat) : Is := castN ((List.range k).filter (fun i => decide ((p : Int) ∈ nth ps (i : Int))))
def bhB (ps : List Is) (k j p : Nat) : Is := bhF ps k p ++ (if (p : Int) ∈ (nth ps (k : Int)).take j then [(k : Int)] else [])
theorem bhB_zero (ps : List Is) (k p : Nat) : bhB ps k 0 p = bhF ps k p := by
  unfold bhB
  simp
theorem bhB_end (ps : List Is) (k p : Nat) : bhB ps k (nth ps (k : Int)).length p = bhF ps (k + 1) p := by
  unfold bhB bhF
  rw [List.take_length, List.range_succ, List.filter_append, castN, castN, List.map_append]
  congr 1
  by_cases h : (p : Int) ∈ nth ps (k : Int) <;> simp [h]
theorem bhF_zero (ps : List Is) (n : Nat) : (List.range n).map (bhF ps 0) = List.replicate n [] := by
  have : bhF ps 0 = fun _ => [] := by funext p; rfl
  rw [this, List.map_const', List.length_range]
theorem bhB_set (ps : List Is) {n k j Q : Nat} (hf : formL n (nth ps (k : Int))) (hj : j < (nth ps (k : Int)).length) (hQ : nth (nth ps (k : Int)) (j : Int) = (Q : Int)) (hQn : Q < n) :
    ((List.range n).map (bhB ps k j)).set Q (bhB ps k j Q ++ [(k : Int)]) = (List.range n).map (bhB ps k (j + 1)) := by
  have hno := form_take hf hj
  rw [hQ] at hno
  refine map_set _ _ _ hQn ?_ (fun i hi hne => ?_)
  · unfold bhB
    rw [if_neg hno, if_pos ((mem_take_succ hj _).2 (.inr hQ.symm)), List.append_nil]
  · unfold bhB
    congr 1
    have : ((i : Int) ∈ (nth ps (k : Int)).take (j + 1)) ↔ ((i : Int) ∈ (nth ps (k : Int)).take j) := by
      rw [mem_take_succ hj, hQ]
      constructor
      · rintro (h | h)
        · exact h
        · omega
      · exact .inl
    simp only [this]
def rdy0 (ps : List Is) (k : Nat) : List Nat := (List.range k).filter (fun i => decide (nth ps (i : Int) = []))
theorem rdy0_succ (ps : List Is) (k : Nat) : rdy0 ps (k + 1) = rdy0 ps k ++ (if nth ps (k : Int) = [] then [k] else []) := by
  unfold rdy0
  rw [List.range_succ, List.filter_append]
  congr 1
  by_cases h : nth ps (k : Int) = [] <;> simp [h]
/-! ### the second loop -/
def cntS (ps : List Is) (o : Is) (i : Nat) : Int := (((nth ps (i : Int)).filter (fun p => decide (p ∉ o))).length : Int)
def rdyL (ps : List Is) (o : Is) : List Nat := (List.range ps.length).filter (fun i => decide (rdyS ps o i))
/-- what is known of an order's beginning -/
structure Beg (ps : List Is) (o : Is) : Prop where
  mem : ∀ x ∈ o, ∃ i : Nat, i < ps.length ∧ x = (i : Int) ∧ ∀ p ∈ nth ps (i : Int), p ∈ o
  room : o.length + still ps.length o ≤ ps.length
theorem beg_nil (ps : List Is) : Beg ps [] := ⟨fun x hx => (by cases hx), by have := still_le ps.length []; simpa using this⟩
theorem rdyL_nil (ps : List Is) : rdyL ps [] = rdy0 ps ps.length := by
  refine filt_congr fun i hi => ?_
  have : rdyS ps [] i ↔ nth ps (i : Int) = [] := by
    unfold rdyS
    constructor
    · rintro ⟨-, h⟩
      cases hl : nth ps (i : Int) with
      | nil => rfl
      | cons a l =>
        rw [hl] at h
        exact absurd (h a (List.mem_cons_self ..)) (by simp)
    · intro h
      rw [h]
      simp
  simp only [this]
theorem cntS_nil (ps : List Is) : (List.range ps.length).map (cntS ps []) = opA ps ps.length ps.length := by
  unfold opA
  refine map_congr_range fun i hi => ?_
  rw [if_pos hi]
  unfold cntS
  have : (nth ps (i : Int)).filter (fun p => decide (p ∉ ([] : Is))) = nth ps (i : Int) := List.filter_eq_self.2 (by simp)
  rw [this]
theorem cnt_step {l : Is} (hn : l.Nodup) {o : Is} {k : Int} (hk : k ∉ o) : ((l.filter (fun p => decide (p ∉ o ++ [k]))).length : Int) = (l.filter (fun p => decide (p ∉ o))).length - (if k ∈ l then 1 else 0) := by
  induction l with
  | nil => simp
  | cons a l ih =>
    have ih := ih (List.nodup_cons.1 hn).2
    have hal := (List.nodup_cons.1 hn).1
    simp only [List.filter_cons]
    by_cases hak : a = k
    · subst hak
      rw [if_neg hal] at ih
      have e1 : decide (a ∉ o ++ [a]) = false := by simp
      have e2 : decide (a ∉ o) = true := by simpa using hk
      rw [e1, e2]
      simp only [Bool.false_eq_true, if_false, if_true, List.length_cons, List.mem_cons, true_or]
      omega
    · have e1 : decide (a ∉ o ++ [k]) = decide (a ∉ o) := by simp [hak]
      have e2 : (k ∈ a :: l) ↔ k ∈ l := by simp [Ne.symm hak]
      rw [e1]
      simp only [e2]
      cases decide (a ∉ o)
      · simpa using ih
      · simp only [if_true, List.length_cons]
        omega
theorem cntS_zero {ps : List Is} {o : Is} {i : Nat} : cntS ps o i = 0 ↔ ∀ p ∈ nth ps (i : Int), p ∈ o := by
  unfold cntS
  rw [Int.natCast_eq_zero, List.length_eq_zero_iff, List.filter_eq_nil_iff]
  simp
section
variable {ps : List Is} {rs o : Is} {k : Nat}
/-- who is behind k -/
def bhN (ps : List Is) (k : Nat) : List Nat := (List.range ps.length).filter (fun i => decide ((k : Int) ∈ nth ps (i : Int)))
theorem bhF_eq (ps : List Is) (k : Nat) : bhF ps ps.length k = castN (bhN ps k) := rfl
theorem bhN_mem {i : Nat} : i ∈ bhN ps k ↔ i < ps.length ∧ (k : Int) ∈ nth ps (i : Int) := by unfold bhN; simp [List.mem_filter]
theorem bhN_nodup (ps : List Is) (k : Nat) : (bhN ps k).Nodup := List.nodup_range.filter _
/-- counts, j of those behind k done -/
def opJ (ps : List Is) (o : Is) (k j : Nat) : Is := (List.range ps.length).map (fun i => cntS ps o i - (if i ∈ (bhN ps k).take j then 1 else 0))
theorem opJ_zero (ps : List Is) (o : Is) (k : Nat) : opJ ps o k 0 = (List.range ps.length).map (cntS ps o) := map_congr_range fun i hi => by simp
theorem cntS_step (hf : formS ps) (hk : (k : Int) ∉ o) {i : Nat} (hi : i < ps.length) : cntS ps (o ++ [(k : Int)]) i = cntS ps o i - (if (k : Int) ∈ nth ps (i : Int) then 1 else 0) := cnt_step (form_nodup (hf i hi)) hk
theorem opJ_end (hf : formS ps) (hk : (k : Int) ∉ o) : opJ ps o k (bhN ps k).length = (List.range ps.length).map (cntS ps (o ++ [(k : Int)])) := map_congr_range fun i hi => by
  rw [List.take_length, cntS_step hf hk hi]
  congr 1
  simp only [bhN_mem, hi, true_and]
theorem take_succ_nat {l : List Nat} {j : Nat} (hj : j < l.length) (x : Nat) : x ∈ l.take (j + 1) ↔ x ∈ l.take j ∨ x = l[j] := by
  rw [List.take_add_one, List.getElem?_eq_getElem hj, List.mem_append]
  simp
theorem nodup_take {l : List Nat} (h : l.Nodup) {j : Nat} (hj : j < l.length) : l[j] ∉ l.take j := by
  intro hm
  obtain ⟨m, hm, e⟩ := List.mem_iff_getElem.1 hm
  rw [List.length_take] at hm
  rw [List.getElem_take] at e
  have := List.pairwise_iff_getElem.1 h m j (by omega) hj (by omega)
  exact this e
theorem opJ_at {j : Nat} (hj : j < (bhN ps k).length) : nth (opJ ps o k j) ((bhN ps k)[j] : Int) = cntS ps o (bhN ps k)[j] := by
  have hm := bhN_mem.1 (List.getElem_mem hj)
  unfold opJ
  rw [nth_range _ hm.1, if_neg (nodup_take (bhN_nodup ps k) hj)]
  simp
theorem opJ_set {j : Nat} (hj : j < (bhN ps k).length) : (opJ ps o k j).set (bhN ps k)[j] (cntS ps o (bhN ps k)[j] - 1) = opJ ps o k (j + 1) := by
  have hm := bhN_mem.1 (List.getElem_mem hj)
  refine map_set _ _ _ hm.1 ?_ (fun i hi hne => ?_)
  · rw [if_pos ((take_succ_nat hj _).2 (.inr rfl))]
  · have : (i ∈ (bhN ps k).take (j + 1)) ↔ i ∈ (bhN ps k).take j := by
      rw [take_succ_nat hj]
      constructor
      · rintro (h | h)
        · exact h
        · exact absurd h hne
      · exact .inl
    simp only [this]
theorem rdy_best {n : Nat} (hn : n = ps.length) {xs : List It} (hp : Hp xs xs.length) (hx : xs.Perm ((rdyL ps o).map (itm rs))) (h0 : 0 < xs.length) : ∃ k, k < ps.length ∧ G xs 0 = itm rs k ∧ rdyS ps o k ∧ bestS ps rs o ps.length = some k := by
  have h1 := hx.mem_iff.1 (G_mem h0)
  obtain ⟨k, hk, e⟩ := List.mem_map.1 h1
  unfold rdyL at hk
  rw [List.mem_filter, List.mem_range, decide_eq_true_eq] at hk
  refine ⟨k, hk.1, e.symm, hk.2, best_eq hk.1 hk.2 (fun i hi hri => ?_)⟩
  have h2 : itm rs i ∈ xs := hx.mem_iff.2 (List.mem_map.2 ⟨i, by unfold rdyL; rw [List.mem_filter, List.mem_range, decide_eq_true_eq]; exact ⟨hi, hri⟩, rfl⟩)
  obtain ⟨m, hm, em⟩ := List.mem_iff_getElem.1 h2
  have h3 := heap_min hp m hm
  have e2 : G xs m = itm rs i := by
    unfold G
    rw [List.getElem?_eq_getElem hm, em]
    rfl
  rw [e2, ← e, ilt_no] at h3
  simp only at h3
  omega
theorem rdy_none {xs : List It} (hx : xs.Perm ((rdyL ps o).map (itm rs))) (h0 : xs.length = 0) : bestS ps rs o ps.length = none := by
  rw [best_none]
  intro i hi hr
  have h2 : itm rs i ∈ xs := hx.mem_iff.2 (List.mem_map.2 ⟨i, by unfold rdyL; rw [List.mem_filter, List.mem_range, decide_eq_true_eq]; exact ⟨hi, hr⟩, rfl⟩)
  rw [List.eq_nil_of_length_eq_zero h0] at h2
  cases h2
/-- the others that were ready -/
def rest0 (ps : List Is) (o : Is) (k : Nat) : List Nat := (List.range ps.length).filter (fun i => decide (rdyS ps o i ∧ i ≠ k))
theorem rest_perm (hk : k < ps.length) (hr : rdyS ps o k) {ys : List It} (h : (itm rs k :: ys).Perm ((rdyL ps o).map (itm rs))) : ys.Perm ((rest0 ps o k).map (itm rs)) := by
  have h1 : (rdyL ps o).Perm ((List.range ps.length).filter (fun i => decide (i = k)) ++ rest0 ps o k) := filt_or _ _ _ _ (fun i hi => by
    by_cases e : i = k
    · subst e; simp [hr]
    · simp [e])
  rw [filt_eq, if_pos hk] at h1
  exact List.Perm.cons_inv (h.trans (h1.map (itm rs)))
theorem not_self (hr : rdyS ps o k) : (k : Int) ∉ nth ps (k : Int) := fun h => hr.1 (hr.2 _ h)
theorem rdy_behind (hb : Beg ps o) (hr : rdyS ps o k) {i : Nat} (hi : (k : Int) ∈ nth ps (i : Int)) : rdyS ps (o ++ [(k : Int)]) i ↔ cntS ps (o ++ [(k : Int)]) i = 0 := by
  rw [cntS_zero]
  unfold rdyS
  constructor
  · exact fun h => h.2
  · refine fun h => ⟨?_, h⟩
    intro hm
    rcases List.mem_append.1 hm with hm | hm
    · obtain ⟨m, hm1, hm2, hm3⟩ := hb.mem _ hm
      have : m = i := by omega
      subst this
      exact hr.1 (hm3 _ hi)
    · have : i = k := by
        have := List.mem_singleton.1 hm
        omega
      subst this
      exact not_self hr hi
theorem rdy_other {i : Nat} (hi : (k : Int) ∉ nth ps (i : Int)) : rdyS ps (o ++ [(k : Int)]) i ↔ rdyS ps o i ∧ i ≠ k := by
  unfold rdyS
  constructor
  · rintro ⟨h1, h2⟩
    simp only [List.mem_append, List.mem_singleton, not_or] at h1
    refine ⟨⟨h1.1, fun p hp => ?_⟩, by omega⟩
    rcases List.mem_append.1 (h2 p hp) with h | h
    · exact h
    · rw [List.mem_singleton.1 h] at hp
      exact absurd hp hi
  · rintro ⟨⟨h1, h2⟩, h3⟩
    refine ⟨?_, fun p hp => List.mem_append.2 (.inl (h2 p hp))⟩
    simp only [List.mem_append, List.mem_singleton, not_or]
    exact ⟨h1, by omega⟩
theorem rest_not (hr : rdyS ps o k) {i : Nat} (hi : (k : Int) ∈ nth ps (i : Int)) : ¬ rdyS ps o i := fun h => hr.1 (h.2 _ hi)
theorem rest_end (hb : Beg ps o) (hr : rdyS ps o k) : (rdyL ps (o ++ [(k : Int)])).Perm (rest0 ps o k ++ (bhN ps k).filter (fun i : Nat => decide (cntS ps (o ++ [(k : Int)]) i = 0))) := by
  have e : (bhN ps k).filter (fun i : Nat => decide (cntS ps (o ++ [(k : Int)]) i = 0)) = (List.range ps.length).filter (fun i : Nat => decide ((k : Int) ∈ nth ps (i : Int)) && decide (cntS ps (o ++ [(k : Int)]) i = 0)) := by
    unfold bhN
    rw [List.filter_filter]
    refine filt_congr fun i hi => ?_
    rw [Bool.and_comm]
  rw [e]
  refine filt_or _ _ _ _ (fun i hi => ?_)
  by_cases hki : (k : Int) ∈ nth ps (i : Int)
  · have h1 := rdy_behind hb hr hki
    have h2 := rest_not hr hki
    simp only [h1, h2, hki, false_and, decide_false, Bool.false_or, decide_true, Bool.true_and, Bool.false_and, and_self]
  · have h1 := rdy_other (o := o) (k := k) hki
    simp only [h1, hki, decide_false, Bool.false_and, Bool.or_false, Bool.and_false, and_self]
theorem beg_step (hb : Beg ps o) (hk : k < ps.length) (hr : rdyS ps o k) : Beg ps (o ++ [(k : Int)]) := by
  refine ⟨fun x hx => ?_, ?_⟩
  · rcases List.mem_append.1 hx with hx | hx
    · obtain ⟨i, h1, h2, h3⟩ := hb.mem x hx
      exact ⟨i, h1, h2, fun p hp => List.mem_append.2 (.inl (h3 p hp))⟩
    · exact ⟨k, hk, List.mem_singleton.1 hx, fun p hp => List.mem_append.2 (.inl (hr.2 p hp))⟩
  · have h1 := still_dec hk hr.1
    have h2 := hb.room
    simp only [List.length_append, List.length_cons, List.length_nil]
    omega
theorem rdyL_len (ps : List Is) (o : Is) : (rdyL ps o).length ≤ ps.length := Nat.le_trans (List.length_filter_le _ _) (by simp)
theorem heapJ_len (hb : Beg ps o) (hr : rdyS ps o k) (j : Nat) : (rest0 ps o k ++ ((bhN ps k).take j).filter (fun i : Nat => decide (cntS ps (o ++ [(k : Int)]) i = 0))).length ≤ ps.length := by
  have h1 := (rest_end hb hr).length_eq
  have h2 := rdyL_len ps (o ++ [(k : Int)])
  have h3 : (((bhN ps k).take j).filter (fun i : Nat => decide (cntS ps (o ++ [(k : Int)]) i = 0))).length ≤ ((bhN ps k).filter (fun i : Nat => decide (cntS ps (o ++ [(k : Int)]) i = 0))).length :=
    ((List.take_sublist j _).filter _).length_le
  simp only [List.length_append] at h1 ⊢
  omega
theorem filt_take {l : List Nat} {j : Nat} (hj : j < l.length) (p : Nat → Bool) : (l.take (j + 1)).filter p = (l.take j).filter p ++ (if p l[j] = true then [l[j]] else []) := by
  rw [List.take_add_one, List.getElem?_eq_getElem hj, List.filter_append]
  congr 1
  by_cases h : p l[j] = true
  · simp [h]
  · simp [h]
end
end Go.Proofs.YthbehiflmcljcaaDoor.C
