/- The plain law of tree.Parse: what it hands back is a tree with true places, or a fault with a place in the text. -/
import Derived.Test.YtbmplmehofgocaaDoorBb
set_option linter.unusedVariables false
set_option linter.unusedSimpArgs false
set_option maxRecDepth 10000
namespace Go.Proofs.YtbmplmehofgocaaDoor.C
open Go.RowKit Go.Proofs.YtbmplmehofgocaaDoor.Sh
/-! ### 1. what a line's text says -/
structure CtG (o : Ct) : Prop where
  k : o.kind = 2 → o.key = []
  kl : o.key.length ≤ 64
  hv : o.has = false → o.value = []
  ev : o.empty ≠ 0 → o.value = []
  c : o.col = 1
  v : o.has = true → 1 < o.val
def OcG (n : Nat) : Oc → Prop
  | .ok a o => 1 ≤ a ∧ a ≤ n ∧ CtG o ∧ o.has = false ∧ o.empty = 0
  | .err why col => why ≠ 0 ∧ 1 ≤ col ∧ col ≤ n + 1
theorem tailS_g (s : Bs) (n : Nat) (key : Bs) (h : n ≤ s.length) (hk : key.length ≤ 64) : OcG s.length (tailS s n key) := by
  unfold tailS
  split
  · exact ⟨by decide, by omega, by omega⟩
  split
  · exact ⟨by decide, by omega, by omega⟩
  · rename_i h1 h2
    exact ⟨by omega, by omega, ⟨by simp, hk, fun _ => rfl, fun _ => rfl, rfl, by simp⟩, rfl, rfl⟩
theorem headS_g (s : Bs) : OcG s.length (headS s) := by
  have hq := quoteR_bd s
  have hn := namedN_le s 0 (by omega)
  unfold headS
  split
  · rename_i h
    refine ⟨by omega, ?_, ⟨fun _ => rfl, by simp, fun _ => rfl, fun _ => rfl, rfl, by simp⟩, rfl, rfl⟩
    rcases h with h | h
    · subst h; simp
    · cases s with
      | nil => revert h; decide
      | cons x r => simp only [List.length_cons]; omega
  split
  · split
    · split
      · exact ⟨by decide, by omega, by omega⟩
      · exact tailS_g s _ _ (by omega) (by omega)
    · exact ⟨by decide, by omega, by omega⟩
  · split
    · rename_i h
      exact tailS_g s _ _ hn.2 (by generalize s.take (namedN s 0) = t at h ⊢; unfold nameB madeB at h; simp at h; omega)
    · exact ⟨by decide, by omega, by omega⟩
theorem bareS_g (s : Bs) (a : Nat) (o : Ct) (h : CtG o) (he : o.empty = 0) (hv : o.value = []) (hh : o.has = true) : CtG (bareS s a o) := by
  obtain ⟨h1, h2, h3, h4, h5, h6⟩ := h
  unfold bareS
  simp only
  split
  · exact ⟨h1, h2, fun _ => hv, fun _ => hv, h5, h6⟩
  split
  · exact ⟨h1, h2, fun _ => hv, fun _ => hv, h5, h6⟩
  · exact ⟨h1, h2, fun h => (by simp only [hh] at h; cases h), fun h => (h he).elim, h5, h6⟩
def OvG (n : Nat) : Oc → Prop
  | .ok _ o => CtG o
  | .err why col => why ≠ 0 ∧ 1 ≤ col ∧ col ≤ n + 1
theorem valueS_g (s : Bs) (a : Nat) (o : Ct) (ha : a ≤ s.length) (h1 : 1 ≤ a) (ho : CtG o) (hh : o.has = false) (he : o.empty = 0) : OvG s.length (valueS s a o) := by
  have hq := quoteR_bd (s.drop a)
  simp only [List.length_drop] at hq
  have hg := gapN_le s (a + (quoteR (s.drop a)).2.1.toNat) (by omega)
  have hval := ho.hv hh
  obtain ⟨k1, k2, k3, k4, k5, k6⟩ := ho
  unfold valueS
  split
  · exact ⟨k1, k2, k3, k4, k5, k6⟩
  split
  · exact bareS_g s a _ ⟨k1, k2, fun h => by simp at h, fun h => (h he).elim, k5, fun _ => by simp only; omega⟩ he hval rfl
  split
  · split
    · exact ⟨by decide, by omega, by omega⟩
    · exact ⟨k1, k2, fun h => by simp at h, fun h => (h he).elim, k5, fun _ => by simp only; omega⟩
  · exact ⟨by decide, by omega, by omega⟩
theorem readC_g (s : Bs) : ((readC s).2.2 = 0 → CtG (readC s).1) ∧ ((readC s).2.2 ≠ 0 → 1 ≤ (readC s).2.1 ∧ (readC s).2.1 ≤ s.length + 1) := by
  have hh := headS_g s
  unfold readC
  cases h1 : headS s with
  | err why col =>
    rw [h1] at hh
    exact ⟨fun h => (hh.1 h).elim, fun _ => hh.2⟩
  | ok a o =>
    rw [h1] at hh
    obtain ⟨q1, q2, q3, q4, q5⟩ := hh
    have hg := gapN_le s a.toNat (by omega)
    have hv := valueS_g s (gapN s a.toNat) o hg.2 (by omega) q3 q4 q5
    simp only
    cases h2 : valueS s (gapN s a.toNat) o with
    | err why col =>
      rw [h2] at hv
      exact ⟨fun h => (hv.1 h).elim, fun _ => hv.2⟩
    | ok a' o' =>
      rw [h2] at hv
      exact ⟨fun _ => hv, fun h => (h rfl).elim⟩
/-! ### 2. the open blocks behind some nodes of a list -/
def stI (t : List Nd) (a n : Nd) (i : Int) (st : List OB) : Option (List OB) :=
  if fitsB n a = false then none else match st.drop (st.length - n.depth.toNat) with
    | [] => none
    | b :: st' =>
      if (nth t b.node).kind = 2 then (if n.key ≠ [] then none else some (⟨0, false, i, []⟩ :: b :: st'))
      else if ((alook n.key b.keys).isSome || decide ((64 : Int) < n.key.length)) = true then none
      else some (⟨0, false, i, []⟩ :: { b with keys := aput n.key (w64 ((alook n.key b.keys).getD 0 + 1)) b.keys } :: st')
theorem isGo_cons (t r : List Nd) (n a : Nd) (i : Int) (st : List OB) : isGo t (n :: r) a i st = match stI t a n i st with
    | none => false
    | some st' => isGo t r n (i + 1) st' := by
  rw [isGo, stI]
  by_cases hf : fitsB n a = false
  · rw [if_pos hf, if_pos hf]
  rw [if_neg hf, if_neg hf]
  generalize st.drop _ = q
  cases q with
  | nil => rfl
  | cons b r' =>
    simp only
    by_cases h1 : (nth t b.node).kind = 2
    · rw [if_pos h1, if_pos h1]
      by_cases h2 : n.key ≠ []
      · rw [if_pos h2, if_pos h2]
      · rw [if_neg h2, if_neg h2]
    · rw [if_neg h1, if_neg h1]
      by_cases h2 : ((alook n.key b.keys).isSome || decide ((64 : Int) < n.key.length)) = true
      · rw [if_pos h2, if_pos h2]
      · rw [if_neg h2, if_neg h2]
theorem stI_inv {t : List Nd} {a n : Nd} {i : Int} {st st' : List OB} (h : stI t a n i st = some st') : fitsB n a = true ∧ ∃ b r b', st.drop (st.length - n.depth.toNat) = b :: r ∧ st' = ⟨0, false, i, []⟩ :: b' :: r ∧ b'.node = b.node := by
  unfold stI at h
  split at h
  · cases h
  rename_i hf
  refine ⟨by simpa using hf, ?_⟩
  split at h
  · cases h
  rename_i b r hb
  split at h
  · split at h
    · cases h
    · injection h with h
      exact ⟨b, r, b, hb, h.symm, rfl⟩
  · split at h
    · cases h
    · injection h with h
      exact ⟨b, r, _, hb, h.symm, rfl⟩
theorem stI_congr {t t' : List Nd} {a n : Nd} {i : Int} {st : List OB} (h : ∀ b ∈ st, (nth t b.node).kind = (nth t' b.node).kind) : stI t a n i st = stI t' a n i st := by
  unfold stI
  split
  · rfl
  split
  · rfl
  rename_i b r hb
  rw [h b (List.mem_of_mem_drop (by rw [hb]; exact List.mem_cons_self ..))]
inductive Gone (t : List Nd) : Nat → List OB → Prop
  | root (h : 0 < t.length) : Gone t 1 [⟨0, false, 0, []⟩]
  | more {k : Nat} {st st' : List OB} (h : Gone t k st) (hk : k < t.length) (hs : stI t (nth t ((k : Int) - 1)) (nth t (k : Int)) k st = some st') : Gone t (k + 1) st'
theorem gone_head {t : List Nd} {k : Nat} {st : List OB} (h : Gone t k st) : 1 ≤ k ∧ k ≤ t.length ∧ ∃ s0, st = ⟨0, false, (k : Int) - 1, []⟩ :: s0 ∧ ∀ b ∈ s0, 0 ≤ b.node ∧ b.node < (k : Int) - 1 := by
  induction h with
  | root h => exact ⟨Nat.le_refl _, h, [], rfl, fun b hb => by cases hb⟩
  | @more k st st' h hk hs ih =>
    obtain ⟨h1, h2, s0, hs0, hb0⟩ := ih
    obtain ⟨-, b, r, b', hd, rfl, hn⟩ := stI_inv hs
    have hm : ∀ x ∈ b :: r, 0 ≤ x.node ∧ x.node < (k : Int) := by
      intro x hx
      have hx : x ∈ st := List.mem_of_mem_drop (by rw [hd]; exact hx)
      rw [hs0] at hx
      rcases List.mem_cons.1 hx with rfl | hx
      · simp only; omega
      · have := hb0 x hx; omega
    refine ⟨by omega, hk, b' :: r, by simp, fun x hx => ?_⟩
    have e : ((k + 1 : Nat) : Int) - 1 = k := by omega
    rw [e]
    rcases List.mem_cons.1 hx with rfl | hx
    · rw [hn]; exact hm b (List.mem_cons_self ..)
    · exact hm x (List.mem_cons_of_mem _ hx)
theorem gone_congr {t t' : List Nd} {k : Nat} {st : List OB} (h : Gone t k st) : (∀ j : Nat, j < k → nth t (j : Int) = nth t' (j : Int)) → k ≤ t'.length → Gone t' k st := by
  induction h with
  | root h => intro _ h'; exact .root h'
  | @more k st st' h hk hs ih =>
    intro hj hl
    have h' := ih (fun j hj' => hj j (by omega)) (by omega)
    obtain ⟨h1, h2, s0, hs0, hb0⟩ := gone_head h
    refine .more h' (by omega) ?_
    have e1 : nth t' (k : Int) = nth t (k : Int) := (hj k (by omega)).symm
    have e2 : nth t' ((k : Int) - 1) = nth t ((k : Int) - 1) := by
      have : ((k : Int) - 1) = ((k - 1 : Nat) : Int) := by omega
      rw [this]
      exact (hj (k - 1) (by omega)).symm
    rw [e1, e2, ← hs]
    refine stI_congr fun b hb => ?_
    have hbn : 0 ≤ b.node ∧ b.node < (k : Int) := by
      rw [hs0] at hb
      rcases List.mem_cons.1 hb with rfl | hb
      · simp only; omega
      · have := hb0 b hb; omega
    have : b.node = ((b.node.toNat : Nat) : Int) := by omega
    rw [this]
    exact congrArg Nd.kind (hj b.node.toNat (by omega)).symm
theorem gone_isGo {t : List Nd} {k : Nat} {st : List OB} (h : Gone t k st) : isGo t (t.drop 1) (nth t 0) 1 [⟨0, false, 0, []⟩] = isGo t (t.drop k) (nth t ((k : Int) - 1)) k st := by
  induction h with
  | root h => rfl
  | @more k st st' h hk hs ih =>
    have hkt : t[k] = nth t (k : Int) := by rw [nth_nat]; simp [hk]
    rw [ih, List.drop_eq_getElem_cons hk, hkt, isGo_cons, hs]
    have e : ((k + 1 : Nat) : Int) - 1 = k := by omega
    rw [e]
    rfl
theorem isS_of {t : List Nd} {st : List OB} (h : Gone t t.length st) (hr : rootOk (nth t 0) = true) (hl : t.length ≤ 16384) : isS t = true := by
  have h1 := gone_isGo h
  rw [List.drop_eq_nil_of_le (Nat.le_refl _), isGo] at h1
  cases t with
  | nil => have := (gone_head h).1; simp at this
  | cons a r =>
    unfold isS
    simp only
    rw [if_neg (by omega), if_neg]
    · exact h1
    · have : rootOk a = true := hr
      rw [this]; decide
end Go.Proofs.YtbmplmehofgocaaDoor.C
