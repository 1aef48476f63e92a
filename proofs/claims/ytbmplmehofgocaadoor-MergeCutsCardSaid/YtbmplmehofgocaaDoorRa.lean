/- Trees as forests: a list of nodes is a tree just if it is a root and a good forest, laid flat. -/
import Derived.Test.YtbmplmehofgocaaDoorBo
set_option linter.unusedVariables false
set_option linter.unusedSimpArgs false
set_option maxRecDepth 10000
namespace Go.Proofs.YtbmplmehofgocaaDoor.C
open Go.RowKit Go.Proofs.YtbmplmehofgocaaDoor.Sh
/-- some trees, one behind the other: the first one's node, what is in it, and the others -/
inductive RF where
  | nil
  | cons (n : Nd) (k : RF) (r : RF)
namespace RF
def flat : RF → List Nd
  | .nil => []
  | .cons n k r => n :: (k.flat ++ r.flat)
def at_ : RF → Int → Prop
  | .nil, _ => True
  | .cons n k r, d => n.depth = d ∧ k.at_ (d + 1) ∧ r.at_ d
/-- the keys that a block has behind these entries -/
def keysA : RF → List (Bs × Int) → List (Bs × Int)
  | .nil, m => m
  | .cons n _ r, m => r.keysA (aput n.key (w64 ((alook n.key m).getD 0 + 1)) m)
/-- what is in a node that is a text: nothing -/
def leafOk (n : Nd) : RF → Bool
  | .nil => true
  | .cons .. => n.kind != 3
def good : RF → Int → List (Bs × Int) → Bool
  | .nil, _, _ => true
  | .cons n k r, q, m =>
    (((n.kind == 1 || n.kind == 2) || n.kind == 3) && (decide (1 ≤ n.depth) && decide (n.depth ≤ 32)) && (n.text == [] || n.kind == 3)) &&
    leafOk n k &&
    (if q = 2 then n.key == [] else !((alook n.key m).isSome || decide ((64 : Int) < n.key.length))) && (k.good n.kind [] && r.good q (if q = 2 then m else aput n.key (w64 ((alook n.key m).getD 0 + 1)) m))
end RF
open RF
theorem at_deep : ∀ (F : RF) (d : Int), F.at_ d → ∀ n ∈ F.flat, d ≤ n.depth
  | .nil, d, _, n, h => by cases h
  | .cons x k r, d, ⟨h1, h2, h3⟩, n, h => by
    rcases List.mem_cons.1 h with rfl | h
    · omega
    rcases List.mem_append.1 h with h | h
    · have := at_deep k (d + 1) h2 n h; omega
    · exact at_deep r d h3 n h
/-- steps of depth at most one down -/
def chainD : Int → List Nd → Prop
  | _, [] => True
  | d, n :: r => n.depth ≤ d + 1 ∧ chainD n.depth r
theorem chain_append : ∀ (l1 l2 : List Nd) (d : Int), chainD d (l1 ++ l2) → (∀ n ∈ l1, d ≤ n.depth) → ∃ e, chainD e l2
  | [], l2, d, h, _ => ⟨d, h⟩
  | n :: l1, l2, d, h, _ => by
    have : ∀ (l1 l2 : List Nd) (d : Int), chainD d (l1 ++ l2) → ∃ e, chainD e l2 := by
      intro l1
      induction l1 with
      | nil => exact fun l2 d h => ⟨d, h⟩
      | cons x l1 ih => exact fun l2 d h => ih l2 _ h.2
    exact this l1 l2 _ h.2
theorem forest_build : ∀ (m : Nat) (l : List Nd) (d e : Int), l.length ≤ m → chainD e l → (∀ n, l.head? = some n → n.depth ≤ d) →
    ∃ (F : RF) (rest : List Nd), l = F.flat ++ rest ∧ F.at_ d ∧ (∀ n, rest.head? = some n → n.depth < d)
  | 0, l, d, e, hl, _, _ => by
    obtain rfl := List.eq_nil_of_length_eq_zero (Nat.le_zero.1 hl)
    exact ⟨.nil, [], rfl, trivial, by simp⟩
  | m + 1, [], d, e, hl, _, _ => ⟨.nil, [], rfl, trivial, by simp⟩
  | m + 1, n :: r, d, e, hl, hc, hh => by
    by_cases hd : n.depth < d
    · exact ⟨.nil, n :: r, rfl, trivial, by simpa using hd⟩
    have hnd : n.depth = d := by have := hh n rfl; omega
    simp only [List.length_cons] at hl
    obtain ⟨K, r1, e1, k1, h1⟩ := forest_build m r (d + 1) n.depth (by omega) hc.2 (by
      intro x hx
      cases r with
      | nil => cases hx
      | cons y r => injection hx with hx; subst hx; have := hc.2.1; omega)
    have hl1 : r1.length ≤ r.length := by rw [e1]; simp
    have hc1 : ∃ e', chainD e' r1 := by
      have := hc.2
      rw [e1] at this
      have key : ∀ (l1 l2 : List Nd) (d : Int), chainD d (l1 ++ l2) → ∃ e, chainD e l2 := by
        intro l1
        induction l1 with
        | nil => exact fun l2 d h => ⟨d, h⟩
        | cons x l1 ih => exact fun l2 d h => ih l2 _ h.2
      exact key _ _ _ this
    obtain ⟨e', hc1⟩ := hc1
    obtain ⟨R, r2, e2, k2, h2⟩ := forest_build m r1 d e' (by omega) hc1 (by intro x hx; have := h1 x hx; omega)
    exact ⟨.cons n K R, r2, by rw [e1, e2]; simp [RF.flat], ⟨hnd, k1, k2⟩, h2⟩
theorem stI_eq {t : List Nd} {n a : Nd} {i : Int} {st : List OB} {b : OB} {s : List OB} (hd : st.drop (st.length - n.depth.toNat) = b :: s) :
    stI t a n i st = if (fitsB n a && (if (nth t b.node).kind = 2 then n.key == [] else !((alook n.key b.keys).isSome || decide ((64 : Int) < n.key.length)))) = true then
      some (⟨0, false, i, []⟩ :: (if (nth t b.node).kind = 2 then b else { b with keys := aput n.key (w64 ((alook n.key b.keys).getD 0 + 1)) b.keys }) :: s) else none := by
  unfold stI
  rw [hd]
  by_cases h1 : fitsB n a = false
  · rw [if_pos h1, if_neg (by simp [h1])]
  have h1' : fitsB n a = true := by simpa using h1
  rw [if_neg h1]
  simp only
  by_cases h2 : (nth t b.node).kind = 2
  · rw [if_pos h2, if_pos h2, if_pos h2, h1']
    by_cases h3 : n.key ≠ []
    · rw [if_pos h3, if_neg (by simpa using h3)]
    · have h3 : n.key = [] := by simpa using h3
      rw [if_neg (by simp [h3]), if_pos (by simp [h3])]
  · rw [if_neg h2, if_neg h2, if_neg h2, h1']
    by_cases h3 : ((alook n.key b.keys).isSome || decide ((64 : Int) < n.key.length)) = true
    · rw [if_pos h3, if_neg (by simp [h3])]
    · rw [if_neg h3, if_pos (by simp at h3 ⊢; exact h3)]
/-- the last node of a list behind one -/
def lastN : Nd → List Nd → Nd
  | a, [] => a
  | _, n :: r => lastN n r
theorem lastN_app : ∀ (l1 l2 : List Nd) (a : Nd), lastN a (l1 ++ l2) = lastN (lastN a l1) l2
  | [], _, _ => rfl
  | n :: l1, l2, a => lastN_app l1 l2 n
theorem lastN_deep : ∀ (l : List Nd) (a : Nd) (d : Int), d ≤ a.depth → (∀ n ∈ l, d ≤ n.depth) → d ≤ (lastN a l).depth
  | [], _, _, h, _ => h
  | n :: l, a, d, _, h => lastN_deep l n d (h n (List.mem_cons_self ..)) (fun x hx => h x (List.mem_cons_of_mem _ hx))
theorem isGo_forest (t : List Nd) : ∀ (F : RF) (d : Nat) (q : Int) (b : OB) (s : List OB) (a : Nd) (i : Int) (st : List OB) (rest : List Nd), F.at_ d → 1 ≤ d → st.drop (st.length - d) = b :: s → s.length + 1 = d → (nth t b.node).kind = q →
    ((d : Int) ≤ a.depth ∨ ((d : Int) = a.depth + 1 ∧ a.kind ≠ 3)) ∨ F = .nil → (∀ (j : Nat) n, F.flat[j]? = some n → nth t (i + j) = n) →
    ∃ st2, st2.drop (st2.length - d) = { b with keys := if q = 2 then b.keys else F.keysA b.keys } :: s ∧ isGo t (F.flat ++ rest) a i st = (F.good q b.keys && isGo t rest (lastN a F.flat) (i + F.flat.length) st2)
  | .nil, d, q, b, s, a, i, st, rest, hat, h1, hst, hs, hq, ha, hn => by
    refine ⟨st, ?_, by simp [RF.flat, RF.good, lastN]⟩
    rw [hst]
    simp [RF.keysA]
  | .cons n k r, d, q, b, s, a, i, st, rest, ⟨hnd, hk, hr⟩, h1, hst, hs, hq, ha, hn => by
    have ha : (d : Int) ≤ a.depth ∨ ((d : Int) = a.depth + 1 ∧ a.kind ≠ 3) := by
      rcases ha with ha | ha
      · exact ha
      · cases ha
    have hdn : n.depth.toNat = d := by omega
    have e1 : (RF.cons n k r).flat ++ rest = n :: (k.flat ++ (r.flat ++ rest)) := by simp [RF.flat]
    have hst' := hst
    rw [← hdn] at hst'
    rw [e1, isGo_cons, stI_eq hst', hq]
    have hni : nth t i = n := by have := hn 0 n rfl; simpa using this
    have hfit : fitsB n a = (((n.kind == 1 || n.kind == 2) || n.kind == 3) && (decide (1 ≤ n.depth) && decide (n.depth ≤ 32)) && (n.text == [] || n.kind == 3)) := by
      have hx : (decide (n.depth ≤ a.depth) || (n.depth == a.depth + 1 && a.kind != 3)) = true := by
        rw [hnd]
        rcases ha with ha | ⟨ha, hb⟩
        · simp [ha]
        · simp [ha, hb]
      unfold fitsB
      revert hx
      generalize (decide (n.depth ≤ a.depth) || (n.depth == a.depth + 1 && a.kind != 3)) = x
      rintro rfl
      cases (n.kind == 1 || n.kind == 2) || n.kind == 3 <;> cases decide (1 ≤ n.depth) <;> cases decide (n.depth ≤ 32) <;> rfl
    have hgood : (RF.cons n k r).good q b.keys = ((((n.kind == 1 || n.kind == 2) || n.kind == 3) && (decide (1 ≤ n.depth) && decide (n.depth ≤ 32)) && (n.text == [] || n.kind == 3)) &&
    leafOk n k &&
    (if q = 2 then n.key == [] else !((alook n.key b.keys).isSome || decide ((64 : Int) < n.key.length))) && (k.good n.kind [] && r.good q (if q = 2 then b.keys else aput n.key (w64 ((alook n.key b.keys).getD 0 + 1)) b.keys))) := by
      cases k <;> rfl
    rw [hgood, hfit]
    generalize hg1 : (((n.kind == 1 || n.kind == 2) || n.kind == 3) && (decide (1 ≤ n.depth) && decide (n.depth ≤ 32)) && (n.text == [] || n.kind == 3)) = g1
    generalize hg2 : (if q = 2 then n.key == [] else !((alook n.key b.keys).isSome || decide ((64 : Int) < n.key.length))) = g2
    obtain ⟨b', hb'⟩ : ∃ b', b' = (if q = 2 then b else { b with keys := aput n.key (w64 ((alook n.key b.keys).getD 0 + 1)) b.keys } : OB) := ⟨_, rfl⟩
    rw [← hb']
    have hbn : b'.node = b.node := by rw [hb']; split <;> rfl
    have hbk : b'.keys = if q = 2 then b.keys else aput n.key (w64 ((alook n.key b.keys).getD 0 + 1)) b.keys := by rw [hb']; split <;> rfl
    -- what is in the node
    have hnk : ∀ (j : Nat) x, k.flat[j]? = some x → nth t ((i + 1) + j) = x := by
      intro j x hx
      have hj := (List.getElem?_eq_some_iff.1 hx).1
      have := hn (j + 1) x (by simp only [RF.flat, List.getElem?_cons_succ]; rw [List.getElem?_append_left hj]; exact hx)
      rw [← this]; congr 1; omega
    have hnr : ∀ (j : Nat) x, r.flat[j]? = some x → nth t (((i + 1) + k.flat.length) + j) = x := by
      intro j x hx
      have := hn (k.flat.length + j + 1) x (by
        simp only [RF.flat, List.getElem?_cons_succ]
        rw [List.getElem?_append_right (by omega), Nat.add_sub_cancel_left]; exact hx)
      rw [← this]; congr 1; omega
    have hdd1 : ((d : Int) + 1) = ((d + 1 : Nat) : Int) := by omega
    have hstk : (⟨0, false, i, []⟩ :: b' :: s : List OB).drop ((⟨0, false, i, []⟩ :: b' :: s : List OB).length - (d + 1)) = (⟨0, false, i, []⟩ : OB) :: (b' :: s) := by
      have : (⟨0, false, i, []⟩ :: b' :: s : List OB).length - (d + 1) = 0 := by simp only [List.length_cons]; omega
      rw [this]; rfl
    have hlast : ∀ x : Nd, (d : Int) ≤ (lastN n k.flat).depth := fun _ => lastN_deep k.flat n d (by omega) fun x hx => by have := at_deep k _ hk x hx; omega
    have hkl : lastN a (RF.cons n k r).flat = lastN (lastN n k.flat) r.flat := by simp [RF.flat, lastN, lastN_app]
    have hlen : i + ((RF.cons n k r).flat.length : Nat) = ((i + 1) + k.flat.length) + r.flat.length := by simp [RF.flat]; omega
    by_cases hk3 : leafOk n k = true
    · obtain ⟨st1, s1, s2⟩ := isGo_forest t k (d + 1) n.kind ⟨0, false, i, []⟩ (b' :: s) n (i + 1) (⟨0, false, i, []⟩ :: b' :: s) (r.flat ++ rest) (by rw [← hdd1]; exact hk) (by omega) hstk (by simp only [List.length_cons]; omega) (by rw [hni])
        (by
          cases k with
          | nil => exact .inr rfl
          | cons x y z => exact .inl (.inr ⟨by omega, by simpa [leafOk] using hk3⟩)) hnk
      have hst1 : st1.drop (st1.length - d) = b' :: s := by
        have hl := congrArg List.length s1
        simp only [List.length_drop, List.length_cons] at hl
        have e : st1.length - d = (st1.length - (d + 1)) + 1 := by omega
        rw [e, ← List.drop_drop, s1]; rfl
      obtain ⟨st2, u1, u2⟩ := isGo_forest t r d q b' s (lastN n k.flat) ((i + 1) + k.flat.length) st1 rest hr h1 hst1 hs (by rw [hbn]; exact hq) (.inl (.inl (hlast n))) hnr
      refine ⟨st2, ?_, ?_⟩
      · rw [u1, hbk]
        congr 1
        rw [hb']
        by_cases h2 : q = 2
        · simp [h2]
        · simp [h2, RF.keysA]
      · rw [hkl, hlen, hbk] at *
        cases g1 with
        | false => simp
        | true =>
          cases g2 with
          | false => simp
          | true =>
            simp only [Bool.and_self, if_true]
            rw [s2, u2]
            simp only [Bool.true_and, Bool.and_assoc]
            rw [hk3]
            simp
    · have hk3 : leafOk n k = false := by simpa using hk3
      cases k with
      | nil => cases hk3
      | cons x y z =>
        have hn3 : n.kind = 3 := by simpa [leafOk] using hk3
        have hx : fitsB x n = false := by
          unfold fitsB
          have : x.depth = d + 1 := hk.1
          have e : (decide (x.depth ≤ n.depth) || (x.depth == n.depth + 1 && n.kind != 3)) = false := by rw [hn3]; simp; omega
          rw [e]
          simp
        refine ⟨{ b with keys := if q = 2 then b.keys else (RF.cons n (.cons x y z) r).keysA b.keys } :: s, by
          have : ({ b with keys := if q = 2 then b.keys else (RF.cons n (.cons x y z) r).keysA b.keys } :: s : List OB).length - d = 0 := by simp only [List.length_cons]; omega
          rw [this]; rfl, ?_⟩
        have e5 : leafOk n (.cons x y z) = false := by simp [leafOk, hn3]
        have e4 : ∀ st', isGo t ((RF.cons x y z).flat ++ (r.flat ++ rest)) n (i + 1) st' = false := by
          intro st'
          have : (RF.cons x y z).flat ++ (r.flat ++ rest) = x :: ((y.flat ++ z.flat) ++ (r.flat ++ rest)) := by simp [RF.flat]
          rw [this, isGo, if_pos hx]
        simp only [e5]
        split <;> simp_all
theorem is_forest (a : Nd) (F : RF) (h : F.at_ 1) : isS (a :: F.flat) = (decide ((a :: F.flat).length ≤ 16384) && rootOk a && F.good 1 []) := by
  unfold isS
  simp only
  by_cases h1 : (16384 : Int) < ((a :: F.flat).length : Int)
  · rw [if_pos h1]
    have : decide ((a :: F.flat).length ≤ 16384) = false := by rw [decide_eq_false_iff_not]; omega
    rw [this]; simp
  rw [if_neg h1]
  have e1 : decide ((a :: F.flat).length ≤ 16384) = true := by rw [decide_eq_true_eq]; omega
  rw [e1]
  by_cases h2 : rootOk a = true
  · have hr := h2
    unfold rootOk at hr
    simp at hr
    rw [if_neg (by rw [h2]; decide), h2]
    obtain ⟨st2, -, u⟩ := isGo_forest (a :: F.flat) F 1 1 ⟨0, false, 0, []⟩ [] a 1 [⟨0, false, 0, []⟩] [] h (Nat.le_refl _) rfl rfl (by
      show (nth (a :: F.flat) ((0 : Nat) : Int)).kind = 1
      rw [nth_nat]; exact hr.1.1.1) (.inl (.inr ⟨by rw [hr.1.1.2]; rfl, by rw [hr.1.1.1]; decide⟩)) (by
      intro j n hj
      have : ((1 : Int) + j) = ((j + 1 : Nat) : Int) := by omega
      rw [this]
      exact nth_of (by simpa using hj))
    rw [List.append_nil] at u
    have : isGo (a :: F.flat) F.flat a 1 [⟨0, false, 0, []⟩] = F.good 1 [] := by rw [u, isGo]; simp
    simpa using this
  · have h2 : rootOk a = false := by simpa using h2
    rw [if_pos h2, h2]; simp
theorem is_build {t : List Nd} (h : isS t = true) : ∃ (a : Nd) (F : RF), t = a :: F.flat ∧ F.at_ 1 := by
  cases t with
  | nil => cases h
  | cons a r =>
    have hw := ris_wf2 (by rw [← is_ref]; exact h)
    have ha : a.depth = 0 := by
      unfold isS at h
      simp only at h
      split at h
      · cases h
      split at h
      · cases h
      · rename_i h1
        have hr : rootOk a = true := by simpa using h1
        unfold rootOk at hr
        simp at hr
        exact hr.1.1.2
    have hch : ∀ (l1 l2 : List Nd), (a :: r) = l1 ++ l2 → ∀ d, (∀ x, l1.getLast? = some x → x.depth = d) → (l1 = [] → d = -1) → chainD d l2 := by
      intro l1 l2
      induction l2 generalizing l1 with
      | nil => intros; trivial
      | cons n l2 ih =>
        intro e d h1 h2
        refine ⟨?_, ih (l1 ++ [n]) (by rw [e]; simp) n.depth (by simp) (by simp)⟩
        cases hl : l1.getLast? with
        | none =>
          have hl := List.getLast?_eq_none_iff.1 hl
          subst hl
          injection e with e1 e2
          rw [h2 rfl, ← e1, ha]; omega
        | some x =>
          have hx := h1 x hl
          have hne : l1 ≠ [] := by rintro rfl; cases hl
          have hlp := List.length_pos_iff.2 hne
          have g1 : (a :: r)[l1.length - 1]? = some x := by
            rw [e, List.getElem?_append_left (by omega), ← List.getLast?_eq_getElem?]; exact hl
          have g2 : (a :: r)[l1.length]? = some n := by rw [e]; simp
          have := (hw.2.2 (l1.length - 1) (by rw [e]; simp; omega)).2 (by rw [e]; simp; omega)
          have e3 : l1.length - 1 + 1 = l1.length := by omega
          rw [e3, nth_of g1, nth_of g2, hx] at this
          exact this
    have hc := hch [a] r rfl 0 (by simp [ha]) (by simp)
    obtain ⟨F, rest, e1, e2, e3⟩ := forest_build r.length r 1 0 (Nat.le_refl _) hc (by
      intro n hn
      cases r with
      | nil => cases hn
      | cons x r => injection hn with hn; subst hn; have := hc.1; omega)
    have hrest : rest = [] := by
      cases rest with
      | nil => rfl
      | cons x rest =>
        have h1 := e3 x rfl
        have h2 := isS_deep' h x (by rw [e1]; simp)
        omega
    subst hrest
    rw [List.append_nil] at e1
    exact ⟨a, F, by rw [e1], e2⟩
end Go.Proofs.YtbmplmehofgocaaDoor.C
