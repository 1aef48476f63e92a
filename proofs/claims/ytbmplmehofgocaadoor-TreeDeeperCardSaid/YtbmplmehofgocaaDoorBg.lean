/- What tree.Parse hands back is a tree: the open blocks of the reader are those of tree.Is. -/
import Derived.Test.YtbmplmehofgocaaDoorBf
set_option linter.unusedVariables false
set_option linter.unusedSimpArgs false
set_option maxRecDepth 10000
namespace Go.Proofs.YtbmplmehofgocaaDoor.C
open Go.RowKit Go.Proofs.YtbmplmehofgocaaDoor.Sh
theorem nth_app_l {α : Type} [Inhabited α] (l : List α) (x : α) {j : Nat} (h : j < l.length) : nth (l ++ [x]) (j : Int) = nth l (j : Int) := by
  rw [nth_nat, nth_nat]; simp [List.getElem?_append_left h]
theorem nth_app_r {α : Type} [Inhabited α] (l : List α) (x : α) : nth (l ++ [x]) (l.length : Int) = x := by
  rw [nth_nat]; simp
theorem nth_set_ne {α : Type} [Inhabited α] (l : List α) (x : α) {i j : Nat} (h : i ≠ j) : nth (l.set i x) (j : Int) = nth l (j : Int) := by
  rw [nth_nat, nth_nat]; simp [List.getElem?_set_ne h]
theorem nth_set_eq {α : Type} [Inhabited α] (l : List α) (x : α) {i : Nat} (h : i < l.length) : nth (l.set i x) (i : Int) = x := by
  rw [nth_nat]; simp [h]
def RelB (t : List Nd) (a b : OB) : Prop := a.node = b.node ∧ (nth t b.node).kind = (if b.items = true then 2 else 1) ∧ (b.items = false → a.keys = b.keys)
def Rel (t : List Nd) : List OB → List OB → Prop
  | [], [] => True
  | a :: s, b :: st => RelB t a b ∧ Rel t s st
  | _, _ => False
theorem rel_drop {t : List Nd} : ∀ {s st : List OB} (k : Nat), Rel t s st → Rel t (s.drop k) (st.drop k)
  | [], [], k, h => by simp [Rel]
  | a :: s, b :: st, 0, h => h
  | a :: s, b :: st, k + 1, h => rel_drop (s := s) (st := st) k h.2
  | [], _ :: _, _, h => h.elim
  | _ :: _, [], _, h => h.elim
theorem rel_congr {t t' : List Nd} : ∀ {s st : List OB}, (∀ a ∈ s, (nth t a.node).kind = (nth t' a.node).kind) → Rel t s st → Rel t' s st
  | [], [], _, h => h
  | a :: s, b :: st, hk, h => by
    refine ⟨⟨h.1.1, ?_, h.1.2.2⟩, rel_congr (s := s) (st := st) (fun x hx => hk x (List.mem_cons_of_mem _ hx)) h.2⟩
    rw [← h.1.2.1, ← h.1.1, hk a (List.mem_cons_self ..)]
  | [], _ :: _, _, h => h.elim
  | _ :: _, [], _, h => h.elim
theorem rel_len {t : List Nd} : ∀ {s st : List OB}, Rel t s st → s.length = st.length
  | [], [], _ => rfl
  | a :: s, b :: st, h => by simp only [List.length_cons, rel_len (s := s) (st := st) h.2]
  | [], _ :: _, h => h.elim
  | _ :: _, [], h => h.elim
theorem popS_drop (ind : Int) : ∀ st : List OB, ∃ k, popS ind st = st.drop k
  | [] => ⟨0, rfl⟩
  | [x] => ⟨0, rfl⟩
  | x :: y :: r => by
    rw [popS]
    split
    · obtain ⟨k, hk⟩ := popS_drop ind (y :: r)
      exact ⟨k + 1, hk⟩
    · exact ⟨0, rfl⟩
theorem popS_self (x : OB) (r : List OB) : popS x.indent (x :: r) = x :: r := by
  cases r with
  | nil => rfl
  | cons y r => rw [popS, if_neg (by omega)]
theorem stI_ok {t : List Nd} {a n : Nd} {i : Int} {st : List OB} {b bb : OB} {r : List OB} {it : Bool} (hf : fitsB n a = true) (hd : st.drop (st.length - n.depth.toNat) = b :: r) (hrel : RelB t b bb) (hit : bb.items = it) (hk : it = true → n.key = [])
    (hkl : n.key.length ≤ 64) (h42 : ((alook n.key bb.keys).isSome && !it) = false) :
    ∃ b', stI t a n i st = some (⟨0, false, i, []⟩ :: b' :: r) ∧ b'.node = b.node ∧ (bb.items = false → b'.keys = aput n.key (w64 ((alook n.key bb.keys).getD 0 + 1)) bb.keys) := by
  obtain ⟨h1, h2, h3⟩ := hrel
  unfold stI
  rw [if_neg (by simp [hf]), hd]
  simp only
  rw [h1, h2]
  cases it with
  | true =>
    rw [hit]
    simp only [if_true]
    rw [if_neg (by simp [hk rfl])]
    exact ⟨b, rfl, h1, fun h => by cases h⟩
  | false =>
    rw [hit]
    have h3 := h3 hit
    simp only [Bool.not_false, Bool.and_true] at h42
    rw [if_neg (by decide), h3, if_neg (by rw [h42]; simp; omega)]
    exact ⟨_, rfl, rfl, fun _ => rfl⟩
theorem fits_kd {a a' : Nd} {x : Int} (h : fitsB a a' = true) (hx : x = 1 ∨ x = 2) (ht : a.text = []) : fitsB (a.kd x) a' = true := by
  unfold fitsB at h ⊢
  unfold Nd.kd
  simp only [Bool.and_eq_true, Bool.or_eq_true, decide_eq_true_eq, beq_iff_eq] at h ⊢
  refine ⟨⟨⟨⟨?_, h.1.1.1.2⟩, h.1.1.2⟩, h.1.2⟩, .inl ht⟩
  rcases hx with rfl | rfl
  · exact .inl (.inl rfl)
  · exact .inl (.inr rfl)
theorem stI_kd {t : List Nd} {a a' : Nd} {x i : Int} {st : List OB} (h : fitsB a a' = true) (h' : fitsB (a.kd x) a' = true) : stI t a' (a.kd x) i st = stI t a' a i st := by
  unfold stI
  rw [if_neg (by simp [h']), if_neg (by simp [h])]
  rfl
/-- the last node may become a map or a list -/
theorem gone_kd {nodes : List Nd} {s : List OB} {x : Int} (hG : Gone nodes nodes.length s) (hx : x = 1 ∨ x = 2) (ht : (nth nodes ((nodes.length : Int) - 1)).text = []) :
    Gone (nodes.set (nodes.length - 1) ((nth nodes ((nodes.length : Int) - 1)).kd x)) nodes.length s := by
  obtain ⟨k, hk⟩ : ∃ k, k = nodes.length := ⟨_, rfl⟩
  obtain ⟨N2, hN2⟩ : ∃ N2, N2 = nodes.set (nodes.length - 1) ((nth nodes ((nodes.length : Int) - 1)).kd x) := ⟨_, rfl⟩
  rw [← hN2]
  have hl2 : N2.length = nodes.length := by rw [hN2]; simp
  rw [← hk] at hG ⊢
  cases hG with
  | root h => exact .root (by omega)
  | @more j st st' h hj hs =>
    have hj' : nodes.length - 1 = j := by omega
    have hji : (nodes.length : Int) - 1 = j := by omega
    rw [hj', hji] at hN2
    rw [hji] at ht
    have hag : ∀ i : Nat, i < j → nth nodes (i : Int) = nth N2 (i : Int) := fun i hi => by rw [hN2, nth_set_ne _ _ (by omega)]
    have h2 := gone_congr h hag (by omega)
    refine .more h2 (by omega) ?_
    have e1 : nth N2 (j : Int) = (nth nodes (j : Int)).kd x := by rw [hN2, nth_set_eq _ _ hj]
    have hj1 := (gone_head h).1
    have e2 : nth N2 ((j : Int) - 1) = nth nodes ((j : Int) - 1) := by
      have : ((j : Int) - 1) = ((j - 1 : Nat) : Int) := by omega
      rw [this]
      exact (hag (j - 1) (by omega)).symm
    obtain ⟨hf, -⟩ := stI_inv hs
    rw [e1, e2, stI_kd hf (fits_kd hf hx ht), ← hs]
    obtain ⟨-, -, s0, hs0, hb0⟩ := gone_head h
    refine stI_congr fun b hb => ?_
    have hbn : 0 ≤ b.node ∧ b.node < (j : Int) := by
      rw [hs0] at hb
      rcases List.mem_cons.1 hb with rfl | hb
      · simp only; omega
      · have := hb0 b hb; omega
    have : b.node = ((b.node.toNat : Nat) : Int) := by omega
    rw [this]
    exact congrArg Nd.kind (hag b.node.toNat (by omega)).symm
/-- how the reader's nodes and blocks stand to tree.Is -/
structure TI (nodes : List Nd) (st : List OB) (last : Bool) (s : List OB) (m : Nat) : Prop where
  gone : Gone nodes nodes.length s
  len : s.length = m + st.length
  rel : Rel nodes (s.drop m) st
  ne : st ≠ []
  alt : (m = 1 ∧ (nth nodes ((nodes.length : Int) - 1)).depth = st.length) ∨ (m = 0 ∧ (nth nodes ((nodes.length : Int) - 1)).depth = 0 ∧ (nth nodes ((nodes.length : Int) - 1)).kind = 1 ∧ st.length = 1 ∧ last = false)
  txt : last = true → (nth nodes ((nodes.length : Int) - 1)).text = []
  root : rootOk (nth nodes 0) = true
theorem ti_fin {file : Bs} {N2 : List Nd} {s : List OB} {b b0 : OB} {r r0 : List OB} {l : Ln} {o : Ct} (hG : Gone N2 N2.length s) (hd : s.drop (s.length - (r.length + 1)) = b0 :: r0) (hr : RelB N2 b0 b) (hrr : Rel N2 r0 r)
    (hf : fitsB (nodeS file (r.length + 1) l o) (nth N2 ((N2.length : Int) - 1)) = true) (hit : b.items = (o.kind == 2)) (ho : CtG o) (h42 : ((alook o.key b.keys).isSome && !(o.kind == 2)) = false) (hroot : rootOk (nth N2 0) = true) :
    ∃ s', TI (N2 ++ [nodeS file (r.length + 1) l o]) ({ b with keys := aput o.key (w64 ((alook o.key b.keys).getD 0 + 1)) b.keys } :: r) (!o.has) s' 1 := by
  obtain ⟨n, hn⟩ : ∃ n, n = nodeS file (r.length + 1) l o := ⟨_, rfl⟩
  have hnd : n.depth = (r.length + 1 : Nat) := by rw [hn]; rfl
  have hnk : n.key = o.key := by rw [hn]; rfl
  have hnt : n.text = o.value := by rw [hn]; rfl
  rw [← hn] at hf ⊢
  obtain ⟨hL1, -, s0, hs0, hb0⟩ := gone_head hG
  have hag : ∀ j : Nat, j < N2.length → nth N2 (j : Int) = nth (N2 ++ [n]) (j : Int) := fun j hj => (nth_app_l N2 n hj).symm
  have hG2 : Gone (N2 ++ [n]) N2.length s := gone_congr hG hag (by simp)
  have hrel2 : Rel (N2 ++ [n]) (b0 :: r0) (b :: r) := by
    refine rel_congr ?_ (show Rel N2 (b0 :: r0) (b :: r) from ⟨hr, hrr⟩)
    intro a ha
    have ha : a ∈ s := List.mem_of_mem_drop (by rw [hd]; exact ha)
    have hbn : 0 ≤ a.node ∧ a.node < (N2.length : Int) := by
      rw [hs0] at ha
      rcases List.mem_cons.1 ha with rfl | ha
      · simp only; omega
      · have := hb0 a ha; omega
    have : a.node = ((a.node.toNat : Nat) : Int) := by omega
    rw [this]
    exact congrArg Nd.kind (hag a.node.toNat (by omega))
  obtain ⟨b', hst, hb'n, hb'k⟩ := stI_ok (t := N2 ++ [n]) (i := (N2.length : Int)) (st := s) (it := (o.kind == 2)) hf (by rw [hnd, Int.toNat_natCast]; exact hd) hrel2.1 hit (by rw [hnk]; intro h; exact ho.k (eq_of_beq h)) (by rw [hnk]; exact ho.kl) (by rw [hnk]; exact h42)
  have e1 : nth (N2 ++ [n]) ((N2.length : Int) - 1) = nth N2 ((N2.length : Int) - 1) := by
    have : ((N2.length : Int) - 1) = ((N2.length - 1 : Nat) : Int) := by omega
    rw [this]
    exact nth_app_l N2 n (by omega)
  have hlen : (N2 ++ [n]).length = N2.length + 1 := by simp
  have hG3 : Gone (N2 ++ [n]) (N2.length + 1) (⟨0, false, (N2.length : Int), []⟩ :: b' :: r0) := by
    refine .more hG2 (by omega) ?_
    rw [e1, nth_app_r]
    exact hst
  have e2 : nth (N2 ++ [n]) (((N2 ++ [n]).length : Int) - 1) = n := by
    have : (((N2 ++ [n]).length : Int) - 1) = (N2.length : Int) := by rw [hlen]; omega
    rw [this, nth_app_r]
  have hrl := rel_len hrr
  refine ⟨_, ⟨by rw [hlen]; exact hG3, by simp only [List.length_cons, hrl]; omega, ?_, by simp, .inl ⟨rfl, ?_⟩, ?_, ?_⟩⟩
  · refine ⟨⟨by rw [hb'n]; exact hrel2.1.1, hrel2.1.2.1, fun h => ?_⟩, hrel2.2⟩
    rw [hb'k h, hnk]
  · rw [e2, hnd]; rfl
  · rw [e2, hnt]
    intro h
    exact ho.hv (by simpa using h)
  · have := hag 0 (by omega)
    rw [← (show nth N2 0 = nth (N2 ++ [n]) 0 from this)]
    exact hroot
theorem ti_step {file : Bs} {nodes N2 : List Nd} {st S2 s : List OB} {last : Bool} {ind : Int} {m : Nat} {l : Ln} {o : Ct} (h : TI nodes st last s m) (ho : CtG o) (hE : enterS nodes st last ind l o = (0, N2, S2)) :
    ∃ s', TI (N2 ++ [nodeS file S2.length l o]) S2 (!o.has) s' 1 := by
  obtain ⟨hG, hlen, hrel, hne, halt, htxt, hroot⟩ := h
  obtain ⟨hL1, -, s0, hs0, hb0⟩ := gone_head hG
  unfold enterS at hE
  split at hE
  · cases hE
  rename_i b r hb
  split at hE
  · cases hE
  split at hE
  · cases hE
  rename_i h40 h41
  split at hE
  · cases hE
  rename_i h43
  split at hE
  · cases hE
  rename_i h42
  have hit : b.items = (o.kind == 2) := by simpa using h41
  have h42 : ((alook o.key b.keys).isSome && !(o.kind == 2)) = false := by simpa using h42
  injection hE with _ hE
  injection hE with h1 h2
  subst h1 h2
  have h32 : r.length + 1 ≤ 32 := by simp only [List.length_cons] at h43; omega
  have hnf : ∀ a : Nd, (((r.length + 1 : Nat) : Int) ≤ a.depth ∨ (((r.length + 1 : Nat) : Int) = a.depth + 1 ∧ a.kind ≠ 3)) → fitsB (nodeS file (r.length + 1) l o) a = true := by
    intro a ha
    unfold fitsB nodeS
    simp only [Bool.and_eq_true, Bool.or_eq_true, decide_eq_true_eq, beq_iff_eq, bne_iff_ne]
    refine ⟨⟨⟨⟨?_, by omega⟩, by omega⟩, ha⟩, ?_⟩
    · split
      · exact .inl (.inr rfl)
      · split
        · exact .inl (.inl rfl)
        · exact .inr rfl
    · by_cases he : o.empty = 0
      · right; rw [if_neg (by omega), if_neg (by omega)]
      · exact .inl (ho.ev he)
  by_cases hop : opens last ind l = true
  · have hlast : last = true := by unfold opens at hop; simp at hop; exact hop.1
    obtain ⟨rfl, hdp⟩ : m = 1 ∧ (nth nodes ((nodes.length : Int) - 1)).depth = st.length := by
      rcases halt with h | ⟨-, -, -, -, hl0⟩
      · exact h
      · rw [hlast] at hl0; cases hl0
    rw [stack1, if_pos hop] at hb
    have hb := (popS_self ⟨l.indent, o.kind == 2, (nodes.length : Int) - 1, []⟩ st).symm.trans hb
    injection hb with hb1 hb2
    subst hb1 hb2
    have hx : (if o.kind = 2 then (2 : Int) else 1) = 1 ∨ (if o.kind = 2 then (2 : Int) else 1) = 2 := by split <;> simp
    have hji : ((nodes.length : Int) - 1) = ((nodes.length - 1 : Nat) : Int) := by omega
    have e0 : nodes1 nodes last ind l o = nodes.set (nodes.length - 1) ((nth nodes ((nodes.length : Int) - 1)).kd (if o.kind = 2 then 2 else 1)) := by
      rw [nodes1, if_pos hop, hji, nth_nat]
    rw [e0]
    have hG2 := gone_kd hG hx (htxt hlast)
    obtain ⟨N2, hN2⟩ : ∃ N2, N2 = nodes.set (nodes.length - 1) ((nth nodes ((nodes.length : Int) - 1)).kd (if o.kind = 2 then 2 else 1)) := ⟨_, rfl⟩
    rw [← hN2] at hG2 ⊢
    have hl2 : N2.length = nodes.length := by rw [hN2]; simp
    have elast : nth N2 ((nodes.length : Int) - 1) = (nth nodes ((nodes.length : Int) - 1)).kd (if o.kind = 2 then 2 else 1) := by
      rw [hN2, hji, nth_set_eq _ _ (by omega)]
    have hag : ∀ i : Nat, i < nodes.length - 1 → nth nodes (i : Int) = nth N2 (i : Int) := fun i hi => by rw [hN2, nth_set_ne _ _ (by omega)]
    have hstl : st.length ≠ 0 := by intro h; exact hne (List.eq_nil_of_length_eq_zero h)
    have hnl : 2 ≤ nodes.length := by
      have : s.length ≤ nodes.length := by
        clear hb0 hs0
        have : ∀ {k : Nat} {st : List OB}, Gone nodes k st → st.length ≤ k := by
          intro k st h
          induction h with
          | root => simp
          | @more k st st' h hk hs ih =>
            obtain ⟨-, b, r, b', hd, rfl, -⟩ := stI_inv hs
            have := congrArg List.length hd
            simp only [List.length_drop, List.length_cons] at this ⊢
            omega
        exact this hG
      omega
    refine ti_fin (b0 := ⟨0, false, (nodes.length : Int) - 1, []⟩) (r0 := s0) (by rw [hl2]; exact hG2) ?_ ⟨rfl, ?_, fun _ => rfl⟩ ?_ ?_ rfl ho (by simp [alook]) ?_
    · have : s.length - (st.length + 1) = 0 := by omega
      rw [this, List.drop_zero, hs0]
    · simp only
      rw [elast]
      unfold Nd.kd
      simp only [beq_iff_eq]
    · refine rel_congr ?_ (show Rel nodes s0 st by rw [hs0] at hrel; exact hrel)
      intro a ha
      have hbn := hb0 a ha
      have : a.node = ((a.node.toNat : Nat) : Int) := by omega
      rw [this]
      exact congrArg Nd.kind (hag a.node.toNat (by omega))
    · rw [hl2, elast]
      refine hnf _ (.inr ⟨?_, ?_⟩)
      · unfold Nd.kd; simp only; omega
      · unfold Nd.kd; simp only; split <;> decide
    · have := hag 0 (by omega)
      rw [← (show nth nodes 0 = nth N2 0 from this)]
      exact hroot
  · rw [stack1, if_neg hop] at hb
    have e0 : nodes1 nodes last ind l o = nodes := by rw [nodes1, if_neg hop]
    rw [e0]
    obtain ⟨k, hk⟩ := popS_drop l.indent st
    rw [hk] at hb
    have hbl := congrArg List.length hb
    simp only [List.length_drop, List.length_cons] at hbl
    have hrk := rel_drop k hrel
    rw [hb, List.drop_drop] at hrk
    have hdr : s.length - (r.length + 1) = m + k := by omega
    cases hsd : s.drop (m + k) with
    | nil => rw [hsd] at hrk; exact hrk.elim
    | cons b0 r0 =>
      rw [hsd] at hrk
      refine ti_fin (b0 := b0) (r0 := r0) hG (by rw [hdr]; exact hsd) hrk.1 hrk.2 ?_ hit ho h42 hroot
      refine hnf _ ?_
      rcases halt with ⟨rfl, hdp⟩ | ⟨rfl, hd0, hk1, hs1, -⟩
      · left; rw [hdp]; omega
      · right; rw [hd0, hk1]; exact ⟨by omega, by decide⟩
end Go.Proofs.YtbmplmehofgocaaDoor.C
