/- The plain law of GraphMore: one instance more behind all others. -/
import Derived.Test.YthbehiflmcljcaaDoorGz
import Derived.Test.YthbehiflmcljcaaDoorGu
set_option linter.unusedVariables false
set_option linter.unusedSimpArgs false
set_option maxRecDepth 10000
namespace Go.Proofs.YthbehiflmcljcaaDoor.C
open Go.RowKit Go.Proofs.YthbehiflmcljcaaDoor.Sh
/-! ### where things lie does not matter -/
theorem nth_dat (is : List Ist) (i : Int) : nth (is.map datI) i = datI (nth is i) := by
  unfold nth
  rw [List.getD_eq_getElem?_getD, List.getD_eq_getElem?_getD, List.getElem?_map]
  cases is[i.toNat]? <;> rfl
theorem needE_dat (is : List Ist) (t : Bs) : needE (is.map datI) t = needE is t := by
  unfold needE
  simp only [nth_dat, List.length_map]
  rfl
theorem neededF_dat (is : List Ist) : ∀ (ns : List Ne) (out : Is), neededF (is.map datI) ns out = neededF is ns out
  | [], out => rfl
  | x :: xs, out => by
    rw [neededF, neededF, needE_dat, neededF_dat is xs]
theorem predsS_dat (is : List Ist) (k : Nat) : predsS (is.map datI) k = predsS is k := by
  unfold predsS
  rw [neededF_dat]
  simp only [nth_dat, List.length_map]
  rfl
theorem edgesS_dat (is : List Ist) : edgesS (is.map datI) = edgesS is := by
  unfold edgesS
  simp only [predsS_dat, List.length_map]
theorem stagesS_dat (is : List Ist) : stagesS (is.map datI) = stagesS is := by
  unfold stagesS
  simp only [nth_dat, List.length_map]
  rfl
theorem buildS_dat (is : List Ist) : buildS (is.map datI) = buildS is := by
  have hb : badP (is.map datI) = badP is := by
    funext k
    unfold badP
    rw [predsS_dat]
  unfold buildS
  rw [hb, edgesS_dat, stagesS_dat]
  simp only [nth_dat, List.length_map, predsS_dat]
  rfl
theorem buildS_eq {is is' : List Ist} (h : is'.map datI = is.map datI) : buildS is' = buildS is := by rw [← buildS_dat is', h, buildS_dat]
/-! ### one more -/
theorem build_ok {is : List Ist} (h : (buildS is).2.code = 0) : buildS is = (edgesS is, ft0) ∧ orderC (edgesS is) (stagesS is) = 0 ∧ ∀ k, k < is.length → badP is k = false := by
  unfold buildS at h ⊢
  cases hf : (List.range is.length).find? (badP is) with
  | some k =>
    rw [hf] at h
    have hb := List.find?_some hf
    unfold badP at hb
    exact absurd h (of_decide_eq_true hb)
  | none =>
    rw [hf] at h
    simp only at h ⊢
    by_cases hc : orderC (edgesS is) (stagesS is) = 0
    · rw [if_pos hc]
      refine ⟨rfl, hc, fun k hk => ?_⟩
      have := List.find?_eq_none.1 hf k (List.mem_range.2 hk)
      simpa using this
    · rw [if_neg hc] at h
      exact absurd h hc
theorem allK_more {n : Nat} {p q : Nat → Bool} (h : ∀ i, i < n → p i = q i) (hn : p n = false) : allK (n + 1) p = allK n q := by
  rw [allK_succ, hn, if_neg Bool.false_ne_true, List.append_nil]
  unfold allK
  rw [List.filter_congr (fun i hi => h i (List.mem_range.1 hi))]
/-- an instance that no need can mean -/
structure Lone (is : List Ist) (e : Ist) : Prop where
  has : e.has = false
  name : ∀ job, job.length ≤ 64 → nameB job = true → ofB job e.name = false
  stage : ∀ k, k < is.length → (nth is (k : Int)).stage < e.stage
theorem readG_name {s : Bs} {job : Bs} {l : List Va} (h : readG s = some (job, l)) : nameB job = true := by
  unfold readG at h
  split at h
  · cases h
  · rename_i h1
    have h1 : nameB (cutC 91 s).1 = true := by simpa using h1
    split at h
    · injection h with h; injection h with h3; rw [← h3]; exact h1
    · split at h
      · cases h
      · obtain ⟨l', _, h4⟩ := Option.map_eq_some_iff.1 h
        injection h4 with h3
        rw [← h3]
        exact h1
section
variable {is : List Ist} {e : Ist}
theorem nth_more {i : Nat} (hi : i < is.length) : nth (is ++ [e]) (i : Int) = nth is (i : Int) := by
  rw [nth_getElem (by simp; omega), nth_getElem hi, List.getElem_append_left hi]
theorem nth_more_last : nth (is ++ [e]) (is.length : Int) = e := by
  rw [nth_getElem (by simp)]
  simp
theorem needE_more (h : Lone is e) (t : Bs) : needE (is ++ [e]) t = needE is t := by
  unfold needE
  cases hr : readG t with
  | none => rfl
  | some r =>
    obtain ⟨job, l⟩ := r
    have hn := h.name job (readG_job hr) (readG_name hr)
    have hlen : (is ++ [e]).length = is.length + 1 := by simp
    have e1 : allK (is ++ [e]).length (fun i => ofB job (nth (is ++ [e]) (i : Int)).name) = allK is.length (fun i => ofB job (nth is (i : Int)).name) := by
      rw [hlen]
      refine allK_more (fun i hi => by rw [nth_more hi]) ?_
      rw [nth_more_last]
      exact hn
    have e2 : allK (is ++ [e]).length (fun i => meansB job l (nth (is ++ [e]) (i : Int))) = allK is.length (fun i => meansB job l (nth is (i : Int))) := by
      rw [hlen]
      refine allK_more (fun i hi => by rw [nth_more hi]) ?_
      rw [nth_more_last]
      unfold meansB
      rw [hn]
      rfl
    simp only [e1, e2]
theorem neededF_more (h : Lone is e) : ∀ (ns : List Ne) (out : Is), neededF (is ++ [e]) ns out = neededF is ns out
  | [], out => rfl
  | x :: xs, out => by
    rw [neededF, neededF, needE_more h, neededF_more h xs]
theorem preds_more (h : Lone is e) {k : Nat} (hk : k < is.length) : predsS (is ++ [e]) k = predsS is k := by
  unfold predsS
  rw [nth_more hk, neededF_more h]
  have hlen : (is ++ [e]).length = is.length + 1 := by simp
  have e1 : allK (is ++ [e]).length (fun i => decide ((nth (is ++ [e]) (i : Int)).stage < (nth is (k : Int)).stage)) = allK is.length (fun i => decide ((nth is (i : Int)).stage < (nth is (k : Int)).stage)) := by
    rw [hlen]
    refine allK_more (fun i hi => by rw [nth_more hi]) ?_
    rw [nth_more_last]
    have := h.stage k hk
    exact decide_eq_false (by omega)
  rw [e1]
theorem preds_last (h : Lone is e) : predsS (is ++ [e]) is.length = (castN (List.range is.length), ft0) := by
  unfold predsS
  rw [nth_more_last, if_neg (by rw [h.has]; exact Bool.false_ne_true)]
  have hlen : (is ++ [e]).length = is.length + 1 := by simp
  have e1 : allK (is ++ [e]).length (fun i => decide ((nth (is ++ [e]) (i : Int)).stage < e.stage)) = castN (List.range is.length) := by
    have h1 := allK_more (n := is.length) (p := fun i => decide ((nth (is ++ [e]) (i : Int)).stage < e.stage)) (q := fun _ => true) (fun i hi => by
      rw [nth_more hi]
      exact decide_eq_true (h.stage i hi)) (by
      rw [nth_more_last]
      exact decide_eq_false (by omega))
    rw [hlen, h1]
    unfold allK
    rw [List.filter_eq_self.2 (fun _ _ => rfl)]
  rw [e1]
theorem edges_more (h : Lone is e) : edgesS (is ++ [e]) = edgesS is ++ [castN (List.range is.length)] := by
  unfold edgesS
  have hlen : (is ++ [e]).length = is.length + 1 := by simp
  rw [hlen, List.range_succ, List.map_append]
  congr 1
  · exact map_congr_range fun i hi => by rw [preds_more h hi]
  · show [(predsS (is ++ [e]) is.length).1] = _
    rw [preds_last h]
theorem order_all {ps : List Is} {rs : Is} (h : orderC ps rs = 0) : okS ps rs ∧ ∀ x : Nat, x < ps.length → (x : Int) ∈ ordS ps rs := by
  have hok : okS ps rs := Classical.byContradiction fun q => by
    unfold orderC at h
    rw [if_neg q] at h
    cases h
  refine ⟨hok, fun x hx => ?_⟩
  refine Classical.byContradiction fun q => ?_
  have hl : ¬ (ordS ps rs).length < ps.length := fun q2 => by
    unfold orderC at h
    rw [if_pos hok, if_pos q2] at h
    cases h
  have hb := (ordS_beg ps rs).room
  have h1 : still ps.length (ordS ps rs) = 0 := by omega
  have h2 := (List.filter_eq_nil_iff.1 (List.eq_nil_of_length_eq_zero h1)) x (List.mem_range.2 hx)
  exact h2 (decide_eq_true q)
theorem castN_form (n m : Nat) (h : n ≤ m) : formL m (castN (List.range n)) := by
  intro k hk
  have hl : k < (List.range n).length := by simpa using hk
  have hl' : k < n := by simpa using hl
  rw [nth_castN hl]
  simp only [List.getElem_range]
  refine ⟨by omega, by omega, fun h0 => ?_⟩
  have e : (k : Int) - 1 = ((k - 1 : Nat) : Int) := by omega
  rw [e, nth_castN (by simp; omega)]
  simp only [List.getElem_range]
  omega
theorem form_mono {n m : Nat} (h : n ≤ m) {l : Is} (hf : formL n l) : formL m l := fun k hk => by
  have := hf k hk
  exact ⟨this.1, by omega, this.2.2⟩
theorem more_law (h : Lone is e) (hb : (buildS is).2.code = 0) : buildS (is ++ [e]) = (edgesS is ++ [castN (List.range is.length)], ft0) := by
  obtain ⟨-, hc, hno⟩ := build_ok hb
  obtain ⟨hok, hall⟩ := order_all hc
  rw [edges_len] at hall
  have hlst := ordS_lst (edgesS is) (stagesS is)
  have hlen : (is ++ [e]).length = is.length + 1 := by simp
  have hf : (List.range (is ++ [e]).length).find? (badP (is ++ [e])) = none := find_none fun i hi => by
    rw [hlen] at hi
    unfold badP
    by_cases q : i = is.length
    · rw [q, preds_last h]; rfl
    · rw [preds_more h (by omega)]
      exact hno i (by omega)
  have hedge : ∀ x : Nat, x < is.length → nth (edgesS (is ++ [e])) (x : Int) = nth (edgesS is) (x : Int) := fun x hx => by
    rw [edges_at (by rw [hlen]; omega), edges_at hx, preds_more h hx]
  have hlast : nth (edgesS (is ++ [e])) (is.length : Int) = castN (List.range is.length) := by
    rw [edges_at (by rw [hlen]; omega), preds_last h]
  have hok2 : okS (edgesS (is ++ [e])) (stagesS (is ++ [e])) := by
    refine ⟨by rw [edges_len, stages_len], fun i hi => ?_⟩
    rw [edges_len, hlen] at hi ⊢
    by_cases q : i = is.length
    · rw [q, hlast]
      exact castN_form _ _ (by omega)
    · rw [hedge i (by omega)]
      have := hok.2 i (by rw [edges_len]; omega)
      rw [edges_len] at this
      exact form_mono (by omega) this
  have hfix := best_none.1 (ordS_fix (edgesS (is ++ [e])) (stagesS (is ++ [e])))
  rw [edges_len, hlen] at hfix
  generalize hO : ordS (edgesS (is ++ [e])) (stagesS (is ++ [e])) = o' at hfix
  have key : ∀ i x : Nat, i < (ordS (edgesS is) (stagesS is)).length → nth (ordS (edgesS is) (stagesS is)) (i : Int) = (x : Int) → x < is.length → (x : Int) ∈ o' := by
    intro i
    induction i using Nat.strongRecOn with
    | _ i ih =>
      intro x hi hix hx
      refine Classical.byContradiction fun q => hfix x (by omega) ⟨q, fun p hp => ?_⟩
      rw [hedge x hx] at hp
      obtain ⟨b, hb1, hb2⟩ := hlst i hi
      obtain ⟨-, hr, -⟩ := best_some hb2
      have hbx : b = x := by omega
      subst hbx
      obtain ⟨j, hj1, hj2, hj3⟩ := mem_take_nth (hr.2 p hp)
      obtain ⟨y, hy1, hy2⟩ := form_mem (hok.2 b (by rw [edges_len]; exact hx)) hp
      rw [edges_len] at hy1
      rw [hy2] at hj3 ⊢
      exact ih j hj1 y hj2 hj3 hy1
  have hin : ∀ x : Nat, x < is.length → (x : Int) ∈ o' := fun x hx => by
    obtain ⟨i, hi, e1⟩ := List.mem_iff_getElem.1 (hall x hx)
    exact key i x hi (by rw [nth_getElem hi]; exact e1) hx
  have hinl : ((is.length : Nat) : Int) ∈ o' := by
    refine Classical.byContradiction fun q => hfix is.length (by omega) ⟨q, fun p hp => ?_⟩
    rw [hlast] at hp
    obtain ⟨i, hi, rfl⟩ := List.mem_map.1 hp
    exact hin i (List.mem_range.1 hi)
  have hol : is.length + 1 ≤ o'.length := by
    have h5 : (List.range (is.length + 1)).map (fun i : Nat => (i : Int)) ⊆ o' := fun x hx => by
      obtain ⟨i, hi, rfl⟩ := List.mem_map.1 hx
      have hi := List.mem_range.1 hi
      by_cases q : i = is.length
      · rw [q]; exact hinl
      · exact hin i (by omega)
    have h6 : ((List.range (is.length + 1)).map (fun i : Nat => (i : Int))).Nodup := by
      unfold List.Nodup
      rw [List.pairwise_map]
      exact List.Pairwise.imp (fun h => by omega) (List.nodup_range (n := is.length + 1))
    have h7 := h6.length_le_of_subset h5
    simpa using h7
  have hc2 : orderC (edgesS (is ++ [e])) (stagesS (is ++ [e])) = 0 := by
    unfold orderC
    rw [if_pos hok2, if_neg (by rw [edges_len, hlen, hO]; omega)]
  unfold buildS
  rw [hf]
  simp only [hc2, if_true]
  rw [edges_more h]
end
end Go.Proofs.YthbehiflmcljcaaDoor.C
