/- The plain law of GraphNeeds: one instance more, whose one need is the only one. -/
import Derived.Test.YthbehiflmcljcaaDoorHa
set_option linter.unusedVariables false
set_option linter.unusedSimpArgs false
set_option maxRecDepth 10000
namespace Go.Proofs.YthbehiflmcljcaaDoor.C
open Go.RowKit Go.Proofs.YthbehiflmcljcaaDoor.Sh
/-! ### a need's text -/
theorem cutC_app {c : UInt8} : ∀ {s : Bs} (t : Bs), c ∉ s → cutC c (s ++ c :: t) = (s, t, true)
  | [], t, _ => by simp [cutC]
  | b :: l, t, h => by
    have h1 : b ≠ c := fun e => h (by rw [e]; exact List.mem_cons_self ..)
    have h2 : c ∉ l := fun q => h (List.mem_cons_of_mem _ q)
    show cutC c (b :: (l ++ c :: t)) = _
    rw [cutC, if_neg h1, cutC_app t h2]
theorem cutC_no {c : UInt8} : ∀ {s : Bs}, c ∉ s → cutC c s = (s, [], false)
  | [], _ => rfl
  | b :: l, h => by
    have h1 : b ≠ c := fun e => h (by rw [e]; exact List.mem_cons_self ..)
    have h2 : c ∉ l := fun q => h (List.mem_cons_of_mem _ q)
    rw [cutC, if_neg h1, cutC_no h2]
theorem splA_no {c : UInt8} {s : Bs} (h : c ∉ s) : splA c s = [s] := by
  rw [splA_cut, cutC_no h]
  rfl
structure LowB (s : Bs) : Prop where
  ne : s ≠ []
  len : s.length ≤ 64
  all : ∀ b ∈ s, 97 ≤ b.toNat ∧ b.toNat ≤ 122
theorem LowB.not {s : Bs} (h : LowB s) {c : UInt8} (hc : ¬ (97 ≤ c.toNat ∧ c.toNat ≤ 122)) : c ∉ s := fun q => hc (h.all c q)
theorem LowB.name {s : Bs} (h : LowB s) : nameB s = true := by
  have hl := h.len
  have hpos : 0 < s.length := List.length_pos_iff.2 h.ne
  unfold nameB madeB
  have h1 : (s == []) = false := by rw [beq_eq_false_iff_ne]; exact h.ne
  have h2 : decide (64 < (s.length : Int)) = false := decide_eq_false (by omega)
  have h3 : s.all (fun b => namedB b.toNat) = true := by
    rw [List.all_eq_true]
    intro b hb
    have := h.all b hb
    have e : namedB (b.toNat : Int) = true := by
      unfold namedB letterB
      have q1 : decide (97 ≤ (b.toNat : Int)) = true := decide_eq_true (by omega)
      have q2 : decide ((b.toNat : Int) ≤ 122) = true := decide_eq_true (by omega)
      rw [q1, q2]
      rfl
    exact e
  have h4 : (byt s 0 != 45) = true := by
    rw [bne_iff_ne]
    intro e
    have h5 : byt s ((0 : Nat) : Int) = (s[0]'hpos).toNat := byt_of (List.getElem?_eq_getElem hpos)
    have h6 : byt s ((0 : Nat) : Int) = 45 := e
    have := h.all _ (List.getElem_mem hpos)
    omega
  rw [h1, h2, h3, h4]
  rfl
theorem read_low {s : Bs} (h : LowB s) : readG s = some (s, []) := by
  have e := cutC_no (h.not (c := 91) (by decide))
  unfold readG
  rw [e, if_neg (by rw [h.name]; simp), if_pos rfl]
abbrev valT (job name value : Bs) : Bs := job ++ [91] ++ name ++ [61] ++ value ++ [93]
theorem read_val {job name value : Bs} (h : LowB job) (hn : name = [65] ∨ name = [111, 115]) (h1 : (44 : UInt8) ∉ value) (h2 : (93 : UInt8) ∉ value) : readG (valT job name value) = some (job, [⟨name, value⟩]) := by
  have e : valT job name value = job ++ 91 :: (name ++ [61] ++ value ++ [93]) := by simp [valT]
  have e1 := cutC_app (name ++ [61] ++ value ++ [93]) (h.not (c := 91) (by decide))
  have e2 : cutL 93 (name ++ [61] ++ value ++ [93]) = (name ++ [61] ++ value, true) := by
    unfold cutL
    rw [if_pos ⟨by simp, by rw [List.drop_append_of_le_length (by simp)]; simp⟩]
    congr 1
    rw [List.take_append_of_le_length (by simp)]
    refine List.take_of_length_le ?_
    simp
  have n1 : (93 : UInt8) ∉ name ∧ (44 : UInt8) ∉ name ∧ (61 : UInt8) ∉ name ∧ varB name = true := by
    rcases hn with rfl | rfl <;> decide +kernel
  obtain ⟨n1, n2, n3, n4⟩ := n1
  have e3 : cutC 93 (name ++ [61] ++ value) = (name ++ [61] ++ value, [], false) := cutC_no (by simp [n1, h2])
  have e4 : splA 44 (name ++ [61] ++ value) = [name ++ [61] ++ value] := splA_no (by simp [n2, h1])
  have e5 : cutC 61 (name ++ [61] ++ value) = (name, value, true) := by
    have := cutC_app (c := 61) value n3
    rw [← this]
    simp
  unfold readG
  rw [e, e1, if_neg (by rw [h.name]; simp), if_neg (by simp)]
  dsimp only
  rw [e2]
  dsimp only
  rw [e3, if_neg (by simp), e4]
  simp only [pairsG, e5, n4, and_self, if_true, Option.map_some]
/-! ### the one need -/
theorem compact_form {n : Nat} {l : Is} (h : formL n l) : Lib.compact (sortI l) = l := by
  have hlt : ∀ i j (hi : i < l.length) (hj : j < l.length), i < j → l[i] < l[j] := fun i j hi hj hij => by
    induction j with
    | zero => omega
    | succ j ih =>
      have h1 := (h (j + 1) hj).2.2 (by omega)
      have e : ((j + 1 : Nat) : Int) - 1 = (j : Int) := by omega
      rw [e, nth_getElem hj, nth_getElem (by omega : j < l.length)] at h1
      by_cases q : i = j
      · subst q; exact h1
      · have := ih (by omega) (by omega)
        omega
  have hs : sortI l = l := by
    unfold sortI
    refine List.mergeSort_of_pairwise ?_
    rw [List.pairwise_iff_getElem]
    intro i j hi hj hij
    have := hlt i j hi hj hij
    exact decide_eq_true (by omega)
  rw [hs]
  refine Lib.compact_all l (fun j hj => ?_)
  unfold Lib.keeps
  refine decide_eq_true ?_
  by_cases q : j = 0
  · exact .inl q
  · refine .inr ?_
    have := hlt (j - 1) j (by omega) hj (by omega)
    rw [getElem!_pos _ _ (by simpa using hj), getElem!_pos _ _ (by simp; omega)]
    simp only [List.getElem_toArray]
    omega
section
variable {is : List Ist} {e : Ist} {y : Ne}
theorem mute_at (h : ∀ x ∈ is, x.has = true ∧ x.needs.2.2 = []) {k : Nat} (hk : k < is.length) : predsS (is ++ [e]) k = ([], ft0) := by
  unfold predsS
  obtain ⟨h1, h2⟩ := h _ (nth_mem' hk)
  rw [nth_more hk, if_pos h1, h2, neededF]
  have q : sortI [] = [] := by simp [sortI]
  rw [q]
  rfl
theorem mute_last (he : e.has = true) (hn : e.needs.2.2 = [y]) {n : Nat} {p : Nat → Bool} (hp : (needE (is ++ [e]) y.text).1 = 0 → (needE (is ++ [e]) y.text).2 = allK n p) :
    predsS (is ++ [e]) is.length = if (needE (is ++ [e]) y.text).1 ≠ 0 then ([], { y.at_ with code := (needE (is ++ [e]) y.text).1 }) else ((needE (is ++ [e]) y.text).2, ft0) := by
  unfold predsS
  rw [nth_more_last, if_pos he, hn, neededF]
  by_cases q : (needE (is ++ [e]) y.text).1 = 0
  · rw [if_neg (by simp [q]), if_neg (by simp [q]), neededF, List.nil_append, hp q, compact_form (allK_form _ _)]
  · rw [if_pos q, if_pos q]
theorem needs_bad (h : ∀ x ∈ is, x.has = true ∧ x.needs.2.2 = []) (he : e.has = true) (hn : e.needs.2.2 = [y]) (hc : (needE (is ++ [e]) y.text).1 ≠ 0) : buildS (is ++ [e]) = ([], { y.at_ with code := (needE (is ++ [e]) y.text).1 }) := by
  have hl := mute_last (is := is) he hn (n := 0) (p := fun _ => true) (fun q => absurd q hc)
  rw [if_pos hc] at hl
  have hf : (List.range (is ++ [e]).length).find? (badP (is ++ [e])) = some is.length := by
    refine find_first (by simp) ?_ (fun i hi => ?_)
    · unfold badP
      rw [hl]
      exact decide_eq_true hc
    · unfold badP
      rw [mute_at h hi]
      rfl
  unfold buildS
  rw [hf]
  simp only [hl]
theorem needs_good (h : ∀ x ∈ is, x.has = true ∧ x.needs.2.2 = []) (he : e.has = true) (hn : e.needs.2.2 = [y]) {p : Nat → Bool} (hc : needE (is ++ [e]) y.text = (0, allK is.length p)) :
    buildS (is ++ [e]) = (edgesS (is ++ [e]), ft0) ∧ nth (edgesS (is ++ [e])) (is.length : Int) = allK is.length p := by
  have hl := mute_last (is := is) he hn (n := is.length) (p := p) (fun _ => by rw [hc])
  rw [hc, if_neg (by simp)] at hl
  have hlen : (is ++ [e]).length = is.length + 1 := by simp
  have hedge : ∀ x : Nat, x < is.length → nth (edgesS (is ++ [e])) (x : Int) = [] := fun x hx => by
    rw [edges_at (by rw [hlen]; omega), mute_at h hx]
  have hlast : nth (edgesS (is ++ [e])) (is.length : Int) = allK is.length p := by
    rw [edges_at (by rw [hlen]; omega), hl]
  refine ⟨?_, hlast⟩
  have hf : (List.range (is ++ [e]).length).find? (badP (is ++ [e])) = none := find_none fun i hi => by
    rw [hlen] at hi
    unfold badP
    by_cases q : i = is.length
    · rw [q, hl]; rfl
    · rw [mute_at h (by omega)]; rfl
  have hok2 : okS (edgesS (is ++ [e])) (stagesS (is ++ [e])) := by
    refine ⟨by rw [edges_len, stages_len], fun i hi => ?_⟩
    rw [edges_len, hlen] at hi ⊢
    by_cases q : i = is.length
    · rw [q, hlast]
      exact form_mono (by omega) (allK_form _ _)
    · rw [hedge i (by omega)]
      exact fun k hk => absurd hk (by simp)
  have hfix := best_none.1 (ordS_fix (edgesS (is ++ [e])) (stagesS (is ++ [e])))
  rw [edges_len, hlen] at hfix
  generalize hO : ordS (edgesS (is ++ [e])) (stagesS (is ++ [e])) = o' at hfix
  have hin : ∀ x : Nat, x < is.length → (x : Int) ∈ o' := fun x hx => Classical.byContradiction fun q => hfix x (by omega) ⟨q, fun p hp => by rw [hedge x hx] at hp; cases hp⟩
  have hinl : ((is.length : Nat) : Int) ∈ o' := by
    refine Classical.byContradiction fun q => hfix is.length (by omega) ⟨q, fun p hp => ?_⟩
    rw [hlast] at hp
    obtain ⟨i, hi, rfl⟩ := form_mem (allK_form _ _) hp
    exact hin i hi
  have hol : is.length + 1 ≤ o'.length := by
    have h5 : (List.range (is.length + 1)).map (fun i : Nat => (i : Int)) ⊆ o' := fun x hx => by
      obtain ⟨i, hi, rfl⟩ := List.mem_map.1 hx
      have hi := List.mem_range.1 hi
      by_cases q : i = is.length
      · rw [q]; exact hinl
      · exact hin i (by omega)
    have h6 : ((List.range (is.length + 1)).map (fun i : Nat => (i : Int))).Nodup := by
      unfold List.Nodup
      rw [List.pairwise_map]
      exact List.Pairwise.imp (fun h => by omega) (List.nodup_range (n := is.length + 1))
    have h7 := h6.length_le_of_subset h5
    simpa using h7
  have hc2 : orderC (edgesS (is ++ [e])) (stagesS (is ++ [e])) = 0 := by
    unfold orderC
    rw [if_pos hok2, if_neg (by rw [edges_len, hlen, hO]; omega)]
  unfold buildS
  rw [hf]
  simp only [hc2, if_true]
/-- what one need means, where no need means the last one -/
theorem needE_last {t : Bs} {job : Bs} {ps : List Va} (hr : readG t = some (job, ps)) (ho : ofB job e.name = false) :
    needE (is ++ [e]) t = if allK is.length (fun i => ofB job (nth is (i : Int)).name) = [] then (161, []) else if allK is.length (fun i => meansB job ps (nth is (i : Int))) = [] then (162, []) else (0, allK is.length (fun i => meansB job ps (nth is (i : Int)))) := by
  have hlen : (is ++ [e]).length = is.length + 1 := by simp
  have e1 : allK (is ++ [e]).length (fun i => ofB job (nth (is ++ [e]) (i : Int)).name) = allK is.length (fun i => ofB job (nth is (i : Int)).name) := by
    rw [hlen]
    refine allK_more (fun i hi => by rw [nth_more hi]) ?_
    rw [nth_more_last]
    exact ho
  have e2 : allK (is ++ [e]).length (fun i => meansB job ps (nth (is ++ [e]) (i : Int))) = allK is.length (fun i => meansB job ps (nth is (i : Int))) := by
    rw [hlen]
    refine allK_more (fun i hi => by rw [nth_more hi]) ?_
    rw [nth_more_last]
    unfold meansB
    rw [ho]
    rfl
  unfold needE
  rw [hr]
  simp only [e1, e2]
theorem means_nil (job : Bs) (x : Ist) : meansB job [] x = ofB job x.name := by
  unfold meansB
  simp
abbrev zzName : Bs := [122, 122, 45, 116, 104, 105, 115, 45, 111, 110, 101]
theorem zz_no {job : Bs} (h : LowB job) : ofB job zzName = false := by
  unfold ofB
  rw [Bool.or_eq_false_iff]
  refine ⟨?_, ?_⟩
  · rw [beq_eq_false_iff_ne]
    intro e
    have := h.all 45 (by rw [← e]; decide)
    exact absurd this (by decide)
  · rw [decide_eq_false_iff_not]
    rintro ⟨-, h2⟩
    have h3 : (91 : UInt8) ∈ zzName.take (job ++ [91]).length := by rw [h2]; simp
    have h4 := List.mem_of_mem_take h3
    revert h4
    decide
end
end Go.Proofs.YthbehiflmcljcaaDoor.C
