/- graph.Build walked: what stands ahead of each instance, or the first fault. -/
import Derived.Test.YthbehiflmcljcaaDoorGo
set_option linter.unusedVariables false
set_option linter.unusedSimpArgs false
set_option maxRecDepth 10000
namespace Go.Proofs.YthbehiflmcljcaaDoor.C
open Go.RowKit Go.Proofs.YthbehiflmcljcaaDoor.Sh
/-- what stands ahead of one instance, or its needs' fault -/
def predsS (is : List Ist) (k : Nat) : Is × Ft := if (nth is (k : Int)).has = true then neededF is (nth is (k : Int)).needs.2.2 [] else (allK is.length (fun i => decide ((nth is (i : Int)).stage < (nth is (k : Int)).stage)), ft0)
def badP (is : List Ist) (k : Nat) : Bool := decide ((predsS is k).2.code ≠ 0)
def stagesS (is : List Ist) : Is := (List.range is.length).map (fun k : Nat => (nth is (k : Int)).stage)
def edgesS (is : List Ist) : List Is := (List.range is.length).map (fun k => (predsS is k).1)
def buildS (is : List Ist) : List Is × Ft := match (List.range is.length).find? (badP is) with
  | some k => ([], (predsS is k).2)
  | none => if orderC (edgesS is) (stagesS is) = 0 then (edgesS is, ft0) else ([], { (nth is (Lib.minOf (leftS is.length (orderS (edgesS is) (stagesS is))))).at_ with code := orderC (edgesS is) (stagesS is) })
structure BldOk (is : List Ist) : Prop where
  len : is.length ≤ 5864062014805
  vars : ∀ x ∈ is, x.vars.2.2.length ≤ 9223372036854775807
  prod : ∀ x ∈ is, x.has = true → x.needs.2.2.length * is.length ≤ 17592186044416
  texts : ∀ x ∈ is, x.has = true → ∀ y ∈ x.needs.2.2, TxOk y.text
theorem neededF_len (is : List Ist) : ∀ (ns : List Ne) (out : Is), (neededF is ns out).1.length ≤ out.length + ns.length * is.length
  | [], out => by
    unfold neededF
    have h1 := Lib.compact_length_le (sortI out)
    have h2 : (sortI out).length = out.length := List.length_mergeSort out
    simp only [List.length_nil, Nat.zero_mul]
    omega
  | x :: xs, out => by
    unfold neededF
    split
    · simp
    · have h1 := neededF_len is xs (out ++ (needE is x.text).2)
      have h2 := needE_len is x.text
      have h3 : (xs.length + 1) * is.length = xs.length * is.length + is.length := Nat.succ_mul _ _
      rw [List.length_append] at h1
      simp only [List.length_cons]
      omega
theorem predsS_len {is : List Ist} (h : BldOk is) {k : Nat} (hk : k < is.length) : (predsS is k).1.length ≤ 17592186044416 := by
  unfold predsS
  split
  · rename_i hh
    have h1 := neededF_len is (nth is (k : Int)).needs.2.2 []
    have h2 := h.prod _ (nth_mem' hk) hh
    simp only [List.length_nil] at h1
    omega
  · have := allK_len is.length (fun i => decide ((nth is (i : Int)).stage < (nth is (k : Int)).stage))
    have := h.len
    dsimp only
    omega
theorem fitSl {n : Nat} (h : n ≤ 5864062014805) : Fits Tryd.prog 23 n := .inr ⟨5864062014805, by kernel_rfl, h⟩
theorem left_pos {n : Nat} {o : Is} (h : o.length < n) : 0 < (leftS n o).length := by
  have h2 : (leftS n o).length = still n o := by unfold leftS; rw [List.length_map, leftN_len]
  have h3 : still n o ≠ 0 := fun q => by
    have : ∀ i, i < n → (i : Int) ∈ o := fun i hi => by
      have h4 : (List.range n).filter (fun k : Nat => decide ((k : Int) ∉ o)) = [] := List.eq_nil_of_length_eq_zero q
      have := (List.filter_eq_nil_iff.1 h4) i (List.mem_range.2 hi)
      simpa using this
    have h5 : (List.range n).map (fun i : Nat => (i : Int)) ⊆ o := fun x hx => by
      obtain ⟨i, hi, rfl⟩ := List.mem_map.1 hx
      exact this i (List.mem_range.1 hi)
    have h6 : ((List.range n).map (fun i : Nat => (i : Int))).Nodup := by
      unfold List.Nodup
      rw [List.pairwise_map]
      exact List.Pairwise.imp (fun h => by omega) (List.nodup_range (n := n))
    have h7 := h6.length_le_of_subset h5
    simp at h7
    omega
  omega
theorem min_mem : ∀ (l : Is) (a : Int), l.foldl min a = a ∨ l.foldl min a ∈ l
  | [], a => .inl rfl
  | b :: l, a => by
    rw [List.foldl_cons]
    rcases min_mem l (min a b) with h | h
    · rw [h]
      by_cases q : a ≤ b
      · rw [Int.min_eq_left q]; exact .inl rfl
      · rw [Int.min_eq_right (by omega)]; exact .inr (List.mem_cons_self ..)
    · exact .inr (List.mem_cons_of_mem _ h)
theorem minOf_mem {l : Is} (h : 0 < l.length) : Lib.minOf l ∈ l := by
  cases l with
  | nil => simp at h
  | cons a l =>
    unfold Lib.minOf
    rcases min_mem (a :: l) ((a :: l).headD 0) with h | h
    · rw [h]; exact List.mem_cons_self ..
    · exact h
theorem find_none {p : Nat → Bool} {n : Nat} (h : ∀ i, i < n → p i = false) : (List.range n).find? p = none := List.find?_eq_none.2 fun i hi => by rw [h i (List.mem_range.1 hi)]; exact Bool.false_ne_true
theorem find_first {p : Nat → Bool} {n k : Nat} (hk : k < n) (hp : p k = true) (h : ∀ i, i < k → p i = false) : (List.range n).find? p = some k := by
  have e : n = k + ((n - k - 1) + 1) := by omega
  rw [e, List.range_add, List.find?_append, find_none h]
  rw [List.range_succ_eq_map]
  simp [hp]
theorem is_sub {w : World} {b q : Nat} {x : Ist} (h : ∀ i u, (IsE.cells x)[i]? = some u → w.cell? ⟨b, q + i, none⟩ = some u) : ∀ j v, (x.at_.cs)[j]? = some v → w.cell? ⟨b, q + 12 + j, none⟩ = some v := fun j v hj => by
  have h1 : j < 4 := (List.getElem?_eq_some_iff.1 hj).1
  have := h (12 + j) v (by
    obtain rfl | rfl | rfl | rfl : j = 0 ∨ j = 1 ∨ j = 2 ∨ j = 3 := by omega
    all_goals exact hj)
  rw [← Nat.add_assoc] at this
  exact this
theorem build_cx (A : Option Addr) (c : Nat) (is : List Ist) (w : World) (h : IsB w A is) (hb : BldOk is) :
    Cx Tryd.prog 23 [.slice A is.length c] [] (fun v D => ∃ O co rr, pl rr = (buildS is).1 ∧ v = .tuple #[.slice O rr.length co, .agg (buildS is).2.cs.toArray] ∧ D = Ch.row ShE 23 O co rr :: RsD rr) w := by
  have hlen := hb.len
  refine calls_of_Wp (vs := [_]) Tryd.func23 ?_
  refine Wp.seq (Wp.regionL (l := [0, 1]) (WO.rd (is := [0]) (js := [1]) (Keep.refl _) (Rn.s rfl Yv.as (Rn.nil)) (WO.act (hc := rfl) (he := Ef.allocL (vs := ft0.cs) (St.init w) (fun ba1 wa1 ka1 hsa1 => WO.done ?_)))))
  refine Wp.seq (Wp.reads (is := [0]) (Keep.refl _) (Rn.s rfl Yv.as (Rn.nil)) ?_)
  refine Wp.seq (Wp.reads (is := [0]) (Keep.refl _) (Rn.s rfl Yv.as (Rn.nil)) ?_)
  have hst : St w [] wa1 ([Ch.row ShE 23 none 0 [], Ch.row InE 3 none 0 [], Ch.cells ba1 44 ft0.cs] ++ RsD []) := (hsa1.nilrow InE 3).nilrow ShE 23
  refine Wp.seq (Wp.seq (Wp.reads (is := [0, 1, 2]) (Keep.refl _) (Rn.s rfl Yv.mv (Rn.s rfl (Yv.len_v (e := 46) (m := 16)) (Rn.s rfl Yv.mv (Rn.nil)))) ?_))
  refine Wp.mid (fun ρ ds w' => ds = [] ∧ ∃ O co rr R cr, (∀ i, i < is.length → badP is i = false) ∧ pl rr = edgesS is ∧ St w [] w' ([Ch.row ShE 23 O co rr, Ch.row InE 3 R cr (stagesS is), Ch.cells ba1 44 ft0.cs] ++ RsD rr) ∧
    Sub [(0, .slice A is.length c), (3, PB ba1), (4, .slice O rr.length co), (5, .slice R (stagesS is).length cr)] ρ) (Wp.block ?_) ?_
  · refine Wp.loop (α := Nat) (fun k ρ ds w' => ds = [] ∧ k ≤ is.length ∧ ∃ O co rr R cr, (∀ i, i < k → badP is i = false) ∧ pl rr = (List.range k).map (fun k => (predsS is k).1) ∧ St w [] w' ([Ch.row ShE 23 O co rr, Ch.row InE 3 R cr ((List.range k).map (fun k : Nat => (nth is (k : Int)).stage)), Ch.cells ba1 44 ft0.cs] ++ RsD rr) ∧
      Sub [(0, .slice A is.length c), (3, PB ba1), (4, .slice O rr.length co), (5, .slice R k cr), (13, .slice A is.length c), (14, .int .i64 (is.length : Int)), (15, .int .i64 (k : Int))] ρ) (fun k => is.length - k) 0
      ⟨rfl, by omega, none, 0, [], none, 0, fun i hi => absurd hi (Nat.not_lt_zero i), rfl, hst, rfl, rfl, rfl, rfl, rfl, rfl, rfl, trivial⟩ ?_
    clear hst
    rintro k ρ ds w1 ⟨rfl, hk, O, co, rr, R, cr, hno, hpl, hst, hs⟩
    refine Wp.forget _ ?_ hs
    clear hs ρ
    have hrl : rr.length = k := by have := congrArg List.length hpl; simpa using this
    refine Wp.seq (Wp.reads (is := [0]) (Keep.refl _) (Rn.s rfl (Yv.cmp _ rfl) (Rn.nil)) ?_)
    refine Wp.seq (Wp.cond rfl (fun hlt => ?_) (fun hlt => ?_))
    · have hlt : k < is.length := by have := of_decide_eq_true hlt; omega
      have h1 := h.keep hst.keep
      have hpS : predsS is k = if (nth is (k : Int)).has = true then neededF is (nth is (k : Int)).needs.2.2 [] else (allK is.length (fun i => decide ((nth is (i : Int)).stage < (nth is (k : Int)).stage)), ft0) := rfl
      have hpl2 := predsS_len hb hlt
      have hbm := nth_mem' hlt
      have hprod := hb.prod _ hbm
      have htx := hb.texts _ hbm
      have hnr := h.needs _ hbm
      refine Wp.skip ?_
      refine Wp.seq (Wp.block ?_)
      refine Wp.seq (Wp.regionL (l := [0, 1, 2, 3]) (WO.rd (is := [0, 1]) (js := [2, 3]) (Keep.refl _) (Rn.s rfl (Yv.ia (e := 46) h1.rd (by omega) (by omega)) (Rn.s rfl (Yv.ldel h1.rd rfl rfl (by omega) (by omega)) (Rn.nil))) (WO.act (hc := rfl) (he := Ef.allocL (vs := zIs) hst (fun bb1 wb1 kb1 hsb1 => WO.act (hc := rfl) (he := Ef.stores hsb1 0 (fun wb2 hsb2 => WO.done ?_)))))))
      obtain ⟨x, hx⟩ : ∃ x, nth is (k : Int) = x := ⟨_, rfl⟩
      rw [hx] at hpS hprod htx hnr
      have hst2 : St w [] wb2 (Ch.cells bb1 46 (IsE.cells x) :: ([Ch.row ShE 23 O co rr, Ch.row InE 3 R cr ((List.range k).map (fun k : Nat => (nth is (k : Int)).stage)), Ch.cells ba1 44 ft0.cs] ++ RsD rr)) := by
        rw [← hx]; exact hsb2
      clear hsb2 hst
      have c7 := hst2.cells 0
      refine Wp.seq (Wp.reads (is := [0]) (Keep.refl _) (Rn.s rfl Yv.as (Rn.nil)) ?_)
      refine Wp.cut (fun ρ ds w' => ds = [] ∧ badP is k = false ∧ ∃ L cl, St w [] w' (Ch.row InE 3 L cl (predsS is k).1 :: Ch.cells bb1 46 (IsE.cells x) :: ([Ch.row ShE 23 O co rr, Ch.row InE 3 R cr ((List.range k).map (fun k : Nat => (nth is (k : Int)).stage)), Ch.cells ba1 44 ft0.cs] ++ RsD rr)) ∧
        Sub [(0, .slice A is.length c), (3, PB ba1), (4, .slice O rr.length co), (5, .slice R k cr), (13, .slice A is.length c), (14, .int .i64 (is.length : Int)), (15, .int .i64 (k : Int)), (7, PB bb1), (8, .slice L (predsS is k).1.length cl)] ρ) ?_ ?_
      · refine Wp.seq (Wp.reads (is := [0, 1]) (Keep.refl _) (Rn.s rfl (Yv.fa (off := 11)) (Rn.s rfl (Yv.ld (c7.at_ 11)) (Rn.nil))) ?_)
        refine Wp.cond rfl (fun hh => ?_) (fun hh => ?_)
        · have hh : x.has = true := hh
          rw [if_pos hh] at hpS
          have hprod := hprod hh
          have hnl : x.needs.2.2.length ≤ 17592186044416 := Nat.le_trans (Nat.le_mul_of_pos_right _ (by omega)) hprod
          refine Wp.seq (Wp.regionL (l := [0]) (WO.act (hc := rfl) (he := Ef.allocL (vs := ft0.cs) hst2 (fun bd1 wd1 kd1 hsd1 => WO.done ?_))))
          have c7 := hsd1.cells 1
          have h2 := h.keep hsd1.keep
          refine Wp.seq (Wp.regionL (l := [0, 1, 2, 3, 4, 5, 6, 7]) (WO.rd (is := [0, 1]) (js := [2, 3, 4, 5, 6, 7]) (Keep.refl _) (Rn.s rfl Yv.mv (Rn.s rfl (Yv.ldb c7) (Rn.nil))) (WO.act (hc := rfl) (he := Ef.cx (caps := []) (A := []) (needed_cx A c is x wd1 h2 (hnr.keep hsd1.keep) hlen hb.vars hprod hnl (htx hh)) hsd1 (FnOk.of Tryd.func37) ?_))))
          rintro v D w3 ⟨L, cl, rfl, rfl⟩ hs3
          refine WO.rd (is := [3, 4, 5, 6]) (js := [7]) (Keep.refl _) (Rn.s rfl Yv.mv (Rn.s rfl Yv.ex (Rn.s rfl Yv.ex (Rn.s rfl Yv.as (Rn.nil))))) (WO.act (hc := rfl) (he := Ef.stores hs3 1 (fun w4 hs4 => WO.done ?_)))
          rw [← hpS] at hs4 ⊢
          have hst4 : St w [] w4 (Ch.cells bd1 44 (predsS is k).2.cs :: Ch.row InE 3 L cl (predsS is k).1 :: Ch.cells bb1 46 (IsE.cells x) :: ([Ch.row ShE 23 O co rr, Ch.row InE 3 R cr ((List.range k).map (fun k : Nat => (nth is (k : Int)).stage)), Ch.cells ba1 44 ft0.cs] ++ RsD rr)) := hs4
          have c9 := hst4.cells 0
          refine Wp.seq (Wp.reads (is := [0, 1, 2]) (Keep.refl _) (Rn.s rfl (Yv.fa (off := 0)) (Rn.s rfl (Yv.ld (c9.at_ 0)) (Rn.s rfl (Yv.cmp _ rfl) (Rn.nil)))) ?_)
          refine Wp.cond rfl (fun hc => ?_) (fun hc => ?_)
          · have hc : (predsS is k).2.code ≠ 0 := by simpa using hc
            refine Wp.seq (Wp.draws [2] mixed (WD.rd (is := [0, 1]) (fun _ _ _ _ _ h => h) (Keep.drew _) (Rn.s rfl (Yv.ldb c9) (Rn.s rfl Yv.as (Rn.nil))) (WD.act 2 (hc := rfl) (he := Ef.stores (hst4.quiet (Keep.drew _)) 5 (fun we1 hse1 => ⟨fun hn => (hn (by decide)).elim, WD.done ?_⟩)))))
            have hB : buildS is = ([], (predsS is k).2) := by
              unfold buildS
              rw [find_first hlt (decide_eq_true hc) hno]
            refine Wp.ret (Fin.ret (resTA rfl rfl rfl (hse1.cells 0)) ⟨_, [Ch.row ShE 23 none 0 []], rfl, ⟨none, 0, [], ?_, ?_, rfl⟩, (St.nilrow (hse1.sub (D' := []) (List.nil_sublist _)) ShE 23)⟩)
            · rw [hB]; rfl
            · rw [hB]; rfl
          · have hc : (predsS is k).2.code = 0 := by simpa using hc
            refine Wp.skip ⟨rfl, ?_, L, cl, hst4.drop, rfl, rfl, rfl, rfl, rfl, rfl, rfl, rfl, rfl, trivial⟩
            unfold badP
            rw [hc]
            rfl
        · have hh : ¬ x.has = true := by
            have : x.has = false := hh
            rw [this]
            simp
          rw [if_neg hh] at hpS
          have h2 := h.keep hst2.keep
          have hp1 : PredC 39 [] [PB bb1] is (fun i => decide ((nth is (i : Int)).stage < x.stage)) wb2 := ⟨FnOk.of Tryd.func39, fun i hi => stage_cv (nth is (i : Int)) x bb1 wb2 c7⟩
          refine Wp.regionL (l := [0, 1, 2, 3]) (WO.rd (is := [0, 1]) (js := [2, 3]) (Keep.refl _) (Rn.s rfl Yv.mv (Rn.s rfl Yv.mf (Rn.nil))) (WO.act (hc := rfl) (he := Ef.cx (caps := []) (A := []) (all_cx A c is _ [] [PB bb1] _ wb2 h2.rd (by omega) hp1) hst2 (FnOk.of Tryd.func38) ?_)))
          rintro v D w3 ⟨L, cl, rfl, rfl⟩ hs3
          refine WO.rd (is := [3]) (js := []) (Keep.refl _) (Rn.s rfl Yv.as (Rn.nil)) (WO.done ?_)
          have e1 : (predsS is k).1 = allK is.length (fun i => decide ((nth is (i : Int)).stage < x.stage)) := by rw [hpS]
          refine ⟨rfl, ?_, L, cl, ?_, rfl, rfl, rfl, rfl, rfl, rfl, rfl, rfl, ?_, trivial⟩
          · unfold badP
            rw [hpS]
            rfl
          · rw [e1]; exact hs3
          · rw [e1]; rfl
      · rintro ρ ds w3 ⟨rfl, hbad, L, cl, hst3, hs⟩
        refine Wp.forget _ ?_ hs
        clear hs ρ
        generalize hP : (predsS is k).1 = P at hst3 hpl2 ⊢
        refine Wp.seq (Wp.regionL (l := [0, 1, 2, 3, 4]) (WO.rd (is := [0, 1]) (js := [2, 3, 4]) (Keep.refl _) (Rn.s rfl Yv.mv (Rn.s rfl Yv.mv (Rn.nil))) (WO.app ShE [((L, cl, P) : Sl)] rfl (fun _ => rfl) hst3 2 (fitSl (by simp only [List.length_cons, List.length_nil]; omega)) (fun be1 Ae1 ce1 we1 hse1 => WO.rd (is := [4]) (js := []) (Keep.refl _) (Rn.s rfl Yv.as (Rn.nil)) (WO.done ?_)))))
        have hst4 : St w [] we1 ([Ch.row ShE 23 Ae1 ce1 (rr ++ [(L, cl, P)]), Ch.row InE 3 L cl P, Ch.cells bb1 46 (IsE.cells x), Ch.row InE 3 R cr ((List.range k).map (fun k : Nat => (nth is (k : Int)).stage)), Ch.cells ba1 44 ft0.cs] ++ RsD rr) := hse1
        have c7 := hst4.cells 2
        have hkl : ((List.range k).map (fun k : Nat => (nth is (k : Int)).stage)).length = k := by simp
        have e5 : (.slice R k cr : Value) = .slice R ((List.range k).map (fun k : Nat => (nth is (k : Int)).stage)).length cr := by rw [hkl]
        rw [e5]
        refine Wp.regionL (l := [0, 1, 2, 3, 4, 5]) (WO.rd (is := [0, 1, 2]) (js := [3, 4, 5]) (Keep.refl _) (Rn.s rfl Yv.mv (Rn.s rfl (Yv.fa (off := 6)) (Rn.s rfl (Yv.ld (c7.at_ 6)) (Rn.nil)))) (WO.app InE [x.stage] rfl (fun _ => rfl) hst4 3 (fitInt (by simp only [List.length_cons, List.length_nil, List.length_map, List.length_range]; omega)) (fun bf1 Af1 cf1 wf1 hsf1 => WO.rd (is := [5]) (js := []) (Keep.refl _) (Rn.s rfl Yv.as (Rn.nil)) (WO.done ?_))))
        refine Wp.reads (is := [0, 1]) (Keep.refl _) (Rn.s rfl (Yv.add (by unfold inI; omega)) (Rn.s rfl Yv.mv (Rn.nil))) ?_
        have e6 : (List.range k).map (fun k : Nat => (nth is (k : Int)).stage) ++ [x.stage] = (List.range (k + 1)).map (fun k : Nat => (nth is (k : Int)).stage) := by
          rw [List.range_succ, List.map_append, ← hx]; rfl
        have hst5 : St w [] wf1 ([Ch.row InE 3 Af1 cf1 ((List.range k).map (fun k : Nat => (nth is (k : Int)).stage) ++ [x.stage]), Ch.row ShE 23 Ae1 ce1 (rr ++ [(L, cl, P)]), Ch.row InE 3 L cl P, Ch.cells bb1 46 (IsE.cells x), Ch.cells ba1 44 ft0.cs] ++ RsD rr) := hsf1
        rw [e6] at hst5 ⊢
        have hst6 : St w [] wf1 ([Ch.row ShE 23 Ae1 ce1 (rr ++ [(L, cl, P)]), Ch.row InE 3 Af1 cf1 ((List.range (k + 1)).map (fun k : Nat => (nth is (k : Int)).stage)), Ch.cells ba1 44 ft0.cs] ++ RsD (rr ++ [(L, cl, P)])) := by
          have h1 := St.pickT (P := [Ch.row InE 3 Af1 cf1 ((List.range (k + 1)).map (fun k : Nat => (nth is (k : Int)).stage)), Ch.row ShE 23 Ae1 ce1 (rr ++ [(L, cl, P)]), Ch.row InE 3 L cl P, Ch.cells bb1 46 (IsE.cells x), Ch.cells ba1 44 ft0.cs]) (T := RsD rr) hst5 [1, 0, 4, 2]
          refine h1.perm ?_
          have e : RsD (rr ++ [(L, cl, P)]) = RsD rr ++ [Ch.row InE 3 L cl P] := List.map_append
          rw [e]
          show ([Ch.row ShE 23 Ae1 ce1 (rr ++ [(L, cl, P)]), Ch.row InE 3 Af1 cf1 ((List.range (k + 1)).map (fun k : Nat => (nth is (k : Int)).stage)), Ch.cells ba1 44 ft0.cs] ++ ([Ch.row InE 3 L cl P] ++ RsD rr)).Perm _
          exact List.Perm.append_left _ List.perm_append_comm
        refine ⟨k + 1, ⟨rfl, by omega, Ae1, ce1, rr ++ [(L, cl, P)], Af1, cf1, fun i hi => ?_, ?_, hst6, rfl, rfl, rfl, ?_, rfl, rfl, rfl, trivial⟩, by omega⟩
        · by_cases q : i = k
          · rw [q]; exact hbad
          · exact hno i (by omega)
        · rw [List.range_succ, List.map_append, ← hpl, ← hP]
          exact List.map_append
        · have : ((List.range (k + 1)).map (fun k : Nat => (nth is (k : Int)).stage)).length = k + 1 := by simp
          rw [this]
          rfl
    · have hlt : k = is.length := by have := of_decide_eq_false hlt; omega
      subst hlt
      refine Wp.exit ⟨rfl, O, co, rr, R, cr, hno, hpl, hst, rfl, rfl, rfl, ?_, trivial⟩
      have : (stagesS is).length = is.length := by unfold stagesS; simp
      rw [this]
      rfl
  · rintro ρ ds w1 ⟨rfl, O, co, rr, R, cr, hno, hpl, hst, hs⟩
    refine Wp.forget _ ?_ hs
    clear hs ρ
    have hB : buildS is = if orderC (edgesS is) (stagesS is) = 0 then (edgesS is, ft0) else ([], { (nth is (Lib.minOf (leftS is.length (orderS (edgesS is) (stagesS is))))).at_ with code := orderC (edgesS is) (stagesS is) }) := by
      unfold buildS
      rw [find_none hno]
    have hel : (edgesS is).length = is.length := by unfold edgesS; simp
    have hrl : rr.length = is.length := by have := congrArg List.length hpl; rw [hel] at this; simpa using this
    have hsl : (stagesS is).length = is.length := by unfold stagesS; simp
    have hrb : ∀ y ∈ rr, y.2.2.length ≤ 17592186044416 := fun y hy => by
      have h1 : y.2.2 ∈ edgesS is := by rw [← hpl]; exact List.mem_map.2 ⟨y, hy, rfl⟩
      unfold edgesS at h1
      obtain ⟨i, hi, e⟩ := List.mem_map.1 h1
      rw [← e]
      exact predsS_len hb (List.mem_range.1 hi)
    have hls : LsAt w1 O rr := ⟨hst.rd 0, fun y hy => row_rd (h := hst.ok (RsC y) (List.mem_append.2 (.inr (List.mem_map.2 ⟨y, hy, rfl⟩))))⟩
    refine Wp.seq (Wp.regionL (l := [0, 1, 2, 3, 4, 5, 6, 7]) (WO.rd (is := [0, 1]) (js := [2, 3, 4, 5, 6, 7]) (Keep.refl _) (Rn.s rfl Yv.mv (Rn.s rfl Yv.mv (Rn.nil))) (WO.act (hc := rfl) (he := Ef.cx (caps := []) (A := []) (order_cx O co rr R cr (stagesS is) w1 hls (hst.rd 1) (by omega) hrb (by omega)) hst (FnOk.of Tryd.func13) ?_))))
    rintro v D w2 ⟨Oo, coo, rfl, rfl⟩ hs2
    refine WO.rd (is := [3, 4, 5, 6, 7]) (js := []) (Keep.refl _) (Rn.s rfl Yv.mv (Rn.s rfl Yv.ex (Rn.s rfl Yv.ex (Rn.s rfl Yv.as (Rn.s rfl Yv.as (Rn.nil)))))) (WO.done ?_)
    rw [hpl] at hs2 ⊢
    refine Wp.seq (Wp.seq (Wp.reads (is := [0, 1]) (Keep.refl _) (Rn.s rfl Yv.mv (Rn.s rfl (Yv.cmp _ rfl) (Rn.nil))) ?_))
    refine Wp.cond rfl (fun hc => ?_) (fun hc => ?_)
    · have hc : orderC (edgesS is) (stagesS is) = 0 := by simpa using hc
      rw [if_pos hc] at hB
      refine Wp.seq (Wp.regionL (l := [0, 1, 2, 3]) (WO.rd (is := [0, 1, 2]) (js := [3]) (Keep.refl _) (Rn.s rfl Yv.mv (Rn.s rfl (Yv.bd (cs := ft0.cs)) (Rn.s rfl Yv.as (Rn.nil)))) (WO.act (hc := rfl) (he := Ef.stores hs2 3 (fun wg1 hsg1 => WO.done ?_)))))
      have hsg : St w [] wg1 ([Ch.cells ba1 44 ft0.cs, Ch.row InE 3 Oo coo (orderS (edgesS is) (stagesS is)), Ch.row ShE 23 O co rr, Ch.row InE 3 R cr (stagesS is)] ++ RsD rr) := hsg1
      refine Wp.ret (Fin.ret (resTA rfl rfl rfl (hsg.cells 0)) ⟨_, _, rfl, ⟨O, co, rr, ?_, ?_, rfl⟩, St.pickT (P := [Ch.cells ba1 44 ft0.cs, Ch.row InE 3 Oo coo (orderS (edgesS is) (stagesS is)), Ch.row ShE 23 O co rr, Ch.row InE 3 R cr (stagesS is)]) (T := RsD rr) hsg [2]⟩)
      · rw [hB]; exact hpl
      · rw [hB]
    · have hc : orderC (edgesS is) (stagesS is) ≠ 0 := by simpa using hc
      rw [if_neg hc] at hB
      have hol : (orderS (edgesS is) (stagesS is)).length < is.length := by
        unfold orderC at hc
        unfold orderS
        by_cases q : okS (edgesS is) (stagesS is)
        · rw [if_pos q] at hc ⊢
          by_cases q2 : (ordS (edgesS is) (stagesS is)).length < (edgesS is).length
          · omega
          · rw [if_neg q2] at hc; exact absurd rfl hc
        · rw [if_neg q]
          cases hi : is with
          | cons a l => simp
          | nil =>
            exfalso
            refine q ⟨by rw [hel, hsl], fun i hi2 => ?_⟩
            rw [hel, hi] at hi2
            exact absurd hi2 (Nat.not_lt_zero i)
      have hom : ∀ y ∈ orderS (edgesS is) (stagesS is), ∃ i : Nat, i < is.length ∧ y = (i : Int) := fun y hy => by
        unfold orderS at hy
        by_cases q : okS (edgesS is) (stagesS is)
        · rw [if_pos q] at hy
          obtain ⟨i, h1, h2, -⟩ := (ordS_beg (edgesS is) (stagesS is)).mem y hy
          exact ⟨i, by omega, h2⟩
        · rw [if_neg q] at hy
          cases hy
      generalize hO : orderS (edgesS is) (stagesS is) = o at hs2 hol hom hB ⊢
      refine Wp.skip ?_
      refine Wp.seq (Wp.regionL (l := [0, 1, 2, 3, 4, 5]) (WO.rd (is := [0, 1, 2]) (js := [3, 4, 5]) (Keep.refl _) (Rn.s rfl Yv.mv (Rn.s rfl (Yv.len_v (e := 23) (m := 1)) (Rn.s rfl Yv.mv (Rn.nil)))) (WO.act (hc := rfl) (he := Ef.cx (caps := []) (A := []) (left_cx rr.length Oo coo o w2 (hs2.rd 0) (by rw [hrl]; exact hom) (by omega) (by omega)) hs2 (FnOk.of Tryd.func29) ?_))))
      rintro v D w3 ⟨L, cl, rfl, rfl⟩ hs3
      have h0 := left_pos hol
      have hll := leftS_len is.length o
      rw [hrl] at hs3 ⊢
      refine WO.cv rfl (min_cv L cl (leftS is.length o) h0 w3 (hs3.rd 0) (by omega)) (Keep.refl _) (FnOk.of Tryd.func40) (fun w4 k4 => ?_)
      refine WO.rd (is := [5]) (js := []) (Keep.refl _) (Rn.s rfl Yv.as (Rn.nil)) (WO.done ?_)
      have hm := minOf_mem h0
      obtain ⟨m, hm1, hm2, -⟩ := leftS_mem.1 hm
      have hs4 := hs3.quiet k4
      have h4 := h.keep hs4.keep
      have e7 : nth is (Lib.minOf (leftS is.length o)) = nth is (m : Int) := by rw [hm2]
      rw [hm2]
      have hld := is_sub (w := w4) (b := pb A) (q := pq A + (m : Int).toNat * IsE.n) (x := nth is (m : Int)) (fun i u hu => by
        have := h4.rd.cell m _ (nth_get (i := (m : Int)) (by omega) (by omega)) i u hu
        rw [Int.toNat_natCast]
        exact this)
      refine Wp.seq (Wp.regionL (l := [0, 1, 2, 3, 4, 5, 6, 7, 8]) (WO.rd (is := [0, 1, 2, 3, 4, 5]) (js := [6, 7, 8]) (Keep.refl _) (Rn.s rfl Yv.mv (Rn.s rfl Yv.mv (Rn.s rfl Yv.mv (Rn.s rfl (Yv.ia (e := 46) h4.rd (by omega) (by omega)) (Rn.s rfl (Yv.fa (off := 12)) (Rn.s rfl (Yv.lds rfl hld) (Rn.nil))))))) (WO.cv rfl (at_cv (orderC (edgesS is) (stagesS is)) (nth is (m : Int)).at_ w4) (Keep.refl _) (FnOk.of Tryd.func41) (fun wg1 kg1 => WO.rd (is := [7]) (js := [8]) ((Keep.refl _).trans kg1) (Rn.s rfl Yv.as (Rn.nil)) (WO.act (hc := rfl) (he := Ef.stores (hs4.quiet kg1) 4 (fun wg2 hsg2 => WO.done ?_)))))))
      refine Wp.ret (Fin.ret (resTA rfl rfl rfl (hsg2.cells 0)) ⟨_, [Ch.row ShE 23 none 0 []], rfl, ⟨none, 0, [], ?_, ?_, rfl⟩, (St.nilrow (hsg2.sub (D' := []) (List.nil_sublist _)) ShE 23)⟩)
      · rw [hB]; rfl
      · rw [hB, e7]
        rfl
end Go.Proofs.YthbehiflmcljcaaDoor.C
