/- GraphStages walked. Instances without needs: their edges are an order's. -/
import Derived.Test.YthbehiflmcljcaaDoorGy
import Derived.Test.YthbehiflmcljcaaDoorGt
set_option linter.unusedVariables false
set_option linter.unusedSimpArgs false
set_option maxRecDepth 10000
namespace Go.Proofs.YthbehiflmcljcaaDoor.C
open Go.RowKit Go.Proofs.YthbehiflmcljcaaDoor.Sh
theorem allK_mem {n k : Nat} {p : Nat → Bool} : (k : Int) ∈ allK n p ↔ k < n ∧ p k = true := by
  unfold allK castN
  simp only [List.mem_map, List.mem_filter, List.mem_range]
  constructor
  · rintro ⟨i, ⟨h1, h2⟩, h3⟩
    have : i = k := by omega
    subst this
    exact ⟨h1, h2⟩
  · rintro ⟨h1, h2⟩
    exact ⟨k, ⟨h1, h2⟩, rfl⟩
theorem allK_form (n : Nat) (p : Nat → Bool) : formL n (allK n p) := by
  intro k hk
  have hp : ((List.range n).filter p).Pairwise (· < ·) := (List.pairwise_lt_range (n := n)).filter _
  have hl : (allK n p).length = ((List.range n).filter p).length := List.length_map ..
  have hget : ∀ j, (hj : j < ((List.range n).filter p).length) → nth (allK n p) (j : Int) = ((((List.range n).filter p)[j] : Nat) : Int) := fun j hj => nth_castN hj
  have hk' : k < ((List.range n).filter p).length := by omega
  rw [hget k hk']
  have hm := List.mem_range.1 (List.mem_filter.1 (List.getElem_mem hk')).1
  refine ⟨by omega, by omega, fun h0 => ?_⟩
  have e : (k : Int) - 1 = ((k - 1 : Nat) : Int) := by omega
  rw [e, hget (k - 1) (by omega)]
  have := List.pairwise_iff_getElem.1 hp (k - 1) k (by omega) hk' (by omega)
  omega
section
variable {is : List Ist}
theorem preds_no (h : ∀ x ∈ is, x.has = false) {k : Nat} (hk : k < is.length) : predsS is k = (allK is.length (fun i => decide ((nth is (i : Int)).stage < (nth is (k : Int)).stage)), ft0) := by
  unfold predsS
  rw [if_neg (by rw [h _ (nth_mem' hk)]; exact Bool.false_ne_true)]
theorem edges_at {k : Nat} (hk : k < is.length) : nth (edgesS is) (k : Int) = (predsS is k).1 := nth_range _ hk
theorem edges_len (is : List Ist) : (edgesS is).length = is.length := by unfold edgesS; simp
theorem stages_len (is : List Ist) : (stagesS is).length = is.length := by unfold stagesS; simp
theorem no_form (h : ∀ x ∈ is, x.has = false) : formS (edgesS is) := fun i hi => by
  rw [edges_len] at hi ⊢
  rw [edges_at hi, preds_no h hi]
  exact allK_form _ _
theorem no_all (h : ∀ x ∈ is, x.has = false) {o : Is} (hno : ∀ i, i < is.length → ¬ rdyS (edgesS is) o i) : ∀ (m x : Nat), x < is.length → (allK is.length (fun i => decide ((nth is (i : Int)).stage < (nth is (x : Int)).stage))).length = m → (x : Int) ∈ o := by
  intro m
  induction m using Nat.strongRecOn with
  | _ m ih =>
    intro x hx hm
    refine Classical.byContradiction fun hxo => ?_
    have h5 : ¬ ∀ p ∈ nth (edgesS is) (x : Int), p ∈ o := fun q => hno x hx ⟨hxo, q⟩
    refine h5 (fun p hp => ?_)
    rw [edges_at hx, preds_no h hx] at hp
    have hp' : p ∈ allK is.length (fun i => decide ((nth is (i : Int)).stage < (nth is (x : Int)).stage)) := hp
    obtain ⟨q, hq, rfl⟩ := form_mem (allK_form _ _) hp'
    have hlt : (nth is (q : Int)).stage < (nth is (x : Int)).stage := of_decide_eq_true (allK_mem.1 hp').2
    refine ih _ ?_ q hq rfl
    rw [← hm]
    unfold allK castN
    rw [List.length_map, List.length_map]
    refine filt_lt _ _ _ q (List.mem_range.2 hq) (fun a ha => ?_) (decide_eq_true hlt) (decide_eq_false (by omega))
    have := of_decide_eq_true ha
    exact decide_eq_true (by omega)
theorem no_build (h : ∀ x ∈ is, x.has = false) : buildS is = (edgesS is, ft0) := by
  have hf : (List.range is.length).find? (badP is) = none := find_none fun i hi => by
    unfold badP
    rw [preds_no h hi]
    rfl
  have hok : okS (edgesS is) (stagesS is) := ⟨by rw [edges_len, stages_len], no_form h⟩
  have hfix := best_none.1 (ordS_fix (edgesS is) (stagesS is))
  rw [edges_len] at hfix
  have hall := fun x hx => no_all h hfix _ x hx rfl
  have hlen : is.length ≤ (ordS (edgesS is) (stagesS is)).length := by
    have h5 : (List.range is.length).map (fun i : Nat => (i : Int)) ⊆ ordS (edgesS is) (stagesS is) := fun x hx => by
      obtain ⟨i, hi, rfl⟩ := List.mem_map.1 hx
      exact hall i (List.mem_range.1 hi)
    have h6 : ((List.range is.length).map (fun i : Nat => (i : Int))).Nodup := by
      unfold List.Nodup
      rw [List.pairwise_map]
      exact List.Pairwise.imp (fun h => by omega) (List.nodup_range (n := is.length))
    have h7 := h6.length_le_of_subset h5
    simpa using h7
  have hc : orderC (edgesS is) (stagesS is) = 0 := by
    unfold orderC
    rw [if_pos hok, if_neg (by rw [edges_len]; omega)]
  unfold buildS
  rw [hf]
  simp only [hc, if_true]
end
theorem dat_mem {is is' : List Ist} (h : is'.map datI = is.map datI) {x : Ist} (hx : x ∈ is') : ∃ y ∈ is, datI y = datI x := by
  have : datI x ∈ is.map datI := by rw [← h]; exact List.mem_map.2 ⟨x, hx, rfl⟩
  obtain ⟨y, hy, e⟩ := List.mem_map.1 this
  exact ⟨y, hy, e⟩
theorem dat_vars {x y : Ist} (h : datI y = datI x) : y.vars.2.2 = x.vars.2.2 := by
  have := congrArg (fun z : Ist => z.vars.2.2) h
  exact this
theorem stages_calls (A : Option Addr) (c : Nat) (is : List Ist) (w : World) (h : IsAt w A is) (hok : ∀ x ∈ is, InOk x) (hl : is.length ≤ 651562446088) :
    Calls Tryd.prog 7 #[.slice A is.length c] w fun e w' => e = .returned (.bool true) ∧ Keep w w' := by
  refine calls_of_Wp (vs := [_]) Tryd.func7 ?_
  refine Wp.seq (Wp.reads (is := [0]) (Keep.refl _) (Rn.s rfl Yv.as (Rn.nil)) ?_)
  refine Wp.seq (Wp.regionL (l := [0, 1, 2]) (WO.rd (is := [0]) (js := [1, 2]) (Keep.refl _) (Rn.s rfl Yv.mv (Rn.nil)) (WO.act (hc := rfl) (he := Ef.cx (caps := []) (A := []) (copyIs_cx A c is w h hok hl) (St.init w) (FnOk.of Tryd.func22) ?_))))
  rintro v D w1 ⟨O, co, is', hdat, rfl, rfl⟩ hs1
  refine WO.rd (is := [2]) (js := []) (Keep.refl _) (Rn.s rfl Yv.as (Rn.nil)) (WO.done ?_)
  have hs1 : St w [] w1 (Ch.row IsE 46 O co is' :: is'.flatMap inC) := by simpa using hs1
  have hil : is'.length = is.length := by have := congrArg List.length hdat; simpa using this
  have hvars : ∀ y ∈ is', y.vars.2.2.length ≤ 4398046511104 := fun y hy => by
    obtain ⟨z, hz, e⟩ := dat_mem hdat hy
    rw [← dat_vars e]
    exact (hok z hz).vars.2
  have hinc : ∀ y ∈ is', ∀ C ∈ inC y, C ∈ is'.flatMap inC := fun y hy C hC => List.mem_flatMap.2 ⟨y, hy, hC⟩
  generalize is'.flatMap inC = T at hs1 hinc
  refine Wp.seq (Wp.seq (Wp.reads (is := [0]) (Keep.refl _) (Rn.s rfl Yv.as (Rn.nil)) ?_))
  refine Wp.mid (fun ρ ds w' => ds = [] ∧ ∃ xs : List Ist, xs.length = is.length ∧ (∀ i : Nat, i < is.length → (nth xs (i : Int)).has = false) ∧ (∀ x ∈ xs, ∃ y ∈ is', x.vars.2.2 = y.vars.2.2 ∧ inC x = inC y) ∧ St w [] w' (Ch.row IsE 46 O co xs :: T) ∧ Sub [(3, .slice O is.length co)] ρ) (Wp.block ?_) ?_
  · refine Wp.loop (α := Nat) (fun k ρ ds w' => ds = [] ∧ k ≤ is.length ∧ ∃ xs : List Ist, xs.length = is.length ∧ (∀ i : Nat, i < k → (nth xs (i : Int)).has = false) ∧ (∀ x ∈ xs, ∃ y ∈ is', x.vars.2.2 = y.vars.2.2 ∧ inC x = inC y) ∧ St w [] w' (Ch.row IsE 46 O co xs :: T) ∧ Sub [(3, .slice O is.length co), (4, .int .i64 (k : Int))] ρ) (fun k => is.length - k) 0
      ⟨rfl, by omega, is', hil, fun i hi => absurd hi (Nat.not_lt_zero i), fun x hx => ⟨x, hx, rfl, rfl⟩, hs1, by show some _ = some _; rw [hil], rfl, trivial⟩ ?_
    clear hs1
    rintro k ρ ds w2 ⟨rfl, hk, xs, hxl, hno, hy, hst, hs⟩
    refine Wp.forget _ ?_ hs
    clear hs ρ
    refine Wp.seq (Wp.seq (Wp.reads (is := [0, 1, 2, 3]) (Keep.refl _) (Rn.s rfl Yv.mv (Rn.s rfl Yv.mv (Rn.s rfl (Yv.len_v (e := 46) (m := 16)) (Rn.s rfl (Yv.cmp _ rfl) (Rn.nil))))) ?_))
    refine Wp.cond rfl (fun hlt => ?_) (fun hlt => ?_)
    · have hlt : k < is.length := by have := of_decide_eq_true hlt; omega
      have hrx := hst.rd 0
      refine Wp.skip (Wp.seq (Wp.block ?_))
      refine Wp.regionL (l := [0, 1, 2, 3, 4]) (WO.rd (is := [0, 1, 2, 3]) (js := [4]) (Keep.refl _) (Rn.s rfl Yv.mv (Rn.s rfl Yv.mv (Rn.s rfl (Yv.ia (e := 46) hrx (by omega) (by omega) hxl.symm) (Rn.s rfl (Yv.fa (off := 11)) (Rn.nil))))) (WO.act (hc := rfl) (he := Ef.setFld (E := IsE) (xs := xs) (f := 11) hst 0 { nth xs (k : Int) with has := false } rfl rfl (by omega) (by omega) (fun wa1 hsa1 => WO.done ?_))))
      refine Wp.reads (is := [0, 1, 2]) (Keep.refl _) (Rn.s rfl Yv.mv (Rn.s rfl (Yv.add (by unfold inI; omega)) (Rn.s rfl Yv.as (Rn.nil)))) ?_
      rw [Int.toNat_natCast] at hsa1
      refine ⟨k + 1, ⟨rfl, by omega, _, by rw [List.length_set]; exact hxl, fun i hi => ?_, fun x hx => ?_, hsa1, rfl, rfl, trivial⟩, by omega⟩
      · by_cases q : i = k
        · subst q
          rw [nth_set_self _ (by omega)]
        · rw [nth_getElem (by rw [List.length_set]; omega), List.getElem_set_ne (by omega), ← nth_getElem]
          exact hno i (by omega)
      · rcases List.mem_or_eq_of_mem_set hx with q | q
        · exact hy x q
        · obtain ⟨y, hy1, hy2, hy3⟩ := hy _ (nth_mem' (xs := xs) (k := k) (by omega))
          exact ⟨y, hy1, by rw [q]; exact hy2, by rw [q]; exact hy3⟩
    · have hlt : k = is.length := by have := of_decide_eq_false hlt; omega
      subst hlt
      exact Wp.exit ⟨rfl, xs, hxl, hno, hy, hst, rfl, trivial⟩
  · rintro ρ ds w2 ⟨rfl, xs, hxl, hno, hy, hst, hs⟩
    refine Wp.forget _ ?_ hs
    clear hs ρ hs1
    have hno' : ∀ x ∈ xs, x.has = false := fun x hx => by
      obtain ⟨i, hi, e⟩ := List.mem_iff_getElem.1 hx
      rw [← e, ← nth_getElem hi]
      exact hno i (by omega)
    have hin : ∀ x ∈ xs, InAt w2 x := fun x hx => by
      obtain ⟨y, hy1, -, hy3⟩ := hy x hx
      exact inC_at hst (fun C hC => List.mem_cons_of_mem _ (hinc y hy1 C (by rw [← hy3]; exact hC)))
    have hB : IsB w2 O xs := ⟨hst.rd 0, fun x hx => (hin x hx).vars, fun x hx => (hin x hx).needs⟩
    have hbo : BldOk xs := ⟨by omega, fun x hx => (by
      obtain ⟨y, hy1, hy2, -⟩ := hy x hx
      rw [hy2]
      have := hvars y hy1
      omega), fun x hx q => (by rw [hno' x hx] at q; cases q), fun x hx q => (by rw [hno' x hx] at q; cases q)⟩
    have hbc := build_cx O co xs w2 hB hbo
    rw [no_build hno', hxl] at hbc
    refine Wp.seq (Wp.regionL (l := [0, 1, 2, 3, 4, 5, 6, 7]) (WO.rd (is := [0]) (js := [1, 2, 3, 4, 5, 6, 7]) (Keep.refl _) (Rn.s rfl Yv.mv (Rn.nil)) (WO.act (hc := rfl) (he := Ef.cx (caps := []) (A := []) hbc hst (FnOk.of Tryd.func23) ?_))))
    rintro v D w3 ⟨Oe, coe, rr, hrr, rfl, rfl⟩ hs3
    refine WO.rd (is := [2, 3, 4]) (js := [5, 6, 7]) (Keep.refl _) (Rn.s rfl Yv.mv (Rn.s rfl Yv.ex (Rn.s rfl Yv.ex (Rn.nil)))) (WO.act (hc := rfl) (he := Ef.allocL (vs := ft0.cs) hs3 (fun b6 w4 k4 hs4 => WO.rd (is := [6]) (js := [7]) (Keep.refl _) (Rn.s rfl Yv.as (Rn.nil)) (WO.act (hc := rfl) (he := Ef.stores hs4 0 (fun w5 hs5 => WO.done ?_))))))
    have hrrl : rr.length = is.length := by
      have := congrArg List.length hrr
      rw [edges_len, hxl] at this
      simpa using this
    have hrr : pl rr = edgesS xs := hrr
    have hs5 : St w [] w5 (Ch.cells b6 44 ft0.cs :: ((Ch.row ShE 23 Oe coe rr :: RsD rr) ++ (Ch.row IsE 46 O co xs :: T))) := hs5
    have c6 := hs5.cells 0
    have hle : LsAt w5 Oe rr := ls_of (co := coe) hs5 (List.mem_cons_of_mem _ (List.mem_append.2 (.inl (List.mem_cons_self ..)))) (fun C hC => List.mem_cons_of_mem _ (List.mem_append.2 (.inl (List.mem_cons_of_mem _ hC))))
    have hrx : Rd IsE w5 O xs := row_rd (hs5.ok (Ch.row IsE 46 O co xs) (List.mem_cons_of_mem _ (List.mem_append.2 (.inr (List.mem_cons_self ..)))))
    rw [hrrl]
    refine Wp.seq (Wp.seq (Wp.reads (is := [0, 1, 2, 3, 4, 5, 6, 7, 8, 9]) (Keep.refl _) (Rn.s rfl (Yv.fa (off := 0)) (Rn.s rfl (Yv.ld (c6.at_ 0)) (Rn.s rfl (Yv.cmp _ rfl) (Rn.s rfl Yv.mv (Rn.or (is := [4, 5, 6, 7, 8, 9]) (js := []) (t := 29) (d := 35) (hg := rfl) (hf := fun h3 => have h3 := bne_eq_false_iff_eq.1 h3; Rn.s rfl Yv.mv (Rn.s rfl (Yv.len_v (e := 23) (m := 1)) (Rn.s rfl Yv.mv (Rn.s rfl (Yv.len_v (e := 46) (m := 16)) (Rn.s rfl (Yv.cmp _ rfl) (Rn.s rfl Yv.pick_f ((Rn.e 6 rfl rfl)))))))) (ht := fun _ => Rn.no rfl (Rn.no rfl (Rn.no rfl (Rn.no rfl (Rn.no rfl (Rn.s rfl Yv.pick_t (Rn.e 6 rfl rfl))))))) (k := Rn.nil)))))) ?_))
    have e0 : ((is.length : Int) != (is.length : Int)) = false := by simp
    rw [e0]
    refine Wp.cond_f rfl ?_
    refine Wp.skip ?_
    refine Wp.seq (Wp.seq (Wp.reads (is := [0]) (Keep.refl _) (Rn.s rfl Yv.as (Rn.nil)) ?_))
    refine Wp.block ?_
    refine Wp.loop (α := Nat) (fun i ρ ds w' => ds = [] ∧ Keep w5 w' ∧ i ≤ is.length ∧ Sub [(3, .slice O is.length co), (5, .slice Oe is.length coe), (7, .int .i64 (i : Int))] ρ) (fun i => is.length - i) 0
      ⟨rfl, Keep.refl _, by omega, rfl, rfl, rfl, trivial⟩ ?_
    rintro i ρ ds w6 ⟨rfl, hk6, hi, hs⟩
    refine Wp.forget _ ?_ hs
    clear hs ρ
    refine Wp.seq (Wp.seq (Wp.reads (is := [0, 1, 2, 3]) (Keep.refl _) (Rn.s rfl Yv.mv (Rn.s rfl Yv.mv (Rn.s rfl (Yv.len_v (e := 23) (m := 1)) (Rn.s rfl (Yv.cmp _ rfl) (Rn.nil))))) ?_))
    refine Wp.cond rfl (fun hil => ?_) (fun hil => ?_)
    · have hil : i < is.length := by have := of_decide_eq_true hil; omega
      have hpi : (nth rr (i : Int)).2.2 = allK xs.length (fun j => decide ((nth xs (j : Int)).stage < (nth xs (i : Int)).stage)) := by
        rw [← nth_pl, hrr, edges_at (by omega), preds_no hno' (by omega)]
      have hpl := allK_len xs.length (fun j => decide ((nth xs (j : Int)).stage < (nth xs (i : Int)).stage))
      refine Wp.skip (Wp.seq (Wp.block ?_))
      refine Wp.seq (Wp.reads (is := [0]) (Keep.refl _) (Rn.s rfl Yv.as (Rn.nil)) ?_)
      refine Wp.block ?_
      refine Wp.loop (α := Nat) (fun k ρ ds w' => ds = [] ∧ Keep w5 w' ∧ k ≤ is.length ∧ Sub [(3, .slice O is.length co), (5, .slice Oe is.length coe), (7, .int .i64 (i : Int)), (8, .int .i64 (k : Int))] ρ) (fun k => is.length - k) 0
        ⟨rfl, hk6, by omega, rfl, rfl, rfl, rfl, trivial⟩ ?_
      rintro k ρ ds w7 ⟨rfl, hk7, hk, hs⟩
      refine Wp.forget _ ?_ hs
      clear hs ρ
      refine Wp.seq (Wp.seq (Wp.reads (is := [0, 1, 2, 3]) (Keep.refl _) (Rn.s rfl Yv.mv (Rn.s rfl Yv.mv (Rn.s rfl (Yv.len_v (e := 46) (m := 16)) (Rn.s rfl (Yv.cmp _ rfl) (Rn.nil))))) ?_))
      refine Wp.cond rfl (fun hkl => ?_) (fun hkl => ?_)
      · have hkl : k < is.length := by have := of_decide_eq_true hkl; omega
        have h7 := hle.keep hk7
        have hrd7 := h7.rd
        have hat7 := h7.at_ (k := i) (by omega)
        have hrx7 := hrx.keep hk7
        refine Wp.skip (Wp.seq (Wp.block ?_))
        refine Wp.seq (Wp.draws [] mixed (WD.rd (is := [0, 1, 2, 3, 4, 6, 7, 8, 9, 10, 11, 12, 13, 14, 15, 16]) (fun _ _ _ _ _ h => h) (Keep.drew _) (Rn.s rfl Yv.mv (Rn.s rfl Yv.mv (Rn.s rfl (Yv.ia (e := 23) hrd7 (by omega) (by omega) hrrl.symm) (Rn.s rfl (Yv.ld (hrd7.ld 0 (by omega) (by omega))) (Rn.s rfl Yv.mv (Rn.s rfl Yv.mv (Rn.s rfl Yv.mv (Rn.s rfl (Yv.ia (e := 46) hrx7 (by omega) (by omega) hxl.symm) (Rn.s rfl (Yv.fa (off := 6)) (Rn.s rfl (Yv.ld (hrx7.ld 6 (by omega) (by omega))) (Rn.s rfl Yv.mv (Rn.s rfl Yv.mv (Rn.s rfl (Yv.ia (e := 46) hrx7 (by omega) (by omega) hxl.symm) (Rn.s rfl (Yv.fa (off := 6)) (Rn.s rfl (Yv.ld (hrx7.ld 6 (by omega) (by omega))) (Rn.s rfl (Yv.cmp _ rfl) (Rn.nil))))))))))))))))) (WD.cv 5 rfl (has_cv _ _ _ _ (k : Int) w7 hat7 rfl (by rw [hpi]; omega)) (Keep.drew _) (FnOk.of Tryd.func21) (fun we1 ke1 => WD.rd (is := [17]) (fun _ _ _ _ _ h => h) ((Keep.drew _).trans ke1) (Rn.s rfl (Yv.bcm _ rfl) (Rn.nil)) (WD.done ?_)))))
        have e1 : decide ((k : Int) ∈ (nth rr (i : Int)).2.2) = decide ((nth xs (k : Int)).stage < (nth xs (i : Int)).stage) := by
          rw [hpi, Bool.eq_iff_iff, decide_eq_true_eq, allK_mem]
          constructor
          · exact fun q => q.2
          · exact fun q => ⟨by omega, q⟩
        rw [e1]
        have e2 : ∀ b : Bool, (b != b) = false := fun b => by cases b <;> rfl
        rw [e2]
        refine Wp.cond_f rfl ?_
        refine Wp.skip (Wp.reads (is := [0, 1, 2]) (Keep.refl _) (Rn.s rfl Yv.mv (Rn.s rfl (Yv.add (by unfold inI; omega)) (Rn.s rfl Yv.as (Rn.nil)))) ?_)
        exact ⟨k + 1, ⟨rfl, (hk7.trans (Keep.drew _)).trans ke1, by omega, rfl, rfl, rfl, rfl, trivial⟩, by omega⟩
      · refine Wp.exit (Wp.reads (is := [0, 1, 2]) (Keep.refl _) (Rn.s rfl Yv.mv (Rn.s rfl (Yv.add (by unfold inI; omega)) (Rn.s rfl Yv.as (Rn.nil)))) ?_)
        exact ⟨i + 1, ⟨rfl, hk7, by omega, rfl, rfl, rfl, trivial⟩, by omega⟩
    · refine Wp.exit ?_
      refine Wp.seq (Wp.regionL (l := [0, 1]) (WO.cv rfl (awake_cv w6) (Keep.refl _) (FnOk.of Tryd.func19) (fun wf1 kf1 => WO.rd (is := [1]) (js := []) ((Keep.refl _).trans kf1) (Rn.s rfl Yv.as (Rn.nil)) (WO.done ?_))))
      exact Wp.ret (Fin.ret (Res.one rfl rfl) ⟨rfl, (hs5.keep.trans hk6).trans kf1⟩)
end Go.Proofs.YthbehiflmcljcaaDoor.C
