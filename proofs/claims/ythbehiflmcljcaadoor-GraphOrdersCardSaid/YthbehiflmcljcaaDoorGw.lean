/- The document's order walked: it is the plain order too. -/
import Derived.Test.YthbehiflmcljcaaDoorGv
set_option linter.unusedVariables false
set_option linter.unusedSimpArgs false
set_option maxRecDepth 10000
namespace Go.Proofs.YthbehiflmcljcaaDoor.C
open Go.RowKit Go.Proofs.YthbehiflmcljcaaDoor.Sh
theorem rform_cv (A : Option Addr) (n c : Nat) (ls : List Sl) (w0 : World) (h : LsAt w0 A ls) (hn : n = ls.length) (hl : ls.length ≤ 5864062014805) (hb : ∀ x ∈ ls, x.2.2.length ≤ 17592186044416) : Cv Tryd.prog 24 [.slice A n c] (.bool (decide (formS (pl ls)))) w0 := by
  subst hn
  intro w hk
  have h := h.keep hk
  have hpl : (pl ls).length = ls.length := List.length_map ..
  refine calls_of_Wp (vs := [_]) Tryd.func24 ?_
  refine Wp.seq (Wp.reads (is := [0]) (Keep.refl _) (Rn.s rfl Yv.as (Rn.nil)) ?_)
  refine Wp.seq (Wp.seq (Wp.reads (is := [0]) (Keep.refl _) (Rn.s rfl Yv.as (Rn.nil)) ?_))
  refine Wp.block ?_
  refine Wp.loop (α := Nat) (fun k ρ ds w' => ds = [] ∧ Keep w w' ∧ k ≤ ls.length ∧ (∀ i, i < k → formL (pl ls).length (nth (pl ls) (i : Int))) ∧ Sub [(0, .slice A ls.length c), (3, .int .i64 (k : Int))] ρ) (fun k => ls.length - k) 0
    ⟨rfl, Keep.refl _, by omega, fun i hi => absurd hi (Nat.not_lt_zero i), rfl, rfl, trivial⟩ ?_
  rintro k ρ ds w1 ⟨rfl, hk1, hle, hall, hs⟩
  refine Wp.forget _ ?_ hs
  clear hs ρ
  refine Wp.seq (Wp.seq (Wp.reads (is := [0, 1, 2, 3]) (Keep.refl _) (Rn.s rfl Yv.mv (Rn.s rfl Yv.mv (Rn.s rfl (Yv.len_v (e := 23) (m := 1)) (Rn.s rfl (Yv.cmp _ rfl) (Rn.nil))))) ?_))
  refine Wp.cond rfl (fun hlt => ?_) (fun hlt => ?_)
  · have hkl : k < ls.length := by have := of_decide_eq_true hlt; omega
    have hnp : nth (pl ls) (k : Int) = (nth ls (k : Int)).2.2 := nth_pl ls _
    have hxl := hb _ (nth_mem' hkl)
    refine Wp.skip (Wp.seq (Wp.block ?_))
    refine Wp.seq (Wp.reads (is := [0]) (Keep.refl _) (Rn.s rfl Yv.as (Rn.nil)) ?_)
    refine Wp.block ?_
    refine Wp.loop (α := Nat) (fun j ρ ds w' => ds = [] ∧ Keep w w' ∧ j ≤ (nth ls (k : Int)).2.2.length ∧ (∀ m : Nat, m < j → 0 ≤ nth (nth ls (k : Int)).2.2 (m : Int) ∧ nth (nth ls (k : Int)).2.2 (m : Int) < (pl ls).length ∧ (0 < m → nth (nth ls (k : Int)).2.2 ((m : Int) - 1) < nth (nth ls (k : Int)).2.2 (m : Int))) ∧
      Sub [(0, .slice A ls.length c), (3, .int .i64 (k : Int)), (4, .int .i64 (j : Int))] ρ) (fun j => (nth ls (k : Int)).2.2.length - j) 0
      ⟨rfl, hk1, by omega, fun m hm => absurd hm (Nat.not_lt_zero m), rfl, rfl, rfl, trivial⟩ ?_
    rintro j ρ ds w2 ⟨rfl, hk2, hje, hjall, hs⟩
    refine Wp.forget _ ?_ hs
    clear hs ρ
    have h2 := h.keep hk2
    have hrd := h2.rd
    have hx2 := h2.at_ hkl
    refine Wp.seq (Wp.seq (Wp.reads (is := [0, 1, 2, 3, 4, 5, 6]) (Keep.refl _) (Rn.s rfl Yv.mv (Rn.s rfl Yv.mv (Rn.s rfl Yv.mv (Rn.s rfl (Yv.ia (e := 23) hrd (by omega) (by omega)) (Rn.s rfl (Yv.ld (hrd.ld 0 (by omega) (by omega))) (Rn.s rfl (Yv.len_v (e := 3) (m := 1)) (Rn.s rfl (Yv.cmp _ rfl) (Rn.nil)))))))) ?_))
    refine Wp.cond rfl (fun hjl => ?_) (fun hjl => ?_)
    · have hjl : j < (nth ls (k : Int)).2.2.length := by have := of_decide_eq_true hjl; omega
      refine Wp.skip (Wp.seq (Wp.block ?_))
      refine Wp.seq (Wp.reads (is := [0, 1, 2, 3, 4, 5, 6, 7]) (Keep.refl _) (Rn.s rfl Yv.mv (Rn.s rfl Yv.mv (Rn.s rfl (Yv.ia (e := 23) hrd (by omega) (by omega)) (Rn.s rfl (Yv.ld (hrd.ld 0 (by omega) (by omega))) (Rn.s rfl Yv.mv (Rn.s rfl (Yv.ia (e := 3) hx2 (by omega) (by omega)) (Rn.s rfl (Yv.ld (hx2.ld 0 (by omega) (by omega))) (Rn.s rfl Yv.as (Rn.nil))))))))) ?_)
      refine Wp.seq (Wp.reads (is := [0, 1, 2, 3, 4, 5, 6, 7, 8, 9, 10, 11, 12, 13, 14, 15, 16, 17, 18, 19, 20, 21, 22, 23]) (Keep.refl _) (Rn.s rfl Yv.mv (Rn.s rfl (Yv.cmp _ rfl) (Rn.s rfl Yv.mv (Rn.or (is := [3, 4, 5, 6, 7]) (js := [8, 9, 10, 11, 12, 13, 14, 15, 16, 17, 18, 19, 20, 21, 22, 23]) (t := 30) (d := 35) (hg := rfl) (hf := fun h2 => have h2 := of_decide_eq_false h2; Rn.s rfl Yv.mv (Rn.s rfl Yv.mv (Rn.s rfl (Yv.len_v (e := 23) (m := 1)) (Rn.s rfl (Yv.cmp _ rfl) (Rn.s rfl Yv.pick_f ((Rn.e 5 rfl rfl))))))) (ht := fun _ => Rn.no rfl (Rn.no rfl (Rn.no rfl (Rn.no rfl (Rn.s rfl Yv.pick_t (Rn.e 5 rfl rfl)))))) (k := Rn.s rfl Yv.mv (Rn.or (is := [9, 10, 11, 12, 13, 14, 15, 16, 17, 18, 19, 20, 21, 22, 23]) (js := []) (t := 36) (d := 51) (hg := rfl) (hf := fun h8 => Rn.s rfl Yv.mv (Rn.s rfl (Yv.cmp _ rfl) (Rn.s rfl Yv.mv (Rn.and (is := [12, 13, 14, 15, 16, 17, 18, 19, 20, 21, 22]) (js := [23]) (t := 39) (d := 50) (hg := rfl) (ht := fun h11 => have h11 := of_decide_eq_true h11; Rn.s rfl Yv.mv (Rn.s rfl Yv.mv (Rn.s rfl Yv.mv (Rn.s rfl (Yv.ia (e := 23) hrd (by omega) (by omega)) (Rn.s rfl (Yv.ld (hrd.ld 0 (by omega) (by omega))) (Rn.s rfl Yv.mv (Rn.s rfl (Yv.sub ⟨by omega, by omega⟩) (Rn.s rfl (Yv.ia (e := 3) hx2 (by omega) (by omega)) (Rn.s rfl (Yv.ld (hx2.ld 0 (by omega) (by omega))) (Rn.s rfl (Yv.cmp _ rfl) (Rn.s rfl Yv.pick_t ((Rn.e 11 rfl rfl))))))))))))) (hf := fun _ => Rn.no rfl (Rn.no rfl (Rn.no rfl (Rn.no rfl (Rn.no rfl (Rn.no rfl (Rn.no rfl (Rn.no rfl (Rn.no rfl (Rn.no rfl (Rn.s rfl Yv.pick_f (Rn.e 11 rfl rfl)))))))))))) (k := Rn.s rfl Yv.pick_f ((Rn.e 5 rfl rfl))))))) (ht := fun _ => Rn.no rfl (Rn.no rfl (Rn.no rfl (Rn.no rfl (Rn.no rfl (Rn.no rfl (Rn.no rfl (Rn.no rfl (Rn.no rfl (Rn.no rfl (Rn.no rfl (Rn.no rfl (Rn.no rfl (Rn.no rfl (Rn.s rfl Yv.pick_t (Rn.e 15 rfl rfl)))))))))))))))) (k := Rn.nil))))))) ?_)
      refine Wp.cond rfl (fun hc => ?_) (fun hc => ?_)
      · refine Wp.seq (Wp.reads (is := [0]) (Keep.refl _) (Rn.s rfl Yv.as (Rn.nil)) ?_)
        refine Wp.ret (Fin.ret (Res.one rfl rfl) ⟨?_, hk2⟩)
        have hno : ¬ formS (pl ls) := by
          intro hf
          have := hf k (by rw [hpl]; exact hkl) j (by rw [hnp]; omega)
          rw [hnp, hpl] at this
          simp only [Bool.or_eq_true, Bool.and_eq_true, decide_eq_true_eq] at hc
          omega
        rw [decide_eq_false hno]
      · refine Wp.skip (Wp.reads (is := [0, 1, 2]) (Keep.refl _) (Rn.s rfl Yv.mv (Rn.s rfl (Yv.add (by unfold inI; omega)) (Rn.s rfl Yv.as (Rn.nil)))) ?_)
        refine ⟨j + 1, ⟨rfl, hk2, by omega, fun m hm => ?_, rfl, rfl, rfl, trivial⟩, by omega⟩
        by_cases hmj : m = j
        · subst hmj
          rw [hpl]
          simp only [Bool.or_eq_false_iff, Bool.and_eq_false_iff, decide_eq_false_iff_not] at hc
          omega
        · exact hjall m (by omega)
    · have hjl : j = (nth ls (k : Int)).2.2.length := by have := of_decide_eq_false hjl; omega
      refine Wp.exit (Wp.reads (is := [0, 1, 2]) (Keep.refl _) (Rn.s rfl Yv.mv (Rn.s rfl (Yv.add (by unfold inI; omega)) (Rn.s rfl Yv.as (Rn.nil)))) ?_)
      refine ⟨k + 1, ⟨rfl, hk2, by omega, fun i hi => ?_, rfl, rfl, trivial⟩, by omega⟩
      by_cases hik : i = k
      · subst hik
        intro m hm
        rw [hnp] at hm ⊢
        exact hjall m (by omega)
      · exact hall i (by omega)
  · have hlt : k = ls.length := by have := of_decide_eq_false hlt; omega
    refine Wp.exit ?_
    refine Wp.seq (Wp.reads (is := [0]) (Keep.refl _) (Rn.s rfl Yv.as (Rn.nil)) ?_)
    refine Wp.ret (Fin.ret (Res.one rfl rfl) ⟨?_, hk1⟩)
    have : formS (pl ls) := fun i hi => hall i (by rw [hpl] at hi; omega)
    rw [decide_eq_true this]
def memS (n : Nat) (o : Is) : List Bool := (List.range n).map (fun i : Nat => decide ((i : Int) ∈ o))
theorem memS_len (n : Nat) (o : Is) : (memS n o).length = n := by unfold memS; simp
theorem memS_at {n : Nat} {o : Is} {x : Nat} (hx : x < n) : nth (memS n o) (x : Int) = decide ((x : Int) ∈ o) := by
  unfold memS
  rw [nth_range _ hx]
theorem memS_nil (n : Nat) : memS n [] = List.replicate n false := by
  unfold memS
  have : (fun i : Nat => decide ((i : Int) ∈ ([] : Is))) = fun _ => false := by funext i; simp
  rw [this, List.map_const', List.length_range]
theorem memS_set {n b : Nat} {o : Is} (hb : b < n) : (memS n o).set b true = memS n (o ++ [(b : Int)]) := by
  refine map_set _ _ _ hb (by simp) (fun i hi hne => ?_)
  have : ((i : Int) ∈ o ++ [(b : Int)]) ↔ (i : Int) ∈ o := by
    rw [List.mem_append, List.mem_singleton]
    constructor
    · rintro (h | h)
      · exact h
      · omega
    · exact .inl
  simp only [this]
def bestI (ps : List Is) (rs o : Is) (i : Nat) : Int := match bestS ps rs o i with
  | none => -1
  | some b => (b : Int)
theorem bestI_succ (ps : List Is) (rs o : Is) (i : Nat) : bestI ps rs o (i + 1) = if rdyS ps o i ∧ (bestI ps rs o i < 0 ∨ nth rs (i : Int) < nth rs (bestI ps rs o i)) then (i : Int) else bestI ps rs o i := by
  unfold bestI
  rw [bestS]
  cases h : bestS ps rs o i with
  | none =>
    by_cases q : rdyS ps o i
    · simp [q]
    · simp [q]
  | some b =>
    have hb : ¬ ((b : Int) < 0) := by omega
    by_cases q : rdyS ps o i ∧ nth rs (i : Int) < nth rs (b : Int)
    · simp only [if_pos q]
      rw [if_pos ⟨q.1, .inr q.2⟩]
    · simp only [if_neg q]
      rw [if_neg (fun r => q ⟨r.1, r.2.resolve_left hb⟩)]
theorem bestI_bd (ps : List Is) (rs o : Is) (i : Nat) : -1 ≤ bestI ps rs o i ∧ bestI ps rs o i < i := by
  unfold bestI
  cases h : bestS ps rs o i with
  | none => exact ⟨by decide, by simp only; omega⟩
  | some b =>
    have := (best_some h).1
    exact ⟨by simp only; omega, by simp only; omega⟩
theorem rorder_cx (A : Option Addr) (c : Nat) (ls : List Sl) (B : Option Addr) (d : Nat) (rs : Is) (w : World) (h : LsAt w A ls) (hrs : Rd InE w B rs) (hl : ls.length ≤ 5864062014805) (hb : ∀ x ∈ ls, x.2.2.length ≤ 17592186044416) (hl2 : rs.length ≤ 17592186044416) :
    Cx Tryd.prog 10 [.slice A ls.length c, .slice B rs.length d] [] (fun v D => ∃ O co, v = .tuple #[.slice O (orderS (pl ls) rs).length co, .int .i64 (orderC (pl ls) rs)] ∧ D = [Ch.row InE 3 O co (orderS (pl ls) rs)]) w := by
  have hpl : (pl ls).length = ls.length := List.length_map ..
  refine calls_of_Wp (vs := [_, _]) Tryd.func10 ?_
  refine Wp.seq (Wp.reads (is := [0, 1]) (Keep.refl _) (Rn.s rfl Yv.as (Rn.s rfl Yv.as (Rn.nil))) ?_)
  refine Wp.seq (Wp.seq (Wp.regionL (l := [0, 1, 2, 3, 4, 5, 6, 7, 8, 9]) (WO.rd (is := [0, 1, 2, 3, 4, 5]) (js := [6, 7, 8, 9]) (Keep.refl _) (Rn.s rfl Yv.mv (Rn.s rfl (Yv.len_v (e := 3) (m := 1)) (Rn.s rfl Yv.mv (Rn.s rfl (Yv.len_v (e := 23) (m := 1)) (Rn.s rfl (Yv.cmp _ rfl) (Rn.s rfl Yv.mv (Rn.nil))))))) (WO.or (js := []) 17 21 (b := (!decide (formS (pl ls)))) (hg := rfl) (hf := fun h5 qy1 => have h5 := bne_eq_false_iff_eq.1 h5; WO.rd (is := [6]) (js := [7, 8, 9]) (Keep.refl _) (Rn.s rfl Yv.mv (Rn.nil)) (WO.cv rfl (rform_cv A ls.length c ls w h rfl hl hb) (Keep.refl _) (FnOk.of Tryd.func24) (fun wy2 ky2 => WO.rd (is := [8, 9]) (js := []) ((Keep.refl _).trans ky2) (Rn.s rfl Yv.not (Rn.s rfl Yv.pick_f (Rn.nil))) (WO.e 4 (qy1 _ ((Keep.refl _).trans ky2)))))) (ht := fun _ qy1 => WO.rd (is := [6, 7, 8, 9]) (js := []) (Keep.refl _) (Rn.no rfl (Rn.no rfl (Rn.no rfl (Rn.s rfl Yv.pick_t Rn.nil)))) (WO.e 4 (qy1 _ (Keep.refl _)))) (k := fun wy1 ky1 => WO.done ?_)))))
  have hst0 : St w [] wy1 [] := (St.init w).quiet ky1
  refine Wp.cond rfl (fun hc => ?_) (fun hc => ?_)
  · have hno : ¬ okS (pl ls) rs := by
      rintro ⟨q1, q2⟩
      rw [decide_eq_true q2] at hc
      rw [hpl] at q1
      simp [q1] at hc
    refine Wp.seq (Wp.reads (is := [0, 1]) (Keep.refl _) (Rn.s rfl Yv.as (Rn.s rfl Yv.as (Rn.nil))) ?_)
    refine Wp.ret (Fin.ret (Res.two rfl rfl rfl) ⟨_, [Ch.row InE 3 none 0 []], rfl, ⟨none, 0, ?_, ?_⟩, hst0.nilrow _ _⟩)
    · unfold orderS orderC
      rw [if_neg hno, if_neg hno]
      rfl
    · unfold orderS
      rw [if_neg hno]
  have hok : okS (pl ls) rs := by
    simp only [Bool.or_eq_false_iff, Bool.not_eq_false', decide_eq_true_eq, bne_eq_false_iff_eq] at hc
    exact ⟨by rw [hpl]; omega, hc.2⟩
  have hform := hok.2
  have hrl : rs.length = ls.length := by rw [hok.1, hpl]
  have eS : orderS (pl ls) rs = ordF (pl ls) rs (pl ls).length [] := if_pos hok
  have hcode := code_cases hok
  refine Wp.skip ?_
  refine Wp.seq (Wp.regionL (l := [0, 1, 2, 3]) (WO.rd (is := [0, 1]) (js := [2, 3]) (Keep.refl _) (Rn.s rfl Yv.mv (Rn.s rfl (Yv.len_v (e := 23) (m := 1)) (Rn.nil))) (WO.act (hc := rfl) (he := Ef.mks (T := 4) (bytes := 1) BoE false (.bool false) (by omega) (by omega) hst0 (fun ba1 wa1 ka1 hsa1 => WO.rd (is := [3]) (js := []) ((Keep.refl _).trans ka1) (Rn.s rfl Yv.as (Rn.nil)) (WO.done ?_))))))
  refine Wp.seq (Wp.reads (is := [0]) (Keep.refl _) (Rn.s rfl Yv.as (Rn.nil)) ?_)
  refine Wp.cut (fun ρ ds w' => ds = [] ∧ ∃ O co, St w [] w' [Ch.row InE 3 O co (orderS (pl ls) rs)] ∧ Sub [(0, .slice A ls.length c), (7, .slice O (orderS (pl ls) rs).length co)] ρ) (Wp.block ?_) ?_
  · refine Wp.loop (α := Is) (fun o ρ ds w' => ds = [] ∧ Beg (pl ls) o ∧ ordF (pl ls) rs (pl ls).length o = orderS (pl ls) rs ∧ ∃ O co, St w [] w' [Ch.row BoE 4 (some ⟨ba1, 0, none⟩) ls.length (memS ls.length o), Ch.row InE 3 O co o] ∧
      Sub [(0, .slice A ls.length c), (1, .slice B rs.length d), (6, .slice (some ⟨ba1, 0, none⟩) ls.length ls.length), (7, .slice O o.length co)] ρ) (fun o => still (pl ls).length o) []
      ⟨rfl, beg_nil _, eS.symm, none, 0, by rw [memS_nil]; exact (hsa1.nilrow InE 3).pick [1, 0], rfl, rfl, rfl, rfl, trivial⟩ ?_
    clear hst0 hsa1
    rintro o ρ ds w1 ⟨rfl, hbeg, hord, O, co, hst, hs⟩
    refine Wp.forget _ ?_ hs
    clear hs ρ
    have hml := memS_len ls.length o
    have hol : o.length ≤ ls.length := by have := hbeg.room; omega
    refine Wp.block ?_
    refine Wp.seq (Wp.reads (is := [0]) (Keep.refl _) (Rn.s rfl Yv.as (Rn.nil)) ?_)
    refine Wp.seq (Wp.seq (Wp.reads (is := [0]) (Keep.refl _) (Rn.s rfl Yv.as (Rn.nil)) ?_))
    refine Wp.mid (fun ρ ds w' => ds = [] ∧ Keep w1 w' ∧ Sub [(0, .slice A ls.length c), (1, .slice B rs.length d), (6, .slice (some ⟨ba1, 0, none⟩) ls.length ls.length), (7, .slice O o.length co), (8, .int .i64 (bestI (pl ls) rs o ls.length))] ρ) (Wp.block ?_) ?_
    · refine Wp.loop (α := Nat) (fun i ρ ds w' => ds = [] ∧ Keep w1 w' ∧ i ≤ ls.length ∧ Sub [(0, .slice A ls.length c), (1, .slice B rs.length d), (6, .slice (some ⟨ba1, 0, none⟩) ls.length ls.length), (7, .slice O o.length co), (8, .int .i64 (bestI (pl ls) rs o i)), (9, .int .i64 (i : Int))] ρ) (fun i => ls.length - i) 0
        ⟨rfl, Keep.refl _, by omega, rfl, rfl, rfl, rfl, rfl, rfl, trivial⟩ ?_
      rintro i ρ ds w2 ⟨rfl, hk2, hi, hs⟩
      refine Wp.forget _ ?_ hs
      clear hs ρ
      have hrm := (hst.rd 0).keep hk2
      refine Wp.seq (Wp.seq (Wp.reads (is := [0, 1, 2, 3]) (Keep.refl _) (Rn.s rfl Yv.mv (Rn.s rfl Yv.mv (Rn.s rfl (Yv.len_v (e := 23) (m := 1)) (Rn.s rfl (Yv.cmp _ rfl) (Rn.nil))))) ?_))
      refine Wp.cond rfl (fun hil => ?_) (fun hil => ?_)
      · have hil : i < ls.length := by have := of_decide_eq_true hil; omega
        have hnp : nth (pl ls) (i : Int) = (nth ls (i : Int)).2.2 := nth_pl ls _
        have hfi := hform i (by omega)
        rw [hnp] at hfi
        have hxl := hb _ (nth_mem' hil)
        refine Wp.skip (Wp.seq (Wp.block ?_))
        refine Wp.seq (Wp.reads (is := [0, 1, 2, 3, 4, 5]) (Keep.refl _) (Rn.s rfl Yv.mv (Rn.s rfl Yv.mv (Rn.s rfl (Yv.ia (e := 4) hrm (by omega) (by omega) hml.symm) (Rn.s rfl (Yv.ld (hrm.ld 0 (by omega) (by omega))) (Rn.s rfl Yv.not (Rn.s rfl Yv.as (Rn.nil))))))) ?_)
        rw [memS_at hil]
        refine Wp.seq (Wp.seq (Wp.reads (is := [0]) (Keep.refl _) (Rn.s rfl Yv.as (Rn.nil)) ?_))
        refine Wp.mid (fun ρ ds w' => ds = [] ∧ Keep w1 w' ∧ Sub [(0, .slice A ls.length c), (1, .slice B rs.length d), (6, .slice (some ⟨ba1, 0, none⟩) ls.length ls.length), (7, .slice O o.length co), (8, .int .i64 (bestI (pl ls) rs o i)), (9, .int .i64 (i : Int)), (10, .bool (decide (rdyS (pl ls) o i)))] ρ) (Wp.block ?_) ?_
        · refine Wp.loop (α := Nat) (fun j ρ ds w' => ds = [] ∧ Keep w1 w' ∧ j ≤ (nth ls (i : Int)).2.2.length ∧ Sub [(0, .slice A ls.length c), (1, .slice B rs.length d), (6, .slice (some ⟨ba1, 0, none⟩) ls.length ls.length), (7, .slice O o.length co), (8, .int .i64 (bestI (pl ls) rs o i)), (9, .int .i64 (i : Int)), (10, .bool (!decide ((i : Int) ∈ o) && ((nth ls (i : Int)).2.2.take j).all (fun p => decide (p ∈ o)))), (11, .int .i64 (j : Int))] ρ) (fun j => (nth ls (i : Int)).2.2.length - j) 0
            ⟨rfl, hk2, by omega, rfl, rfl, rfl, rfl, rfl, rfl, by simp; rfl, rfl, trivial⟩ ?_
          rintro j ρ ds w3 ⟨rfl, hk3, hj, hs⟩
          refine Wp.forget _ ?_ hs
          clear hs ρ
          have h3 := (h.keep hst.keep).keep hk3
          have hrd3 := h3.rd
          have hat3 := h3.at_ hil
          have hrm3 := (hst.rd 0).keep hk3
          refine Wp.seq (Wp.seq (Wp.reads (is := [0, 1, 2, 3, 4, 5, 6, 7, 8, 9]) (Keep.refl _) (Rn.s rfl Yv.mv (Rn.s rfl Yv.mv (Rn.and (is := [2, 3, 4, 5, 6, 7, 8, 9]) (js := []) (t := 37) (d := 45) (hg := rfl) (ht := fun h1 => Rn.s rfl Yv.mv (Rn.s rfl Yv.mv (Rn.s rfl Yv.mv (Rn.s rfl (Yv.ia (e := 23) hrd3 (by omega) (by omega)) (Rn.s rfl (Yv.ld (hrd3.ld 0 (by omega) (by omega))) (Rn.s rfl (Yv.len_v (e := 3) (m := 1)) (Rn.s rfl (Yv.cmp _ rfl) (Rn.s rfl Yv.pick_t ((Rn.e 8 rfl rfl)))))))))) (hf := fun _ => Rn.no rfl (Rn.no rfl (Rn.no rfl (Rn.no rfl (Rn.no rfl (Rn.no rfl (Rn.no rfl (Rn.s rfl Yv.pick_f (Rn.e 8 rfl rfl))))))))) (k := Rn.nil)))) ?_))
          have hrdyiff : rdyS (pl ls) o i ↔ ((i : Int) ∉ o ∧ ∀ p ∈ (nth ls (i : Int)).2.2, p ∈ o) := by
            unfold rdyS
            rw [hnp]
          refine Wp.cond rfl (fun hjl => ?_) (fun hjl => ?_)
          · simp only [Bool.and_eq_true, decide_eq_true_eq] at hjl
            obtain ⟨⟨q1, q2⟩, q3⟩ := hjl
            have hjl : j < (nth ls (i : Int)).2.2.length := by omega
            obtain ⟨p, hpn, hpe⟩ := form_mem hfi (nth_mem' hjl)
            rw [hpl] at hpn
            refine Wp.skip (Wp.seq (Wp.block ?_))
            refine Wp.reads (is := [0, 1, 2, 3, 4, 5, 6, 7, 8, 9, 10]) (Keep.refl _) (Rn.s rfl Yv.mv (Rn.s rfl Yv.mv (Rn.s rfl Yv.mv (Rn.s rfl (Yv.ia (e := 23) hrd3 (by omega) (by omega)) (Rn.s rfl (Yv.ld (hrd3.ld 0 (by omega) (by omega))) (Rn.s rfl Yv.mv (Rn.s rfl (Yv.ia (e := 3) hat3 (by omega) (by omega)) (Rn.s rfl (Yv.ld (hat3.ld 0 (by omega) (by omega))) (Rn.s rfl (Yv.ia (e := 4) hrm3 (by omega) (by omega) hml.symm) (Rn.s rfl (Yv.ld (hrm3.ld 0 (by omega) (by omega))) (Rn.s rfl Yv.as (Rn.nil)))))))))))) ?_
            refine Wp.reads (is := [0, 1, 2]) (Keep.refl _) (Rn.s rfl Yv.mv (Rn.s rfl (Yv.add (by unfold inI; omega)) (Rn.s rfl Yv.as (Rn.nil)))) ?_
            refine ⟨j + 1, ⟨rfl, hk3, by omega, rfl, rfl, rfl, rfl, rfl, rfl, ?_, rfl, trivial⟩, by omega⟩
            rw [all_take_succ hjl, hpe, q2, Bool.true_and, q1, Bool.true_and]
            show some _ = some _
            rw [memS_at hpn, Bool.true_and]
          · refine Wp.exit ⟨rfl, hk3, rfl, rfl, rfl, rfl, rfl, rfl, ?_, trivial⟩
            show some _ = some _
            congr 2
            by_cases q : j < (nth ls (i : Int)).2.2.length
            · have q2 : (!decide ((i : Int) ∈ o) && ((nth ls (i : Int)).2.2.take j).all (fun p => decide (p ∈ o))) = false := by
                have e : decide ((j : Int) < (((nth ls (i : Int)).2.2.length : Nat) : Int)) = true := decide_eq_true (by omega)
                rw [e, Bool.and_true] at hjl
                exact hjl
              rw [q2]
              symm
              rw [decide_eq_false_iff_not, hrdyiff]
              rintro ⟨r1, r2⟩
              rw [decide_eq_false r1] at q2
              simp only [Bool.not_false, Bool.true_and, List.all_eq_false] at q2
              obtain ⟨p, hp1, hp2⟩ := q2
              exact hp2 (decide_eq_true (r2 p (List.mem_of_mem_take hp1)))
            · have q : j = (nth ls (i : Int)).2.2.length := by omega
              rw [q, List.take_length]
              rw [Bool.eq_iff_iff]
              simp only [Bool.and_eq_true, Bool.not_eq_true', decide_eq_false_iff_not, List.all_eq_true, decide_eq_true_eq, hrdyiff]
        · rintro ρ ds w3 ⟨rfl, hk3, hs⟩
          refine Wp.forget _ ?_ hs
          clear hs ρ
          have hrs3 := (hrs.keep hst.keep).keep hk3
          have hbd := bestI_bd (pl ls) rs o i
          have hsucc := bestI_succ (pl ls) rs o i
          generalize bestI (pl ls) rs o i = b at hbd hsucc ⊢
          refine Wp.seq (Wp.readsD (is := [0, 1, 2, 3, 4, 5, 6, 7, 8, 9, 10, 11, 12, 13, 14, 15]) mixed (fun _ _ _ _ _ h => h) (Keep.refl _) (Rn.s rfl Yv.mv (Rn.s rfl Yv.mv (Rn.and (is := [2, 3, 4, 5, 6, 7, 8, 9, 10, 11, 12, 13, 14, 15]) (js := []) (t := 59) (d := 73) (hg := rfl) (ht := fun h1 => Rn.s rfl Yv.mv (Rn.s rfl (Yv.cmp _ rfl) (Rn.s rfl Yv.mv (Rn.or (is := [5, 6, 7, 8, 9, 10, 11, 12, 13, 14]) (js := [15]) (t := 62) (d := 72) (hg := rfl) (hf := fun h4 => have h4 := of_decide_eq_false h4; Rn.s rfl Yv.mv (Rn.s rfl Yv.mv (Rn.s rfl (Yv.ia (e := 3) hrs3 (by omega) (by omega)) (Rn.s rfl (Yv.ld (hrs3.ld 0 (by omega) (by omega))) (Rn.s rfl Yv.mv (Rn.s rfl Yv.mv (Rn.s rfl (Yv.ia (e := 3) hrs3 (by omega) (by omega)) (Rn.s rfl (Yv.ld (hrs3.ld 0 (by omega) (by omega))) (Rn.s rfl (Yv.cmp _ rfl) (Rn.s rfl Yv.pick_f ((Rn.e 10 rfl rfl)))))))))))) (ht := fun _ => Rn.no rfl (Rn.no rfl (Rn.no rfl (Rn.no rfl (Rn.no rfl (Rn.no rfl (Rn.no rfl (Rn.no rfl (Rn.no rfl (Rn.s rfl Yv.pick_t (Rn.e 10 rfl rfl))))))))))) (k := Rn.s rfl Yv.pick_t ((Rn.e 5 rfl rfl))))))) (hf := fun _ => Rn.no rfl (Rn.no rfl (Rn.no rfl (Rn.no rfl (Rn.no rfl (Rn.no rfl (Rn.no rfl (Rn.no rfl (Rn.no rfl (Rn.no rfl (Rn.no rfl (Rn.no rfl (Rn.no rfl (Rn.s rfl Yv.pick_f (Rn.e 14 rfl rfl))))))))))))))) (k := Rn.nil)))) ?_)
          refine Wp.mid (fun ρ ds w' => ds = [] ∧ Keep w1 w' ∧ Sub [(0, .slice A ls.length c), (1, .slice B rs.length d), (6, .slice (some ⟨ba1, 0, none⟩) ls.length ls.length), (7, .slice O o.length co), (8, .int .i64 (bestI (pl ls) rs o (i + 1))), (9, .int .i64 (i : Int))] ρ) ?_ ?_
          · refine Wp.cond rfl (fun hq => ?_) (fun hq => ?_)
            · simp only [Bool.and_eq_true, Bool.or_eq_true, decide_eq_true_eq] at hq
              rw [if_pos hq] at hsucc
              refine Wp.reads (is := [0, 1]) (Keep.refl _) (Rn.s rfl Yv.mv (Rn.s rfl Yv.as (Rn.nil))) ?_
              refine ⟨rfl, hk3.trans (Keep.drew _), rfl, rfl, rfl, rfl, ?_, rfl, trivial⟩
              rw [hsucc]; rfl
            · have hq : ¬ (rdyS (pl ls) o i ∧ (b < 0 ∨ nth rs (i : Int) < nth rs b)) := by
                rintro ⟨r1, r2⟩
                have : (decide (rdyS (pl ls) o i) && (decide (b < 0) || decide (nth rs (i : Int) < nth rs b))) = true := by
                  simp only [Bool.and_eq_true, Bool.or_eq_true, decide_eq_true_eq]
                  exact ⟨r1, r2⟩
                rw [this] at hq
                cases hq
              rw [if_neg hq] at hsucc
              refine Wp.skip ⟨rfl, hk3.trans (Keep.drew _), rfl, rfl, rfl, rfl, ?_, rfl, trivial⟩
              rw [hsucc]; rfl
          · rintro ρ ds w4 ⟨rfl, hk4, hs⟩
            refine Wp.forget _ ?_ hs
            refine Wp.reads (is := [0, 1, 2]) (Keep.refl _) (Rn.s rfl Yv.mv (Rn.s rfl (Yv.add (by unfold inI; omega)) (Rn.s rfl Yv.as (Rn.nil)))) ?_
            exact ⟨i + 1, ⟨rfl, hk4, by omega, rfl, rfl, rfl, rfl, rfl, rfl, trivial⟩, by omega⟩
      · have hil : i = ls.length := by have := of_decide_eq_false hil; omega
        subst hil
        exact Wp.exit ⟨rfl, hk2, rfl, rfl, rfl, rfl, rfl, trivial⟩
    · rintro ρ ds w2 ⟨rfl, hk2, hs⟩
      refine Wp.forget _ ?_ hs
      clear hs ρ
      have hst := hst.quiet hk2
      refine Wp.seq (Wp.seq (Wp.reads (is := [0, 1]) (Keep.refl _) (Rn.s rfl Yv.mv (Rn.s rfl (Yv.cmp _ rfl) (Rn.nil))) ?_))
      cases hbs : bestS (pl ls) rs o (pl ls).length with
      | none =>
        have e : bestI (pl ls) rs o ls.length = -1 := by unfold bestI; rw [← hpl, hbs]
        rw [e]
        refine Wp.cond_t rfl ?_
        rw [ordF_none _ hbs] at hord
        subst hord
        exact Wp.exit ⟨rfl, O, co, hst.pick [1], rfl, rfl, trivial⟩
      | some b =>
        have e : bestI (pl ls) rs o ls.length = (b : Int) := by unfold bestI; rw [← hpl, hbs]
        obtain ⟨hbn, hbr, -⟩ := best_some hbs
        rw [hpl] at hbn
        rw [e]
        have e2 : decide ((b : Int) < 0) = false := decide_eq_false (by omega)
        rw [e2]
        refine Wp.cond_f rfl ?_
        refine Wp.skip ?_
        have hrm := hst.rd 0
        refine Wp.seq (Wp.regionL (l := [0, 1, 2, 3]) (WO.rd (is := [0, 1, 2]) (js := [3]) (Keep.refl _) (Rn.s rfl Yv.mv (Rn.s rfl Yv.mv (Rn.s rfl (Yv.ia (e := 4) hrm (by omega) (by omega) hml.symm) (Rn.nil)))) (WO.act (hc := rfl) (he := Ef.setFld (E := BoE) (xs := memS ls.length o) (f := 0) hst 0 true rfl rfl (by omega) (by omega) (fun wd1 hsd1 => WO.done ?_)))))
        rw [Int.toNat_natCast, memS_set hbn] at hsd1
        refine Wp.regionL (l := [0, 1, 2, 3, 4]) (WO.rd (is := [0, 1]) (js := [2, 3, 4]) (Keep.refl _) (Rn.s rfl Yv.mv (Rn.s rfl Yv.mv (Rn.nil))) (WO.app InE [(b : Int)] rfl (fun _ => rfl) hsd1 1 (fitInt (by simp only [List.length_cons, List.length_nil]; omega)) (fun be1 Ae1 ce1 we1 hse1 => WO.rd (is := [4]) (js := []) (Keep.refl _) (Rn.s rfl Yv.as (Rn.nil)) (WO.done ?_))))
        have hse : St w [] we1 [Ch.row InE 3 Ae1 ce1 (o ++ [(b : Int)]), Ch.row BoE 4 (some ⟨ba1, 0, none⟩) ls.length (memS ls.length (o ++ [(b : Int)]))] := hse1
        refine ⟨o ++ [(b : Int)], ⟨rfl, beg_step hbeg (by omega) hbr, by rw [← ordF_step hbs]; exact hord, Ae1, ce1, hse.pick [1, 0], rfl, rfl, rfl, rfl, trivial⟩, still_dec (by omega) hbr.1⟩
  · rintro ρ ds w1 ⟨rfl, O, co, hst, hs⟩
    refine Wp.forget _ ?_ hs
    clear hs ρ
    refine Wp.seq (Wp.seq (Wp.reads (is := [0, 1, 2, 3, 4]) (Keep.refl _) (Rn.s rfl Yv.mv (Rn.s rfl (Yv.len_v (e := 3) (m := 1)) (Rn.s rfl Yv.mv (Rn.s rfl (Yv.len_v (e := 23) (m := 1)) (Rn.s rfl (Yv.cmp _ rfl) (Rn.nil)))))) ?_))
    refine Wp.cond rfl (fun hlt => ?_) (fun hlt => ?_)
    · have hlt := of_decide_eq_true hlt
      refine Wp.seq (Wp.reads (is := [0, 1, 2]) (Keep.refl _) (Rn.s rfl Yv.mv (Rn.s rfl Yv.as (Rn.s rfl Yv.as (Rn.nil)))) ?_)
      refine Wp.ret (Fin.ret (Res.two rfl rfl rfl) ⟨_, _, rfl, ⟨O, co, ?_, rfl⟩, hst⟩)
      rw [hcode, if_pos (by omega)]
    · have hlt := of_decide_eq_false hlt
      refine Wp.skip ?_
      refine Wp.seq (Wp.reads (is := [0, 1, 2]) (Keep.refl _) (Rn.s rfl Yv.mv (Rn.s rfl Yv.as (Rn.s rfl Yv.as (Rn.nil)))) ?_)
      refine Wp.ret (Fin.ret (Res.two rfl rfl rfl) ⟨_, _, rfl, ⟨O, co, ?_, rfl⟩, hst⟩)
      rw [hcode, if_neg (by omega)]
end Go.Proofs.YthbehiflmcljcaaDoor.C
