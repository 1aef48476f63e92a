/- The walks of DiagBack and DiagRight. -/
import Derived.Test.YtkobcbjblllhlaaGreatDoorD4
set_option linter.unusedVariables false
set_option linter.unusedSimpArgs false
set_option maxRecDepth 10000
namespace Go.Proofs.YtkobcbjblllhlaaGreatDoor.C
open Go.RowKit Go.Proofs.YtkobcbjblllhlaaGreatDoor.Sh
def smallB (f : Ft) : Bool := ((((decide (f.line ≤ 999999999999999999) && decide (-999999999999999999 ≤ f.line)) && decide (f.col ≤ 999999999999999999)) && decide (-999999999999999999 ≤ f.col)) && decide (f.code ≤ 999999999999999999)) && decide (-999999999999999999 ≤ f.code)
theorem smallB_of {f : Ft} (h : smallB f = true) : Small f.code ∧ Small f.line ∧ Small f.col := by
  simp only [smallB, Bool.and_eq_true, decide_eq_true_eq] at h
  unfold Small
  omega
theorem small_cv (f : Ft) (w0 : World) : Cv Tryz.prog 13 [.agg f.cs.toArray] (.bool (smallB f)) w0 := by
  intro w hk
  refine calls_of_Wp (vs := [_]) Tryz.func13 ?_
  refine Wp.seq (Wp.regionL (l := [0, 1]) (WO.box rfl (fun b1 w1 k1 g1 c1 => WO.rd (is := [1]) (js := []) ((Keep.refl _).trans k1) (Rn.s rfl Yv.as (Rn.nil)) (WO.done ?_))))
  refine Wp.seq (Wp.reads (is := [0, 1, 2, 3, 4, 5, 6, 7, 8, 9, 10, 11, 12, 13, 14, 15, 16, 17, 18, 19, 20, 21, 22, 23, 24, 25, 26, 27, 28]) (Keep.refl _) (Rn.s rfl (Yv.fa (off := 2)) (Rn.s rfl (Yv.ld (c1.at_ 2)) (Rn.s rfl (Yv.cmp _ rfl) (Rn.s rfl Yv.mv (Rn.and (is := [4, 5, 6, 7]) (js := [8, 9, 10, 11, 12, 13, 14, 15, 16, 17, 18, 19, 20, 21, 22, 23, 24, 25, 26, 27, 28]) (t := 6) (d := 10) (hg := rfl) (ht := fun h3 => have h3 := of_decide_eq_true h3; Rn.s rfl (Yv.fa (off := 2)) (Rn.s rfl (Yv.ld (c1.at_ 2)) (Rn.s rfl (Yv.cmp _ rfl) (Rn.s rfl Yv.pick_t ((Rn.e 4 rfl rfl)))))) (hf := fun _ => Rn.no rfl (Rn.no rfl (Rn.no rfl (Rn.s rfl Yv.pick_f (Rn.e 4 rfl rfl))))) (k := Rn.s rfl Yv.mv (Rn.and (is := [9, 10, 11, 12]) (js := [13, 14, 15, 16, 17, 18, 19, 20, 21, 22, 23, 24, 25, 26, 27, 28]) (t := 11) (d := 15) (hg := rfl) (ht := fun h8 => Rn.s rfl (Yv.fa (off := 3)) (Rn.s rfl (Yv.ld (c1.at_ 3)) (Rn.s rfl (Yv.cmp _ rfl) (Rn.s rfl Yv.pick_t ((Rn.e 4 rfl rfl)))))) (hf := fun _ => Rn.no rfl (Rn.no rfl (Rn.no rfl (Rn.s rfl Yv.pick_f (Rn.e 4 rfl rfl))))) (k := Rn.s rfl Yv.mv (Rn.and (is := [14, 15, 16, 17]) (js := [18, 19, 20, 21, 22, 23, 24, 25, 26, 27, 28]) (t := 16) (d := 20) (hg := rfl) (ht := fun h13 => Rn.s rfl (Yv.fa (off := 3)) (Rn.s rfl (Yv.ld (c1.at_ 3)) (Rn.s rfl (Yv.cmp _ rfl) (Rn.s rfl Yv.pick_t ((Rn.e 4 rfl rfl)))))) (hf := fun _ => Rn.no rfl (Rn.no rfl (Rn.no rfl (Rn.s rfl Yv.pick_f (Rn.e 4 rfl rfl))))) (k := Rn.s rfl Yv.mv (Rn.and (is := [19, 20, 21, 22]) (js := [23, 24, 25, 26, 27, 28]) (t := 21) (d := 25) (hg := rfl) (ht := fun h18 => Rn.s rfl (Yv.fa (off := 0)) (Rn.s rfl (Yv.ld (c1.at_ 0)) (Rn.s rfl (Yv.cmp _ rfl) (Rn.s rfl Yv.pick_t ((Rn.e 4 rfl rfl)))))) (hf := fun _ => Rn.no rfl (Rn.no rfl (Rn.no rfl (Rn.s rfl Yv.pick_f (Rn.e 4 rfl rfl))))) (k := Rn.s rfl Yv.mv (Rn.and (is := [24, 25, 26, 27]) (js := [28]) (t := 26) (d := 30) (hg := rfl) (ht := fun h23 => Rn.s rfl (Yv.fa (off := 0)) (Rn.s rfl (Yv.ld (c1.at_ 0)) (Rn.s rfl (Yv.cmp _ rfl) (Rn.s rfl Yv.pick_t ((Rn.e 4 rfl rfl)))))) (hf := fun _ => Rn.no rfl (Rn.no rfl (Rn.no rfl (Rn.s rfl Yv.pick_f (Rn.e 4 rfl rfl))))) (k := Rn.s rfl Yv.as (Rn.nil))))))))))))))) ?_)
  exact Wp.ret (Fin.ret (Res.one rfl rfl) ⟨rfl, k1⟩)
theorem back_calls (f g : Ft) (hf : f.Ok) (hgo : g.Ok) (lf : f.file.length ≤ 1048576) (w : World) (hg : Gl w) :
    Calls Tryz.prog 4 #[.agg f.cs.toArray, .agg g.cs.toArray] w fun e w' => e = .returned (.bool true) ∧ Keep w w' := by
  refine calls_of_Wp (vs := [_, _]) Tryz.func4 ?_
  refine Wp.seq (Wp.regionL (l := [0, 1, 2]) (WO.box rfl (fun b1 w1 k1 g1 c1 => WO.box rfl (fun b2 w2 k2 g2 c2 => WO.rd (is := [2]) (js := []) (((Keep.refl _).trans k1).trans k2) (Rn.s rfl Yv.as (Rn.nil)) (WO.done ?_)))))
  have kk := k1.trans k2
  have c1 := c1.keep k2
  refine Wp.seq (Wp.seq (Wp.regionL (l := [0, 1, 2, 3, 4, 5, 6, 7]) (WO.rd (is := [0]) (js := [1, 2, 3, 4, 5, 6, 7]) (Keep.refl _) (Rn.s rfl (Yv.ldb c1) (Rn.nil)) (WO.cv rfl (small_cv f _) (Keep.refl _) (FnOk.of Tryz.func13) (fun wa1 ka1 => WO.rd (is := [2, 3]) (js := [4, 5, 6, 7]) ((Keep.refl _).trans ka1) (Rn.s rfl Yv.not (Rn.s rfl Yv.mv (Rn.nil))) (WO.or (js := []) 10 14 (hg := rfl) (hf := fun h3 qa2 => WO.rd (is := [4]) (js := [5, 6, 7]) ((Keep.refl _).trans ka1) (Rn.s rfl (Yv.ldb c2) (Rn.nil)) (WO.cv rfl (small_cv g _) ((Keep.refl _).trans ka1) (FnOk.of Tryz.func13) (fun wa3 ka3 => WO.rd (is := [6, 7]) (js := []) (((Keep.refl _).trans ka1).trans ka3) (Rn.s rfl Yv.not (Rn.s rfl Yv.pick_f (Rn.nil))) (WO.e 4 (qa2 _ ((Keep.refl _).trans ka3)))))) (ht := fun _ qa2 => WO.rd (is := [4, 5, 6, 7]) (js := []) ((Keep.refl _).trans ka1) (Rn.no rfl (Rn.no rfl (Rn.no rfl (Rn.s rfl Yv.pick_t Rn.nil)))) (WO.e 4 (qa2 _ (Keep.refl _)))) (k := fun wa2 ka2 => WO.done ?_)))))))
  have kk := kk.trans (ka1.trans ka2)
  have c1 := c1.keep (ka1.trans ka2)
  have c2 := c2.keep (ka1.trans ka2)
  have hg1 := hg.keep kk
  refine Wp.cond rfl (fun h => ?_) (fun h => ?_)
  · refine Wp.seq (Wp.regionL (l := [0, 1]) (WO.cv rfl (awake_cv _ hg1) (Keep.refl _) (FnOk.of Tryz.func12) (fun wb1 kb1 => WO.rd (is := [1]) (js := []) ((Keep.refl _).trans kb1) (Rn.s rfl Yv.as (Rn.nil)) (WO.done ?_))))
    exact Wp.ret (Fin.ret (Res.one rfl rfl) ⟨rfl, kk.trans kb1⟩)
  have h : smallB f = true ∧ smallB g = true := by simpa using h
  obtain ⟨f1, f2, f3⟩ := smallB_of h.1
  obtain ⟨g1, g2, g3⟩ := smallB_of h.2
  have hl : (textS f).length ≤ 100000000 := by
    have l1 := itoa_len f.line hf.line.1 hf.line.2
    have l2 := itoa_len f.col hf.col.1 hf.col.2
    have l3 := itoa_len f.code hf.code.1 hf.code.2
    have l4 := keyW_len f.file
    simp only [textS, List.length_append, List.length_cons, List.length_nil]
    omega
  refine Wp.skip (Wp.seq (Wp.regionL (l := [0, 1, 2, 3, 4, 5, 6, 7, 8]) (WO.rd (is := [0]) (js := [1, 2, 3, 4, 5, 6, 7, 8]) (Keep.refl _) (Rn.s rfl (Yv.ldb c1) (Rn.nil)) (WO.cv rfl (text_cv f hf _ hg1) (Keep.refl _) (FnOk.of Tryz.func10) (fun wb1 kb1 => WO.cv rfl (parse_cv (textS f) hl _ hg1) ((Keep.refl _).trans kb1) (FnOk.of Tryz.func9) (fun wb2 kb2 => WO.rd (is := [3, 4, 5]) (js := [6, 7, 8]) (((Keep.refl _).trans kb1).trans kb2) (Rn.s rfl Yv.mv (Rn.s rfl Yv.ex (Rn.s rfl Yv.ex (Rn.nil)))) (WO.act (hc := rfl) (he := Ef.allocL (vs := [.int .i64 0, S [], .int .i64 0, .int .i64 0]) (St.init _) (fun bb3 wb3 kb3 hsb3 => WO.act (hc := rfl) (he := Ef.stores hsb3 0 (fun wb4 hsb4 => WO.rd (is := [8]) (js := []) (Keep.refl _) (Rn.s rfl Yv.as (Rn.nil)) (WO.done ?_))))))))))))
  have hs : St wb2 [] wb4 [Ch.cells bb3 24 (parseS (textS f)).1.cs] := hsb4
  have kb := (kb1.trans kb2).trans hs.keep
  rw [parse_text f1 f2 f3] at hs
  rw [parse_text f1 f2 f3]
  have c5 := hs.cells 0
  have c1 := c1.keep kb
  have c2 := c2.keep kb
  have hg2 := hg1.keep kb
  refine Wp.seq (Wp.draws [] mixed (WD.rd (is := [0, 1, 2, 3, 4, 5, 6, 7]) (fun _ _ _ _ _ h => h) (Keep.drew _) (Rn.s rfl Yv.mv (Rn.s rfl (Yv.cmp _ rfl) (Rn.s rfl Yv.mv (Rn.and (is := [3, 4, 5, 6]) (js := [7]) (t := 24) (d := 28) (hg := rfl) (ht := fun h2 => have h2 := eq_of_beq h2; Rn.s rfl (Yv.ldb c5) (Rn.s rfl (Yv.ldb c1) (Rn.s rfl (Yv.eqs (ftEq _ _)) (Rn.s rfl Yv.pick_t ((Rn.e 4 rfl rfl)))))) (hf := fun _ => Rn.no rfl (Rn.no rfl (Rn.no rfl (Rn.s rfl Yv.pick_f (Rn.e 4 rfl rfl))))) (k := Rn.s rfl Yv.mv (Rn.nil)))))) (WD.and [8, 9, 10, 11, 12, 13, 14, 15, 16, 17] 29 39 (hg := rfl) (ht := fun h7 qc1 => WD.rd (is := [8, 10, 13, 14, 15]) (fun _ _ _ _ _ h => h) (Keep.drew _) (Rn.s rfl (Yv.ldb c1) (Rn.s rfl (Yv.ldb c2) (Rn.s rfl (Yv.ldb c1) (Rn.s rfl (Yv.ldb c2) (Rn.s rfl (Yv.eqs (ftEq _ _)) (Rn.nil)))))) (WD.cv 9 rfl (text_cv f hf _ hg2) (Keep.drew _) (FnOk.of Tryz.func10) (fun wc2 kc2 => WD.cv 11 rfl (text_cv g hgo _ hg2) ((Keep.drew _).trans kc2) (FnOk.of Tryz.func10) (fun wc3 kc3 => WD.rd (is := [12, 16, 17]) (fun _ _ _ _ _ h => h) (((Keep.drew _).trans kc2).trans kc3) (Rn.s rfl (Yv.scm _ rfl) (Rn.s rfl (Yv.bcm _ rfl) (Rn.s rfl Yv.pick_t (Rn.nil)))) (WD.e 10 (qc1 _ (((Keep.refl _).trans kc2).trans kc3))))))) (hf := fun _ qc1 => WD.rd (is := [8, 9, 10, 11, 12, 13, 14, 15, 16, 17]) (fun _ _ _ _ _ h => h) (Keep.drew _) (Rn.no rfl (Rn.no rfl (Rn.no rfl (Rn.no rfl (Rn.no rfl (Rn.no rfl (Rn.no rfl (Rn.no rfl (Rn.no rfl (Rn.s rfl Yv.pick_f Rn.nil)))))))))) (WD.e 10 (qc1 _ (Keep.refl _)))) (k := fun wc1 kc1 => WD.rd (is := [18]) (fun _ _ _ _ _ h => h) ((Keep.drew _).trans kc1) (Rn.s rfl Yv.mv (Rn.nil)) (WD.and [19, 20] 40 42 (hg := rfl) (ht := fun h18 qc4 => WD.cv 19 rfl (awake_cv _ hg2) ((Keep.drew _).trans kc1) (FnOk.of Tryz.func12) (fun wc5 kc5 => WD.rd (is := [20]) (fun _ _ _ _ _ h => h) (((Keep.drew _).trans kc1).trans kc5) (Rn.s rfl Yv.pick_t (Rn.nil)) (WD.e 2 (qc4 _ ((Keep.refl _).trans kc5))))) (hf := fun _ qc4 => WD.rd (is := [19, 20]) (fun _ _ _ _ _ h => h) ((Keep.drew _).trans kc1) (Rn.no rfl (Rn.s rfl Yv.pick_f Rn.nil)) (WD.e 2 (qc4 _ (Keep.refl _)))) (k := fun wc4 kc4 => WD.rd (is := [21]) (fun _ _ _ _ _ h => h) (((Keep.drew _).trans kc1).trans kc4) (Rn.s rfl Yv.as (Rn.nil)) (WD.done ?_)))))))
  refine Wp.ret (Fin.ret (Res.one rfl rfl) ⟨?_, ?_⟩)
  · have : ((textS f == textS g) == decide (f = g)) = true := by
      by_cases e : f = g
      · subst e; simp
      · have : textS f ≠ textS g := fun h => e (text_inj f1 f2 f3 g1 g2 g3 h)
        simp [e, this]
    simp [this]
  · refine ((kk.trans kb).trans (Keep.drew _)).trans ?_
    exact kc1.trans kc4
theorem numS_in (s : Bs) : inI (numS s).1 := by
  unfold numS
  cases h : Lib.atoiAll s with
  | ok v => exact inI_of_ok h
  | _ => exact badS_in s
theorem read_ok {s : Bs} {f : Ft} (hl : s.length ≤ 1048576) (h : readS s = some f) : f.Ok := by
  have hfl : (fileS s).1.length ≤ s.length := by
    have hq := quoteR_bd s
    unfold fileS
    split
    · split
      · exact hq.2.2
      · exact Nat.zero_le _
    · simp only [Lib.cut]
      split
      · simp only [List.length_take]; omega
      · exact Nat.le_refl _
  unfold readS at h
  simp only at h
  split at h
  · split at h
    · cases h
    split at h
    · injection h with h
      subst h
      exact ⟨numS_in _, numS_in _, numS_in _, by simp only; omega⟩
    · cases h
  · cases h
theorem right_calls (s : Bs) (hl : s.length ≤ 1048576) (w : World) (hg : Gl w) :
    Calls Tryz.prog 5 #[S s] w fun e w' => e = .returned (.bool true) ∧ Keep w w' := by
  refine calls_of_Wp (vs := [_]) Tryz.func5 ?_
  refine Wp.seq (Wp.reads (is := [0]) (Keep.refl _) (Rn.s rfl Yv.as (Rn.nil)) ?_)
  refine Wp.seq (Wp.regionL (l := [0, 1, 2, 3, 4, 5, 6, 7]) (WO.rd (is := [0]) (js := [1, 2, 3, 4, 5, 6, 7]) (Keep.refl _) (Rn.s rfl Yv.mv (Rn.nil)) (WO.cv rfl (parse_cv s (by omega) _ hg) (Keep.refl _) (FnOk.of Tryz.func9) (fun wb1 kb1 => WO.rd (is := [2, 3, 4]) (js := [5, 6, 7]) ((Keep.refl _).trans kb1) (Rn.s rfl Yv.mv (Rn.s rfl Yv.ex (Rn.s rfl Yv.ex (Rn.nil)))) (WO.act (hc := rfl) (he := Ef.allocL (vs := [.int .i64 0, S [], .int .i64 0, .int .i64 0]) (St.init _) (fun bb2 wb2 kb2 hsb2 => WO.act (hc := rfl) (he := Ef.stores hsb2 0 (fun wb3 hsb3 => WO.rd (is := [7]) (js := []) (Keep.refl _) (Rn.s rfl Yv.as (Rn.nil)) (WO.done ?_))))))))))
  have hs : St wb1 [] wb3 [Ch.cells bb2 24 (parseS s).1.cs] := hsb3
  have c3 := hs.cells 0
  have kb := kb1.trans hs.keep
  have hg1 := hg.keep kb
  refine Wp.seq (Wp.seq (Wp.reads (is := [0, 1]) (Keep.refl _) (Rn.s rfl Yv.mv (Rn.s rfl (Yv.cmp _ rfl) (Rn.nil))) ?_))
  cases hr : readS s with
  | none =>
    have e : parseS s = (⟨0, [], 0, 0⟩, 30) := by simp only [parseS, hr]
    rw [e] at c3 ⊢
    refine Wp.cond_t rfl ?_
    refine Wp.seq (Wp.regionL (l := [0, 1, 2, 3, 4, 5, 6, 7, 8, 9, 10]) (WO.rd (is := [0, 1, 2, 3, 4, 5, 6, 7]) (js := [8, 9, 10]) (Keep.refl _) (Rn.s rfl Yv.mv (Rn.s rfl (Yv.cmp _ rfl) (Rn.s rfl Yv.mv (Rn.and (is := [3, 4, 5, 6]) (js := [7]) (t := 14) (d := 18) (hg := rfl) (ht := fun h2 => have h2 := eq_of_beq h2; Rn.s rfl (Yv.ldb c3) (Rn.s rfl (Yv.bd (cs := Ft.cs ⟨0, [], 0, 0⟩)) (Rn.s rfl (Yv.eqs (ftEq _ _)) (Rn.s rfl Yv.pick_t ((Rn.e 4 rfl rfl)))))) (hf := fun _ => Rn.no rfl (Rn.no rfl (Rn.no rfl (Rn.s rfl Yv.pick_f (Rn.e 4 rfl rfl))))) (k := Rn.s rfl Yv.mv (Rn.nil)))))) (WO.and (js := [10]) 19 21 (hg := rfl) (ht := fun h7 qc1 => WO.cv rfl (awake_cv _ hg1) (Keep.refl _) (FnOk.of Tryz.func12) (fun wc2 kc2 => WO.rd (is := [9]) (js := [10]) ((Keep.refl _).trans kc2) (Rn.s rfl Yv.pick_t (Rn.nil)) (WO.e 2 (qc1 _ ((Keep.refl _).trans kc2))))) (hf := fun _ qc1 => WO.rd (is := [8, 9]) (js := [10]) (Keep.refl _) (Rn.no rfl (Rn.s rfl Yv.pick_f Rn.nil)) (WO.e 2 (qc1 _ (Keep.refl _)))) (k := fun wc1 kc1 => WO.rd (is := [10]) (js := []) ((Keep.refl _).trans kc1) (Rn.s rfl Yv.as (Rn.nil)) (WO.done ?_)))))
    exact Wp.ret (Fin.ret (Res.one rfl rfl) ⟨by simp, kb.trans kc1⟩)
  | some f =>
    have e : parseS s = (f, 0) := by simp only [parseS, hr]
    have ht := read_text hr
    rw [e] at c3 ⊢
    refine Wp.cond_f rfl (Wp.skip ?_)
    have hf : f.Ok := read_ok hl hr
    refine Wp.seq (Wp.regionL (l := [0, 1, 2, 3, 4, 5, 6, 7]) (WO.rd (is := [0]) (js := [1, 2, 3, 4, 5, 6, 7]) (Keep.refl _) (Rn.s rfl (Yv.ldb c3) (Rn.nil)) (WO.cv rfl (text_cv f hf _ hg1) (Keep.refl _) (FnOk.of Tryz.func10) (fun wc1 kc1 => WO.rd (is := [2, 3, 4]) (js := [5, 6, 7]) ((Keep.refl _).trans kc1) (Rn.s rfl Yv.mv (Rn.s rfl (Yv.scm _ rfl) (Rn.s rfl Yv.mv (Rn.nil)))) (WO.and (js := [7]) 26 28 (hg := rfl) (ht := fun h4 qc2 => WO.cv rfl (awake_cv _ hg1) ((Keep.refl _).trans kc1) (FnOk.of Tryz.func12) (fun wc3 kc3 => WO.rd (is := [6]) (js := [7]) (((Keep.refl _).trans kc1).trans kc3) (Rn.s rfl Yv.pick_t (Rn.nil)) (WO.e 2 (qc2 _ ((Keep.refl _).trans kc3))))) (hf := fun _ qc2 => WO.rd (is := [5, 6]) (js := [7]) ((Keep.refl _).trans kc1) (Rn.no rfl (Rn.s rfl Yv.pick_f Rn.nil)) (WO.e 2 (qc2 _ (Keep.refl _)))) (k := fun wc2 kc2 => WO.rd (is := [7]) (js := []) (((Keep.refl _).trans kc1).trans kc2) (Rn.s rfl Yv.as (Rn.nil)) (WO.done ?_)))))))
    rw [ht]
    exact Wp.ret (Fin.ret (Res.one rfl rfl) ⟨by simp, kb.trans (kc1.trans kc2)⟩)
end Go.Proofs.YtkobcbjblllhlaaGreatDoor.C
