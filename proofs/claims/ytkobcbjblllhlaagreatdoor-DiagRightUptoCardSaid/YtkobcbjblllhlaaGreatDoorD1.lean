/- The order of faults: the walk of DiagOrder. -/
import Derived.Test.YtkobcbjblllhlaaGreatDoorD0
set_option linter.unusedVariables false
set_option linter.unusedSimpArgs false
set_option maxRecDepth 10000
namespace Go.Proofs.YtkobcbjblllhlaaGreatDoor.C
open Go.RowKit Go.Proofs.YtkobcbjblllhlaaGreatDoor.Sh
theorem order_calls (a b c : Ft) (w : World) (hg : Gl w) : Calls Tryz.prog 6 #[.agg a.cs.toArray, .agg b.cs.toArray, .agg c.cs.toArray] w fun e w' => e = .returned (.bool true) ∧ Keep w w' := by
  refine calls_of_Wp (vs := [_, _, _]) Tryz.func6 ?_
  refine Wp.seq (Wp.regionL (l := [0, 1, 2, 3]) (WO.box rfl (fun bx1 wx1 kx1 gx1 cx1 => WO.box rfl (fun bx2 wx2 kx2 gx2 cx2 => WO.box rfl (fun bx3 wx3 kx3 gx3 cx3 => WO.rd (is := [3]) (js := []) ((((Keep.refl _).trans kx1).trans kx2).trans kx3) (Rn.s rfl Yv.as (Rn.nil)) (WO.done ?_))))))
  have kk := (kx1.trans kx2).trans kx3
  have c1 := (cx1.keep kx2).keep kx3
  have c2 := cx2.keep kx3
  have c3 := cx3
  refine Wp.seq (Wp.draws [] mixed (WD.rd (is := [0, 1, 3, 4]) (fun _ _ _ _ _ h => h) (Keep.drew _) (Rn.s rfl (Yv.ldb c1) (Rn.s rfl (Yv.ldb c2) (Rn.s rfl (Yv.ldb c2) (Rn.s rfl (Yv.ldb c1) (Rn.nil))))) (WD.cv 2 rfl (less_cv a b _) (Keep.drew _) (FnOk.of Tryz.func14) (fun wy1 ky1 => WD.cv 5 rfl (less_cv b a _) ((Keep.drew _).trans ky1) (FnOk.of Tryz.func14) (fun wy2 ky2 => WD.rd (is := [6, 7]) (fun _ _ _ _ _ h => h) (((Keep.drew _).trans ky1).trans ky2) (Rn.s rfl Yv.as (Rn.s rfl Yv.as (Rn.nil))) (WD.done ?_))))))
  have ky := ((Keep.drew _).trans ky1).trans ky2
  refine Wp.seq (Wp.seq (Wp.regionL (l := [0, 1, 2, 3, 4, 5, 6, 7, 8, 9, 10, 11, 12, 13, 14, 15, 16, 17, 18, 19, 20, 21, 22, 23, 24, 25, 26, 27, 28, 29, 30, 31, 32, 33, 34]) (WO.rd (is := [0, 1, 2, 3, 4, 5, 6, 7, 8, 9, 10, 11, 12, 13, 14, 15, 16]) (js := [17, 18, 19, 20, 21, 22, 23, 24, 25, 26, 27, 28, 29, 30, 31, 32, 33, 34]) ky (Rn.s rfl Yv.mv (Rn.s rfl Yv.mv (Rn.and (is := [2, 3]) (js := [4, 5, 6, 7, 8, 9, 10, 11, 12, 13, 14, 15, 16]) (t := 18) (d := 20) (hg := rfl) (ht := fun h1 => Rn.s rfl Yv.mv (Rn.s rfl Yv.pick_t ((Rn.e 2 rfl rfl)))) (hf := fun _ => Rn.no rfl (Rn.s rfl Yv.pick_f (Rn.e 2 rfl rfl))) (k := Rn.s rfl Yv.mv (Rn.or (is := [5, 6, 7, 8, 9, 10, 11, 12, 13, 14, 15]) (js := [16]) (t := 21) (d := 32) (hg := rfl) (hf := fun h4 => Rn.s rfl Yv.mv (Rn.s rfl Yv.not (Rn.s rfl Yv.mv (Rn.and (is := [8, 9, 10]) (js := [11, 12, 13, 14, 15]) (t := 24) (d := 27) (hg := rfl) (ht := fun h7 => Rn.s rfl Yv.mv (Rn.s rfl Yv.not (Rn.s rfl Yv.pick_t ((Rn.e 3 rfl rfl))))) (hf := fun _ => Rn.no rfl (Rn.no rfl (Rn.s rfl Yv.pick_f (Rn.e 3 rfl rfl)))) (k := Rn.s rfl (Yv.ldb c1) (Rn.s rfl (Yv.ldb c2) (Rn.s rfl (Yv.eqs (ftEq _ _)) (Rn.s rfl (Yv.bcm _ rfl) (Rn.s rfl Yv.pick_f ((Rn.e 9 rfl rfl))))))))))) (ht := fun _ => Rn.no rfl (Rn.no rfl (Rn.no rfl (Rn.no rfl (Rn.no rfl (Rn.no rfl (Rn.no rfl (Rn.no rfl (Rn.no rfl (Rn.no rfl (Rn.s rfl Yv.pick_t (Rn.e 11 rfl rfl)))))))))))) (k := Rn.s rfl Yv.mv (Rn.nil))))))) (WO.or (js := [30, 31, 32, 33, 34]) 33 46 (hg := rfl) (hf := fun h16 qz1 => WO.rd (is := [17, 18]) (js := [19, 20, 21, 22, 23, 24, 25, 26, 27, 28, 29, 30, 31, 32, 33, 34]) ky (Rn.s rfl Yv.mv (Rn.s rfl Yv.mv (Rn.nil))) (WO.and (js := [23, 24, 25, 26, 27, 28, 29, 30, 31, 32, 33, 34]) 35 39 (hg := rfl) (ht := fun h18 qz2 => WO.rd (is := [19, 20]) (js := [21, 22, 23, 24, 25, 26, 27, 28, 29, 30, 31, 32, 33, 34]) ky (Rn.s rfl (Yv.ldb c2) (Rn.s rfl (Yv.ldb c3) (Rn.nil))) (WO.cv rfl (less_cv b c _) ky (FnOk.of Tryz.func14) (fun wz3 kz3 => WO.rd (is := [22]) (js := [23, 24, 25, 26, 27, 28, 29, 30, 31, 32, 33, 34]) (ky.trans kz3) (Rn.s rfl Yv.pick_t (Rn.nil)) (WO.e 4 (qz2 _ ((Keep.refl _).trans kz3)))))) (hf := fun _ qz2 => WO.rd (is := [19, 20, 21, 22]) (js := [23, 24, 25, 26, 27, 28, 29, 30, 31, 32, 33, 34]) ky (Rn.no rfl (Rn.no rfl (Rn.no rfl (Rn.s rfl Yv.pick_f Rn.nil)))) (WO.e 4 (qz2 _ (Keep.refl _)))) (k := fun wz2 kz2 => WO.rd (is := [23]) (js := [24, 25, 26, 27, 28, 29, 30, 31, 32, 33, 34]) (ky.trans kz2) (Rn.s rfl Yv.mv (Rn.nil)) (WO.and (js := [29, 30, 31, 32, 33, 34]) 40 45 (hg := rfl) (ht := fun h23 qz4 => WO.rd (is := [24, 25]) (js := [26, 27, 28, 29, 30, 31, 32, 33, 34]) (ky.trans kz2) (Rn.s rfl (Yv.ldb c1) (Rn.s rfl (Yv.ldb c3) (Rn.nil))) (WO.cv rfl (less_cv a c _) (ky.trans kz2) (FnOk.of Tryz.func14) (fun wz5 kz5 => WO.rd (is := [27, 28]) (js := [29, 30, 31, 32, 33, 34]) ((ky.trans kz2).trans kz5) (Rn.s rfl Yv.not (Rn.s rfl Yv.pick_t (Rn.nil))) (WO.e 5 (qz4 _ ((Keep.refl _).trans kz5)))))) (hf := fun _ qz4 => WO.rd (is := [24, 25, 26, 27, 28]) (js := [29, 30, 31, 32, 33, 34]) (ky.trans kz2) (Rn.no rfl (Rn.no rfl (Rn.no rfl (Rn.no rfl (Rn.s rfl Yv.pick_f Rn.nil))))) (WO.e 5 (qz4 _ (Keep.refl _)))) (k := fun wz4 kz4 => WO.rd (is := [29]) (js := [30, 31, 32, 33, 34]) ((ky.trans kz2).trans kz4) (Rn.s rfl Yv.pick_f (Rn.nil)) (WO.e 6 (qz1 _ (((Keep.refl _).trans kz2).trans kz4)))))))) (ht := fun _ qz1 => WO.rd (is := [17, 18, 19, 20, 21, 22, 23, 24, 25, 26, 27, 28, 29]) (js := [30, 31, 32, 33, 34]) ky (Rn.no rfl (Rn.no rfl (Rn.no rfl (Rn.no rfl (Rn.no rfl (Rn.no rfl (Rn.no rfl (Rn.no rfl (Rn.no rfl (Rn.no rfl (Rn.no rfl (Rn.no rfl (Rn.s rfl Yv.pick_t Rn.nil))))))))))))) (WO.e 13 (qz1 _ (Keep.refl _)))) (k := fun wz1 kz1 => WO.rd (is := [30]) (js := [31, 32, 33, 34]) (ky.trans kz1) (Rn.s rfl Yv.mv (Rn.nil)) (WO.or (js := []) 47 51 (hg := rfl) (hf := fun h30 qz6 => WO.rd (is := [31, 32]) (js := [33, 34]) (ky.trans kz1) (Rn.s rfl (Yv.ldb c1) (Rn.s rfl (Yv.ldb c1) (Rn.nil))) (WO.cv rfl (less_cv a a _) (ky.trans kz1) (FnOk.of Tryz.func14) (fun wz7 kz7 => WO.rd (is := [34]) (js := []) ((ky.trans kz1).trans kz7) (Rn.s rfl Yv.pick_f (Rn.nil)) (WO.e 4 (qz6 _ ((Keep.refl _).trans kz7)))))) (ht := fun _ qz6 => WO.rd (is := [31, 32, 33, 34]) (js := []) (ky.trans kz1) (Rn.no rfl (Rn.no rfl (Rn.no rfl (Rn.s rfl Yv.pick_t Rn.nil)))) (WO.e 4 (qz6 _ (Keep.refl _)))) (k := fun wz6 kz6 => WO.done ?_)))))))
  simp only [less_eq]
  refine Wp.cond rfl (fun h => ?_) (fun h => ?_)
  · exfalso
    revert h
    simp only [rless_irrefl]
    by_cases hab : a = b
    · subst hab
      simp [rless_irrefl]
    · rw [rless_flip a b hab]
      cases h1 : rlessB b a
      · have h1' : rlessB a b = true := by rw [rless_flip a b hab, h1]; rfl
        cases h2 : rlessB b c
        · simp [hab]
        · simp [hab, rless_trans a b c h1' h2]
      · simp [hab]
  have kz := (ky.trans kz1).trans kz6
  have kA := kk.trans kz
  have c1 := c1.keep kz
  have c2 := c2.keep kz
  have hg := hg.keep kA
  obtain ⟨d, hd⟩ : ∃ d : Ft, d = ⟨a.code, a.file, b.line, a.col⟩ := ⟨_, rfl⟩
  obtain ⟨e, he⟩ : ∃ e : Ft, e = ⟨a.code, a.file, b.line, b.col⟩ := ⟨_, rfl⟩
  refine Wp.skip (Wp.seq (Wp.regionL (l := [0, 1, 2]) (WO.rd (is := [0]) (js := [1, 2]) (Keep.refl _) (Rn.s rfl (Yv.ldb c1) (Rn.nil)) (WO.act (hc := rfl) (he := Ef.allocL (vs := [.int .i64 0, S [], .int .i64 0, .int .i64 0]) (St.init _) (fun bp1 wp1 kp1 hsp1 => WO.act (hc := rfl) (he := Ef.stores hsp1 0 (fun wp2 hsp2 => WO.done ?_))))))))
  refine Wp.seq (Wp.regionL (l := [0, 1, 2, 3]) (WO.rd (is := [0, 1, 2]) (js := [3]) hsp2.keep (Rn.s rfl (Yv.fa (off := 2)) (Rn.s rfl (Yv.ld (c2.at_ 2)) (Rn.s rfl (Yv.fa (off := 2)) (Rn.nil)))) (WO.act (hc := rfl) (he := Ef.store hsp2 0 (fun wq1 hsq1 => WO.done ?_)))))
  have hd1 : St wz6 [] wq1 [Ch.cells bp1 24 d.cs] := by rw [hd]; exact hsq1
  refine Wp.seq (Wp.regionL (l := [0, 1, 2]) (WO.rd (is := [0]) (js := [1, 2]) (Keep.refl _) (Rn.s rfl (Yv.ldb (hd1.cells 0)) (Rn.nil)) (WO.act (hc := rfl) (he := Ef.allocL (vs := [.int .i64 0, S [], .int .i64 0, .int .i64 0]) hd1 (fun br1 wr1 kr1 hsr1 => WO.act (hc := rfl) (he := Ef.stores hsr1 0 (fun wr2 hsr2 => WO.done ?_)))))))
  have c2' := c2.keep hsr2.keep
  refine Wp.seq (Wp.regionL (l := [0, 1, 2, 3]) (WO.rd (is := [0, 1, 2]) (js := [3]) (Keep.refl _) (Rn.s rfl (Yv.fa (off := 3)) (Rn.s rfl (Yv.ld (c2'.at_ 3)) (Rn.s rfl (Yv.fa (off := 3)) (Rn.nil)))) (WO.act (hc := rfl) (he := Ef.store hsr2 0 (fun ws1 hss1 => WO.done ?_)))))
  have he1 : St wz6 [] ws1 [Ch.cells br1 24 e.cs, Ch.cells bp1 24 d.cs] := by rw [he]; rw [hd] at *; exact hss1
  have c1' := c1.keep he1.keep
  have c9 := he1.cells 1
  have c10 := he1.cells 0
  refine Wp.seq (Wp.seq (Wp.draws [] mixed (WD.rd (is := [0, 1, 2, 3, 4, 5]) (fun _ _ _ _ _ h => h) (Keep.drew _) (Rn.s rfl (Yv.fa (off := 2)) (Rn.s rfl (Yv.ld (c9.at_ 2)) (Rn.s rfl (Yv.fa (off := 2)) (Rn.s rfl (Yv.ld (c1'.at_ 2)) (Rn.s rfl (Yv.cmp _ rfl) (Rn.s rfl Yv.mv (Rn.nil))))))) (WD.and [6, 7, 8, 9, 10, 11, 12, 13, 14, 15] 65 75 (hg := rfl) (ht := fun h5 qt1 => have h5 := bne_iff_ne.1 h5; WD.rd (is := [6, 7, 9, 10, 11, 12, 13]) (fun _ _ _ _ _ h => h) (Keep.drew _) (Rn.s rfl (Yv.ldb c1') (Rn.s rfl (Yv.ldb c9) (Rn.s rfl (Yv.fa (off := 2)) (Rn.s rfl (Yv.ld (c1'.at_ 2)) (Rn.s rfl (Yv.fa (off := 2)) (Rn.s rfl (Yv.ld (c9.at_ 2)) (Rn.s rfl (Yv.cmp _ rfl) (Rn.nil)))))))) (WD.cv 8 rfl (less_cv a d _) (Keep.drew _) (FnOk.of Tryz.func14) (fun wt2 kt2 => WD.rd (is := [14, 15]) (fun _ _ _ _ _ h => h) ((Keep.drew _).trans kt2) (Rn.s rfl (Yv.bcm _ rfl) (Rn.s rfl Yv.pick_t (Rn.nil))) (WD.e 10 (qt1 _ ((Keep.refl _).trans kt2)))))) (hf := fun _ qt1 => WD.rd (is := [6, 7, 8, 9, 10, 11, 12, 13, 14, 15]) (fun _ _ _ _ _ h => h) (Keep.drew _) (Rn.no rfl (Rn.no rfl (Rn.no rfl (Rn.no rfl (Rn.no rfl (Rn.no rfl (Rn.no rfl (Rn.no rfl (Rn.no rfl (Rn.s rfl Yv.pick_f Rn.nil)))))))))) (WD.e 10 (qt1 _ (Keep.refl _)))) (k := fun wt1 kt1 => WD.rd (is := [16]) (fun _ _ _ _ _ h => h) ((Keep.drew _).trans kt1) (Rn.s rfl Yv.mv (Rn.nil)) (WD.or [17, 18, 19, 20, 21, 22, 23, 24, 25, 26, 27, 28, 29, 30, 31, 32, 33] 76 93 (hg := rfl) (hf := fun h16 qt3 => WD.rd (is := [17, 18, 19, 20, 21, 22]) (fun _ _ _ _ _ h => h) ((Keep.drew _).trans kt1) (Rn.s rfl (Yv.fa (off := 3)) (Rn.s rfl (Yv.ld (c10.at_ 3)) (Rn.s rfl (Yv.fa (off := 3)) (Rn.s rfl (Yv.ld (c9.at_ 3)) (Rn.s rfl (Yv.cmp _ rfl) (Rn.s rfl Yv.mv (Rn.nil))))))) (WD.and [23, 24, 25, 26, 27, 28, 29, 30, 31, 32] 82 92 (hg := rfl) (ht := fun h22 qt4 => have h22 := bne_iff_ne.1 h22; WD.rd (is := [23, 24, 26, 27, 28, 29, 30]) (fun _ _ _ _ _ h => h) ((Keep.drew _).trans kt1) (Rn.s rfl (Yv.ldb c9) (Rn.s rfl (Yv.ldb c10) (Rn.s rfl (Yv.fa (off := 3)) (Rn.s rfl (Yv.ld (c9.at_ 3)) (Rn.s rfl (Yv.fa (off := 3)) (Rn.s rfl (Yv.ld (c10.at_ 3)) (Rn.s rfl (Yv.cmp _ rfl) (Rn.nil)))))))) (WD.cv 25 rfl (less_cv d e _) ((Keep.drew _).trans kt1) (FnOk.of Tryz.func14) (fun wt5 kt5 => WD.rd (is := [31, 32]) (fun _ _ _ _ _ h => h) (((Keep.drew _).trans kt1).trans kt5) (Rn.s rfl (Yv.bcm _ rfl) (Rn.s rfl Yv.pick_t (Rn.nil))) (WD.e 10 (qt4 _ ((Keep.refl _).trans kt5)))))) (hf := fun _ qt4 => WD.rd (is := [23, 24, 25, 26, 27, 28, 29, 30, 31, 32]) (fun _ _ _ _ _ h => h) ((Keep.drew _).trans kt1) (Rn.no rfl (Rn.no rfl (Rn.no rfl (Rn.no rfl (Rn.no rfl (Rn.no rfl (Rn.no rfl (Rn.no rfl (Rn.no rfl (Rn.s rfl Yv.pick_f Rn.nil)))))))))) (WD.e 10 (qt4 _ (Keep.refl _)))) (k := fun wt4 kt4 => WD.rd (is := [33]) (fun _ _ _ _ _ h => h) (((Keep.drew _).trans kt1).trans kt4) (Rn.s rfl Yv.pick_f (Rn.nil)) (WD.e 8 (qt3 _ ((Keep.refl _).trans kt4)))))) (ht := fun _ qt3 => WD.rd (is := [17, 18, 19, 20, 21, 22, 23, 24, 25, 26, 27, 28, 29, 30, 31, 32, 33]) (fun _ _ _ _ _ h => h) ((Keep.drew _).trans kt1) (Rn.no rfl (Rn.no rfl (Rn.no rfl (Rn.no rfl (Rn.no rfl (Rn.no rfl (Rn.no rfl (Rn.no rfl (Rn.no rfl (Rn.no rfl (Rn.no rfl (Rn.no rfl (Rn.no rfl (Rn.no rfl (Rn.no rfl (Rn.no rfl (Rn.s rfl Yv.pick_t Rn.nil))))))))))))))))) (WD.e 17 (qt3 _ (Keep.refl _)))) (k := fun wt3 kt3 => WD.done ?_)))))))
  have hkt := he1.keep.trans ((Keep.drew _).trans (kt1.trans kt3))
  refine Wp.cond rfl (fun h => ?_) (fun h => ?_)
  · exfalso
    have f1 : (lessB a d != decide (a.line < d.line)) = true → d.line ≠ a.line → False := by
      intro q1 q2
      rw [less_eq] at q1
      have q3 : a.line ≠ b.line := by rw [hd] at q2; exact fun e => q2 e.symm
      have : rlessB a d = decide (a.line < d.line) := by rw [hd]; simp [rlessB, q3]
      simp [this] at q1
    have f2 : (lessB d e != decide (d.col < e.col)) = true → e.col ≠ d.col → False := by
      intro q1 q2
      rw [less_eq] at q1
      have q3 : a.col ≠ b.col := by rw [hd, he] at q2; exact fun e => q2 e.symm
      have : rlessB d e = decide (d.col < e.col) := by rw [hd, he]; simp [rlessB, q3]
      simp [this] at q1
    simp only [Bool.or_eq_true, Bool.and_eq_true] at h
    rcases h with ⟨q1, q2⟩ | ⟨q1, q2⟩
    · exact f1 q2 (bne_iff_ne.1 q1)
    · exact f2 q2 (bne_iff_ne.1 q1)
  have c1'' := c1.keep hkt
  have c2'' := c2.keep hkt
  refine Wp.skip (Wp.seq (Wp.regionL (l := [0, 1, 2, 3, 4, 5, 6, 7, 8, 9, 10, 11, 12, 13, 14, 15, 16, 17]) (WO.rd (is := [0, 1, 2, 3, 4, 5, 6, 7, 8, 9, 10, 11, 12, 13, 14]) (js := [15, 16, 17]) (Keep.refl _) (Rn.s rfl (Yv.fa (off := 1)) (Rn.s rfl (Yv.ld (c1''.at_ 1)) (Rn.s rfl (Yv.fa (off := 1)) (Rn.s rfl (Yv.ld (c2''.at_ 1)) (Rn.s rfl (Yv.scm _ rfl) (Rn.s rfl Yv.mv (Rn.or (is := [6, 7, 8, 9, 10, 11, 12, 13]) (js := [14]) (t := 99) (d := 107) (hg := rfl) (hf := fun h5 => Rn.s rfl Yv.mv (Rn.s rfl (Yv.fa (off := 1)) (Rn.s rfl (Yv.ld (c1''.at_ 1)) (Rn.s rfl (Yv.fa (off := 1)) (Rn.s rfl (Yv.ld (c2''.at_ 1)) (Rn.s rfl (Yv.scm _ rfl) (Rn.s rfl (Yv.bcm _ rfl) (Rn.s rfl Yv.pick_f ((Rn.e 8 rfl rfl)))))))))) (ht := fun _ => Rn.no rfl (Rn.no rfl (Rn.no rfl (Rn.no rfl (Rn.no rfl (Rn.no rfl (Rn.no rfl (Rn.s rfl Yv.pick_t (Rn.e 8 rfl rfl))))))))) (k := Rn.s rfl Yv.mv (Rn.nil))))))))) (WO.and (js := [17]) 108 110 (hg := rfl) (ht := fun h14 qu1 => WO.cv rfl (awake_cv _ (hg.keep hkt)) (Keep.refl _) (FnOk.of Tryz.func12) (fun wu2 ku2 => WO.rd (is := [16]) (js := [17]) ((Keep.refl _).trans ku2) (Rn.s rfl Yv.pick_t (Rn.nil)) (WO.e 2 (qu1 _ ((Keep.refl _).trans ku2))))) (hf := fun _ qu1 => WO.rd (is := [15, 16]) (js := [17]) (Keep.refl _) (Rn.no rfl (Rn.s rfl Yv.pick_f Rn.nil)) (WO.e 2 (qu1 _ (Keep.refl _)))) (k := fun wu1 ku1 => WO.rd (is := [17]) (js := []) ((Keep.refl _).trans ku1) (Rn.s rfl Yv.as (Rn.nil)) (WO.done ?_))))))
  refine Wp.ret (Fin.ret (Res.one rfl rfl) ⟨?_, (kA.trans hkt).trans ku1⟩)
  have : (a.file == b.file || rlessB a b == Op.bytesLess a.file b.file) = true := by
    by_cases q : a.file = b.file
    · simp [q]
    · simp [rlessB, q]
  rw [this]
  rfl
end Go.Proofs.YtkobcbjblllhlaaGreatDoor.C
