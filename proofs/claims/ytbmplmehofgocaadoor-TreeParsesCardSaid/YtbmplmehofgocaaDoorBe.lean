/- The law's awake, of chapter 4. -/
import Derived.Test.YtbmplmehofgocaaDoorBd
set_option linter.unusedVariables false
set_option linter.unusedSimpArgs false
set_option maxRecDepth 100000
namespace Go.Proofs.YtbmplmehofgocaaDoor.C
open Go.RowKit Go.Proofs.YtbmplmehofgocaaDoor.Sh
def tx1 : Bs := [97, 58, 10, 32, 32, 45, 32, 120, 10, 98, 58, 32, 49]
def tx2 : Bs := [97, 58, 32, 49, 10, 32, 32, 98, 58, 32, 50]
def tree1 : List Nd := [⟨1, 0, [], [], [102], 0, 0, 0⟩, ⟨2, 1, [97], [], [102], 1, 1, 0⟩, ⟨3, 2, [], [120], [102], 2, 3, 5⟩, ⟨3, 1, [98], [49], [102], 3, 1, 4⟩]
theorem parse1 : parseS [102] tx1 = (tree1, ft0) := by decide +kernel
theorem parse2 : parseS [102] tx2 = ([], ⟨40, [102], 2, 3⟩) := by decide +kernel
theorem is1 : isS tree1 = true := by decide +kernel
theorem get1 : getS tree1 [[97], [48]] = 2 := by decide +kernel
theorem parse_cx (file s : Bs) (w : World) (hg : Gm w) : Cx Tryd.prog 33 [S file, S s] [] (fun v D => ∃ A c, v = .tuple #[.slice A (parseS file s).1.length c, .agg (parseS file s).2.cs.toArray] ∧ D = [Ch.row NdE 32 A c (parseS file s).1]) w := by
  refine Calls.mono (parse_calls file s w hg w (Keep.refl _)) ?_
  rintro e w' ⟨A, c, rfl, h⟩
  exact ⟨_, _, rfl, ⟨A, c, rfl, rfl⟩, h⟩
theorem awake4_cv (w0 : World) (hg : Gl w0) : Cv Tryd.prog 34 [] (.bool true) w0 := by
  intro w hk
  have hg := hg.keep hk
  refine calls_of_Wp (vs := []) Tryd.func34 ?_
  refine Wp.seq (Wp.reads (is := [0]) (Keep.refl _) (Rn.s rfl Yv.as (Rn.nil)) ?_)
  have hp1 : Cx Tryd.prog 33 [S [102], S tx1] [] (fun v D => ∃ A c, v = .tuple #[.slice A 4 c, .agg ft0.cs.toArray] ∧ D = [Ch.row NdE 32 A c tree1]) w := by
    have := parse_cx [102] tx1 w hg
    rw [parse1] at this
    exact this
  refine Wp.seq (Wp.regionL (l := [0, 1, 2, 3, 4, 5, 6]) (WO.act (hc := rfl) (he := Ef.cx hp1 (St.init w) (FnOk.of Tryd.func33) ?_)))
  rintro v D w1 ⟨A1, c1, rfl, rfl⟩ hs1
  have hs1 : St w [] w1 [Ch.row NdE 32 A1 c1 tree1] := hs1
  refine WO.rd (is := [1, 2, 3]) (js := [4, 5, 6]) (Keep.refl _) (Rn.s rfl Yv.mv (Rn.s rfl Yv.ex (Rn.s rfl Yv.ex (Rn.nil)))) (WO.act (he := Ef.allocL (vs := ft0.cs) hs1 (fun b2 w2 k2 hs2 => WO.rd (is := [5]) (js := [6]) (Keep.refl _) (Rn.s rfl Yv.as (Rn.nil)) (WO.act (he := Ef.stores hs2 0 (fun w3 hs3 => WO.done ?_))))))
  have hp2 : Cx Tryd.prog 33 [S [102], S tx2] [] (fun v D => ∃ A c, v = .tuple #[.slice A 0 c, .agg (Ft.cs ⟨40, [102], 2, 3⟩).toArray] ∧ D = [Ch.row NdE 32 A c []]) w3 := by
    have := parse_cx [102] tx2 w3 (hg.keep hs3.keep)
    rw [parse2] at this
    exact this
  refine Wp.seq (Wp.regionL (l := [0, 1, 2, 3, 4, 5, 6]) (WO.act (hc := rfl) (he := Ef.cx hp2 hs3 (FnOk.of Tryd.func33) ?_)))
  rintro v D w4 ⟨A2, c2, rfl, rfl⟩ hs4
  refine WO.rd (is := [1, 2, 3]) (js := [4, 5, 6]) (Keep.refl _) (Rn.s rfl Yv.mv (Rn.s rfl Yv.ex (Rn.s rfl Yv.ex (Rn.nil)))) (WO.act (he := Ef.allocL (vs := ft0.cs) hs4 (fun b4 w5 k5 hs5 => WO.rd (is := [5]) (js := [6]) (Keep.refl _) (Rn.s rfl Yv.as (Rn.nil)) (WO.act (he := Ef.stores hs5 0 (fun w6 hs6 => WO.done ?_))))))
  have hst : St w [] w6 [Ch.cells b4 42 (Ft.cs ⟨40, [102], 2, 3⟩), Ch.row NdE 32 A2 c2 [], Ch.cells b2 42 ft0.cs, Ch.row NdE 32 A1 c1 tree1] := hs6
  have c4 := hst.cells 0
  have c2 := hst.cells 2
  have hr := hst.rd 3
  have hg := hg.keep hst.keep
  refine Wp.seq (Wp.regionL (l := [0, 1, 2, 3, 4, 5, 6, 7, 8, 9, 10, 11, 12, 13, 14, 15, 16, 17, 18, 19, 20, 21, 22, 23, 24, 25, 26, 27, 28, 29, 30, 31, 32, 33, 34, 35, 36, 37]) (WO.rd (is := [0, 1, 2, 3, 4, 5, 6, 7, 8, 9, 10, 11, 12, 13, 14, 15, 16, 17, 18, 19, 20, 21, 22, 23, 24, 25, 26, 27]) (js := [28, 29, 30, 31, 32, 33, 34, 35, 36, 37]) (Keep.refl _) (Rn.s rfl (Yv.ldb c2) (Rn.s rfl (Yv.bd (cs := ft0.cs)) (Rn.s rfl (Yv.eqs (ftEq ft0 ft0)) (Rn.s rfl Yv.mv (Rn.and (is := [4, 5, 6, 7]) (js := [8, 9, 10, 11, 12, 13, 14, 15, 16, 17, 18, 19, 20, 21, 22, 23, 24, 25, 26, 27]) (t := 16) (d := 20) (hg := rfl) (ht := fun h3 => Rn.s rfl Yv.mv (Rn.s rfl (Yv.len_v (e := 32) (m := 8)) (Rn.s rfl (Yv.cmp _ rfl) (Rn.s rfl Yv.pick_t ((Rn.e 4 rfl rfl)))))) (hf := fun _ => Rn.no rfl (Rn.no rfl (Rn.no rfl (Rn.s rfl Yv.pick_f (Rn.e 4 rfl rfl))))) (k := Rn.s rfl Yv.mv (Rn.and (is := [9, 10, 11, 12, 13, 14]) (js := [15, 16, 17, 18, 19, 20, 21, 22, 23, 24, 25, 26, 27]) (t := 21) (d := 27) (hg := rfl) (ht := fun h8 => Rn.s rfl Yv.mv (Rn.s rfl (Yv.ia (e := 32) hr (j := 1) (by decide) (by decide)) (Rn.s rfl (Yv.fa (off := 0)) (Rn.s rfl (Yv.ld (hr.ld (i := 1) 0 (by decide) (by decide))) (Rn.s rfl (Yv.cmp _ rfl) (Rn.s rfl Yv.pick_t ((Rn.e 6 rfl rfl)))))))) (hf := fun _ => Rn.no rfl (Rn.no rfl (Rn.no rfl (Rn.no rfl (Rn.no rfl (Rn.s rfl Yv.pick_f (Rn.e 6 rfl rfl))))))) (k := Rn.s rfl Yv.mv (Rn.and (is := [16, 17, 18, 19, 20, 21]) (js := [22, 23, 24, 25, 26, 27]) (t := 28) (d := 34) (hg := rfl) (ht := fun h15 => Rn.s rfl Yv.mv (Rn.s rfl (Yv.ia (e := 32) hr (j := 2) (by decide) (by decide)) (Rn.s rfl (Yv.fa (off := 3)) (Rn.s rfl (Yv.ld (hr.ld (i := 2) 3 (by decide) (by decide))) (Rn.s rfl (Yv.scm _ rfl) (Rn.s rfl Yv.pick_t ((Rn.e 6 rfl rfl)))))))) (hf := fun _ => Rn.no rfl (Rn.no rfl (Rn.no rfl (Rn.no rfl (Rn.no rfl (Rn.s rfl Yv.pick_f (Rn.e 6 rfl rfl))))))) (k := Rn.s rfl Yv.mv (Rn.and (is := [23, 24, 25, 26]) (js := [27]) (t := 35) (d := 39) (hg := rfl) (ht := fun h22 => Rn.s rfl (Yv.ldb c4) (Rn.s rfl (Yv.bd (cs := Ft.cs ⟨40, [102], 2, 3⟩)) (Rn.s rfl (Yv.eqs (ftEq ⟨40, [102], 2, 3⟩ ⟨40, [102], 2, 3⟩)) (Rn.s rfl Yv.pick_t ((Rn.e 4 rfl rfl)))))) (hf := fun _ => Rn.no rfl (Rn.no rfl (Rn.no rfl (Rn.s rfl Yv.pick_f (Rn.e 4 rfl rfl))))) (k := Rn.s rfl Yv.mv (Rn.nil))))))))))))) (WO.and (js := [31, 32, 33, 34, 35, 36, 37]) 40 43 (hg := rfl) (ht := fun h27 qx1 => WO.rd (is := [28]) (js := [29, 30, 31, 32, 33, 34, 35, 36, 37]) (Keep.refl _) (Rn.s rfl Yv.mv (Rn.nil)) (WO.cv rfl (is_cv A1 c1 tree1 w6 hr) (Keep.refl _) (FnOk.of Tryd.func30) (fun wx2 kx2 => WO.rd (is := [30]) (js := [31, 32, 33, 34, 35, 36, 37]) ((Keep.refl _).trans kx2) (Rn.s rfl Yv.pick_t (Rn.nil)) (WO.e 3 (qx1 _ ((Keep.refl _).trans kx2)))))) (hf := fun _ qx1 => WO.rd (is := [28, 29, 30]) (js := [31, 32, 33, 34, 35, 36, 37]) (Keep.refl _) (Rn.no rfl (Rn.no rfl (Rn.s rfl Yv.pick_f Rn.nil))) (WO.e 3 (qx1 _ (Keep.refl _)))) (k := fun wx1 kx1 => WO.rd (is := [31]) (js := [32, 33, 34, 35, 36, 37]) ((Keep.refl _).trans kx1) (Rn.s rfl Yv.mv (Rn.nil)) (WO.and (js := [37]) 44 49 (hg := rfl) (ht := fun h31 qx3 => WO.rd (is := [32]) (js := [33, 34, 35, 36, 37]) ((Keep.refl _).trans kx1) (Rn.s rfl Yv.mv (Rn.nil)) (WO.act (hc := rfl) (he := Ef.bsl (T := 9) StE [[97], [48]] (hst.quiet kx1) (fun bx4 wx4 kx4 hsx4 => WO.cv rfl (get_cv A1 c1 tree1 _ _ [[97], [48]] wx4 (hg.keep (kx1.trans kx4)) (hr.keep (kx1.trans kx4)) (hsx4.rd 0) (by decide)) (Keep.refl _) (FnOk.of Tryd.func36) (fun wx5 kx5 => WO.rd (is := [35, 36]) (js := [37]) ((((Keep.refl _).trans kx1).trans kx4).trans kx5) (Rn.s rfl (Yv.cmp _ rfl) (Rn.s rfl Yv.pick_t (Rn.nil))) (WO.e 5 (qx3 _ (((Keep.refl _).trans kx4).trans kx5)))))))) (hf := fun _ qx3 => WO.rd (is := [32, 33, 34, 35, 36]) (js := [37]) ((Keep.refl _).trans kx1) (Rn.no rfl (Rn.no rfl (Rn.no rfl (Rn.no rfl (Rn.s rfl Yv.pick_f Rn.nil))))) (WO.e 5 (qx3 _ (Keep.refl _)))) (k := fun wx3 kx3 => WO.rd (is := [37]) (js := []) (((Keep.refl _).trans kx1).trans kx3) (Rn.s rfl Yv.as (Rn.nil)) (WO.done ?_)))))))
  refine Wp.ret (Fin.ret (Res.one rfl rfl) ⟨?_, ?_⟩)
  · rw [is1, get1]; rfl
  · exact hst.keep.trans (kx1.trans kx3)
end Go.Proofs.YtbmplmehofgocaaDoor.C
