/- Templates under jobs: what every such program answers. -/
import Derived.Test.YtgjhbapbomdpbaaDoorJB
set_option linter.unusedVariables false
set_option linter.unusedSimpArgs false
set_option maxRecDepth 100000
namespace Go.Proofs.YtgjhbapbomdpbaaDoor.C
open Go.RowKit Go.Proofs.YtgjhbapbomdpbaaDoor.Sh
def an1 : Bs := [116, 101, 109, 112, 108, 97, 116, 101, 115, 58, 10, 32, 32, 116, 58, 10, 32, 32, 32, 32, 114, 117, 110, 58, 32, 98, 10, 32, 32, 32, 32, 119, 104, 101, 110, 58, 32, 97, 108, 119, 97, 121, 115, 10, 106, 111, 98, 115, 58, 10, 32, 32, 106, 58, 10, 32, 32, 32, 32, 101, 120, 116, 101, 110, 100, 115, 58, 32, 116, 10, 32, 32, 32, 32, 119, 104, 101, 110, 58, 32, 110, 101, 118, 101, 114]
def anT : List Nd := (parseS [102] an1).1
def anX : List Nd := (jobS anT [106]).1
theorem an_f1 : parseS [102] an1 = (anT, ft0) := by decide +kernel
theorem an_f2 : anT.length = 9 := by decide +kernel
theorem an_f3 : jobS anT [106] = (anX, ft0) := by decide +kernel
theorem an_f4 : anX.length = 3 ∧ (nth anX 1).text = [98] ∧ (nth anX 2).text = [110, 101, 118, 101, 114] := by decide +kernel
theorem an_f5 : jobS anT [107] = ([], ⟨91, [], 0, 0⟩) := by decide +kernel
theorem awake9_cv (w0 : World) (hg : Gm w0) : Cv Tryd.prog 26 [] (.bool true) w0 := by
  intro w hk
  have hg := hg.keep hk
  refine calls_of_Wp (vs := []) Tryd.func26 ?_
  refine Wp.seq (Wp.reads (is := [0]) (Keep.refl _) (Rn.s rfl Yv.as (Rn.nil)) ?_)
  have hp1 := parse_cx [102] an1 w hg
  rw [an_f1] at hp1
  refine Wp.seq (Wp.regionL (l := [0, 1, 2, 3, 4, 5, 6]) (WO.act (hc := rfl) (he := Ef.cx hp1 (St.init w) (FnOk.of Tryd.func21) ?_)))
  rintro v D w1 ⟨A1, c1, rfl, rfl⟩ hs1
  refine WO.rd (is := [1, 2, 3]) (js := [4, 5, 6]) (Keep.refl _) (Rn.s rfl Yv.mv (Rn.s rfl Yv.ex (Rn.s rfl Yv.ex (Rn.nil)))) (WO.act (he := Ef.allocL (vs := ft0.cs) hs1 (fun b2 w2 k2 hs2 => WO.rd (is := [5]) (js := [6]) (Keep.refl _) (Rn.s rfl Yv.as (Rn.nil)) (WO.act (he := Ef.stores hs2 0 (fun w3 hs3 => WO.done ?_))))))
  have hst : St w [] w3 [Ch.row NdE 48 A1 c1 anT] := hs3.pick [1]
  clear hs1 hs2 hs3
  have hcap := hst.cap 0
  have hj1 := job_cx A1 c1 anT [106] w3 (hst.rd 0) hcap
  rw [an_f3] at hj1
  refine Wp.seq (Wp.regionL (l := [0, 1, 2, 3, 4, 5, 6, 7]) (WO.rd (is := [0]) (js := [1, 2, 3, 4, 5, 6, 7]) (Keep.refl _) (Rn.s rfl Yv.mv (Rn.nil)) (WO.act (hc := rfl) (he := Ef.cx hj1 hst (FnOk.of Tryd.func25) ?_))))
  rintro v D w4 ⟨A2, c2, rfl, rfl⟩ hs4
  refine WO.rd (is := [2, 3, 4]) (js := [5, 6, 7]) (Keep.refl _) (Rn.s rfl Yv.mv (Rn.s rfl Yv.ex (Rn.s rfl Yv.ex (Rn.nil)))) (WO.act (he := Ef.allocL (vs := ft0.cs) hs4 (fun b4 w5 k5 hs5 => WO.rd (is := [6]) (js := [7]) (Keep.refl _) (Rn.s rfl Yv.as (Rn.nil)) (WO.act (he := Ef.stores hs5 0 (fun w6 hs6 => WO.done ?_))))))
  have hst : St w [] w6 [Ch.cells b4 27 ft0.cs, Ch.row NdE 48 A2 c2 anX, Ch.row NdE 48 A1 c1 anT] := hs6
  clear hs4 hs5 hs6
  have hj2 := job_cx A1 c1 anT [107] w6 (hst.rd 2) hcap
  rw [an_f5] at hj2
  refine Wp.seq (Wp.regionL (l := [0, 1, 2, 3, 4, 5, 6, 7]) (WO.rd (is := [0]) (js := [1, 2, 3, 4, 5, 6, 7]) (Keep.refl _) (Rn.s rfl Yv.mv (Rn.nil)) (WO.act (hc := rfl) (he := Ef.cx hj2 hst (FnOk.of Tryd.func25) ?_))))
  rintro v D w7 ⟨A3, c3, rfl, rfl⟩ hs7
  refine WO.rd (is := [2, 3, 4]) (js := [5, 6, 7]) (Keep.refl _) (Rn.s rfl Yv.mv (Rn.s rfl Yv.ex (Rn.s rfl Yv.ex (Rn.nil)))) (WO.act (he := Ef.allocL (vs := ft0.cs) hs7 (fun b6 w8 k8 hs8 => WO.rd (is := [6]) (js := [7]) (Keep.refl _) (Rn.s rfl Yv.as (Rn.nil)) (WO.act (he := Ef.stores hs8 0 (fun w9 hs9 => WO.done ?_))))))
  have hst : St w [] w9 [Ch.cells b6 27 (Ft.cs ⟨91, [], 0, 0⟩), Ch.row NdE 48 A3 c3 [], Ch.cells b4 27 ft0.cs, Ch.row NdE 48 A2 c2 anX, Ch.row NdE 48 A1 c1 anT] := hs9
  clear hs7 hs8 hs9
  have c6 := hst.cells 0
  have c4 := hst.cells 2
  have hr := hst.rd 3
  obtain ⟨x1, x2, x3⟩ := an_f4
  refine Wp.seq (Wp.regionL (l := [0, 1, 2, 3, 4, 5, 6, 7, 8, 9, 10, 11, 12, 13, 14, 15, 16, 17, 18, 19, 20, 21, 22, 23, 24, 25, 26, 27]) (WO.rd (is := [0, 1, 2, 3, 4, 5, 6, 7, 8, 9, 10, 11, 12, 13, 14, 15, 16, 17, 18, 19, 20, 21, 22, 23, 24, 25, 26, 27]) (js := []) (Keep.refl _) (Rn.s rfl (Yv.ldb c4) (Rn.s rfl (Yv.bd (cs := ft0.cs)) (Rn.s rfl (Yv.eqs (ftEq ft0 ft0)) (Rn.s rfl Yv.mv (Rn.and (is := [4, 5, 6, 7]) (js := [8, 9, 10, 11, 12, 13, 14, 15, 16, 17, 18, 19, 20, 21, 22, 23, 24, 25, 26, 27]) (t := 24) (d := 28) (hg := rfl) (ht := fun h3 => Rn.s rfl Yv.mv (Rn.s rfl (Yv.len_v (e := 48) (m := 8)) (Rn.s rfl (Yv.cmp _ rfl) (Rn.s rfl Yv.pick_t ((Rn.e 4 rfl rfl)))))) (hf := fun _ => Rn.no rfl (Rn.no rfl (Rn.no rfl (Rn.s rfl Yv.pick_f (Rn.e 4 rfl rfl))))) (k := Rn.s rfl Yv.mv (Rn.and (is := [9, 10, 11, 12, 13, 14]) (js := [15, 16, 17, 18, 19, 20, 21, 22, 23, 24, 25, 26, 27]) (t := 29) (d := 35) (hg := rfl) (ht := fun h8 => Rn.s rfl Yv.mv (Rn.s rfl (Yv.ia (e := 48) hr (j := 1) (by decide) (by omega)) (Rn.s rfl (Yv.fa (off := 3)) (Rn.s rfl (Yv.ld (hr.ld (i := 1) 3 (by omega) (by omega))) (Rn.s rfl (Yv.scm _ rfl) (Rn.s rfl Yv.pick_t ((Rn.e 6 rfl rfl)))))))) (hf := fun _ => Rn.no rfl (Rn.no rfl (Rn.no rfl (Rn.no rfl (Rn.no rfl (Rn.s rfl Yv.pick_f (Rn.e 6 rfl rfl))))))) (k := Rn.s rfl Yv.mv (Rn.and (is := [16, 17, 18, 19, 20, 21]) (js := [22, 23, 24, 25, 26, 27]) (t := 36) (d := 42) (hg := rfl) (ht := fun h15 => Rn.s rfl Yv.mv (Rn.s rfl (Yv.ia (e := 48) hr (j := 2) (by decide) (by omega)) (Rn.s rfl (Yv.fa (off := 3)) (Rn.s rfl (Yv.ld (hr.ld (i := 2) 3 (by omega) (by omega))) (Rn.s rfl (Yv.scm _ rfl) (Rn.s rfl Yv.pick_t ((Rn.e 6 rfl rfl)))))))) (hf := fun _ => Rn.no rfl (Rn.no rfl (Rn.no rfl (Rn.no rfl (Rn.no rfl (Rn.s rfl Yv.pick_f (Rn.e 6 rfl rfl))))))) (k := Rn.s rfl Yv.mv (Rn.and (is := [23, 24, 25, 26]) (js := [27]) (t := 43) (d := 47) (hg := rfl) (ht := fun h22 => Rn.s rfl (Yv.ldb c6) (Rn.s rfl (Yv.bd (cs := Ft.cs ⟨91, [], 0, 0⟩)) (Rn.s rfl (Yv.eqs (ftEq ⟨91, [], 0, 0⟩ ⟨91, [], 0, 0⟩)) (Rn.s rfl Yv.pick_t ((Rn.e 4 rfl rfl)))))) (hf := fun _ => Rn.no rfl (Rn.no rfl (Rn.no rfl (Rn.s rfl Yv.pick_f (Rn.e 4 rfl rfl))))) (k := Rn.s rfl Yv.as (Rn.nil))))))))))))) (WO.done ?_)))
  refine Wp.ret (Fin.ret (Res.one rfl rfl) ⟨?_, ?_⟩)
  · simp [x1, x2, x3]
  · exact hst.keep
end Go.Proofs.YtgjhbapbomdpbaaDoor.C
