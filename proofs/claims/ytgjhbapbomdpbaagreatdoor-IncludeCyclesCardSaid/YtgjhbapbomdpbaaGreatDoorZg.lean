/- IncludeCycles, walked. -/
import Derived.Test.YtgjhbapbomdpbaaGreatDoorJF
set_option linter.unusedVariables false
set_option linter.unusedSimpArgs false
set_option maxRecDepth 10000
namespace Go.Proofs.YtgjhbapbomdpbaaGreatDoor.C
open Go.RowKit Go.Proofs.YtgjhbapbomdpbaaGreatDoor.Sh
theorem outC_len (files : List Fl) (root : Bs) : (outC files root).length ≤ 64 := by
  by_cases h : (loadS files root).2.code = 74
  · have hc := (cycle_law h).len
    have e : outC files root = (loadS files root).1.cyc := by unfold outC; rw [if_neg (fun q => q h)]
    rw [e]
    omega
  · unfold outC; rw [if_pos h]; simp
set_option maxHeartbeats 1600000 in
theorem cycles_calls (A : Option Addr) (c : Nat) (files : List Fl) (root : Bs) (w : World) (hg : Gm w) (hr : Rd FlE w A files) (hA : A = none → c = 0) (hcap : files.length ≤ c) (hl : files.length ≤ 4398046511000) :
    Calls Tryz.prog 4 #[.slice A files.length c, S root] w fun e w' => e = .returned (.bool true) ∧ Keep w w' := by
  refine calls_of_Wp (vs := [_, _]) Tryz.func4 ?_
  refine Wp.seq (Wp.reads (is := [0]) (Keep.refl _) (Rn.s rfl Yv.as (Rn.nil)) ?_)
  refine Wp.seq (Wp.regionL (l := [0, 1, 2, 3, 4, 5, 6, 7, 8, 9, 10, 11, 12]) (WO.rd (is := [0, 1]) (js := [2, 3, 4, 5, 6, 7, 8, 9, 10, 11, 12]) (Keep.refl _) (Rn.s rfl Yv.mv (Rn.s rfl Yv.mv (Rn.nil))) (WO.act (hc := rfl) (he := Ef.cx (rload_cx A c files root w hr hcap (by omega)) (St.init w) (FnOk.of Tryz.func6) ?_))))
  rintro v D w1 ⟨CA, cc, NA, nc, TA, tc, ts, rfl, hts, rfl⟩ hs1
  refine WO.rd (is := [3, 4, 5, 6, 7]) (js := [8, 9, 10, 11, 12]) (Keep.refl _) (Rn.s rfl Yv.mv (Rn.s rfl Yv.ex (Rn.s rfl Yv.ex (Rn.s rfl Yv.ex (Rn.s rfl Yv.ex (Rn.nil)))))) (WO.act (he := Ef.allocL (vs := ft0.cs) hs1 (fun b8 w2 k2 hs2 => WO.rd (is := [9, 10, 11]) (js := [12]) (Keep.refl _) (Rn.s rfl Yv.as (Rn.s rfl Yv.as (Rn.s rfl Yv.as (Rn.nil)))) (WO.act (he := Ef.stores hs2 0 (fun w3 hs3 => WO.done ?_))))))
  have hst : St w [] w3 [Ch.row StE 9 CA cc (outC files root)] := (hs3.drop).sub (by simp)
  clear hs1 hs2 hs3
  have hcl := outC_len files root
  obtain ⟨C, hC⟩ : ∃ C, C = outC files root := ⟨_, rfl⟩
  rw [← hC] at hst hcl ⊢
  refine Wp.seq (Wp.regionL (l := [0, 1, 2]) (WO.rd (is := [0]) (js := [1, 2]) (Keep.refl _) (Rn.s rfl Yv.mv (Rn.nil)) (WO.act (hc := rfl) (he := Ef.cx (lendF_cx A c files w3 (hr.keep hst.keep) hA hl) hst (FnOk.of Tryz.func7) ?_))))
  rintro v D w4 ⟨B, d, rfl, rfl⟩ hs4
  refine WO.rd (is := [2]) (js := []) (Keep.refl _) (Rn.s rfl Yv.as (Rn.nil)) (WO.done ?_)
  have hst : St w [] w4 [Ch.row FlE 49 B d (files ++ [spF, spF]), Ch.row StE 9 CA cc C] := hs4
  clear hs4
  have hcy := cycle_cx B d files root w4 (hg.keep hst.keep) (rd_pre (hst.rd 0)) (by omega)
  rw [← hC] at hcy
  refine Wp.seq (Wp.regionL (l := [0, 1, 2, 3]) (WO.rd (is := [0, 1]) (js := [2, 3]) (Keep.refl _) (Rn.s rfl Yv.mv (Rn.s rfl Yv.mv (Rn.nil))) (WO.act (hc := rfl) (he := Ef.cx hcy hst (FnOk.of Tryz.func17) ?_))))
  rintro v D w5 ⟨XA, xc, rfl, rfl⟩ hs5
  refine WO.rd (is := [3]) (js := []) (Keep.refl _) (Rn.s rfl Yv.as (Rn.nil)) (WO.done ?_)
  have hst : St w [] w5 ([Ch.row FlE 49 B d (files ++ [spF, spF])] ++ [Ch.row StE 9 XA xc C, Ch.row StE 9 CA cc C]) := hs5.pick [1, 0, 2]
  clear hs5 hcy
  have hen := St.enter (A := [Ch.row FlE 49 B d (files ++ [spF, spF])]) hst
  refine Wp.seq (Wp.seq (Wp.regionL (l := [0, 1, 2, 3]) (WO.rd (is := [0, 1]) (js := [2, 3]) (Keep.refl _) (Rn.s rfl Yv.mv (Rn.s rfl Yv.mv (Rn.nil))) (WO.act (hc := rfl) (he := Ef.callv Tryz.func9 (Calls.mono (keptF_calls B d A c files w5 (hr.keep hst.keep) hen hl) ?_))))))
  rintro e w6 ⟨rfl, hs6⟩
  refine WO.rd (is := [3]) (js := []) (Keep.refl _) (Rn.s rfl Yv.not (Rn.nil)) (WO.done ?_)
  have hst : St w [] w6 [Ch.row StE 9 XA xc C, Ch.row StE 9 CA cc C] := St.call (A := [Ch.row FlE 49 B d (files ++ [spF, spF])]) hst hs6
  clear hs6 hen
  refine Wp.cond_f rfl (Wp.skip ?_)
  refine Wp.seq (Wp.regionL (l := [0, 1, 2, 3, 4]) (WO.rd (is := [0]) (js := [1, 2, 3, 4]) (Keep.refl _) (Rn.s rfl Yv.mv (Rn.nil)) (WO.act (hc := rfl) (he := Ef.cx (copyF_cx A c files w6 (hr.keep hst.keep) hA (by omega)) hst (FnOk.of Tryz.func10) ?_))))
  rintro v D w7 ⟨B2, d2, rfl, rfl⟩ hs7
  have hst : St w [] w7 [Ch.row FlE 49 B2 d2 files, Ch.row StE 9 XA xc C, Ch.row StE 9 CA cc C] := hs7
  clear hs7
  have hcy := cycle_cx B2 d2 files root w7 (hg.keep hst.keep) (hst.rd 0) (by omega)
  rw [← hC] at hcy
  refine WO.rd (is := [2]) (js := [3, 4]) (Keep.refl _) (Rn.s rfl Yv.mv (Rn.nil)) (WO.act (hc := rfl) (he := Ef.cx hcy hst (FnOk.of Tryz.func17) ?_))
  rintro v D w8 ⟨YA, yc, rfl, rfl⟩ hs8
  refine WO.rd (is := [4]) (js := []) (Keep.refl _) (Rn.s rfl Yv.as (Rn.nil)) (WO.done ?_)
  have hst : St w [] w8 [Ch.row StE 9 YA yc C, Ch.row FlE 49 B2 d2 files, Ch.row StE 9 XA xc C, Ch.row StE 9 CA cc C] := hs8
  clear hs8 hcy
  have hsm := sameT_cv XA xc C CA cc C w8 (hst.rd 2) (hst.rd 3) (by omega)
  rw [decide_eq_true rfl] at hsm
  refine Wp.seq (Wp.seq (Wp.regionL (l := [0, 1, 2, 3]) (WO.rd (is := [0, 1]) (js := [2, 3]) (Keep.refl _) (Rn.s rfl Yv.mv (Rn.s rfl Yv.mv (Rn.nil))) (WO.cv rfl hsm (Keep.refl _) (FnOk.of Tryz.func11) (fun wx1 kx1 => WO.rd (is := [3]) (js := []) ((Keep.refl _).trans kx1) (Rn.s rfl Yv.not (Rn.nil)) (WO.done ?_))))))
  refine Wp.cond_f rfl (Wp.skip ?_)
  have hst := hst.quiet kx1
  have hst : St w [] wx1 ([Ch.row StE 9 XA xc C] ++ [Ch.row StE 9 YA yc C, Ch.row StE 9 CA cc C]) := hst.pick [2, 0, 3]
  have hen := St.enter (A := [Ch.row StE 9 XA xc C]) hst
  refine Wp.seq (Wp.regionL (l := [0, 1]) (WO.rd (is := [0]) (js := [1]) (Keep.refl _) (Rn.s rfl Yv.mv (Rn.nil)) (WO.act (hc := rfl) (he := Ef.callv Tryz.func13 (Calls.mono (spoilT_calls XA xc C wx1 hen (by omega)) ?_)))))
  rintro e w9 ⟨rfl, hs9⟩
  refine WO.done ?_
  have hst : St w [] w9 [Ch.row StE 9 YA yc C, Ch.row StE 9 CA cc C] := St.call (A := [Ch.row StE 9 XA xc C]) hst hs9
  have hsm := sameT_cv YA yc C CA cc C w9 (hst.rd 0) (hst.rd 1) (by omega)
  rw [decide_eq_true rfl] at hsm
  refine Wp.seq (Wp.regionL (l := [0, 1, 2, 3, 4, 5, 6]) (WO.rd (is := [0, 1]) (js := [2, 3, 4, 5, 6]) (Keep.refl _) (Rn.s rfl Yv.mv (Rn.s rfl Yv.mv (Rn.nil))) (WO.cv rfl hsm (Keep.refl _) (FnOk.of Tryz.func11) (fun wz1 kz1 => WO.rd (is := [3]) (js := [4, 5, 6]) ((Keep.refl _).trans kz1) (Rn.s rfl Yv.mv (Rn.nil)) (WO.and (js := [6]) 42 44 (hg := rfl) (ht := fun h3 qz2 => WO.cv rfl (awake7_cv w9 (hg.keep hst.keep)) ((Keep.refl _).trans kz1) (FnOk.of Tryz.func16) (fun wz3 kz3 => WO.rd (is := [5]) (js := [6]) (((Keep.refl _).trans kz1).trans kz3) (Rn.s rfl Yv.pick_t (Rn.nil)) (WO.e 2 (qz2 _ ((Keep.refl _).trans kz3))))) (hf := fun _ qz2 => WO.rd (is := [4, 5]) (js := [6]) ((Keep.refl _).trans kz1) (Rn.no rfl (Rn.s rfl Yv.pick_f Rn.nil)) (WO.e 2 (qz2 _ (Keep.refl _)))) (k := fun wz2 kz2 => WO.rd (is := [6]) (js := []) (((Keep.refl _).trans kz1).trans kz2) (Rn.s rfl Yv.as (Rn.nil)) (WO.done ?_)))))))
  exact Wp.ret (Fin.ret (Res.one rfl rfl) ⟨rfl, hst.keep.trans (kz1.trans kz2)⟩)
end Go.Proofs.YtgjhbapbomdpbaaGreatDoor.C
