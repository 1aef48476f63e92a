/- MouldPlain, walked. -/
import Derived.Test.YtgjhbapbomdpbaaDoorNg
import Derived.Test.YtgjhbapbomdpbaaDoorOa
set_option linter.unusedVariables false
set_option linter.unusedSimpArgs false
set_option maxRecDepth 10000
namespace Go.Proofs.YtgjhbapbomdpbaaDoor.C
open Go.RowKit Go.Proofs.YtgjhbapbomdpbaaDoor.Sh
theorem plain_calls (A : Option Addr) (c : Nat) (t : List Nd) (name : Bs) (w : World) (hg : Gl w) (hr : Rd NdE w A t) (hn : A = none → c = 0) (hcap : t.length ≤ c) (hl : t.length ≤ 1599289640380) :
    Calls Tryd.prog 7 #[.slice A t.length c, S name] w fun e w' => e = .returned (.bool true) ∧ Keep w w' := by
  refine calls_of_Wp (vs := [_, _]) Tryd.func7 ?_
  refine Wp.seq (Wp.reads (is := [0]) (Keep.refl _) (Rn.s rfl Yv.as (Rn.nil)) ?_)
  obtain ⟨X, F, hXF⟩ : ∃ X F, jobS t name = (X, F) := ⟨_, _, rfl⟩
  have herr : F.code ≠ 0 → X = [] := by
    intro h
    have := job_err (t := t) (name := name) (by rw [hXF]; exact h)
    rw [hXF] at this
    exact this
  have hlaw : F.code = 0 → isS X = true ∧ getS X [kExt] < 0 ∧ 0 ≤ getS t [kJob, name] ∧ (getS t [kDef] < 0 → getS t [kJob, name, kExt] < 0 → partS t (getS t [kJob, name]) = (X, 0)) := by
    intro h
    have := plain_law (t := t) (name := name) (by rw [hXF]; exact h)
    rw [hXF] at this
    exact this
  refine Wp.seq (Wp.regionL (l := [0, 1, 2, 3, 4, 5, 6, 7, 8, 9]) (WO.rd (is := [0]) (js := [1, 2, 3, 4, 5, 6, 7, 8, 9]) (Keep.refl _) (Rn.s rfl Yv.mv (Rn.nil)) (WO.act (hc := rfl) (he := Ef.cx (copyL_cx A c t w hr hn (by omega)) (St.init w) (FnOk.of Tryd.func23) ?_))))
  rintro v D w1 ⟨B1, d1, rfl, rfl⟩ hs1
  have hs1 : St w [] w1 [Ch.row NdE 48 B1 d1 t] := hs1
  have hj := job_cx B1 d1 t name w1 (hs1.rd 0) (hs1.cap 0)
  rw [hXF] at hj
  refine WO.rd (is := [2]) (js := [3, 4, 5, 6, 7, 8, 9]) (Keep.refl _) (Rn.s rfl Yv.mv (Rn.nil)) (WO.act (hc := rfl) (he := Ef.cx hj hs1 (FnOk.of Tryd.func25) ?_))
  rintro v D w2 ⟨B2, d2, rfl, rfl⟩ hs2
  refine WO.rd (is := [4, 5, 6]) (js := [7, 8, 9]) (Keep.refl _) (Rn.s rfl Yv.mv (Rn.s rfl Yv.ex (Rn.s rfl Yv.ex (Rn.nil)))) (WO.act (he := Ef.allocL (vs := ft0.cs) hs2 (fun b4 w3 k3 hs3 => WO.rd (is := [8]) (js := [9]) (Keep.refl _) (Rn.s rfl Yv.as (Rn.nil)) (WO.act (he := Ef.stores hs3 0 (fun w4 hs4 => WO.done ?_))))))
  have hst : St w [] w4 [Ch.cells b4 27 F.cs, Ch.row NdE 48 B2 d2 X] := hs4.pick [0, 1]
  clear hs1 hs2 hs3 hs4
  have c6 := hst.cells 0
  have hg4 := hg.keep hst.keep
  have hr4 := hr.keep hst.keep
  refine Wp.seq (Wp.seq (Wp.reads (is := [0, 1, 2]) (Keep.refl _) (Rn.s rfl (Yv.fa (off := 0)) (Rn.s rfl (Yv.ld (c6.at_ 0)) (Rn.s rfl (Yv.cmp _ rfl) (Rn.nil)))) ?_))
  refine Wp.cond rfl (fun h => ?_) (fun h => ?_)
  · have h : F.code ≠ 0 := bne_iff_ne.1 h
    have hX := herr h
    refine Wp.seq (Wp.regionL (l := [0, 1, 2, 3, 4, 5, 6]) (WO.rd (is := [0, 1, 2, 3]) (js := [4, 5, 6]) (Keep.refl _) (Rn.s rfl Yv.mv (Rn.s rfl (Yv.len_v (e := 48) (m := 8)) (Rn.s rfl (Yv.cmp _ rfl) (Rn.s rfl Yv.mv (Rn.nil))))) (WO.and (js := [6]) 23 25 (hg := rfl) (ht := fun h3 qx1 => have h3 := eq_of_beq h3; WO.cv rfl (awake9_cv w4 hg4.toGm) (Keep.refl _) (FnOk.of Tryd.func26) (fun wx2 kx2 => WO.rd (is := [5]) (js := [6]) ((Keep.refl _).trans kx2) (Rn.s rfl Yv.pick_t (Rn.nil)) (WO.e 2 (qx1 _ ((Keep.refl _).trans kx2))))) (hf := fun _ qx1 => WO.rd (is := [4, 5]) (js := [6]) (Keep.refl _) (Rn.no rfl (Rn.s rfl Yv.pick_f Rn.nil)) (WO.e 2 (qx1 _ (Keep.refl _)))) (k := fun wx1 kx1 => WO.rd (is := [6]) (js := []) ((Keep.refl _).trans kx1) (Rn.s rfl Yv.as (Rn.nil)) (WO.done ?_)))))
    exact Wp.ret (Fin.ret (Res.one rfl rfl) ⟨by rw [hX]; rfl, hst.keep.trans kx1⟩)
  have h : F.code = 0 := bne_eq_false_iff_eq.1 h
  obtain ⟨L1, L2, L3, L4⟩ := hlaw h
  have hXl := (isS_depth L1).2.1
  have hXn : B2 = none → d2 = 0 := row_none (hst.at_ 1 rfl)
  refine Wp.skip ?_
  refine Wp.seq (Wp.seq (Wp.regionL (l := [0, 1, 2, 3, 4, 5, 6, 7, 8, 9]) (WO.rd (is := [0]) (js := [1, 2, 3, 4, 5, 6, 7, 8, 9]) (Keep.refl _) (Rn.s rfl Yv.mv (Rn.nil)) (WO.act (hc := rfl) (he := Ef.cx (copyL_cx B2 d2 X w4 (hst.rd 1) hXn (by omega)) hst (FnOk.of Tryd.func23) ?_)))))
  rintro v D w5 ⟨B5, d5, rfl, rfl⟩ hs5
  have hs5 : St w [] w5 [Ch.row NdE 48 B5 d5 X, Ch.cells b4 27 F.cs, Ch.row NdE 48 B2 d2 X] := hs5
  have hI := is_cv B5 d5 X w5 (hs5.rd 0)
  rw [L1] at hI
  refine WO.cv rfl hI (Keep.refl _) (FnOk.of Tryd.func27) (fun w6 k6 => WO.rd (is := [3, 4, 5]) (js := [6, 7, 8, 9]) (Keep.refl _) (Rn.s rfl Yv.not (Rn.s rfl Yv.mv (Rn.s rfl Yv.mv (Rn.nil)))) (WO.act (hc := rfl) (he := Ef.bsl (T := 9) StE [kExt] (hs5.quiet k6) (fun b7 w7 k7 hs7 => WO.cv rfl (get_cv B2 d2 X _ _ [kExt] w7 (hg.keep hs7.keep) (hs7.rd 3) (hs7.rd 0) (by decide)) (Keep.refl _) (FnOk.of Tryd.func22) (fun w8 k8 => WO.rd (is := [8, 9]) (js := []) (Keep.refl _) (Rn.s rfl (Yv.cmp _ rfl) (Rn.s rfl Yv.pick_f (Rn.nil))) (WO.done ?_))))))
  have hst : St w [] w8 [Ch.row NdE 48 B2 d2 X] := (hs7.quiet k8).pick [3]
  clear hs5 hs7 c6
  refine Wp.cond_f ?_ (Wp.skip ?_)
  · refine congrArg (fun b => some (Value.bool b)) ?_
    exact decide_eq_false (by omega)
  have hg8 := hg.keep hst.keep
  have hr8 := hr.keep hst.keep
  refine Wp.seq (Wp.regionL (l := [0, 1, 2, 3, 4]) (WO.rd (is := [0, 1]) (js := [2, 3, 4]) (Keep.refl _) (Rn.s rfl Yv.mv (Rn.s rfl Yv.mv (Rn.nil))) (WO.act (hc := rfl) (he := Ef.bsl (T := 9) StE [kJob, name] hst (fun by1 wy1 ky1 hsy1 => WO.cv rfl (get_cv A c t _ _ [kJob, name] wy1 (hg8.keep ky1) (hr8.keep ky1) (hsy1.rd 0) (by simp)) (Keep.refl _) (FnOk.of Tryd.func22) (fun wy2 ky2 => WO.rd (is := [4]) (js := []) (((Keep.refl _).trans ky1).trans ky2) (Rn.s rfl Yv.as (Rn.nil)) (WO.done ?_)))))))
  have hst := hst.quiet (ky1.trans ky2)
  refine Wp.seq (Wp.seq (Wp.reads (is := [0, 1]) (Keep.refl _) (Rn.s rfl Yv.mv (Rn.s rfl (Yv.cmp _ rfl) (Rn.nil))) ?_))
  refine Wp.cond_f ?_ (Wp.skip ?_)
  · refine congrArg (fun b => some (Value.bool b)) ?_
    exact decide_eq_false (by omega)
  have hg9 := hg.keep hst.keep
  have hr9 := hr.keep hst.keep
  refine Wp.seq (Wp.seq (Wp.regionL (l := [0, 1, 2, 3, 4, 5, 6, 7, 8, 9, 10]) (WO.rd (is := [0]) (js := [1, 2, 3, 4, 5, 6, 7, 8, 9, 10]) (Keep.refl _) (Rn.s rfl Yv.mv (Rn.nil)) (WO.act (hc := rfl) (he := Ef.bsl (T := 9) StE [kDef] hst (fun bz1 wz1 kz1 hsz1 => WO.cv rfl (get_cv A c t _ _ [kDef] wz1 (hg9.keep kz1) (hr9.keep kz1) (hsz1.rd 0) (by decide)) (Keep.refl _) (FnOk.of Tryd.func22) (fun wz2 kz2 => WO.rd (is := [3, 4]) (js := [5, 6, 7, 8, 9, 10]) (((Keep.refl _).trans kz1).trans kz2) (Rn.s rfl (Yv.cmp _ rfl) (Rn.s rfl Yv.mv (Rn.nil))) (WO.or (js := []) 46 52 (hg := rfl) (hf := fun h4 qz3 => have h4 := of_decide_eq_false h4; WO.rd (is := [5, 6]) (js := [7, 8, 9, 10]) (((Keep.refl _).trans kz1).trans kz2) (Rn.s rfl Yv.mv (Rn.s rfl Yv.mv (Rn.nil))) (WO.act (hc := rfl) (he := Ef.bsl (T := 9) StE [kJob, name, kExt] (hst.quiet (kz1.trans kz2)) (fun bz4 wz4 kz4 hsz4 => WO.cv rfl (get_cv A c t _ _ [kJob, name, kExt] wz4 (hg9.keep (kz1.trans (kz2.trans kz4))) (hr9.keep (kz1.trans (kz2.trans kz4))) (hsz4.rd 0) (by simp)) (Keep.refl _) (FnOk.of Tryd.func22) (fun wz5 kz5 => WO.rd (is := [9, 10]) (js := []) (((((Keep.refl _).trans kz1).trans kz2).trans kz4).trans kz5) (Rn.s rfl (Yv.cmp _ rfl) (Rn.s rfl Yv.pick_f (Rn.nil))) (WO.e 6 (qz3 _ (((Keep.refl _).trans kz4).trans kz5)))))))) (ht := fun _ qz3 => WO.rd (is := [5, 6, 7, 8, 9, 10]) (js := []) (((Keep.refl _).trans kz1).trans kz2) (Rn.no rfl (Rn.no rfl (Rn.no rfl (Rn.no rfl (Rn.no rfl (Rn.s rfl Yv.pick_t Rn.nil)))))) (WO.e 6 (qz3 _ (Keep.refl _)))) (k := fun wz3 kz3 => WO.done ?_)))))))))
  have hk9 : Keep w wz3 := hst.keep.trans (kz1.trans (kz2.trans (by assumption)))
  refine Wp.cond rfl (fun h1 => ?_) (fun h1 => ?_)
  · refine Wp.seq (Wp.regionL (l := [0, 1]) (WO.cv rfl (awake9_cv _ (hg.keep hk9).toGm) (Keep.refl _) (FnOk.of Tryd.func26) (fun wu1 ku1 => WO.rd (is := [1]) (js := []) ((Keep.refl _).trans ku1) (Rn.s rfl Yv.as (Rn.nil)) (WO.done ?_))))
    exact Wp.ret (Fin.ret (Res.one rfl rfl) ⟨rfl, hk9.trans ku1⟩)
  have hL := L4 (by
    simp only [Bool.or_eq_false_iff, decide_eq_false_iff_not] at h1
    omega) (by
    simp only [Bool.or_eq_false_iff, decide_eq_false_iff_not] at h1
    omega)
  refine Wp.skip ?_
  refine Wp.seq (Wp.regionL (l := [0, 1, 2, 3, 4, 5, 6, 7, 8]) (WO.rd (is := [0]) (js := [1, 2, 3, 4, 5, 6, 7, 8]) (Keep.refl _) (Rn.s rfl Yv.mv (Rn.nil)) (WO.act (hc := rfl) (he := Ef.cx (copyL_cx A c t wz3 (hr.keep hk9) hn (by omega)) (St.init wz3) (FnOk.of Tryd.func23) ?_))))
  rintro v D v1 ⟨B1, d1, rfl, rfl⟩ hs1
  have hs1 : St wz3 [] v1 [Ch.row NdE 48 B1 d1 t] := hs1
  have hp := part_cx B1 d1 t (getS t [kJob, name]) v1 (hs1.rd 0) (hs1.cap 0) (by omega)
  rw [hL] at hp
  refine WO.rd (is := [2]) (js := [3, 4, 5, 6, 7, 8]) (Keep.refl _) (Rn.s rfl Yv.mv (Rn.nil)) (WO.act (hc := rfl) (he := Ef.cx hp hs1 (FnOk.of Tryd.func28) ?_))
  rintro v D v2 ⟨B2', d2', rfl, rfl⟩ hs2
  refine WO.rd (is := [4, 5, 6, 7, 8]) (js := []) (Keep.refl _) (Rn.s rfl Yv.mv (Rn.s rfl Yv.ex (Rn.s rfl Yv.ex (Rn.s rfl Yv.as (Rn.s rfl Yv.as (Rn.nil)))))) (WO.done ?_)
  have hs2 : St wz3 [] v2 [Ch.row NdE 48 B2' d2' X, Ch.row NdE 48 B1 d1 t] := hs2
  have hk10 := hk9.trans hs2.keep
  have hrX : Rd NdE v2 B2 X := (hst.rd 0).keep ((kz1.trans (kz2.trans (by assumption))).trans hs2.keep)
  refine Wp.seq (Wp.regionL (l := [0, 1, 2, 3, 4, 5, 6, 7, 8, 9, 10]) (WO.rd (is := [0, 1, 2]) (js := [3, 4, 5, 6, 7, 8, 9, 10]) (Keep.refl _) (Rn.s rfl Yv.mv (Rn.s rfl (Yv.cmp _ rfl) (Rn.s rfl Yv.mv (Rn.nil)))) (WO.and (js := [7, 8, 9, 10]) 63 67 (hg := rfl) (ht := fun h2 qu1 => have h2 := eq_of_beq h2; WO.rd (is := [3, 4]) (js := [5, 6, 7, 8, 9, 10]) (Keep.refl _) (Rn.s rfl Yv.mv (Rn.s rfl Yv.mv (Rn.nil))) (WO.cv rfl (same_cv B2 d2 X B2' d2' X v2 hrX (hs2.rd 0) (by omega)) (Keep.refl _) (FnOk.of Tryd.func24) (fun wu2 ku2 => WO.rd (is := [6]) (js := [7, 8, 9, 10]) ((Keep.refl _).trans ku2) (Rn.s rfl Yv.pick_t (Rn.nil)) (WO.e 4 (qu1 _ ((Keep.refl _).trans ku2)))))) (hf := fun _ qu1 => WO.rd (is := [3, 4, 5, 6]) (js := [7, 8, 9, 10]) (Keep.refl _) (Rn.no rfl (Rn.no rfl (Rn.no rfl (Rn.s rfl Yv.pick_f Rn.nil)))) (WO.e 4 (qu1 _ (Keep.refl _)))) (k := fun wu1 ku1 => WO.rd (is := [7]) (js := [8, 9, 10]) ((Keep.refl _).trans ku1) (Rn.s rfl Yv.mv (Rn.nil)) (WO.and (js := [10]) 68 70 (hg := rfl) (ht := fun h7 qu3 => WO.cv rfl (awake9_cv _ (hg.keep hk10).toGm) ((Keep.refl _).trans ku1) (FnOk.of Tryd.func26) (fun wu4 ku4 => WO.rd (is := [9]) (js := [10]) (((Keep.refl _).trans ku1).trans ku4) (Rn.s rfl Yv.pick_t (Rn.nil)) (WO.e 2 (qu3 _ ((Keep.refl _).trans ku4))))) (hf := fun _ qu3 => WO.rd (is := [8, 9]) (js := [10]) ((Keep.refl _).trans ku1) (Rn.no rfl (Rn.s rfl Yv.pick_f Rn.nil)) (WO.e 2 (qu3 _ (Keep.refl _)))) (k := fun wu3 ku3 => WO.rd (is := [10]) (js := []) (((Keep.refl _).trans ku1).trans ku3) (Rn.s rfl Yv.as (Rn.nil)) (WO.done ?_)))))))
  refine Wp.ret (Fin.ret (Res.one rfl rfl) ⟨?_, ?_⟩)
  · simp
  · exact hk10.trans (ku1.trans ku3)
end Go.Proofs.YtgjhbapbomdpbaaDoor.C
