/- diag is awake. -/
import Derived.Test.YtkobcbjblllhlaaGreatDoorC8
set_option linter.unusedVariables false
set_option linter.unusedSimpArgs false
set_option maxRecDepth 10000
namespace Go.Proofs.YtkobcbjblllhlaaGreatDoor.C
open Go.RowKit Go.Proofs.YtkobcbjblllhlaaGreatDoor.Sh
def f42 : Ft := ⟨42, [97, 32, 98], 3, 5⟩
def s42 : Bs := [34, 97, 32, 98, 34, 58, 51, 58, 53, 58, 32, 101, 114, 114, 111, 114, 32, 52, 50]
def s3 : Bs := [97, 58, 49, 58, 50, 58, 32, 101, 114, 114, 111, 114, 32, 51]
def f3 : Ft := ⟨3, [97], 1, 2⟩
theorem text42 : textS f42 = s42 := by decide +kernel
theorem parse3 : parseS s3 = (f3, 0) := by decide +kernel
theorem f42_ok : f42.Ok := ⟨by constructor <;> decide, by constructor <;> decide, by constructor <;> decide, by decide⟩
theorem awake_cv (w0 : World) (hg : Gl w0) : Cv Tryz.prog 12 [] (.bool true) w0 := by
  intro w hk
  have hg := hg.keep hk
  refine calls_of_Wp (vs := []) Tryz.func12 ?_
  refine Wp.seq (Wp.reads (is := [0]) (Keep.refl _) (Rn.s rfl Yv.as (Rn.nil)) ?_)
  refine Wp.seq (Wp.regionL (l := [0, 1, 2]) (WO.rd (is := [0]) (js := [1, 2]) (Keep.refl _) (Rn.s rfl (Yv.bd (cs := Ft.cs f42)) (Rn.nil)) (WO.act (hc := rfl) (he := Ef.allocL (vs := [.int .i64 0, S [], .int .i64 0, .int .i64 0]) (St.init w) (fun bx1 wx1 kx1 hsx1 => WO.act (hc := rfl) (he := Ef.stores hsx1 0 (fun wx2 hsx2 => WO.done ?_)))))))
  have hg1 := hg.keep hsx2.keep
  refine Wp.seq (Wp.regionL (l := [0, 1, 2, 3, 4, 5, 6]) (WO.cv rfl (parse_cv s3 (by decide) _ hg1) (Keep.refl _) (FnOk.of Tryz.func9) (fun wy1 ky1 => WO.rd (is := [1, 2, 3]) (js := [4, 5, 6]) ((Keep.refl _).trans ky1) (Rn.s rfl Yv.mv (Rn.s rfl Yv.ex (Rn.s rfl Yv.ex (Rn.nil)))) (WO.act (hc := rfl) (he := Ef.allocL (vs := [.int .i64 0, S [], .int .i64 0, .int .i64 0]) (hsx2.quiet ky1) (fun by2 wy2 ky2 hsy2 => WO.act (hc := rfl) (he := Ef.stores hsy2 0 (fun wy3 hsy3 => WO.rd (is := [6]) (js := []) (Keep.refl _) (Rn.s rfl Yv.as (Rn.nil)) (WO.done ?_)))))))))
  have hg2 := hg.keep hsy3.keep
  have c1 : Cells wy3 bx1 f42.cs := hsy3.cells 1
  have c2 : Cells wy3 by2 (parseS s3).1.cs := hsy3.cells 0
  refine Wp.seq (Wp.draws [] mixed (WD.rd (is := [0]) (fun _ _ _ _ _ h => h) (Keep.drew _) (Rn.s rfl (Yv.ldb c1) (Rn.nil)) (WD.cv 1 rfl (text_cv f42 f42_ok _ hg2) (Keep.drew _) (FnOk.of Tryz.func10) (fun wz1 kz1 => WD.rd (is := [2, 3, 4, 5, 6, 7, 8, 9, 10, 11, 12]) (fun _ _ _ _ _ h => h) ((Keep.drew _).trans kz1) (Rn.s rfl (Yv.scm _ rfl) (Rn.s rfl Yv.mv (Rn.and (is := [4, 5, 6]) (js := [7, 8, 9, 10, 11, 12]) (t := 12) (d := 15) (hg := rfl) (ht := fun h3 => Rn.s rfl Yv.mv (Rn.s rfl (Yv.cmp _ rfl) (Rn.s rfl Yv.pick_t ((Rn.e 3 rfl rfl))))) (hf := fun _ => Rn.no rfl (Rn.no rfl (Rn.s rfl Yv.pick_f (Rn.e 3 rfl rfl)))) (k := Rn.s rfl Yv.mv (Rn.and (is := [8, 9, 10, 11]) (js := [12]) (t := 16) (d := 20) (hg := rfl) (ht := fun h7 => Rn.s rfl (Yv.ldb c2) (Rn.s rfl (Yv.bd (cs := Ft.cs f3)) (Rn.s rfl (Yv.eqs (ftEq _ _)) (Rn.s rfl Yv.pick_t ((Rn.e 4 rfl rfl)))))) (hf := fun _ => Rn.no rfl (Rn.no rfl (Rn.no rfl (Rn.s rfl Yv.pick_f (Rn.e 4 rfl rfl))))) (k := Rn.s rfl Yv.mv (Rn.nil))))))) (WD.and [13, 14, 15, 16, 17, 18, 19, 20, 21, 22] 21 31 (hg := rfl) (ht := fun h12 qz2 => WD.rd (is := [13, 14, 16, 17, 18, 19, 20]) (fun _ _ _ _ _ h => h) ((Keep.drew _).trans kz1) (Rn.s rfl (Yv.ldb c1) (Rn.s rfl (Yv.ldb c2) (Rn.s rfl (Yv.fa (off := 1)) (Rn.s rfl (Yv.ld (c1.at_ 1)) (Rn.s rfl (Yv.fa (off := 1)) (Rn.s rfl (Yv.ld (c2.at_ 1)) (Rn.s rfl (Yv.scm _ rfl) (Rn.nil)))))))) (WD.cv 15 rfl (less_cv f42 (parseS s3).1 _) ((Keep.drew _).trans kz1) (FnOk.of Tryz.func14) (fun wz3 kz3 => WD.rd (is := [21, 22]) (fun _ _ _ _ _ h => h) (((Keep.drew _).trans kz1).trans kz3) (Rn.s rfl (Yv.bcm _ rfl) (Rn.s rfl Yv.pick_t (Rn.nil))) (WD.e 10 (qz2 _ ((Keep.refl _).trans kz3)))))) (hf := fun _ qz2 => WD.rd (is := [13, 14, 15, 16, 17, 18, 19, 20, 21, 22]) (fun _ _ _ _ _ h => h) ((Keep.drew _).trans kz1) (Rn.no rfl (Rn.no rfl (Rn.no rfl (Rn.no rfl (Rn.no rfl (Rn.no rfl (Rn.no rfl (Rn.no rfl (Rn.no rfl (Rn.s rfl Yv.pick_f Rn.nil)))))))))) (WD.e 10 (qz2 _ (Keep.refl _)))) (k := fun wz2 kz2 => WD.rd (is := [23]) (fun _ _ _ _ _ h => h) (((Keep.drew _).trans kz1).trans kz2) (Rn.s rfl Yv.mv (Rn.nil)) (WD.and [24, 25, 26, 27, 28, 29, 30] 32 39 (hg := rfl) (ht := fun h23 qz4 => WD.rd (is := [24, 25, 28]) (fun _ _ _ _ _ h => h) (((Keep.drew _).trans kz1).trans kz2) (Rn.s rfl (Yv.bd (cs := Ft.cs ⟨0, [], 0, 0⟩)) (Rn.s rfl (Yv.ldb c1) (Rn.s rfl (Yv.ldb c1) (Rn.nil)))) (WD.act 26 (hc := rfl) (he := Ef.bsl (T := 24) FtE [⟨0, [], 0, 0⟩, f42] (St.init _) (fun bz5 wz5 kz5 hsz5 => ⟨fun _ => kz5, WD.cv 27 rfl (first_cv _ _ [⟨0, [], 0, 0⟩, f42] _ (hsz5.rd 0) (by decide)) (Keep.refl _) (FnOk.of Tryz.func16) (fun wz6 kz6 => WD.rd (is := [29, 30]) (fun _ _ _ _ _ h => h) (((((Keep.drew _).trans kz1).trans kz2).trans kz5).trans kz6) (Rn.s rfl (Yv.eqs (ftEq _ _)) (Rn.s rfl Yv.pick_t (Rn.nil))) (WD.e 7 (qz4 _ (((Keep.refl _).trans kz5).trans kz6))))⟩)))) (hf := fun _ qz4 => WD.rd (is := [24, 25, 26, 27, 28, 29, 30]) (fun _ _ _ _ _ h => h) (((Keep.drew _).trans kz1).trans kz2) (Rn.no rfl (Rn.no rfl (Rn.no rfl (Rn.no rfl (Rn.no rfl (Rn.no rfl (Rn.s rfl Yv.pick_f Rn.nil))))))) (WD.e 7 (qz4 _ (Keep.refl _)))) (k := fun wz4 kz4 => WD.rd (is := [31]) (fun _ _ _ _ _ h => h) ((((Keep.drew _).trans kz1).trans kz2).trans kz4) (Rn.s rfl Yv.as (Rn.nil)) (WD.done ?_)))))))))
  refine Wp.ret (Fin.ret (Res.one rfl rfl) ⟨?_, (hsy3.keep.trans (Keep.drew _)).trans ?_⟩)
  · kernel_rfl
  · exact (kz1.trans kz2).trans kz4
end Go.Proofs.YtkobcbjblllhlaaGreatDoor.C
