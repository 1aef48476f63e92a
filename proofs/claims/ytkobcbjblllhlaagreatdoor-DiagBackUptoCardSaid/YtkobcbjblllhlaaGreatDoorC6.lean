/- Faults in their order: diag's compare, Less, least, First. -/
import Derived.Test.YtkobcbjblllhlaaGreatDoorC5
set_option linter.unusedVariables false
set_option linter.unusedSimpArgs false
set_option maxRecDepth 10000
namespace Go.Proofs.YtkobcbjblllhlaaGreatDoor.C
open Go.RowKit Go.Proofs.YtkobcbjblllhlaaGreatDoor.Sh
structure Ft where
  code : Int
  file : Bs
  line : Int
  col : Int
deriving Inhabited, DecidableEq
abbrev Ft.cs (f : Ft) : List Value := [.int .i64 f.code, S f.file, .int .i64 f.line, .int .i64 f.col]
abbrev FtE : Enc Ft := ⟨4, Ft.cs, fun _ => rfl⟩
abbrev IntE : Enc Int := ⟨1, fun n => [.int .i64 n], fun _ => rfl⟩
theorem ftEq (f g : Ft) : vEqs f.cs g.cs = some (decide (f = g)) := by
  refine (vEqs_cons (vEq_int _ _ _) (vEqs_cons (vEq_S _ _) (vEqs_cons (vEq_int _ _ _) (vEqs_cons (vEq_int _ _ _) rfl)))).trans ?_
  obtain ⟨a, b, c, d⟩ := f
  obtain ⟨a', b', c', d'⟩ := g
  simp [Bool.decide_and]
/-- the first that is not 0 -/
def orI : List Int → Int
  | [] => 0
  | x :: xs => if x ≠ 0 then x else orI xs
theorem or_cv (A : Option Addr) (c : Nat) (xs : List Int) (w0 : World) (hr : Rd IntE w0 A xs) (hl : xs.length < 4000000000000000000) : Cv Tryz.prog 41 [.slice A xs.length c] (.int .i64 (orI xs)) w0 := by
  intro w hk
  have hr := hr.keep hk
  refine calls_of_Wp (vs := [_]) Tryz.func41 ?_
  refine Wp.seq (Wp.reads (is := [0]) (Keep.refl _) (Rn.s rfl Yv.as (Rn.nil)) ?_)
  refine Wp.seq (Wp.reads (is := [0]) (Keep.refl _) (Rn.s rfl Yv.as (Rn.nil)) ?_)
  refine Wp.seq (Wp.seq (Wp.reads (is := [0, 1, 2]) (Keep.refl _) (Rn.s rfl Yv.mv (Rn.s rfl (Yv.len_v (e := 3) (m := 1)) (Rn.s rfl Yv.mv (Rn.nil)))) ?_))
  refine Wp.block ?_
  refine Wp.loop (α := Nat) (fun k ρ ds w' => ds = [] ∧ Keep w w' ∧ k ≤ xs.length ∧ orI (xs.drop k) = orI xs ∧ Sub [(3, .int .i64 0), (6, .slice A xs.length c), (7, .int .i64 xs.length), (8, .int .i64 k)] ρ) (fun k => xs.length - k) 0 ⟨rfl, Keep.refl _, by omega, rfl, rfl, rfl, rfl, rfl, trivial⟩ ?_
  rintro k ρ ds w' ⟨rfl, hk', h1, h2, hs⟩
  refine Wp.forget _ ?_ hs
  refine Wp.seq (Wp.reads (is := [0]) (Keep.refl _) (Rn.s rfl (Yv.cmp _ rfl) (Rn.nil)) ?_)
  refine Wp.seq (Wp.cond rfl (fun hlt => ?_) (fun hlt => ?_))
  · have hlt := of_decide_eq_true hlt
    have hkl : k < xs.length := by omega
    have hget : xs[k]? = some xs[k] := List.getElem?_eq_getElem hkl
    rw [List.drop_eq_getElem_cons hkl, orI, ← nth_of hget] at h2
    refine Wp.skip (Wp.seq (Wp.block (Wp.seq (Wp.reads (is := [0, 1, 2]) hk' (Rn.s rfl (Yv.ia (e := 3) hr (by omega) (by omega)) (Rn.s rfl (Yv.ld (hr.ld 0 (by omega) (by omega))) (Rn.s rfl Yv.as (Rn.nil)))) ?_))))
    refine Wp.seq (Wp.reads (is := [0, 1, 2]) (Keep.refl _) (Rn.s rfl Yv.mv (Rn.s rfl Yv.mv (Rn.s rfl (Yv.cmp _ rfl) (Rn.nil)))) ?_)
    refine Wp.cond rfl (fun h3 => ?_) (fun h3 => ?_)
    · have h3 := bne_iff_ne.1 h3
      rw [if_pos h3] at h2
      refine Wp.seq (Wp.reads (is := [0, 1]) (Keep.refl _) (Rn.s rfl Yv.mv (Rn.s rfl Yv.as (Rn.nil))) ?_)
      exact Wp.ret (Fin.ret (Res.one rfl rfl) ⟨by rw [h2], hk'⟩)
    · have h3 := bne_eq_false_iff_eq.1 h3
      rw [if_neg (by simpa using h3)] at h2
      refine Wp.skip (Wp.reads (is := [0, 1]) (Keep.refl _) (Rn.s rfl (Yv.add (by unfold inI; omega)) (Rn.s rfl Yv.mv (Rn.nil))) ?_)
      exact ⟨k + 1, ⟨rfl, hk', by omega, h2, rfl, rfl, rfl, rfl, trivial⟩, by omega⟩
  · have hlt := of_decide_eq_false hlt
    rw [List.drop_eq_nil_of_le (by omega)] at h2
    refine Wp.exit (Wp.seq (Wp.reads (is := [0, 1]) (Keep.refl _) (Rn.s rfl Yv.mv (Rn.s rfl Yv.as (Rn.nil))) ?_))
    exact Wp.ret (Fin.ret (Res.one rfl rfl) ⟨by rw [← h2]; rfl, hk'⟩)
/-! ### compare -/
def cmpI (a b : Ft) : Int := orI [Lib.compareBytes a.file b.file, Lib.compareInt a.line b.line, Lib.compareInt a.col b.col, Lib.compareInt a.code b.code]
theorem scompare_cv (s p : Bs) (w0 : World) : Cv Tryz.prog 42 [S s, S p] (.int .i64 (Lib.compareBytes s p)) w0 := by
  intro w hk
  refine Calls.mono (Tryz.strings_Compare ⟨⟨s⟩⟩ ⟨⟨p⟩⟩ w) ?_
  rintro e w' ⟨rfl, rfl⟩
  exact ⟨rfl, Keep.refl _⟩
theorem icompare_cv (a b : Int) (w0 : World) : Cv Tryz.prog 43 [.int .i64 a, .int .i64 b] (.int .i64 (Lib.compareInt a b)) w0 := by
  intro w hk
  refine Calls.mono (Tryz.cmp_Compare_int a b w) ?_
  rintro e w' ⟨rfl, rfl⟩
  exact ⟨rfl, Keep.refl _⟩
theorem isNaN_cv (a : Int) (w0 : World) : Cv Tryz.prog 63 [.int .i64 a] (.bool false) w0 := by
  intro w hk
  refine calls_of_Wp (vs := [_]) Tryz.func63 ?_
  refine Wp.seq (Wp.reads (is := [0]) (Keep.refl _) (Rn.s rfl Yv.as (Rn.nil)) ?_)
  refine Wp.seq (Wp.reads (is := [0, 1, 2, 3]) (Keep.refl _) (Rn.s rfl Yv.mv (Rn.s rfl Yv.mv (Rn.s rfl (Yv.cmp _ rfl) (Rn.s rfl Yv.as (Rn.nil))))) ?_)
  exact Wp.ret (Fin.ret (Res.one rfl rfl) ⟨by simp, Keep.refl _⟩)
theorem ecompare_cv (a b : Int) (w0 : World) : Cv Tryz.prog 44 [.int .i64 a, .int .i64 b] (.int .i64 (Lib.compareInt a b)) w0 := by
  intro w hk
  refine calls_of_Wp (vs := [_, _]) Tryz.func44 ?_
  refine Wp.seq (Wp.reads (is := [0]) (Keep.refl _) (Rn.s rfl Yv.as (Rn.nil)) ?_)
  refine Wp.seq (Wp.regionL (l := [0, 1, 2]) (WO.rd (is := [0]) (js := [1, 2]) (Keep.refl _) (Rn.s rfl Yv.mv (Rn.nil)) (WO.cv rfl (isNaN_cv a _) (Keep.refl _) (FnOk.of Tryz.func63) (fun w1 k1 => WO.rd (is := [2]) (js := []) ((Keep.refl _).trans k1) (Rn.s rfl Yv.as (Rn.nil)) (WO.done ?_)))))
  have kk := k1
  refine Wp.seq (Wp.regionL (l := [0, 1, 2]) (WO.rd (is := [0]) (js := [1, 2]) kk (Rn.s rfl Yv.mv (Rn.nil)) (WO.cv rfl (isNaN_cv b _) kk (FnOk.of Tryz.func63) (fun w1 k1 => WO.rd (is := [2]) (js := []) (kk.trans k1) (Rn.s rfl Yv.as (Rn.nil)) (WO.done ?_)))))
  have kk := kk.trans k1
  refine Wp.seq (Wp.seq (Wp.reads (is := [0]) (Keep.refl _) (Rn.s rfl Yv.mv (Rn.nil)) ?_))
  refine Wp.cond_f rfl (Wp.skip ?_)
  refine Wp.seq (Wp.seq (Wp.reads (is := [0]) (Keep.refl _) (Rn.s rfl Yv.mv (Rn.nil)) ?_))
  refine Wp.cond_f rfl (Wp.skip ?_)
  refine Wp.seq (Wp.seq (Wp.reads (is := [0, 1, 2]) (Keep.refl _) (Rn.s rfl Yv.mv (Rn.s rfl Yv.mv (Rn.s rfl (Yv.cmp _ rfl) (Rn.nil)))) ?_))
  refine Wp.cond rfl (fun h => ?_) (fun h => ?_)
  · refine Wp.seq (Wp.reads (is := [0]) (Keep.refl _) (Rn.s rfl Yv.as (Rn.nil)) ?_)
    exact Wp.ret (Fin.ret (Res.one rfl rfl) ⟨by rw [Lib.compareInt, if_pos (of_decide_eq_true h)], kk⟩)
  have h := of_decide_eq_false h
  refine Wp.skip (Wp.seq (Wp.seq (Wp.reads (is := [0, 1, 2]) (Keep.refl _) (Rn.s rfl Yv.mv (Rn.s rfl Yv.mv (Rn.s rfl (Yv.cmp _ rfl) (Rn.nil)))) ?_)))
  refine Wp.cond rfl (fun h' => ?_) (fun h' => ?_)
  · refine Wp.seq (Wp.reads (is := [0]) (Keep.refl _) (Rn.s rfl Yv.as (Rn.nil)) ?_)
    exact Wp.ret (Fin.ret (Res.one rfl rfl) ⟨by rw [Lib.compareInt, if_neg h, if_pos (of_decide_eq_true h')], kk⟩)
  · refine Wp.skip (Wp.seq (Wp.reads (is := [0]) (Keep.refl _) (Rn.s rfl Yv.as (Rn.nil)) ?_))
    exact Wp.ret (Fin.ret (Res.one rfl rfl) ⟨by rw [Lib.compareInt, if_neg h, if_neg (of_decide_eq_false h')], kk⟩)
theorem compare_cv (a b : Ft) (w0 : World) : Cv Tryz.prog 25 [.agg a.cs.toArray, .agg b.cs.toArray] (.int .i64 (cmpI a b)) w0 := by
  intro w hk
  refine calls_of_Wp (vs := [_, _]) Tryz.func25 ?_
  refine Wp.seq (Wp.regionL (l := [0, 1, 2]) (WO.box rfl (fun b1 w1 k1 g1 c1 => WO.box rfl (fun b2 w2 k2 g2 c2 => WO.rd (is := [2]) (js := []) (((Keep.refl _).trans k1).trans k2) (Rn.s rfl Yv.as (Rn.nil)) (WO.done ?_)))))
  have kk := k1.trans k2
  have c1 := c1.keep k2
  refine Wp.seq (Wp.draws [] mixed (WD.rd (is := [0, 1, 2, 3, 5, 6, 7, 8, 10, 11, 12, 13, 15, 16, 17, 18]) (fun _ _ _ _ _ h => h) (Keep.drew _) (Rn.s rfl (Yv.fa (off := 1)) (Rn.s rfl (Yv.ld (c1.at_ 1)) (Rn.s rfl (Yv.fa (off := 1)) (Rn.s rfl (Yv.ld (c2.at_ 1)) (Rn.s rfl (Yv.fa (off := 2)) (Rn.s rfl (Yv.ld (c1.at_ 2)) (Rn.s rfl (Yv.fa (off := 2)) (Rn.s rfl (Yv.ld (c2.at_ 2)) (Rn.s rfl (Yv.fa (off := 3)) (Rn.s rfl (Yv.ld (c1.at_ 3)) (Rn.s rfl (Yv.fa (off := 3)) (Rn.s rfl (Yv.ld (c2.at_ 3)) (Rn.s rfl (Yv.fa (off := 0)) (Rn.s rfl (Yv.ld (c1.at_ 0)) (Rn.s rfl (Yv.fa (off := 0)) (Rn.s rfl (Yv.ld (c2.at_ 0)) (Rn.nil))))))))))))))))) (WD.cv 4 rfl (scompare_cv a.file b.file _) (Keep.drew _) (FnOk.of Tryz.func42) (fun w1 k1 => WD.cv 9 rfl (icompare_cv a.line b.line _) ((Keep.drew _).trans k1) (FnOk.of Tryz.func43) (fun w2 k2 => WD.cv 14 rfl (icompare_cv a.col b.col _) (((Keep.drew _).trans k1).trans k2) (FnOk.of Tryz.func43) (fun w3 k3 => WD.cv 19 rfl (ecompare_cv a.code b.code _) ((((Keep.drew _).trans k1).trans k2).trans k3) (FnOk.of Tryz.func44) (fun w4 k4 => WD.act 20 (hc := rfl) (he := Ef.bsl (T := 3) IntE [Lib.compareBytes a.file b.file, Lib.compareInt a.line b.line, Lib.compareInt a.col b.col, Lib.compareInt a.code b.code] (St.init _) (fun b5 w5 k5 hs5 => ⟨fun _ => k5, WD.cv 21 rfl (or_cv _ _ _ _ (hs5.rd 0) (by simp)) (Keep.refl _) (FnOk.of Tryz.func41) (fun w6 k6 => WD.rd (is := [22]) (fun _ _ _ _ _ h => h) (((((((Keep.drew _).trans k1).trans k2).trans k3).trans k4).trans k5).trans k6) (Rn.s rfl Yv.as (Rn.nil)) (WD.done ?_))⟩)))))))))
  exact Wp.ret (Fin.ret (Res.one rfl rfl) ⟨rfl, (kk.trans (Keep.drew _)).trans (((((k1.trans k2).trans k3).trans k4).trans k5).trans k6)⟩)
def lessB (a b : Ft) : Bool := decide (cmpI a b < 0)
theorem less_cv (a b : Ft) (w0 : World) : Cv Tryz.prog 14 [.agg a.cs.toArray, .agg b.cs.toArray] (.bool (lessB a b)) w0 := by
  intro w hk
  refine calls_of_Wp (vs := [_, _]) Tryz.func14 ?_
  refine Wp.seq (Wp.regionL (l := [0, 1, 2]) (WO.box rfl (fun b1 w1 k1 g1 c1 => WO.box rfl (fun b2 w2 k2 g2 c2 => WO.rd (is := [2]) (js := []) (((Keep.refl _).trans k1).trans k2) (Rn.s rfl Yv.as (Rn.nil)) (WO.done ?_)))))
  have kk := k1.trans k2
  have c1 := c1.keep k2
  refine Wp.seq (Wp.regionL (l := [0, 1, 2, 3, 4]) (WO.rd (is := [0, 1]) (js := [2, 3, 4]) (Keep.refl _) (Rn.s rfl (Yv.ldb c1) (Rn.s rfl (Yv.ldb c2) (Rn.nil))) (WO.cv rfl (compare_cv a b _) (Keep.refl _) (FnOk.of Tryz.func25) (fun w1 k1 => WO.rd (is := [3, 4]) (js := []) ((Keep.refl _).trans k1) (Rn.s rfl (Yv.cmp _ rfl) (Rn.s rfl Yv.as (Rn.nil))) (WO.done ?_)))))
  exact Wp.ret (Fin.ret (Res.one rfl rfl) ⟨rfl, kk.trans k1⟩)
/-- the first of some, by an order -/
def leastF : List Ft → Ft → Ft
  | [], o => o
  | f :: fs, o => leastF fs (if f.code ≠ 0 ∧ (o.code = 0 ∨ lessB f o) then f else o)
theorem least_cv (A : Option Addr) (c : Nat) (xs : List Ft) (w0 : World) (hr : Rd FtE w0 A xs) (hl : xs.length < 4000000000000000000) : Cv Tryz.prog 27 [.func (.func 25) #[] #[], .slice A xs.length c] (.agg (leastF xs ⟨0, [], 0, 0⟩).cs.toArray) w0 := by
  intro w hk
  have hr := hr.keep hk
  refine calls_of_Wp (vs := [_, _]) Tryz.func27 ?_
  refine Wp.seq (Wp.regionL (l := [0]) (WO.act (hc := rfl) (he := Ef.allocL (vs := (Ft.cs ⟨0, [], 0, 0⟩)) (St.init w) (fun bx1 wx1 kx1 hsx1 => WO.done ?_))))
  refine Wp.seq (Wp.regionL (l := [0]) (WO.act (hc := rfl) (he := Ef.allocL (vs := (Ft.cs ⟨0, [], 0, 0⟩)) hsx1 (fun by1 wy1 ky1 hsy1 => WO.done ?_))))
  refine Wp.seq (Wp.seq (Wp.reads (is := [0, 1, 2]) (Keep.refl _) (Rn.s rfl Yv.mv (Rn.s rfl (Yv.len_v (e := 24) (m := 4)) (Rn.s rfl Yv.mv (Rn.nil)))) ?_))
  refine Wp.block ?_
  refine Wp.loop (α := Nat × Ft) (fun x ρ ds w' => ds = [] ∧ x.1 ≤ xs.length ∧ leastF (xs.drop x.1) x.2 = leastF xs ⟨0, [], 0, 0⟩ ∧ St w [] w' [Ch.cells by1 24 x.2.cs, Ch.cells bx1 24 (Ft.cs ⟨0, [], 0, 0⟩)] ∧
    Sub [(0, .func (.func 25) #[] #[]), (4, .pointer (some ⟨bx1, 0, none⟩)), (5, .pointer (some ⟨by1, 0, none⟩)), (8, .slice A xs.length c), (9, .int .i64 xs.length), (10, .int .i64 x.1)] ρ) (fun x => xs.length - x.1) (0, ⟨0, [], 0, 0⟩)
    ⟨rfl, by simp, rfl, hsy1, rfl, rfl, rfl, rfl, rfl, rfl, trivial⟩ ?_
  rintro ⟨k, o⟩ ρ ds w' ⟨rfl, h1, h2, hst, hs⟩
  simp only at h1 h2 hst hs
  refine Wp.forget _ ?_ hs
  refine Wp.seq (Wp.reads (is := [0]) (Keep.refl _) (Rn.s rfl (Yv.cmp _ rfl) (Rn.nil)) ?_)
  refine Wp.seq (Wp.cond rfl (fun hlt => ?_) (fun hlt => ?_))
  · have hlt := of_decide_eq_true hlt
    have hkl : k < xs.length := by omega
    have hget : xs[k]? = some xs[k] := List.getElem?_eq_getElem hkl
    rw [List.drop_eq_getElem_cons hkl, leastF, ← nth_of hget] at h2
    have hk' := hst.keep
    refine Wp.skip (Wp.seq (Wp.block ?_))
    refine Wp.seq (Wp.regionL (l := [0, 1, 2, 3]) (WO.rd (is := [0, 1]) (js := [2, 3]) hk' (Rn.s rfl (Yv.ia (e := 24) hr (by omega) (by omega)) (Rn.s rfl (Yv.ldel hr rfl rfl (by omega) (by omega)) (Rn.nil))) (WO.act (hc := rfl) (he := Ef.allocL (vs := (Ft.cs ⟨0, [], 0, 0⟩)) hst (fun bz1 wz1 kz1 hsz1 => WO.act (hc := rfl) (he := Ef.stores hsz1 0 (fun wz2 hsz2 => WO.done ?_)))))))
    have e0 : (nth xs (k : Int)).code = (nth xs (k : Int)).code := rfl
    have hk2 := hk'.trans kz1
    refine Wp.seq (Wp.regionL (l := [0, 1, 2, 3, 4, 5, 6, 7, 8, 9, 10, 11, 12, 13, 14]) (WO.rd (is := [0, 1, 2, 3]) (js := [4, 5, 6, 7, 8, 9, 10, 11, 12, 13, 14]) (Keep.refl _) (Rn.s rfl (Yv.fa (off := 0)) (Rn.s rfl (Yv.ld ((hsz2.cells 0).at_ 0)) (Rn.s rfl (Yv.cmp _ rfl) (Rn.s rfl Yv.mv (Rn.nil))))) (WO.and (js := []) 17 28 (hg := rfl) (ht := fun h3 qu1 => have h3 := bne_iff_ne.1 h3; WO.rd (is := [4, 5, 6, 7]) (js := [8, 9, 10, 11, 12, 13, 14]) (Keep.refl _) (Rn.s rfl (Yv.fa (off := 0)) (Rn.s rfl (Yv.ld ((hsz2.cells 1).at_ 0)) (Rn.s rfl (Yv.cmp _ rfl) (Rn.s rfl Yv.mv (Rn.nil))))) (WO.or (js := [14]) 21 27 (hg := rfl) (hf := fun h7 qu2 => have h7 := ne_of_beq_false h7; WO.rd (is := [8, 9, 10]) (js := [11, 12, 13, 14]) (Keep.refl _) (Rn.s rfl Yv.mv (Rn.s rfl (Yv.ldb (hsz2.cells 0)) (Rn.s rfl (Yv.ldb (hsz2.cells 1)) (Rn.nil)))) (WO.cv rfl (compare_cv (nth xs (k : Int)) o _) (Keep.refl _) (FnOk.of Tryz.func25) (fun wu3 ku3 => WO.rd (is := [12, 13]) (js := [14]) ((Keep.refl _).trans ku3) (Rn.s rfl (Yv.cmp _ rfl) (Rn.s rfl Yv.pick_f (Rn.nil))) (WO.e 6 (qu2 _ ((Keep.refl _).trans ku3)))))) (ht := fun _ qu2 => WO.rd (is := [8, 9, 10, 11, 12, 13]) (js := [14]) (Keep.refl _) (Rn.no rfl (Rn.no rfl (Rn.no rfl (Rn.no rfl (Rn.no rfl (Rn.s rfl Yv.pick_t Rn.nil)))))) (WO.e 6 (qu2 _ (Keep.refl _)))) (k := fun wu2 ku2 => WO.rd (is := [14]) (js := []) ((Keep.refl _).trans ku2) (Rn.s rfl Yv.pick_t (Rn.nil)) (WO.e 6 (qu1 _ ((Keep.refl _).trans ku2)))))) (hf := fun _ qu1 => WO.rd (is := [4, 5, 6, 7, 8, 9, 10, 11, 12, 13, 14]) (js := []) (Keep.refl _) (Rn.no rfl (Rn.no rfl (Rn.no rfl (Rn.no rfl (Rn.no rfl (Rn.no rfl (Rn.no rfl (Rn.no rfl (Rn.no rfl (Rn.no rfl (Rn.s rfl Yv.pick_f Rn.nil))))))))))) (WO.e 11 (qu1 _ (Keep.refl _)))) (k := fun wu1 ku1 => WO.done ?_))))
    refine Wp.mid (fun ρ ds w'' => ds = [] ∧ St w [] w'' [Ch.cells by1 24 (if (nth xs (k : Int)).code ≠ 0 ∧ (o.code = 0 ∨ lessB (nth xs (k : Int)) o) then (nth xs (k : Int)) else o).cs, Ch.cells bx1 24 (Ft.cs ⟨0, [], 0, 0⟩)] ∧
      Sub [(0, .func (.func 25) #[] #[]), (4, .pointer (some ⟨bx1, 0, none⟩)), (5, .pointer (some ⟨by1, 0, none⟩)), (8, .slice A xs.length c), (9, .int .i64 xs.length), (10, .int .i64 k)] ρ) ?_ ?_
    · refine Wp.cond rfl (fun h3 => ?_) (fun h3 => ?_)
      · have h3 : (nth xs (k : Int)).code ≠ 0 ∧ (o.code = 0 ∨ lessB (nth xs (k : Int)) o) := by simpa [lessB] using h3
        rw [if_pos h3]
        have hst3 := hsz2.quiet ku1
        refine Wp.regionL (l := [0, 1]) (WO.rd (is := [0]) (js := [1]) (Keep.refl _) (Rn.s rfl (Yv.ldb (hst3.cells 0)) (Rn.nil)) (WO.act (hc := rfl) (he := Ef.stores hst3 1 (fun wv1 hsv1 => WO.done ?_))))
        exact ⟨rfl, hsv1.drop1, rfl, rfl, rfl, rfl, rfl, rfl, trivial⟩
      · have h3 : ¬ ((nth xs (k : Int)).code ≠ 0 ∧ (o.code = 0 ∨ lessB (nth xs (k : Int)) o)) := by simpa [lessB] using h3
        rw [if_neg h3]
        exact Wp.skip ⟨rfl, (hsz2.quiet ku1).drop, rfl, rfl, rfl, rfl, rfl, rfl, trivial⟩
    · rintro ρ ds w'' ⟨rfl, hst, hs⟩
      refine Wp.forget _ ?_ hs
      refine Wp.reads (is := [0, 1]) (Keep.refl _) (Rn.s rfl (Yv.add (by unfold inI; omega)) (Rn.s rfl Yv.mv (Rn.nil))) ?_
      exact ⟨(k + 1, _), ⟨rfl, by simp only; omega, h2, hst, rfl, rfl, rfl, rfl, rfl, rfl, trivial⟩, by simp only; omega⟩
  · have hlt := of_decide_eq_false hlt
    rw [List.drop_eq_nil_of_le (by omega), leastF] at h2
    refine Wp.exit (Wp.seq (Wp.regionL (l := [0, 1]) (WO.rd (is := [0]) (js := [1]) (Keep.refl _) (Rn.s rfl (Yv.ldb (hst.cells 0)) (Rn.nil)) (WO.act (hc := rfl) (he := Ef.stores hst 1 (fun wv1 hsv1 => WO.done ?_))))))
    refine Wp.ret (Fin.ret (resAgg rfl rfl (hsv1.cells 0) rfl) ⟨by rw [← h2]; rfl, hsv1.keep⟩)
theorem first_cv (A : Option Addr) (c : Nat) (xs : List Ft) (w0 : World) (hr : Rd FtE w0 A xs) (hl : xs.length < 4000000000000000000) : Cv Tryz.prog 16 [.slice A xs.length c] (.agg (leastF xs ⟨0, [], 0, 0⟩).cs.toArray) w0 := by
  intro w hk
  have hr := hr.keep hk
  refine calls_of_Wp (vs := [_]) Tryz.func16 ?_
  refine Wp.seq (Wp.regionL (l := [0]) (WO.act (hc := rfl) (he := Ef.allocL (vs := (Ft.cs ⟨0, [], 0, 0⟩)) (St.init w) (fun bx1 wx1 kx1 hsx1 => WO.done ?_))))
  refine Wp.seq (Wp.regionL (l := [0, 1, 2]) (WO.rd (is := [0]) (js := [1, 2]) kx1 (Rn.s rfl Yv.mv (Rn.nil)) (WO.cv rfl (least_cv A c xs _ hr hl) kx1 (FnOk.of Tryz.func27) (fun wy1 ky1 => WO.act (hc := rfl) (he := Ef.stores (hsx1.quiet ky1) 0 (fun wy2 hsy2 => WO.done ?_))))))
  exact Wp.ret (Fin.ret (resAgg rfl rfl (hsy2.cells 0) rfl) ⟨rfl, hsy2.keep⟩)
/-! ### the document's own -/
def rlessB (a b : Ft) : Bool := if a.file ≠ b.file then Op.bytesLess a.file b.file else if a.line ≠ b.line then decide (a.line < b.line) else if a.col ≠ b.col then decide (a.col < b.col) else decide (a.code < b.code)
theorem rless_cv (a b : Ft) (w0 : World) : Cv Tryz.prog 26 [.agg a.cs.toArray, .agg b.cs.toArray] (.bool (rlessB a b)) w0 := by
  intro w hk
  refine calls_of_Wp (vs := [_, _]) Tryz.func26 ?_
  refine Wp.seq (Wp.regionL (l := [0, 1, 2]) (WO.box rfl (fun b1 w1 k1 g1 c1 => WO.box rfl (fun b2 w2 k2 g2 c2 => WO.rd (is := [2]) (js := []) (((Keep.refl _).trans k1).trans k2) (Rn.s rfl Yv.as (Rn.nil)) (WO.done ?_)))))
  have kk := k1.trans k2
  have c1 := c1.keep k2
  refine Wp.seq (Wp.seq (Wp.reads (is := [0, 1, 2, 3, 4]) (Keep.refl _) (Rn.s rfl (Yv.fa (off := 1)) (Rn.s rfl (Yv.ld (c1.at_ 1)) (Rn.s rfl (Yv.fa (off := 1)) (Rn.s rfl (Yv.ld (c2.at_ 1)) (Rn.s rfl (Yv.scm _ rfl) (Rn.nil)))))) ?_))
  refine Wp.cond rfl (fun h => ?_) (fun h => ?_)
  · refine Wp.seq (Wp.reads (is := [0, 1, 2, 3, 4, 5]) (Keep.refl _) (Rn.s rfl (Yv.fa (off := 1)) (Rn.s rfl (Yv.ld (c1.at_ 1)) (Rn.s rfl (Yv.fa (off := 1)) (Rn.s rfl (Yv.ld (c2.at_ 1)) (Rn.s rfl (Yv.scm _ rfl) (Rn.s rfl Yv.as (Rn.nil))))))) ?_)
    exact Wp.ret (Fin.ret (Res.one rfl rfl) ⟨by rw [rlessB, if_pos (bne_iff_ne.1 h)], kk⟩)
  refine Wp.skip (Wp.seq (Wp.seq (Wp.reads (is := [0, 1, 2, 3, 4]) (Keep.refl _) (Rn.s rfl (Yv.fa (off := 2)) (Rn.s rfl (Yv.ld (c1.at_ 2)) (Rn.s rfl (Yv.fa (off := 2)) (Rn.s rfl (Yv.ld (c2.at_ 2)) (Rn.s rfl (Yv.cmp _ rfl) (Rn.nil)))))) ?_)))
  have h := bne_eq_false_iff_eq.1 h
  refine Wp.cond rfl (fun h' => ?_) (fun h' => ?_)
  · refine Wp.seq (Wp.reads (is := [0, 1, 2, 3, 4, 5]) (Keep.refl _) (Rn.s rfl (Yv.fa (off := 2)) (Rn.s rfl (Yv.ld (c1.at_ 2)) (Rn.s rfl (Yv.fa (off := 2)) (Rn.s rfl (Yv.ld (c2.at_ 2)) (Rn.s rfl (Yv.cmp _ rfl) (Rn.s rfl Yv.as (Rn.nil))))))) ?_)
    exact Wp.ret (Fin.ret (Res.one rfl rfl) ⟨by rw [rlessB, if_neg (by simpa using h), if_pos (bne_iff_ne.1 h')], kk⟩)
  refine Wp.skip (Wp.seq (Wp.seq (Wp.reads (is := [0, 1, 2, 3, 4]) (Keep.refl _) (Rn.s rfl (Yv.fa (off := 3)) (Rn.s rfl (Yv.ld (c1.at_ 3)) (Rn.s rfl (Yv.fa (off := 3)) (Rn.s rfl (Yv.ld (c2.at_ 3)) (Rn.s rfl (Yv.cmp _ rfl) (Rn.nil)))))) ?_)))
  have h' := bne_eq_false_iff_eq.1 h'
  refine Wp.cond rfl (fun h2 => ?_) (fun h2 => ?_)
  · refine Wp.seq (Wp.reads (is := [0, 1, 2, 3, 4, 5]) (Keep.refl _) (Rn.s rfl (Yv.fa (off := 3)) (Rn.s rfl (Yv.ld (c1.at_ 3)) (Rn.s rfl (Yv.fa (off := 3)) (Rn.s rfl (Yv.ld (c2.at_ 3)) (Rn.s rfl (Yv.cmp _ rfl) (Rn.s rfl Yv.as (Rn.nil))))))) ?_)
    exact Wp.ret (Fin.ret (Res.one rfl rfl) ⟨by rw [rlessB, if_neg (by simpa using h), if_neg (by simpa using h'), if_pos (bne_iff_ne.1 h2)], kk⟩)
  refine Wp.skip (Wp.seq (Wp.reads (is := [0, 1, 2, 3, 4, 5]) (Keep.refl _) (Rn.s rfl (Yv.fa (off := 0)) (Rn.s rfl (Yv.ld (c1.at_ 0)) (Rn.s rfl (Yv.fa (off := 0)) (Rn.s rfl (Yv.ld (c2.at_ 0)) (Rn.s rfl (Yv.cmp _ rfl) (Rn.s rfl Yv.as (Rn.nil))))))) ?_))
  have h2 := bne_eq_false_iff_eq.1 h2
  exact Wp.ret (Fin.ret (Res.one rfl rfl) ⟨by rw [rlessB, if_neg (by simpa using h), if_neg (by simpa using h'), if_neg (by simpa using h2)], kk⟩)
theorem compareBytes_eq : ∀ (s p : Bs), Lib.compareBytes s p = if s = p then 0 else if Op.bytesLess s p then -1 else 1
  | [], [] => by simp [Lib.compareBytes]
  | [], _ :: _ => by simp [Lib.compareBytes, Op.bytesLess]
  | _ :: _, [] => by simp [Lib.compareBytes, Op.bytesLess]
  | x :: xs, y :: ys => by
    rw [Lib.compareBytes, compareBytes_eq xs ys]
    by_cases h1 : x < y
    · have : x ≠ y := by rintro rfl; exact absurd h1 (by simp)
      simp [h1, this, Op.bytesLess]
    · by_cases h2 : y < x
      · have : x ≠ y := by rintro rfl; exact absurd h2 (by simp)
        simp [h1, h2, this, Op.bytesLess]
      · have : x = y := by
          apply UInt8.toNat_inj.1
          simp [UInt8.lt_iff_toNat_lt] at h1 h2
          omega
        subst this
        simp [Op.bytesLess]
theorem bytesLess_irrefl (s : Bs) : Op.bytesLess s s = false := by
  induction s with
  | nil => rfl
  | cons x xs ih => simp [Op.bytesLess, ih]
theorem less_eq (a b : Ft) : lessB a b = rlessB a b := by
  unfold lessB rlessB cmpI
  simp only [orI, compareBytes_eq, Lib.compareInt]
  by_cases h1 : a.file = b.file
  · simp only [h1, if_true, ne_eq, not_true, if_false]
    by_cases h2 : a.line = b.line
    · simp only [h2, Int.lt_irrefl, gt_iff_lt, if_false, not_true]
      by_cases h3 : a.col = b.col
      · simp only [h3, Int.lt_irrefl, if_false, not_true]
        by_cases h4 : a.code < b.code
        · simp [h4]
        · by_cases h5 : b.code < a.code <;> simp [h4, h5]
      · by_cases h4 : a.col < b.col
        · simp [h4, h3]
        · have h5 : b.col < a.col := by omega
          simp [h4, h5, h3]
    · by_cases h4 : a.line < b.line
      · simp [h4, h2]
      · have h5 : b.line < a.line := by omega
        simp [h4, h5, h2]
  · cases hb : Op.bytesLess a.file b.file <;> simp [h1]
theorem rfirst_cv (A : Option Addr) (c : Nat) (xs : List Ft) (w0 : World) (hr : Rd FtE w0 A xs) (hl : xs.length < 4000000000000000000) : Cv Tryz.prog 15 [.slice A xs.length c] (.agg (leastF xs ⟨0, [], 0, 0⟩).cs.toArray) w0 := by
  intro w hk
  have hr := hr.keep hk
  refine calls_of_Wp (vs := [_]) Tryz.func15 ?_
  refine Wp.seq (Wp.regionL (l := [0]) (WO.act (hc := rfl) (he := Ef.allocL (vs := (Ft.cs ⟨0, [], 0, 0⟩)) (St.init w) (fun bx1 wx1 kx1 hsx1 => WO.done ?_))))
  refine Wp.seq (Wp.regionL (l := [0]) (WO.act (hc := rfl) (he := Ef.allocL (vs := (Ft.cs ⟨0, [], 0, 0⟩)) hsx1 (fun by1 wy1 ky1 hsy1 => WO.done ?_))))
  refine Wp.seq (Wp.seq (Wp.reads (is := [0]) (Keep.refl _) (Rn.s rfl Yv.as (Rn.nil)) ?_))
  refine Wp.block ?_
  refine Wp.loop (α := Nat × Ft) (fun x ρ ds w' => ds = [] ∧ x.1 ≤ xs.length ∧ leastF (xs.drop x.1) x.2 = leastF xs ⟨0, [], 0, 0⟩ ∧ St w [] w' [Ch.cells by1 24 x.2.cs, Ch.cells bx1 24 (Ft.cs ⟨0, [], 0, 0⟩)] ∧
    Sub [(0, .slice A xs.length c), (2, .pointer (some ⟨bx1, 0, none⟩)), (3, .pointer (some ⟨by1, 0, none⟩)), (4, .int .i64 x.1)] ρ) (fun x => xs.length - x.1) (0, ⟨0, [], 0, 0⟩)
    ⟨rfl, by simp, rfl, hsy1, rfl, rfl, rfl, rfl, trivial⟩ ?_
  rintro ⟨k, o⟩ ρ ds w' ⟨rfl, h1, h2, hst, hs⟩
  simp only at h1 h2 hst hs
  refine Wp.forget _ ?_ hs
  refine Wp.seq (Wp.seq (Wp.reads (is := [0, 1, 2, 3]) (Keep.refl _) (Rn.s rfl Yv.mv (Rn.s rfl Yv.mv (Rn.s rfl (Yv.len_v (e := 24) (m := 4)) (Rn.s rfl (Yv.cmp _ rfl) (Rn.nil))))) ?_))
  refine Wp.cond rfl (fun hlt => ?_) (fun hlt => ?_)
  · have hlt := of_decide_eq_true hlt
    have hkl : k < xs.length := by omega
    have hget : xs[k]? = some xs[k] := List.getElem?_eq_getElem hkl
    rw [List.drop_eq_getElem_cons hkl, leastF, ← nth_of hget] at h2
    have hr' := hr.keep hst.keep
    refine Wp.skip (Wp.seq (Wp.block ?_))
    refine Wp.seq (Wp.draws [] mixed (WD.rd (is := [0, 1, 2, 3, 4, 5, 6]) (fun _ _ _ _ _ h => h) (Keep.drew _) (Rn.s rfl Yv.mv (Rn.s rfl Yv.mv (Rn.s rfl (Yv.ia (e := 24) hr' (by omega) (by omega)) (Rn.s rfl (Yv.fa (off := 0)) (Rn.s rfl (Yv.ld (hr'.ld 0 (by omega) (by omega))) (Rn.s rfl (Yv.cmp _ rfl) (Rn.s rfl Yv.mv (Rn.nil)))))))) (WD.and [7, 8, 9, 10, 11, 12, 13, 14, 15, 16, 17, 18] 17 29 (hg := rfl) (ht := fun h6 qu1 => have h6 := bne_iff_ne.1 h6; WD.rd (is := [7, 8, 9, 10]) (fun _ _ _ _ _ h => h) (Keep.drew _) (Rn.s rfl (Yv.fa (off := 0)) (Rn.s rfl (Yv.ld ((hst.cells 0).at_ 0)) (Rn.s rfl (Yv.cmp _ rfl) (Rn.s rfl Yv.mv (Rn.nil))))) (WD.or [11, 12, 13, 14, 15, 16, 17] 21 28 (hg := rfl) (hf := fun h10 qu2 => have h10 := ne_of_beq_false h10; WD.rd (is := [11, 12, 13, 14, 15]) (fun _ _ _ _ _ h => h) (Keep.drew _) (Rn.s rfl Yv.mv (Rn.s rfl Yv.mv (Rn.s rfl (Yv.ia (e := 24) hr' (by omega) (by omega)) (Rn.s rfl (Yv.ldel hr' rfl rfl (by omega) (by omega)) (Rn.s rfl (Yv.ldb (hst.cells 0)) (Rn.nil)))))) (WD.cv 16 rfl (rless_cv (nth xs (k : Int)) o _) (Keep.drew _) (FnOk.of Tryz.func26) (fun wu3 ku3 => WD.rd (is := [17]) (fun _ _ _ _ _ h => h) ((Keep.drew _).trans ku3) (Rn.s rfl Yv.pick_f (Rn.nil)) (WD.e 7 (qu2 _ ((Keep.refl _).trans ku3)))))) (ht := fun _ qu2 => WD.rd (is := [11, 12, 13, 14, 15, 16, 17]) (fun _ _ _ _ _ h => h) (Keep.drew _) (Rn.no rfl (Rn.no rfl (Rn.no rfl (Rn.no rfl (Rn.no rfl (Rn.no rfl (Rn.s rfl Yv.pick_t Rn.nil))))))) (WD.e 7 (qu2 _ (Keep.refl _)))) (k := fun wu2 ku2 => WD.rd (is := [18]) (fun _ _ _ _ _ h => h) ((Keep.drew _).trans ku2) (Rn.s rfl Yv.pick_t (Rn.nil)) (WD.e 6 (qu1 _ ((Keep.refl _).trans ku2)))))) (hf := fun _ qu1 => WD.rd (is := [7, 8, 9, 10, 11, 12, 13, 14, 15, 16, 17, 18]) (fun _ _ _ _ _ h => h) (Keep.drew _) (Rn.no rfl (Rn.no rfl (Rn.no rfl (Rn.no rfl (Rn.no rfl (Rn.no rfl (Rn.no rfl (Rn.no rfl (Rn.no rfl (Rn.no rfl (Rn.no rfl (Rn.s rfl Yv.pick_f Rn.nil)))))))))))) (WD.e 12 (qu1 _ (Keep.refl _)))) (k := fun wu1 ku1 => WD.done ?_))))
    refine Wp.mid (fun ρ ds w'' => ds = [] ∧ St w [] w'' [Ch.cells by1 24 (if (nth xs (k : Int)).code ≠ 0 ∧ (o.code = 0 ∨ lessB (nth xs (k : Int)) o) then (nth xs (k : Int)) else o).cs, Ch.cells bx1 24 (Ft.cs ⟨0, [], 0, 0⟩)] ∧
      Sub [(0, .slice A xs.length c), (2, .pointer (some ⟨bx1, 0, none⟩)), (3, .pointer (some ⟨by1, 0, none⟩)), (4, .int .i64 k)] ρ) ?_ ?_
    · refine Wp.cond rfl (fun h3 => ?_) (fun h3 => ?_)
      · have h3 : (nth xs (k : Int)).code ≠ 0 ∧ (o.code = 0 ∨ lessB (nth xs (k : Int)) o) := by simpa [less_eq] using h3
        rw [if_pos h3]
        have hst3 := hst.quiet ((Keep.drew _).trans ku1)
        have hr2 := hr.keep hst3.keep
        refine Wp.regionL (l := [0, 1, 2, 3, 4]) (WO.rd (is := [0, 1, 2, 3]) (js := [4]) (Keep.refl _) (Rn.s rfl Yv.mv (Rn.s rfl Yv.mv (Rn.s rfl (Yv.ia (e := 24) hr2 (by omega) (by omega)) (Rn.s rfl (Yv.ldel hr2 rfl rfl (by omega) (by omega)) (Rn.nil))))) (WO.act (hc := rfl) (he := Ef.stores hst3 0 (fun wv1 hsv1 => WO.done ?_))))
        exact ⟨rfl, hsv1, rfl, rfl, rfl, rfl, trivial⟩
      · have h3 : ¬ ((nth xs (k : Int)).code ≠ 0 ∧ (o.code = 0 ∨ lessB (nth xs (k : Int)) o)) := by simpa [less_eq] using h3
        rw [if_neg h3]
        exact Wp.skip ⟨rfl, hst.quiet ((Keep.drew _).trans ku1), rfl, rfl, rfl, rfl, trivial⟩
    · rintro ρ ds w'' ⟨rfl, hst, hs⟩
      refine Wp.forget _ ?_ hs
      refine Wp.reads (is := [0, 1, 2]) (Keep.refl _) (Rn.s rfl Yv.mv (Rn.s rfl (Yv.add (by unfold inI; omega)) (Rn.s rfl Yv.as (Rn.nil)))) ?_
      exact ⟨(k + 1, _), ⟨rfl, by simp only; omega, h2, hst, rfl, rfl, rfl, rfl, trivial⟩, by simp only; omega⟩
  · have hlt := of_decide_eq_false hlt
    rw [List.drop_eq_nil_of_le (by omega), leastF] at h2
    refine Wp.exit (Wp.seq (Wp.regionL (l := [0, 1]) (WO.rd (is := [0]) (js := [1]) (Keep.refl _) (Rn.s rfl (Yv.ldb (hst.cells 0)) (Rn.nil)) (WO.act (hc := rfl) (he := Ef.stores hst 1 (fun wv1 hsv1 => WO.done ?_))))))
    refine Wp.ret (Fin.ret (resAgg rfl rfl (hsv1.cells 0) rfl) ⟨by rw [← h2]; rfl, hsv1.keep⟩)
end Go.Proofs.YtkobcbjblllhlaaGreatDoor.C
