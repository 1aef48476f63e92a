/- The walk of DiagFirst. -/
import Derived.Test.YtkobcbjblllhlaaGreatDoorD2
set_option linter.unusedVariables false
set_option linter.unusedSimpArgs false
set_option maxRecDepth 10000
namespace Go.Proofs.YtkobcbjblllhlaaGreatDoor.C
open Go.RowKit Go.Proofs.YtkobcbjblllhlaaGreatDoor.Sh
theorem first_calls (A : Option Addr) (c : Nat) (xs : List Ft) (at_ : Int) (w : World) (hg : Gl w) (hr : Rd FtE w A xs) (hc : xs.length ≤ c) (hl : xs.length ≤ 3518437208832) :
    Calls Tryz.prog 7 #[.slice A xs.length c, .int .i64 at_] w fun e w' => e = .returned (.bool true) ∧ Keep w w' := by
  refine calls_of_Wp (vs := [_, _]) Tryz.func7 ?_
  refine Wp.seq (Wp.reads (is := [0]) (Keep.refl _) (Rn.s rfl Yv.as (Rn.nil)) ?_)
  refine Wp.seq (Wp.regionL (l := [0, 1, 2, 3]) (WO.rd (is := [0]) (js := [1, 2, 3]) (Keep.refl _) (Rn.s rfl Yv.mv (Rn.nil)) (WO.cv rfl (rfirst_cv A c xs _ hr (by omega)) (Keep.refl _) (FnOk.of Tryz.func15) (fun wx1 kx1 => WO.act (hc := rfl) (he := Ef.allocL (vs := [.int .i64 0, S [], .int .i64 0, .int .i64 0]) ((St.init w).quiet kx1) (fun bx2 wx2 kx2 hsx2 => WO.act (hc := rfl) (he := Ef.stores hsx2 0 (fun wx3 hsx3 => WO.done ?_))))))))
  have hsx := hsx3.nilrow FtE 24
  refine Wp.seq (Wp.reads (is := [0]) (Keep.refl _) (Rn.s rfl Yv.as (Rn.nil)) ?_)
  refine Wp.seq (Wp.seq (Wp.reads (is := [0, 1, 2, 3]) (Keep.refl _) (Rn.s rfl Yv.mv (Rn.s rfl (Yv.len_v (e := 24) (m := 4)) (Rn.s rfl (Yv.sub (by unfold inI; omega)) (Rn.s rfl Yv.as (Rn.nil))))) ?_))
  refine Wp.block ?_
  have hd0 : xs.drop (xs.length - 0) = [] := by simp
  refine Wp.loop (α := (Option Addr × Nat) × Nat) (fun x ρ ds w' => ds = [] ∧ x.2 ≤ xs.length ∧ St w [] w' [Ch.row FtE 24 x.1.1 x.1.2 (xs.drop (xs.length - x.2)).reverse, Ch.cells bx2 24 (leastF xs Z).cs] ∧
    Sub [(0, .slice A xs.length c), (1, .int .i64 at_), (5, .pointer (some ⟨bx2, 0, none⟩)), (6, .slice x.1.1 (xs.drop (xs.length - x.2)).reverse.length x.1.2), (7, .int .i64 (xs.length - 1 - x.2))] ρ) (fun x => xs.length - x.2) ((none, 0), 0)
    ⟨rfl, Nat.zero_le _, by rw [hd0]; exact hsx, rfl, rfl, rfl, by rw [hd0]; rfl, by rw [Int.natCast_zero, Int.sub_zero]; rfl, trivial⟩ ?_
  rintro ⟨⟨A', c'⟩, k⟩ ρ ds w' ⟨rfl, h1, hst, hs⟩
  simp only at h1 hst hs
  refine Wp.forget _ ?_ hs
  refine Wp.seq (Wp.seq (Wp.reads (is := [0, 1]) (Keep.refl _) (Rn.s rfl Yv.mv (Rn.s rfl (Yv.cmp _ rfl) (Rn.nil))) ?_))
  refine Wp.cond rfl (fun h => ?_) (fun h => ?_)
  · have h := of_decide_eq_true h
    have hkl : k < xs.length := by omega
    have hr' := hr.keep hst.keep
    have e1 : ((xs.length : Int) - 1 - k) = ((xs.length - 1 - k : Nat) : Int) := by omega
    have hnx : (xs.drop (xs.length - (k + 1))).reverse = (xs.drop (xs.length - k)).reverse ++ [nth xs ((xs.length : Int) - 1 - k)] := by
      have h2 : xs.length - (k + 1) < xs.length := by omega
      rw [List.drop_eq_getElem_cons h2, List.reverse_cons, e1, nth_of (List.getElem?_eq_getElem (by omega : xs.length - 1 - k < xs.length))]
      have h3 : xs.length - (k + 1) + 1 = xs.length - k := by omega
      have h4 : xs.length - (k + 1) = xs.length - 1 - k := by omega
      rw [h3]
      simp only [h4]
    have hfit : Fits Tryz.prog 24 ((xs.drop (xs.length - k)).reverse.length + [nth xs ((xs.length : Int) - 1 - k)].length) := .inr ⟨3518437208832, by kernel_rfl, by simp only [List.length_reverse, List.length_drop, List.length_cons, List.length_nil]; omega⟩
    refine Wp.skip (Wp.seq (Wp.block (Wp.regionL (l := [0, 1, 2, 3, 4, 5, 6, 7]) (WO.rd (is := [0, 1, 2, 3, 4]) (js := [5, 6, 7]) (Keep.refl _) (Rn.s rfl Yv.mv (Rn.s rfl Yv.mv (Rn.s rfl Yv.mv (Rn.s rfl (Yv.ia (e := 24) hr' (by omega) (by omega)) (Rn.s rfl (Yv.ldel hr' rfl rfl (by omega) (by omega)) (Rn.nil)))))) (WO.app FtE [nth xs ((xs.length : Int) - 1 - k)] rfl (fun _ => rfl) hst 0 hfit (fun by1 Ay1 cy1 wy1 hsy1 => WO.rd (is := [7]) (js := []) (Keep.refl _) (Rn.s rfl Yv.as (Rn.nil)) (WO.done ?_)))))))
    rw [← hnx] at hsy1
    rw [← hnx]
    refine Wp.reads (is := [0, 1, 2]) (Keep.refl _) (Rn.s rfl Yv.mv (Rn.s rfl (Yv.sub (by unfold inI; omega)) (Rn.s rfl Yv.as (Rn.nil)))) ?_
    exact ⟨((_, _), k + 1), ⟨rfl, by simp only; omega, hsy1, rfl, rfl, rfl, rfl, by rw [show ((xs.length : Int) - 1 - ((k + 1 : Nat) : Int)) = (xs.length : Int) - 1 - k - 1 by omega]; rfl, trivial⟩, by simp only; omega⟩
  have h := of_decide_eq_false h
  have hk : k = xs.length := by omega
  subst hk
  simp only [Nat.sub_self, List.drop_zero] at hst hs ⊢
  refine Wp.exit ?_
  obtain ⟨hA0, hA1⟩ := andI_mask at_ 1023 (by decide)
  refine Wp.seq (Wp.reads (is := [0, 1, 2, 3, 4, 5, 6]) (Keep.refl _) (Rn.s rfl Yv.mv (Rn.s rfl Yv.and (Rn.s rfl Yv.mv (Rn.s rfl (Yv.len_v (e := 24) (m := 4)) (Rn.s rfl (Yv.add (by unfold inI; omega)) (Rn.s rfl (Yv.rem hA0 (by omega) (by omega)) (Rn.s rfl Yv.as (Rn.nil)))))))) ?_)
  have hK0 : 0 ≤ andI .i64 at_ 1023 % ((xs.length : Int) + 1) := Int.emod_nonneg _ (by omega)
  have hK1 : andI .i64 at_ 1023 % ((xs.length : Int) + 1) < xs.length + 1 := Int.emod_lt_of_pos _ (by omega)
  generalize andI .i64 at_ 1023 % ((xs.length : Int) + 1) = K at hK0 hK1
  have hr8 := hr.keep hst.keep
  refine Wp.seq (Wp.regionL (l := [0, 1, 2, 3]) (WO.rd (is := [0]) (js := [1, 2, 3]) (Keep.refl _) (Rn.s rfl Yv.mv (Rn.nil)) (WO.cv rfl (first_cv A c xs _ hr8 (by omega)) (Keep.refl _) (FnOk.of Tryz.func16) (fun wz1 kz1 => WO.act (hc := rfl) (he := Ef.allocL (vs := [.int .i64 0, S [], .int .i64 0, .int .i64 0]) (hst.quiet kz1) (fun bz2 wz2 kz2 hsz2 => WO.act (hc := rfl) (he := Ef.stores hsz2 0 (fun wz3 hsz3 => WO.done ?_))))))))
  have hsz : St w [] wz3 [Ch.cells bz2 24 (leastF xs Z).cs, Ch.row FtE 24 A' c' xs.reverse, Ch.cells bx2 24 (leastF xs Z).cs] := hsz3
  have c9 := hsz.cells 0
  have c5 := hsz.cells 2
  have hrb := hsz.rd 1
  have hrz := hr.keep hsz.keep
  have ht : Rd FtE wz3 A (xs.take K.toNat) := by
    have := hrz.cut (l := 0) hc (h := K.toNat) (by omega)
    rwa [cutA_zero, List.drop_zero] at this
  have hd : Rd FtE wz3 (cutA A c K.toNat 4) (xs.drop K.toNat) := by
    have := hrz.cut (l := K.toNat) hc (h := xs.length) (Nat.le_refl _)
    rwa [List.take_length] at this
  have hlr : xs.reverse.length < 4000000000000000000 := by rw [List.length_reverse]; omega
  have hlt : K.toNat = (xs.take K.toNat).length := by rw [List.length_take]; omega
  have hld : xs.length - K.toNat = (xs.drop K.toNat).length := by rw [List.length_drop]
  refine Wp.seq (Wp.seq (Wp.draws [] mixed (WD.rd (is := [0, 1, 2, 3]) (fun _ _ _ _ _ h => h) (Keep.drew _) (Rn.s rfl (Yv.ldb c9) (Rn.s rfl (Yv.ldb c5) (Rn.s rfl (Yv.nes (ftEq _ _)) (Rn.s rfl Yv.mv (Rn.nil))))) (WD.or [4, 5, 6, 7, 8] 38 43 (hg := rfl) (hf := fun h3 qu1 => WD.rd (is := [4, 6]) (fun _ _ _ _ _ h => h) (Keep.drew _) (Rn.s rfl Yv.mv (Rn.s rfl (Yv.ldb c5) (Rn.nil))) (WD.cv 5 rfl (first_cv A' c' xs.reverse _ hrb hlr) (Keep.drew _) (FnOk.of Tryz.func16) (fun wu2 ku2 => WD.rd (is := [7, 8]) (fun _ _ _ _ _ h => h) ((Keep.drew _).trans ku2) (Rn.s rfl (Yv.nes (ftEq _ _)) (Rn.s rfl Yv.pick_f (Rn.nil))) (WD.e 5 (qu1 _ ((Keep.refl _).trans ku2)))))) (ht := fun _ qu1 => WD.rd (is := [4, 5, 6, 7, 8]) (fun _ _ _ _ _ h => h) (Keep.drew _) (Rn.no rfl (Rn.no rfl (Rn.no rfl (Rn.no rfl (Rn.s rfl Yv.pick_t Rn.nil))))) (WD.e 5 (qu1 _ (Keep.refl _)))) (k := fun wu1 ku1 => WD.rd (is := [9]) (fun _ _ _ _ _ h => h) ((Keep.drew _).trans ku1) (Rn.s rfl Yv.mv (Rn.nil)) (WD.or [10, 11, 12, 13, 14, 15, 16, 17, 18, 19, 20, 21, 22] 44 57 (hg := rfl) (hf := fun h9 qu3 => WD.rd (is := [10, 11, 12, 14, 15, 16, 20]) (fun _ _ _ _ _ h => h) ((Keep.drew _).trans ku1) (Rn.s rfl Yv.mv (Rn.s rfl Yv.mv (Rn.s rfl (Yv.sl_t (n := 4) (e := 24) hK0 (by omega) hlt.symm) (Rn.s rfl Yv.mv (Rn.s rfl Yv.mv (Rn.s rfl (Yv.sl_f (n := 4) (e := 24) hK0 (by omega) hld.symm) (Rn.s rfl (Yv.ldb c5) (Rn.nil)))))))) (WD.cv 13 rfl (first_cv A c (xs.take K.toNat) _ ht (by omega)) ((Keep.drew _).trans ku1) (FnOk.of Tryz.func16) (fun wu4 ku4 => WD.cv 17 rfl (first_cv _ _ (xs.drop K.toNat) _ hd (by omega)) (((Keep.drew _).trans ku1).trans ku4) (FnOk.of Tryz.func16) (fun wu5 ku5 => WD.act 18 (hc := rfl) (he := Ef.bsl (T := 24) FtE [leastF (xs.take K.toNat) Z, leastF (xs.drop K.toNat) Z] (St.init _) (fun bu6 wu6 ku6 hsu6 => ⟨fun _ => ku6, WD.cv 19 rfl (first_cv _ 2 [leastF (xs.take K.toNat) Z, leastF (xs.drop K.toNat) Z] _ (hsu6.rd 0) (by simp)) (Keep.refl _) (FnOk.of Tryz.func16) (fun wu7 ku7 => WD.rd (is := [21, 22]) (fun _ _ _ _ _ h => h) ((((((Keep.drew _).trans ku1).trans ku4).trans ku5).trans ku6).trans ku7) (Rn.s rfl (Yv.nes (ftEq _ _)) (Rn.s rfl Yv.pick_f (Rn.nil))) (WD.e 13 (qu3 _ (((((Keep.refl _).trans ku4).trans ku5).trans ku6).trans ku7))))⟩)))))) (ht := fun _ qu3 => WD.rd (is := [10, 11, 12, 13, 14, 15, 16, 17, 18, 19, 20, 21, 22]) (fun _ _ _ _ _ h => h) ((Keep.drew _).trans ku1) (Rn.no rfl (Rn.no rfl (Rn.no rfl (Rn.no rfl (Rn.no rfl (Rn.no rfl (Rn.no rfl (Rn.no rfl (Rn.no rfl (Rn.no rfl (Rn.no rfl (Rn.no rfl (Rn.s rfl Yv.pick_t Rn.nil))))))))))))) (WD.e 13 (qu3 _ (Keep.refl _)))) (k := fun wu3 ku3 => WD.done ?_)))))))
  simp only [least_rev, least_two, decide_true, Bool.not_true, Bool.or_false]
  refine Wp.cond_f rfl (Wp.skip ?_)
  have kz : Keep wz3 wu3 := ((Keep.drew _).trans ku1).trans ku3
  have kw : Keep w wu3 := hsz.keep.trans kz
  have c9 := c9.keep kz
  have hr' := hr.keep kw
  have hg' := hg.keep kw
  refine Wp.seq (Wp.seq (Wp.reads (is := [0]) (Keep.refl _) (Rn.s rfl Yv.as (Rn.nil)) ?_))
  refine Wp.block ?_
  refine Wp.loop (α := Nat) (fun k ρ ds w' => ds = [] ∧ Keep wu3 w' ∧ k ≤ xs.length ∧
    Sub [(0, .slice A xs.length c), (9, .pointer (some ⟨bz2, 0, none⟩)), (10, .int .i64 k)] ρ) (fun k => xs.length - k) 0 ⟨rfl, Keep.refl _, by simp, rfl, rfl, rfl, trivial⟩ ?_
  rintro k ρ ds w' ⟨rfl, hk', h1, hs⟩
  refine Wp.forget _ ?_ hs
  refine Wp.seq (Wp.seq (Wp.reads (is := [0, 1, 2, 3]) (Keep.refl _) (Rn.s rfl Yv.mv (Rn.s rfl Yv.mv (Rn.s rfl (Yv.len_v (e := 24) (m := 4)) (Rn.s rfl (Yv.cmp _ rfl) (Rn.nil))))) ?_))
  refine Wp.cond rfl (fun h => ?_) (fun h => ?_)
  · have h := of_decide_eq_true h
    have hkl : k < xs.length := by omega
    have hget : xs[k]? = some xs[k] := List.getElem?_eq_getElem hkl
    have hno := least_no xs xs[k] (List.getElem_mem _)
    rw [← nth_of hget] at hno
    have hrk := hr'.keep hk'
    have ck := c9.keep hk'
    refine Wp.skip (Wp.seq (Wp.block ?_))
    refine Wp.seq (Wp.draws [] mixed (WD.rd (is := [0, 1, 2, 3, 4, 5, 6]) (fun _ _ _ _ _ h => h) (Keep.drew _) (Rn.s rfl Yv.mv (Rn.s rfl Yv.mv (Rn.s rfl (Yv.ia (e := 24) hrk (by omega) (by omega)) (Rn.s rfl (Yv.fa (off := 0)) (Rn.s rfl (Yv.ld (hrk.ld 0 (by omega) (by omega))) (Rn.s rfl (Yv.cmp _ rfl) (Rn.s rfl Yv.mv (Rn.nil)))))))) (WD.and [7, 8, 9, 10, 11, 12, 13, 14, 15, 16, 17, 18] 70 82 (hg := rfl) (ht := fun h6 qv1 => have h6 := bne_iff_ne.1 h6; WD.rd (is := [7, 8, 9, 10]) (fun _ _ _ _ _ h => h) (Keep.drew _) (Rn.s rfl (Yv.fa (off := 0)) (Rn.s rfl (Yv.ld (ck.at_ 0)) (Rn.s rfl (Yv.cmp _ rfl) (Rn.s rfl Yv.mv (Rn.nil))))) (WD.or [11, 12, 13, 14, 15, 16, 17] 74 81 (hg := rfl) (hf := fun h10 qv2 => have h10 := ne_of_beq_false h10; WD.rd (is := [11, 12, 13, 14, 15]) (fun _ _ _ _ _ h => h) (Keep.drew _) (Rn.s rfl Yv.mv (Rn.s rfl Yv.mv (Rn.s rfl (Yv.ia (e := 24) hrk (by omega) (by omega)) (Rn.s rfl (Yv.ldel hrk rfl rfl (by omega) (by omega)) (Rn.s rfl (Yv.ldb ck) (Rn.nil)))))) (WD.cv 16 rfl (less_cv (nth xs (k : Int)) (leastF xs Z) _) (Keep.drew _) (FnOk.of Tryz.func14) (fun wv3 kv3 => WD.rd (is := [17]) (fun _ _ _ _ _ h => h) ((Keep.drew _).trans kv3) (Rn.s rfl Yv.pick_f (Rn.nil)) (WD.e 7 (qv2 _ ((Keep.refl _).trans kv3)))))) (ht := fun _ qv2 => WD.rd (is := [11, 12, 13, 14, 15, 16, 17]) (fun _ _ _ _ _ h => h) (Keep.drew _) (Rn.no rfl (Rn.no rfl (Rn.no rfl (Rn.no rfl (Rn.no rfl (Rn.no rfl (Rn.s rfl Yv.pick_t Rn.nil))))))) (WD.e 7 (qv2 _ (Keep.refl _)))) (k := fun wv2 kv2 => WD.rd (is := [18]) (fun _ _ _ _ _ h => h) ((Keep.drew _).trans kv2) (Rn.s rfl Yv.pick_t (Rn.nil)) (WD.e 6 (qv1 _ ((Keep.refl _).trans kv2)))))) (hf := fun _ qv1 => WD.rd (is := [7, 8, 9, 10, 11, 12, 13, 14, 15, 16, 17, 18]) (fun _ _ _ _ _ h => h) (Keep.drew _) (Rn.no rfl (Rn.no rfl (Rn.no rfl (Rn.no rfl (Rn.no rfl (Rn.no rfl (Rn.no rfl (Rn.no rfl (Rn.no rfl (Rn.no rfl (Rn.no rfl (Rn.s rfl Yv.pick_f Rn.nil)))))))))))) (WD.e 12 (qv1 _ (Keep.refl _)))) (k := fun wv1 kv1 => WD.done ?_))))
    refine Wp.cond_f ?_ (Wp.skip ?_)
    · have e : ((nth xs (k : Int)).code != 0 && ((leastF xs Z).code == 0 || lessB (nth xs (k : Int)) (leastF xs Z))) = false := by
        by_cases hc : (nth xs (k : Int)).code = 0
        · simp [hc]
        · obtain ⟨a, b⟩ := hno hc
          simp [a, b]
      exact congrArg (fun b => some (Value.bool b)) e
    refine Wp.reads (is := [0, 1, 2]) (Keep.refl _) (Rn.s rfl Yv.mv (Rn.s rfl (Yv.add (by unfold inI; omega)) (Rn.s rfl Yv.as (Rn.nil)))) ?_
    exact ⟨k + 1, ⟨rfl, hk'.trans ((Keep.drew _).trans kv1), by omega, rfl, rfl, rfl, trivial⟩, by omega⟩
  refine Wp.exit ?_
  have hrn : Rd FtE w' none [] := ⟨fun h => absurd h (by simp), fun j x h => by simp at h⟩
  refine Wp.seq (Wp.regionL (l := [0, 1, 2, 3, 4, 5, 6]) (WO.cv rfl (first_cv none 0 [] w' hrn (by simp)) (Keep.refl _) (FnOk.of Tryz.func16) (fun ws1 ks1 => WO.rd (is := [1, 2, 3]) (js := [4, 5, 6]) ((Keep.refl _).trans ks1) (Rn.s rfl (Yv.bd (cs := Ft.cs Z)) (Rn.s rfl (Yv.eqs (ftEq _ _)) (Rn.s rfl Yv.mv (Rn.nil)))) (WO.and (js := [6]) 86 88 (hg := rfl) (ht := fun h3 qs2 => WO.cv rfl (awake_cv _ (hg'.keep hk')) ((Keep.refl _).trans ks1) (FnOk.of Tryz.func12) (fun ws3 ks3 => WO.rd (is := [5]) (js := [6]) (((Keep.refl _).trans ks1).trans ks3) (Rn.s rfl Yv.pick_t (Rn.nil)) (WO.e 2 (qs2 _ ((Keep.refl _).trans ks3))))) (hf := fun _ qs2 => WO.rd (is := [4, 5]) (js := [6]) ((Keep.refl _).trans ks1) (Rn.no rfl (Rn.s rfl Yv.pick_f Rn.nil)) (WO.e 2 (qs2 _ (Keep.refl _)))) (k := fun ws2 ks2 => WO.rd (is := [6]) (js := []) (((Keep.refl _).trans ks1).trans ks2) (Rn.s rfl Yv.as (Rn.nil)) (WO.done ?_))))))
  refine Wp.ret (Fin.ret (Res.one rfl rfl) ⟨?_, ((kw.trans hk').trans ks1).trans ks2⟩)
  rfl
end Go.Proofs.YtkobcbjblllhlaaGreatDoor.C
