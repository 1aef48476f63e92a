/- What a line says: scalar's reader, its head and its value. -/
import Derived.Test.YtgjhbapbomdpbaaDoorB4
set_option linter.unusedVariables false
set_option linter.unusedSimpArgs false
set_option maxRecDepth 10000
namespace Go.Proofs.YtgjhbapbomdpbaaDoor.C
open Go.RowKit Go.Proofs.YtgjhbapbomdpbaaDoor.Sh
def namedN (s : Bs) (a : Nat) : Nat := a + ((s.drop a).takeWhile (fun b => namedB b.toNat)).length
theorem namedN_le (s : Bs) (a : Nat) (h : a ≤ s.length) : a ≤ namedN s a ∧ namedN s a ≤ s.length := by
  have := (List.takeWhile_prefix (fun b : UInt8 => namedB b.toNat) (l := s.drop a)).length_le
  simp only [List.length_drop] at this
  unfold namedN
  omega
abbrev o1 (key : Bs) : Ct := ⟨1, key, false, [], 0, 1, 0⟩
def tailS (s : Bs) (n : Nat) (key : Bs) : Oc :=
  if s.length ≤ n ∨ byt s n ≠ 58 then .err 20 (n + 1) else if n + 1 < s.length ∧ byt s ((n : Int) + 1) ≠ 32 then .err 20 ((n : Int) + 1 + 1) else .ok ((n : Int) + 1) (o1 key)
def headS (s : Bs) : Oc :=
  if s = [45] ∨ Lib.hasPrefix s [45, 32] then .ok 1 ⟨2, [], false, [], 0, 1, 0⟩
  else if Lib.hasPrefix s [34] then
    if (quoteR s).2.2 then if (64 : Int) < (quoteR s).1.length then .err 20 1 else tailS s (quoteR s).2.1.toNat (quoteR s).1
    else .err 21 ((quoteR s).2.1 + 1)
  else if nameB (s.take (namedN s 0)) then tailS s (namedN s 0) (s.take (namedN s 0)) else .err 20 1
theorem head_calls (b : Nat) (s : Bs) (o : Ct) (hl : s.length ≤ 1000000) (w : World) (hok : (ChR b s 0 o).ok w) :
    Calls Tryd.prog 55 #[PB b] w (MPost b s (.tuple #[]) (headS s) w) := by
  refine calls_of_Wp (vs := [_]) Tryd.func55 ?_
  refine Wp.seq (Wp.regionL (l := [0, 1, 2, 3, 4]) (WO.rd (is := [0, 1, 2, 3]) (js := [4]) (Keep.refl _) (Rn.s rfl Yv.mv (Rn.s rfl (Yv.bd (cs := Ct.cs (o1 []))) (Rn.s rfl Yv.nc (Rn.s rfl (Yv.fa (off := 2)) (Rn.nil))))) (WO.act (hc := rfl) (he := Ef.stores (ownR hok) 0 (fun wx1 hsx1 => WO.done ?_)))))
  have hst : St w [b] wx1 [ChR b s 0 (o1 [])] := hsx1
  have hc := hst.cells 0
  refine Wp.seq (Wp.seq (Wp.regionL (l := [0, 1, 2, 3, 4, 5, 6, 7, 8, 9, 10, 11]) (WO.rd (is := [0, 1, 2, 3, 4, 5]) (js := [6, 7, 8, 9, 10, 11]) (Keep.refl _) (Rn.s rfl Yv.mv (Rn.s rfl Yv.nc (Rn.s rfl (Yv.fa (off := 0)) (Rn.s rfl (Yv.ld (hc.at_ 0)) (Rn.s rfl (Yv.scm _ rfl) (Rn.s rfl Yv.mv (Rn.nil))))))) (WO.or (js := []) 11 17 (hg := rfl) (hf := fun h5 qy1 => WO.rd (is := [6, 7, 8, 9]) (js := [10, 11]) (Keep.refl _) (Rn.s rfl Yv.mv (Rn.s rfl Yv.nc (Rn.s rfl (Yv.fa (off := 0)) (Rn.s rfl (Yv.ld (hc.at_ 0)) (Rn.nil))))) (WO.cv rfl (hasPrefix_cv s [45, 32] _) (Keep.refl _) (FnOk.of Tryd.func79) (fun wy2 ky2 => WO.rd (is := [11]) (js := []) ((Keep.refl _).trans ky2) (Rn.s rfl Yv.pick_f (Rn.nil)) (WO.e 6 (qy1 _ ((Keep.refl _).trans ky2)))))) (ht := fun _ qy1 => WO.rd (is := [6, 7, 8, 9, 10, 11]) (js := []) (Keep.refl _) (Rn.no rfl (Rn.no rfl (Rn.no rfl (Rn.no rfl (Rn.no rfl (Rn.s rfl Yv.pick_t Rn.nil)))))) (WO.e 6 (qy1 _ (Keep.refl _)))) (k := fun wy1 ky1 => WO.done ?_)))))
  have hst := hst.quiet ky1
  have hc := hst.cells 0
  have e1 : (s == [45]) = decide (s = [45]) := by
    by_cases h : s = [45] <;> simp [h]
  refine Wp.cond rfl (fun h => ?_) (fun h => ?_)
  · have h : s = [45] ∨ Lib.hasPrefix s [45, 32] = true := by simpa using h
    refine Wp.seq (Wp.regionL (l := [0, 1, 2, 3, 4]) (WO.rd (is := [0, 1, 2, 3]) (js := [4]) (Keep.refl _) (Rn.s rfl Yv.mv (Rn.s rfl Yv.nc (Rn.s rfl (Yv.fa (off := 2)) (Rn.s rfl (Yv.fa (off := 0)) (Rn.nil))))) (WO.act (hc := rfl) (he := Ef.store hst 0 (fun wz1 hsz1 => WO.done ?_)))))
    refine Wp.seq (Wp.regionL (l := [0, 1, 2, 3]) (WO.rd (is := [0, 1, 2]) (js := [3]) (Keep.refl _) (Rn.s rfl Yv.mv (Rn.s rfl Yv.nc (Rn.s rfl (Yv.fa (off := 1)) (Rn.nil)))) (WO.act (hc := rfl) (he := Ef.store hsz1 0 (fun wu1 hsu1 => WO.done ?_)))))
    refine Wp.ret (Fin.ret (Res.none rfl) ?_)
    rw [headS, if_pos h]
    exact ⟨rfl, hsu1⟩
  have h : ¬ (s = [45] ∨ Lib.hasPrefix s [45, 32] = true) := by simpa using h
  refine Wp.skip (Wp.seq (Wp.seq (Wp.regionL (l := [0, 1, 2, 3, 4]) (WO.rd (is := [0, 1, 2, 3]) (js := [4]) (Keep.refl _) (Rn.s rfl Yv.mv (Rn.s rfl Yv.nc (Rn.s rfl (Yv.fa (off := 0)) (Rn.s rfl (Yv.ld (hc.at_ 0)) (Rn.nil))))) (WO.cv rfl (hasPrefix_cv s [34] _) (Keep.refl _) (FnOk.of Tryd.func79) (fun wz1 kz1 => WO.done ?_))))))
  have hst := hst.quiet kz1
  have hc := hst.cells 0
  refine Wp.mid (fun ρ ds w' => ds = [] ∧ ∃ (n : Nat) (key : Bs), n ≤ s.length ∧ headS s = tailS s n key ∧ St w [b] w' [ChR b s n (o1 key)] ∧ Sub [(0, PB b)] ρ) ?_ ?_
  · refine Wp.cond rfl (fun h2 => ?_) (fun h2 => ?_)
    · have hq := quoteR_bd s
      refine Wp.seq (Wp.regionL (l := [0, 1, 2, 3, 4, 5, 6]) (WO.rd (is := [0, 1]) (js := [2, 3, 4, 5, 6]) (Keep.refl _) (Rn.s rfl Yv.mv (Rn.s rfl Yv.mv (Rn.nil))) (WO.act (hc := rfl) (he := Ef.callv Tryd.func80 (Calls.mono (quoted_calls b s 0 (o1 []) hl (by omega) _ (hst.at_ 0)) ?_)))))
      rintro e w2 hp
      simp only [List.drop_zero] at hp
      cases hb : (quoteR s).2.2 with
      | false =>
        simp only [hb, Bool.false_eq_true, if_false, MPost] at hp
        obtain ⟨rfl, hs2⟩ := hp
        refine ⟨?_⟩
        have e : headS s = .err 21 (((0 : Nat) : Int) + (quoteR s).2.1 + 1) := by rw [headS, if_neg h, if_pos h2, hb]; simp
        show MPost b s _ (headS s) w _ _
        rw [e]
        exact ⟨rfl, hst.call (A := [ChR b s 0 (o1 [])]) hs2⟩
      | true =>
        simp only [hb, if_true, MPost] at hp
        obtain ⟨rfl, hs2⟩ := hp
        have e0 : ((0 : Nat) : Int) + (quoteR s).2.1 = (((quoteR s).2.1.toNat : Nat) : Int) := by omega
        rw [e0] at hs2
        have hst := hst.call (A := [ChR b s 0 (o1 [])]) (D := []) hs2
        refine WO.rd (is := [3, 4, 5]) (js := [6]) (Keep.refl _) (Rn.s rfl Yv.nc (Rn.s rfl (Yv.fa (off := 2)) (Rn.s rfl (Yv.fa (off := 1)) (Rn.nil)))) (WO.act (hc := rfl) (he := Ef.store hst 0 fun w3 hs3 => WO.done ?_))
        have hst : St w [b] w3 [ChR b s (quoteR s).2.1.toNat (o1 (quoteR s).1)] := hs3
        have hc := hst.cells 0
        refine Wp.seq (Wp.reads (is := [0, 1, 2, 3, 4, 5, 6]) (Keep.refl _) (Rn.s rfl Yv.mv (Rn.s rfl Yv.nc (Rn.s rfl (Yv.fa (off := 2)) (Rn.s rfl (Yv.fa (off := 1)) (Rn.s rfl (Yv.ld (hc.at_ 3)) (Rn.s rfl Yv.len_s (Rn.s rfl (Yv.cmp _ rfl) (Rn.nil)))))))) ?_)
        refine Wp.cond rfl (fun h3 => ?_) (fun h3 => ?_)
        · have h3 := of_decide_eq_true h3
          refine Wp.regionL (l := [0, 1]) (WO.rd (is := [0]) (js := [1]) (Keep.refl _) (Rn.s rfl Yv.mv (Rn.nil)) (WO.act (hc := rfl) (he := Ef.callv Tryd.func81 (Calls.mono (fail_calls b 20 0 (by unfold inI; omega) _) ?_))))
          rintro e w4 ⟨rfl, rfl⟩
          have e : headS s = .err 20 (0 + 1) := by rw [headS, if_neg h, if_pos h2, if_pos hb, if_pos h3]; rfl
          refine ⟨?_⟩
          show MPost b s _ (headS s) w _ _
          rw [e]
          exact ⟨rfl, hst.pick []⟩
        · have h3 := of_decide_eq_false h3
          refine Wp.skip ⟨rfl, _, _, by omega, ?_, hst, rfl, trivial⟩
          rw [headS, if_neg h, if_pos h2, if_pos hb, if_neg h3]
    · refine Wp.seq (Wp.block ?_)
      refine Wp.loop (α := Nat) (fun k ρ ds w' => ds = [] ∧ k ≤ s.length ∧ namedN s k = namedN s 0 ∧ St w [b] w' [ChR b s k (o1 [])] ∧ Sub [(0, PB b)] ρ) (fun k => s.length - k) 0 ⟨rfl, by omega, rfl, hst, rfl, trivial⟩ ?_
      rintro k ρ ds w' ⟨rfl, hk, hg, hst, hs⟩
      refine Wp.forget _ ?_ hs
      have hc := hst.cells 0
      refine Wp.seq (Wp.seq (Wp.draws [] mixed (WD.rd (is := [0, 1, 2, 3, 4, 5, 6, 7, 8, 9, 10]) (fun _ _ _ _ _ h => h) (Keep.drew _) (Rn.s rfl Yv.mv (Rn.s rfl Yv.nc (Rn.s rfl (Yv.fa (off := 1)) (Rn.s rfl (Yv.ld (hc.at_ 1)) (Rn.s rfl Yv.mv (Rn.s rfl Yv.nc (Rn.s rfl (Yv.fa (off := 0)) (Rn.s rfl (Yv.ld (hc.at_ 0)) (Rn.s rfl Yv.len_s (Rn.s rfl (Yv.cmp _ rfl) (Rn.s rfl Yv.mv (Rn.nil)))))))))))) (WD.and [11, 12, 13, 14, 15, 16, 17, 18, 19, 20, 21] 55 66 (hg := rfl) (ht := fun h10 qu1 => have h10 := of_decide_eq_true h10; WD.rd (is := [11, 12, 13, 14, 15, 16, 17, 18, 19]) (fun _ _ _ _ _ h => h) (Keep.drew _) (Rn.s rfl Yv.mv (Rn.s rfl Yv.nc (Rn.s rfl (Yv.fa (off := 0)) (Rn.s rfl (Yv.ld (hc.at_ 0)) (Rn.s rfl Yv.mv (Rn.s rfl Yv.nc (Rn.s rfl (Yv.fa (off := 1)) (Rn.s rfl (Yv.ld (hc.at_ 1)) (Rn.s rfl (Yv.ix (by omega) (by omega)) (Rn.nil)))))))))) (WD.cv 20 rfl (named_cv (byt s k) _) (Keep.drew _) (FnOk.of Tryd.func82) (fun wu2 ku2 => WD.rd (is := [21]) (fun _ _ _ _ _ h => h) ((Keep.drew _).trans ku2) (Rn.s rfl Yv.pick_t (Rn.nil)) (WD.e 11 (qu1 _ ((Keep.refl _).trans ku2)))))) (hf := fun _ qu1 => WD.rd (is := [11, 12, 13, 14, 15, 16, 17, 18, 19, 20, 21]) (fun _ _ _ _ _ h => h) (Keep.drew _) (Rn.no rfl (Rn.no rfl (Rn.no rfl (Rn.no rfl (Rn.no rfl (Rn.no rfl (Rn.no rfl (Rn.no rfl (Rn.no rfl (Rn.no rfl (Rn.s rfl Yv.pick_f Rn.nil))))))))))) (WD.e 11 (qu1 _ (Keep.refl _)))) (k := fun wu1 ku1 => WD.done ?_)))))
      have hst := hst.quiet ((Keep.drew _).trans ku1)
      have hc := hst.cells 0
      refine Wp.cond rfl (fun h3 => ?_) (fun h3 => ?_)
      · simp only [Bool.and_eq_true, decide_eq_true_eq] at h3
        obtain ⟨h3, h4⟩ := h3
        have hkl : k < s.length := by omega
        have hby := byt_of (List.getElem?_eq_getElem hkl)
        refine Wp.skip (Wp.block (Wp.regionL (l := [0, 1, 2, 3, 4, 5, 6, 7]) (WO.rd (is := [0, 1, 2, 3, 4, 5, 6]) (js := [7]) (Keep.refl _) (Rn.s rfl Yv.mv (Rn.s rfl Yv.nc (Rn.s rfl (Yv.fa (off := 1)) (Rn.s rfl (Yv.ld (hc.at_ 1)) (Rn.s rfl (Yv.add (by unfold inI; omega)) (Rn.s rfl Yv.nc (Rn.s rfl (Yv.fa (off := 1)) (Rn.nil)))))))) (WO.act (hc := rfl) (he := Ef.store hst 0 (fun wv1 hsv1 => WO.done ?_))))))
        refine ⟨k + 1, ⟨rfl, hkl, ?_, hsv1, rfl, trivial⟩, by omega⟩
        rw [← hg]
        unfold namedN
        rw [List.drop_eq_getElem_cons hkl, List.takeWhile_cons_of_pos]
        · simp only [List.length_cons]; omega
        · rw [← hby]; exact h4
      · have e2 : namedN s k = k := by
          unfold namedN
          rcases Nat.lt_or_ge k s.length with hkl | hkl
          · have hby := byt_of (List.getElem?_eq_getElem hkl)
            have h5 : decide ((k : Int) < (s.length : Int)) = true := by simpa using hkl
            rw [h5, Bool.true_and, hby] at h3
            rw [List.drop_eq_getElem_cons hkl, List.takeWhile_cons_of_neg]
            · rfl
            · rw [h3]; decide
          · rw [List.drop_eq_nil_of_le hkl]; rfl
        have e3 : namedN s 0 = k := by rw [← hg, e2]
        refine Wp.exit ?_
        refine Wp.seq (Wp.draws [13] mixed (WD.rd (is := [0, 1, 2, 3, 4, 5, 6, 7, 8, 9, 10, 11, 12]) (fun _ _ _ _ _ h => h) (Keep.drew _) (Rn.s rfl Yv.mv (Rn.s rfl Yv.mv (Rn.s rfl Yv.nc (Rn.s rfl (Yv.fa (off := 0)) (Rn.s rfl (Yv.ld (hc.at_ 0)) (Rn.s rfl Yv.mv (Rn.s rfl Yv.nc (Rn.s rfl (Yv.fa (off := 1)) (Rn.s rfl (Yv.ld (hc.at_ 1)) (Rn.s rfl (Yv.ss_t (by omega) (by omega)) (Rn.s rfl Yv.nc (Rn.s rfl (Yv.fa (off := 2)) (Rn.s rfl (Yv.fa (off := 1)) (Rn.nil)))))))))))))) (WD.act 13 (hc := rfl) (he := Ef.store (hst.quiet (Keep.drew _)) 0 (fun wv1 hsv1 => ⟨fun hn => (hn (by decide)).elim, WD.done ?_⟩)))))
        rw [Int.toNat_natCast] at hsv1
        have hst : St w [b] wv1 [ChR b s k (o1 (s.take k))] := hsv1
        have hc := hst.cells 0
        refine Wp.seq (Wp.regionL (l := [0, 1, 2, 3, 4, 5, 6]) (WO.rd (is := [0, 1, 2, 3, 4]) (js := [5, 6]) (Keep.refl _) (Rn.s rfl Yv.mv (Rn.s rfl Yv.nc (Rn.s rfl (Yv.fa (off := 2)) (Rn.s rfl (Yv.fa (off := 1)) (Rn.s rfl (Yv.ld (hc.at_ 3)) (Rn.nil)))))) (WO.cv rfl (name_cv (s.take k) _) (Keep.refl _) (FnOk.of Tryd.func83) (fun wa1 ka1 => WO.rd (is := [6]) (js := []) ((Keep.refl _).trans ka1) (Rn.s rfl Yv.not (Rn.nil)) (WO.done ?_)))))
        have hst := hst.quiet ka1
        refine Wp.cond rfl (fun h3 => ?_) (fun h3 => ?_)
        · have h3 : nameB (s.take k) = false := by simpa using h3
          refine Wp.regionL (l := [0, 1]) (WO.rd (is := [0]) (js := [1]) (Keep.refl _) (Rn.s rfl Yv.mv (Rn.nil)) (WO.act (hc := rfl) (he := Ef.callv Tryd.func81 (Calls.mono (fail_calls b 20 0 (by unfold inI; omega) _) ?_))))
          rintro e w4 ⟨rfl, rfl⟩
          have e : headS s = .err 20 (0 + 1) := by rw [headS, if_neg h, if_neg (by simp [h2]), e3, if_neg (by simp [h3])]; rfl
          refine ⟨?_⟩
          show MPost b s _ (headS s) w _ _
          rw [e]
          exact ⟨rfl, hst.pick []⟩
        · have h3 : nameB (s.take k) = true := by simpa using h3
          refine Wp.skip ⟨rfl, _, _, hk, ?_, hst, rfl, trivial⟩
          rw [headS, if_neg h, if_neg (by simp [h2]), e3, if_pos h3]
  · rintro ρ ds w' ⟨rfl, n, key, hn, he, hst, hs⟩
    refine Wp.forget _ ?_ hs
    rw [he]
    have hc := hst.cells 0
    refine Wp.seq (Wp.seq (Wp.draws [] mixed (WD.rd (is := [0, 1, 2, 3, 4]) (fun _ _ _ _ _ h => h) (Keep.drew _) (Rn.s rfl Yv.mv (Rn.s rfl Yv.mv (Rn.s rfl Yv.nc (Rn.s rfl (Yv.fa (off := 1)) (Rn.s rfl (Yv.ld (hc.at_ 1)) (Rn.nil)))))) (WD.cv 5 rfl (end_cv b s n (o1 key) n _ hc) (Keep.drew _) (FnOk.of Tryd.func84) (fun wa1 ka1 => WD.rd (is := [6, 7, 8, 9, 10, 11, 12, 13, 14, 15, 16, 17]) (fun _ _ _ _ _ h => h) ((Keep.drew _).trans ka1) (Rn.s rfl Yv.mv (Rn.or (is := [7, 8, 9, 10, 11, 12, 13, 14, 15, 16, 17]) (js := []) (t := 102) (d := 113) (hg := rfl) (hf := fun h6 => have h6 := of_decide_eq_false h6; Rn.s rfl Yv.mv (Rn.s rfl Yv.nc (Rn.s rfl (Yv.fa (off := 0)) (Rn.s rfl (Yv.ld (hc.at_ 0)) (Rn.s rfl Yv.mv (Rn.s rfl Yv.nc (Rn.s rfl (Yv.fa (off := 1)) (Rn.s rfl (Yv.ld (hc.at_ 1)) (Rn.s rfl (Yv.ix (by omega) (by omega)) (Rn.s rfl (Yv.cmp _ rfl) (Rn.s rfl Yv.pick_f ((Rn.e 11 rfl rfl))))))))))))) (ht := fun _ => Rn.no rfl (Rn.no rfl (Rn.no rfl (Rn.no rfl (Rn.no rfl (Rn.no rfl (Rn.no rfl (Rn.no rfl (Rn.no rfl (Rn.no rfl (Rn.s rfl Yv.pick_t (Rn.e 11 rfl rfl)))))))))))) (k := Rn.nil))) (WD.done ?_))))))
    have hst := hst.quiet ((Keep.drew _).trans ka1)
    have hc := hst.cells 0
    refine Wp.cond rfl (fun h3 => ?_) (fun h3 => ?_)
    · refine Wp.regionL (l := [0, 1, 2, 3, 4, 5]) (WO.rd (is := [0, 1, 2, 3, 4]) (js := [5]) (Keep.refl _) (Rn.s rfl Yv.mv (Rn.s rfl Yv.mv (Rn.s rfl Yv.nc (Rn.s rfl (Yv.fa (off := 1)) (Rn.s rfl (Yv.ld (hc.at_ 1)) (Rn.nil)))))) (WO.act (hc := rfl) (he := Ef.callv Tryd.func81 (Calls.mono (fail_calls b 20 n (by unfold inI; omega) _) ?_))))
      rintro e w4 ⟨rfl, rfl⟩
      have e : tailS s n key = .err 20 ((n : Int) + 1) := by
        rw [tailS, if_pos]
        simp only [Bool.or_eq_true, decide_eq_true_eq, bne_iff_ne] at h3
        omega
      refine ⟨?_⟩
      show MPost b s _ (tailS s n key) w _ _
      rw [e]
      exact ⟨rfl, hst.pick []⟩
    have h3 : ¬ (s.length ≤ n ∨ byt s n ≠ 58) := by
      simp only [Bool.or_eq_false_iff, decide_eq_false_iff_not, bne_eq_false_iff_eq] at h3
      omega
    refine Wp.skip (Wp.seq (Wp.regionL (l := [0, 1, 2, 3, 4, 5, 6, 7]) (WO.rd (is := [0, 1, 2, 3, 4, 5, 6]) (js := [7]) (Keep.refl _) (Rn.s rfl Yv.mv (Rn.s rfl Yv.nc (Rn.s rfl (Yv.fa (off := 1)) (Rn.s rfl (Yv.ld (hc.at_ 1)) (Rn.s rfl (Yv.add (by unfold inI; omega)) (Rn.s rfl Yv.nc (Rn.s rfl (Yv.fa (off := 1)) (Rn.nil)))))))) (WO.act (hc := rfl) (he := Ef.store hst 0 (fun wy1 hsy1 => WO.done ?_))))))
    have hst : St w [b] wy1 [ChR b s ((n : Int) + 1) (o1 key)] := hsy1
    have hc := hst.cells 0
    refine Wp.seq (Wp.regionL (l := [0, 1, 2, 3, 4, 5, 6, 7, 8, 9, 10, 11, 12, 13, 14, 15]) (WO.rd (is := [0, 1, 2, 3, 4]) (js := [5, 6, 7, 8, 9, 10, 11, 12, 13, 14, 15]) (Keep.refl _) (Rn.s rfl Yv.mv (Rn.s rfl Yv.mv (Rn.s rfl Yv.nc (Rn.s rfl (Yv.fa (off := 1)) (Rn.s rfl (Yv.ld (hc.at_ 1)) (Rn.nil)))))) (WO.cv rfl (end_cv b s ((n : Int) + 1) (o1 key) ((n : Int) + 1) _ hc) (Keep.refl _) (FnOk.of Tryd.func84) (fun wz1 kz1 => WO.rd (is := [6, 7]) (js := [8, 9, 10, 11, 12, 13, 14, 15]) ((Keep.refl _).trans kz1) (Rn.s rfl Yv.not (Rn.s rfl Yv.mv (Rn.nil))) (WO.and (js := []) 134 142 (hg := rfl) (ht := fun h7 qz2 => WO.rd (is := [8, 9, 10, 11, 12]) (js := [13, 14, 15]) ((Keep.refl _).trans kz1) (Rn.s rfl Yv.mv (Rn.s rfl Yv.mv (Rn.s rfl Yv.nc (Rn.s rfl (Yv.fa (off := 1)) (Rn.s rfl (Yv.ld (hc.at_ 1)) (Rn.nil)))))) (WO.cv rfl (blank_cv b s ((n : Int) + 1) (o1 key) ((n : Int) + 1) (by omega) _ hc) ((Keep.refl _).trans kz1) (FnOk.of Tryd.func85) (fun wz3 kz3 => WO.rd (is := [14, 15]) (js := []) (((Keep.refl _).trans kz1).trans kz3) (Rn.s rfl Yv.not (Rn.s rfl Yv.pick_t (Rn.nil))) (WO.e 8 (qz2 _ ((Keep.refl _).trans kz3)))))) (hf := fun _ qz2 => WO.rd (is := [8, 9, 10, 11, 12, 13, 14, 15]) (js := []) ((Keep.refl _).trans kz1) (Rn.no rfl (Rn.no rfl (Rn.no rfl (Rn.no rfl (Rn.no rfl (Rn.no rfl (Rn.no rfl (Rn.s rfl Yv.pick_f Rn.nil)))))))) (WO.e 8 (qz2 _ (Keep.refl _)))) (k := fun wz2 kz2 => WO.done ?_))))))
    have hst := hst.quiet (kz1.trans kz2)
    have hc := hst.cells 0
    refine Wp.cond rfl (fun h4 => ?_) (fun h4 => ?_)
    · refine Wp.regionL (l := [0, 1, 2, 3, 4, 5]) (WO.rd (is := [0, 1, 2, 3, 4]) (js := [5]) (Keep.refl _) (Rn.s rfl Yv.mv (Rn.s rfl Yv.mv (Rn.s rfl Yv.nc (Rn.s rfl (Yv.fa (off := 1)) (Rn.s rfl (Yv.ld (hc.at_ 1)) (Rn.nil)))))) (WO.act (hc := rfl) (he := Ef.callv Tryd.func81 (Calls.mono (fail_calls b 20 ((n : Int) + 1) (by unfold inI; omega) _) ?_))))
      rintro e w4 ⟨rfl, rfl⟩
      have e : tailS s n key = .err 20 ((n : Int) + 1 + 1) := by
        rw [tailS, if_neg h3, if_pos]
        simp only [Bool.and_eq_true, Bool.not_eq_true', Bool.and_eq_false_iff, decide_eq_false_iff_not, beq_eq_false_iff_ne] at h4
        omega
      refine ⟨?_⟩
      show MPost b s _ (tailS s n key) w _ _
      rw [e]
      exact ⟨rfl, hst.pick []⟩
    · have e : tailS s n key = .ok ((n : Int) + 1) (o1 key) := by
        rw [tailS, if_neg h3, if_neg]
        simp only [Bool.and_eq_false_iff, Bool.not_eq_false', Bool.and_eq_true, decide_eq_true_eq, beq_iff_eq] at h4
        omega
      refine Wp.skip (Fin.normal (Res.none rfl) ?_)
      rw [e]
      exact ⟨rfl, hst⟩
def valueS (s : Bs) (a : Nat) (o : Ct) : Oc :=
  if s.length ≤ a ∨ byt s a = 35 then .ok a o
  else if byt s a ≠ 34 then .ok a (bareS s a { o with has := true, val := (a : Int) + 1 })
  else if (quoteR (s.drop a)).2.2 then
    if gapN s (a + (quoteR (s.drop a)).2.1.toNat) < s.length ∧ (byt s (gapN s (a + (quoteR (s.drop a)).2.1.toNat)) ≠ 35 ∨ gapN s (a + (quoteR (s.drop a)).2.1.toNat) = a + (quoteR (s.drop a)).2.1.toNat) then .err 22 ((gapN s (a + (quoteR (s.drop a)).2.1.toNat) : Nat) + 1)
    else .ok (gapN s (a + (quoteR (s.drop a)).2.1.toNat)) { o with has := true, val := (a : Int) + 1, value := (quoteR (s.drop a)).1 }
  else .err 21 ((a : Int) + (quoteR (s.drop a)).2.1 + 1)
theorem keep_chg {w0 w w' : World} {b : Nat} (k : Keep w0 w) (h : Chg [b] w w') (hb : w0.heap.size ≤ b) : Keep w0 w' :=
  ((Chg.of_keep [] k).trans h (by intro x hx; obtain rfl := List.mem_singleton.1 hx; exact .inr hb)).keep
theorem value_calls (b : Nat) (s : Bs) (a : Nat) (o : Ct) (hl : s.length ≤ 1000000) (ha : a ≤ s.length) (w0 : World) (hg0 : Gm w0) (hb0 : w0.heap.size ≤ b) (w : World) (hk0 : Keep w0 w) (hok : (ChR b s a o).ok w) :
    Calls Tryd.prog 57 #[PB b] w (MPost b s (.tuple #[]) (valueS s a o) w) := by
  refine calls_of_Wp (vs := [_]) Tryd.func57 ?_
  have hst := ownR hok
  have hc := cellsR hok
  refine Wp.seq (Wp.seq (Wp.draws [] mixed (WD.rd (is := [0, 1, 2, 3, 4]) (fun _ _ _ _ _ h => h) (Keep.drew _) (Rn.s rfl Yv.mv (Rn.s rfl Yv.mv (Rn.s rfl Yv.nc (Rn.s rfl (Yv.fa (off := 1)) (Rn.s rfl (Yv.ld (hc.at_ 1)) (Rn.nil)))))) (WD.cv 5 rfl (end_cv b s a o a _ hc) (Keep.drew _) (FnOk.of Tryd.func84) (fun wx1 kx1 => WD.rd (is := [6, 7, 8, 9, 10, 11, 12, 13, 14, 15, 16, 17]) (fun _ _ _ _ _ h => h) ((Keep.drew _).trans kx1) (Rn.s rfl Yv.mv (Rn.or (is := [7, 8, 9, 10, 11, 12, 13, 14, 15, 16, 17]) (js := []) (t := 9) (d := 20) (hg := rfl) (hf := fun h6 => have h6 := of_decide_eq_false h6; Rn.s rfl Yv.mv (Rn.s rfl Yv.nc (Rn.s rfl (Yv.fa (off := 0)) (Rn.s rfl (Yv.ld (hc.at_ 0)) (Rn.s rfl Yv.mv (Rn.s rfl Yv.nc (Rn.s rfl (Yv.fa (off := 1)) (Rn.s rfl (Yv.ld (hc.at_ 1)) (Rn.s rfl (Yv.ix (by omega) (by omega)) (Rn.s rfl (Yv.cmp _ rfl) (Rn.s rfl Yv.pick_f ((Rn.e 11 rfl rfl))))))))))))) (ht := fun _ => Rn.no rfl (Rn.no rfl (Rn.no rfl (Rn.no rfl (Rn.no rfl (Rn.no rfl (Rn.no rfl (Rn.no rfl (Rn.no rfl (Rn.no rfl (Rn.s rfl Yv.pick_t (Rn.e 11 rfl rfl)))))))))))) (k := Rn.nil))) (WD.done ?_))))))
  have kx := (Keep.drew _).trans kx1
  have hst := hst.quiet kx
  have hc := hst.cells 0
  refine Wp.cond rfl (fun h => ?_) (fun h => ?_)
  · refine Wp.ret (Fin.ret (Res.none rfl) ?_)
    rw [valueS, if_pos]
    · exact ⟨rfl, hst⟩
    · simp only [Bool.or_eq_true, decide_eq_true_eq, beq_iff_eq] at h
      omega
  have h : ¬ (s.length ≤ a ∨ byt s a = 35) := by
    simp only [Bool.or_eq_false_iff, decide_eq_false_iff_not, beq_eq_false_iff_ne] at h
    omega
  refine Wp.skip (Wp.seq (Wp.regionL (l := [0, 1, 2, 3, 4, 5, 6, 7, 8, 9, 10, 11, 12, 13, 14]) (WO.rd (is := [0, 1, 2, 3, 4, 5, 6, 7, 8, 9]) (js := [10, 11, 12, 13, 14]) (Keep.refl _) (Rn.s rfl Yv.mv (Rn.s rfl Yv.mv (Rn.s rfl Yv.mv (Rn.s rfl Yv.nc (Rn.s rfl (Yv.fa (off := 1)) (Rn.s rfl (Yv.ld (hc.at_ 1)) (Rn.s rfl (Yv.add (by unfold inI; omega)) (Rn.s rfl Yv.nc (Rn.s rfl (Yv.fa (off := 2)) (Rn.s rfl (Yv.fa (off := 2)) (Rn.nil))))))))))) (WO.act (hc := rfl) (he := Ef.store (vs := rrcs s a o) hst 0 (fun wy1 hsy1 => WO.rd (is := [11, 12, 13]) (js := [14]) (Keep.refl _) (Rn.s rfl Yv.nc (Rn.s rfl (Yv.fa (off := 2)) (Rn.s rfl (Yv.fa (off := 6)) (Rn.nil)))) (WO.act (hc := rfl) (he := Ef.store (vs := rrcs s a { o with has := true }) hsy1 0 (fun wy2 hsy2 => WO.done ?_)))))))))
  obtain ⟨o2, ho2⟩ : ∃ o2 : Ct, o2 = { o with has := true, val := (a : Int) + 1 } := ⟨_, rfl⟩
  have hst : St w [b] wy2 [ChR b s a o2] := by rw [ho2]; exact hsy2
  have hc := hst.cells 0
  refine Wp.seq (Wp.seq (Wp.readsD (is := [0, 1, 2, 3, 4, 5, 6, 7, 8, 9]) mixed (fun _ _ _ _ _ h => h) (Keep.refl _) (Rn.s rfl Yv.mv (Rn.s rfl Yv.nc (Rn.s rfl (Yv.fa (off := 0)) (Rn.s rfl (Yv.ld (hc.at_ 0)) (Rn.s rfl Yv.mv (Rn.s rfl Yv.nc (Rn.s rfl (Yv.fa (off := 1)) (Rn.s rfl (Yv.ld (hc.at_ 1)) (Rn.s rfl (Yv.ix (by omega) (by omega)) (Rn.s rfl (Yv.cmp _ rfl) (Rn.nil))))))))))) ?_))
  have hst := hst.quiet (Keep.drew _)
  have hgy : Gm wy2.drew := hg0.keep (keep_chg hk0 hst.chg hb0)
  refine Wp.cond rfl (fun h2 => ?_) (fun h2 => ?_)
  · have h2 : byt s a ≠ 34 := by simpa using h2
    refine Wp.seq (Wp.regionL (l := [0, 1]) (WO.rd (is := [0]) (js := [1]) (Keep.refl _) (Rn.s rfl Yv.mv (Rn.nil)) (WO.act (hc := rfl) (he := Ef.cu (bare_cu b s a o2 hl ha _ hgy (hst.at_ 0)) hst (FnOk.of Tryd.func86) (fun wz1 hsz1 => WO.done ?_)))))
    refine Wp.ret (Fin.ret (Res.none rfl) ?_)
    rw [valueS, if_neg h, if_pos h2, ← ho2]
    exact ⟨rfl, hsz1⟩
  have h2 : byt s a = 34 := by simpa using h2
  have hq := quoteR_bd (s.drop a)
  simp only [List.length_drop] at hq
  have e0 : valueS s a o = if (quoteR (s.drop a)).2.2 then
    if gapN s (a + (quoteR (s.drop a)).2.1.toNat) < s.length ∧ (byt s (gapN s (a + (quoteR (s.drop a)).2.1.toNat)) ≠ 35 ∨ gapN s (a + (quoteR (s.drop a)).2.1.toNat) = a + (quoteR (s.drop a)).2.1.toNat) then .err 22 ((gapN s (a + (quoteR (s.drop a)).2.1.toNat) : Nat) + 1)
    else .ok (gapN s (a + (quoteR (s.drop a)).2.1.toNat)) { o with has := true, val := (a : Int) + 1, value := (quoteR (s.drop a)).1 }
    else .err 21 ((a : Int) + (quoteR (s.drop a)).2.1 + 1) := by rw [valueS, if_neg h, if_neg (by simp [h2])]
  refine Wp.skip (Wp.seq (Wp.regionL (l := [0, 1, 2, 3, 4, 5, 6]) (WO.rd (is := [0, 1]) (js := [2, 3, 4, 5, 6]) (Keep.refl _) (Rn.s rfl Yv.mv (Rn.s rfl Yv.mv (Rn.nil))) (WO.act (hc := rfl) (he := Ef.callv Tryd.func80 (Calls.mono (quoted_calls b s a o2 hl ha _ (hst.at_ 0)) ?_))))))
  rintro e w2 hp
  cases hb : (quoteR (s.drop a)).2.2 with
  | false =>
    simp only [hb, Bool.false_eq_true, if_false, MPost] at hp
    obtain ⟨rfl, hs2⟩ := hp
    refine ⟨?_⟩
    show MPost b s _ (valueS s a o) w _ _
    rw [e0, hb]
    exact ⟨rfl, hst.call (A := [ChR b s a o2]) hs2⟩
  | true =>
    simp only [hb, if_true, MPost] at hp
    obtain ⟨rfl, hs2⟩ := hp
    rw [hb, if_pos rfl] at e0
    obtain ⟨a2, ha2⟩ : ∃ a2 : Nat, a2 = a + (quoteR (s.drop a)).2.1.toNat := ⟨_, rfl⟩
    rw [← ha2] at e0
    have e1 : (a : Int) + (quoteR (s.drop a)).2.1 = (a2 : Int) := by omega
    rw [e1] at hs2
    have ha2l : a2 ≤ s.length := by omega
    have hst := hst.call (A := [ChR b s a o2]) (D := []) hs2
    refine WO.rd (is := [3, 4, 5]) (js := [6]) (Keep.refl _) (Rn.s rfl Yv.nc (Rn.s rfl (Yv.fa (off := 2)) (Rn.s rfl (Yv.fa (off := 3)) (Rn.nil)))) (WO.act (hc := rfl) (he := Ef.store hst 0 fun w3 hs3 => WO.done ?_))
    obtain ⟨o3, ho3⟩ : ∃ o3 : Ct, o3 = { o with has := true, val := (a : Int) + 1, value := (quoteR (s.drop a)).1 } := ⟨_, rfl⟩
    rw [← ho3] at e0
    have hst : St w [b] w3 [ChR b s a2 o3] := by rw [ho3]; rw [ho2] at hs3; exact hs3
    have hc := hst.cells 0
    refine Wp.seq (Wp.reads (is := [0, 1, 2, 3, 4]) (Keep.refl _) (Rn.s rfl Yv.mv (Rn.s rfl Yv.nc (Rn.s rfl (Yv.fa (off := 1)) (Rn.s rfl (Yv.ld (hc.at_ 1)) (Rn.s rfl Yv.as (Rn.nil)))))) ?_)
    refine Wp.seq (Wp.regionL (l := [0, 1]) (WO.rd (is := [0]) (js := [1]) (Keep.refl _) (Rn.s rfl Yv.mv (Rn.nil)) (WO.act (hc := rfl) (he := Ef.cu (gap_cu b s a2 o3 hl ha2l _ (hst.at_ 0)) hst (FnOk.of Tryd.func56) (fun wz1 hsz1 => WO.done ?_)))))
    have hgl := gapN_le s a2 ha2l
    obtain ⟨a3, ha3⟩ : ∃ a3, a3 = gapN s a2 := ⟨_, rfl⟩
    rw [← ha3] at e0 hgl
    have hst : St w [b] wz1 [ChR b s a3 o3] := by rw [ha3]; exact hsz1
    have hc := hst.cells 0
    refine Wp.seq (Wp.draws [] mixed (WD.rd (is := [0, 1, 2, 3, 4]) (fun _ _ _ _ _ h => h) (Keep.drew _) (Rn.s rfl Yv.mv (Rn.s rfl Yv.mv (Rn.s rfl Yv.nc (Rn.s rfl (Yv.fa (off := 1)) (Rn.s rfl (Yv.ld (hc.at_ 1)) (Rn.nil)))))) (WD.cv 5 rfl (end_cv b s a3 o3 a3 _ hc) (Keep.drew _) (FnOk.of Tryd.func84) (fun wu1 ku1 => WD.rd (is := [6, 7, 8, 9, 10, 11, 12, 13, 14, 15, 16, 17, 18, 19, 20, 21, 22, 23, 24, 25, 26]) (fun _ _ _ _ _ h => h) ((Keep.drew _).trans ku1) (Rn.s rfl Yv.not (Rn.s rfl Yv.mv (Rn.and (is := [8, 9, 10, 11, 12, 13, 14, 15, 16, 17, 18, 19, 20, 21, 22, 23, 24, 25, 26]) (js := []) (t := 65) (d := 84) (hg := rfl) (ht := fun h7 => Rn.s rfl Yv.mv (Rn.s rfl Yv.nc (Rn.s rfl (Yv.fa (off := 0)) (Rn.s rfl (Yv.ld (hc.at_ 0)) (Rn.s rfl Yv.mv (Rn.s rfl Yv.nc (Rn.s rfl (Yv.fa (off := 1)) (Rn.s rfl (Yv.ld (hc.at_ 1)) (Rn.s rfl (Yv.ix (by omega) (by simp at h7; omega)) (Rn.s rfl (Yv.cmp _ rfl) (Rn.s rfl Yv.mv (Rn.or (is := [19, 20, 21, 22, 23, 24, 25]) (js := [26]) (t := 76) (d := 83) (hg := rfl) (hf := fun h18 => have h18 := bne_eq_false_iff_eq.1 h18; Rn.s rfl Yv.mv (Rn.s rfl Yv.nc (Rn.s rfl (Yv.fa (off := 1)) (Rn.s rfl (Yv.ld (hc.at_ 1)) (Rn.s rfl Yv.mv (Rn.s rfl (Yv.cmp _ rfl) (Rn.s rfl Yv.pick_f ((Rn.e 7 rfl rfl))))))))) (ht := fun _ => Rn.no rfl (Rn.no rfl (Rn.no rfl (Rn.no rfl (Rn.no rfl (Rn.no rfl (Rn.s rfl Yv.pick_t (Rn.e 7 rfl rfl)))))))) (k := Rn.s rfl Yv.pick_t ((Rn.e 13 rfl rfl))))))))))))))) (hf := fun _ => Rn.no rfl (Rn.no rfl (Rn.no rfl (Rn.no rfl (Rn.no rfl (Rn.no rfl (Rn.no rfl (Rn.no rfl (Rn.no rfl (Rn.no rfl (Rn.no rfl (Rn.no rfl (Rn.no rfl (Rn.no rfl (Rn.no rfl (Rn.no rfl (Rn.no rfl (Rn.no rfl (Rn.s rfl Yv.pick_f (Rn.e 19 rfl rfl)))))))))))))))))))) (k := Rn.nil)))) (WD.done ?_)))))
    have hst := hst.quiet ((Keep.drew _).trans ku1)
    have hc := hst.cells 0
    refine Wp.cond rfl (fun h3 => ?_) (fun h3 => ?_)
    · refine Wp.regionL (l := [0, 1, 2, 3, 4, 5]) (WO.rd (is := [0, 1, 2, 3, 4]) (js := [5]) (Keep.refl _) (Rn.s rfl Yv.mv (Rn.s rfl Yv.mv (Rn.s rfl Yv.nc (Rn.s rfl (Yv.fa (off := 1)) (Rn.s rfl (Yv.ld (hc.at_ 1)) (Rn.nil)))))) (WO.act (hc := rfl) (he := Ef.callv Tryd.func81 (Calls.mono (fail_calls b 22 a3 (by unfold inI; omega) _) ?_))))
      rintro e w4 ⟨rfl, rfl⟩
      refine ⟨?_⟩
      show MPost b s _ (valueS s a o) w _ _
      rw [e0, if_pos]
      · exact ⟨rfl, hst.pick []⟩
      · simp only [Bool.and_eq_true, Bool.or_eq_true, Bool.not_eq_true', decide_eq_false_iff_not, bne_iff_ne, beq_iff_eq] at h3
        omega
    · refine Wp.skip (Fin.normal (Res.none rfl) ?_)
      rw [e0, if_neg]
      · exact ⟨rfl, hst⟩
      · simp only [Bool.and_eq_false_iff, Bool.or_eq_false_iff, Bool.not_eq_false', decide_eq_true_eq, bne_eq_false_iff_eq, beq_eq_false_iff_ne] at h3
        omega
end Go.Proofs.YtgjhbapbomdpbaaDoor.C
