/- MergeCuts is walked: its answer is true. -/
import Derived.Test.YtbmplmehofgocaaDoorSa
set_option linter.unusedVariables false
set_option linter.unusedSimpArgs false
set_option maxRecDepth 10000
namespace Go.Proofs.YtbmplmehofgocaaDoor.C
open Go.RowKit Go.Proofs.YtbmplmehofgocaaDoor.Sh
theorem cut_none {t : List Nd} {A : Option Addr} {c l : Nat} (hA : A ≠ none) : cutA A c l 8 = none → c - l = 0 := by
  intro h
  unfold cutA at h
  split at h
  · omega
  · simp only [Option.map_eq_none_iff] at h
    exact (hA h).elim
theorem rd_drop {w : World} {A : Option Addr} {t : List Nd} {c l : Nat} (hr : Rd NdE w A t) (hc : t.length ≤ c) : Rd NdE w (cutA A c l 8) (t.drop l) := by
  have := hr.cut (l := l) hc (Nat.le_refl _)
  rwa [List.take_length] at this
theorem rd_take {w : World} {A : Option Addr} {t : List Nd} {m : Nat} (hr : Rd NdE w A t) : Rd NdE w A (t.take m) := by
  have : Rd NdE w A (t.take m ++ t.drop m) := by rw [List.take_append_drop]; exact hr
  exact rd_pre this
set_option maxHeartbeats 1600000 in
theorem cuts_calls (A : Option Addr) (c : Nat) (t : List Nd) (key : Bs) (w : World) (hg : Gl w) (hr : Rd NdE w A t) (hn : A = none → c = 0) (hcap : t.length ≤ c) (hl : t.length ≤ 1599289640380) :
    Calls Tryd.prog 16 #[.slice A t.length c, S key] w fun e w' => e = .returned (.bool true) ∧ Keep w w' := by
  refine calls_of_Wp (vs := [_, _]) Tryd.func16 ?_
  refine Wp.seq (Wp.reads (is := [0]) (Keep.refl _) (Rn.s rfl Yv.as (Rn.nil)) ?_)
  refine Wp.seq (Wp.seq (Wp.regionL (l := [0, 1, 2, 3]) (WO.rd (is := [0]) (js := [1, 2, 3]) (Keep.refl _) (Rn.s rfl Yv.mv (Rn.nil)) (WO.act (hc := rfl) (he := Ef.cx (copyL_cx A c t w hr hn (by omega)) (St.init w) (FnOk.of Tryd.func21) ?_)))))
  rintro v D w1 ⟨B1, d1, rfl, rfl⟩ hs1
  have hst : St w [] w1 [Ch.row NdE 32 B1 d1 t] := hs1
  refine WO.cv rfl (is_cv B1 d1 t w1 (hst.rd 0)) (Keep.refl _) (FnOk.of Tryd.func30) (fun w2 k2 => ?_)
  have hst : St w [] w2 [] := (hst.quiet k2).pick []
  cases hIs : isS t with
  | false =>
    refine WO.rd (is := [3]) (js := []) (Keep.refl _) (Rn.s rfl Yv.not (Rn.nil)) (WO.done ?_)
    refine Wp.cond_t rfl ?_
    refine Wp.seq (Wp.regionL (l := [0, 1]) (WO.cv rfl (awake8_cv w2 (hg.keep hst.keep)) (Keep.refl _) (FnOk.of Tryd.func24) (fun wx1 kx1 => WO.rd (is := [1]) (js := []) ((Keep.refl _).trans kx1) (Rn.s rfl Yv.as (Rn.nil)) (WO.done ?_))))
    exact Wp.ret (Fin.ret (Res.one rfl rfl) ⟨rfl, hst.keep.trans (by assumption)⟩)
  | true =>
  have ht16 := (isS_depth hIs).2.1
  have ht0 := (isS_depth hIs).1
  have hA : A ≠ none := rd_some hr ht0
  obtain ⟨W, hW⟩ : ∃ W, W = withoutL t key := ⟨_, rfl⟩
  obtain ⟨K, hK⟩ : ∃ K, K = getS t [key] := ⟨_, rfl⟩
  have hcl := cuts_law hIs key
  have eK : K = findS t 0 key := by rw [hK]; exact getS_one hIs key
  rw [← eK] at hcl
  have hWis : isS W = true := by
    rcases hcl with ⟨h1, h2⟩ | ⟨x, u, -, h2⟩
    · rw [hW, h2]; exact hIs
    · rw [hW]; exact h2.is
  have hWg : getS W [key] = -1 := by
    rw [getS_one hWis]
    rcases hcl with ⟨h1, h2⟩ | ⟨x, u, -, h2⟩
    · rw [hW, h2, ← eK]; exact h1
    · rw [hW]; exact h2.get
  have hW16 := (isS_depth hWis).2.1
  have hW0 := (isS_depth hWis).1
  refine WO.rd (is := [3]) (js := []) (Keep.refl _) (Rn.s rfl Yv.not (Rn.nil)) (WO.done ?_)
  refine Wp.cond_f rfl (Wp.skip ?_)
  -- the part cut out
  refine Wp.seq (Wp.regionL (l := [0, 1, 2, 3, 4, 5, 6, 7, 8]) (WO.rd (is := [0]) (js := [1, 2, 3, 4, 5, 6, 7, 8]) (Keep.refl _) (Rn.s rfl Yv.mv (Rn.nil)) (WO.act (hc := rfl) (he := Ef.cx (copyL_cx A c t w2 (hr.keep hst.keep) hn (by omega)) hst (FnOk.of Tryd.func21) ?_))))
  rintro v D w3 ⟨B3, d3, rfl, rfl⟩ hs3
  have hst : St w [] w3 [Ch.row NdE 32 B3 d3 t] := hs3
  have hwc := without_cx B3 d3 t key w3 (hst.rd 0) (hst.cap 0) (by omega)
  have ew : withoutS t key = (W, 0) := by unfold withoutS; rw [if_pos hIs, hW]
  rw [ew] at hwc
  refine WO.rd (is := [2]) (js := [3, 4, 5, 6, 7, 8]) (Keep.refl _) (Rn.s rfl Yv.mv (Rn.nil)) (WO.act (hc := rfl) (he := Ef.cx hwc hst (FnOk.of Tryd.func27) ?_))
  rintro v D w4 ⟨WA, wc, rfl, rfl⟩ hs4
  refine WO.rd (is := [4, 5, 6, 7, 8]) (js := []) (Keep.refl _) (Rn.s rfl Yv.mv (Rn.s rfl Yv.ex (Rn.s rfl Yv.ex (Rn.s rfl Yv.as (Rn.s rfl Yv.as (Rn.nil)))))) (WO.done ?_)
  have hst : St w [] w4 [Ch.row NdE 32 WA wc W] := hs4.pick [0]
  clear hs1 hs3 hs4 hwc
  -- where it was
  refine Wp.seq (Wp.regionL (l := [0, 1, 2, 3, 4, 5]) (WO.rd (is := [0]) (js := [1, 2, 3, 4, 5]) (Keep.refl _) (Rn.s rfl Yv.mv (Rn.nil)) (WO.act (hc := rfl) (he := Ef.cx (copyL_cx A c t w4 (hr.keep hst.keep) hn (by omega)) hst (FnOk.of Tryd.func21) ?_))))
  rintro v D w5 ⟨B5, d5, rfl, rfl⟩ hs5
  refine WO.rd (is := [2]) (js := [3, 4, 5]) (Keep.refl _) (Rn.s rfl Yv.mv (Rn.nil)) (WO.act (hc := rfl) (he := Ef.bsl (T := 9) StE [key] hs5 (fun b6 w6 k6 hs6 => ?_)))
  have hs6 : St w [] w6 [Ch.row StE 9 (some ⟨b6, 0, none⟩) 1 [key], Ch.row NdE 32 B5 d5 t, Ch.row NdE 32 WA wc W] := hs6
  have e6 := get_cv B5 d5 t (some ⟨b6, 0, none⟩) 1 [key] w6 (hg.keep hs6.keep) (hs6.rd 1) (hs6.rd 0) (by simp)
  rw [← hK] at e6
  refine WO.cv rfl e6 (Keep.refl _) (FnOk.of Tryd.func36) (fun w7 k7 => ?_)
  refine WO.rd (is := [5]) (js := []) (Keep.refl _) (Rn.s rfl Yv.as (Rn.nil)) (WO.done ?_)
  have hst : St w [] w7 [Ch.row NdE 32 WA wc W] := (hs6.quiet k7).pick [2]
  clear hs5 hs6 e6
  -- what is left
  refine Wp.seq (Wp.seq (Wp.regionL (l := [0, 1, 2, 3, 4, 5, 6, 7, 8, 9, 10, 11, 12, 13, 14]) (WO.rd (is := [0, 1, 2, 3]) (js := [4, 5, 6, 7, 8, 9, 10, 11, 12, 13, 14]) (Keep.refl _) (Rn.s rfl Yv.mv (Rn.s rfl (Yv.cmp false (by rfl)) (Rn.s rfl Yv.mv (Rn.s rfl Yv.mv (Rn.nil))))) (WO.act (hc := rfl) (he := Ef.cx (copyL_cx WA wc W w7 (hst.rd 0) (fun h => (rd_some (hst.rd 0) hW0 h).elim) (by omega)) hst (FnOk.of Tryd.func21) ?_)))))
  rintro v D w8 ⟨B8, d8, rfl, rfl⟩ hs8
  have hs8 : St w [] w8 [Ch.row NdE 32 B8 d8 W, Ch.row NdE 32 WA wc W] := hs8
  have hwi := is_cv B8 d8 W w8 (hs8.rd 0)
  rw [hWis] at hwi
  refine WO.cv rfl hwi (Keep.refl _) (FnOk.of Tryd.func30) (fun w9 k9 => ?_)
  have hst : St w [] w9 [Ch.row NdE 32 WA wc W] := (hs8.quiet k9).pick [1]
  refine WO.rd (is := [6, 7, 8, 9, 10]) (js := [11, 12, 13, 14]) (Keep.refl _) (Rn.s rfl Yv.not (Rn.s rfl Yv.pick_f (Rn.s rfl Yv.mv (Rn.s rfl Yv.mv (Rn.s rfl Yv.mv (Rn.nil)))))) (WO.act (hc := rfl) (he := Ef.bsl (T := 9) StE [key] hst (fun b10 w10 k10 hs10 => ?_)))
  have hs10 : St w [] w10 [Ch.row StE 9 (some ⟨b10, 0, none⟩) 1 [key], Ch.row NdE 32 WA wc W] := hs10
  have e10 := get_cv WA wc W (some ⟨b10, 0, none⟩) 1 [key] w10 (hg.keep hs10.keep) (hs10.rd 1) (hs10.rd 0) (by simp)
  rw [hWg] at e10
  refine WO.cv rfl e10 (Keep.refl _) (FnOk.of Tryd.func36) (fun w11 k11 => ?_)
  refine WO.rd (is := [13, 14]) (js := []) (Keep.refl _) (Rn.s rfl (Yv.cmp false (by rfl)) (Rn.s rfl Yv.pick_f (Rn.nil))) (WO.done ?_)
  have hst : St w [] w11 [Ch.row NdE 32 WA wc W] := (hs10.quiet k11).pick [1]
  clear hs8 hs10 e10 hwi
  refine Wp.cond_f rfl (Wp.skip ?_)
  refine Wp.seq (Wp.seq (Wp.reads (is := [0, 1]) (Keep.refl _) (Rn.s rfl Yv.mv (Rn.s rfl (Yv.cmp _ rfl) (Rn.nil))) ?_))
  refine Wp.cond rfl (fun h => ?_) (fun h => ?_)
  · have h := of_decide_eq_true h
    have e : W = t := by
      rcases hcl with ⟨h1, h2⟩ | ⟨x, u, h1, h2⟩
      · rw [hW, h2]
      · omega
    have hsm := same_cv WA wc W A c t w11 (hst.rd 0) (hr.keep hst.keep) (by omega)
    rw [decide_eq_true e] at hsm
    refine Wp.seq (Wp.regionL (l := [0, 1, 2, 3, 4, 5, 6]) (WO.rd (is := [0, 1]) (js := [2, 3, 4, 5, 6]) (Keep.refl _) (Rn.s rfl Yv.mv (Rn.s rfl Yv.mv (Rn.nil))) (WO.cv rfl hsm (Keep.refl _) (FnOk.of Tryd.func22) (fun w13 k13 => WO.rd (is := [3]) (js := [4, 5, 6]) (Keep.refl _) (Rn.s rfl Yv.mv (Rn.nil)) (WO.cv rfl (awake8_cv w13 (hg.keep (hst.keep.trans k13))) (Keep.refl _) (FnOk.of Tryd.func24) (fun w15 k15 => WO.rd (is := [5, 6]) (js := []) (Keep.refl _) (Rn.s rfl Yv.pick_t (Rn.s rfl Yv.as (Rn.nil))) (WO.done ?_)))))))
    exact Wp.ret (Fin.ret (Res.one rfl rfl) ⟨rfl, (hst.keep.trans k13).trans k15⟩)
  have h := of_decide_eq_false h
  obtain ⟨x, u, hx, q⟩ : ∃ (x : Nat) (u : List Nd), K = x ∧ CutsTo t key x u := by
    rcases hcl with ⟨h1, h2⟩ | h2
    · omega
    · exact h2
  obtain ⟨q1, q2, q3, q4, q5, q6, q7, q8, q9⟩ := q
  rw [← hW] at q4 q5 q6 q7 q9
  clear hcl hK eK
  subst hx
  obtain ⟨e1, e2⟩ := endS_bd q2
  refine Wp.skip (Wp.seq (Wp.reads (is := [0, 1, 2]) (Keep.refl _) (Rn.s rfl Yv.mv (Rn.s rfl (Yv.add (by unfold inI; omega)) (Rn.s rfl Yv.as (Rn.nil)))) ?_))
  refine Wp.seq (Wp.block ?_)
  refine Wp.loop (α := Nat) (fun k ρ ds w' => ds = [] ∧ w11 = w' ∧ x < k ∧ k ≤ t.length ∧ endS t x = endR 1 (t.drop k) k ∧
    Sub [(0, .slice A t.length c), (1, S key), (5, .slice WA W.length wc), (7, .int .i64 (x : Int)), (8, .int .i64 (k : Int))] ρ) (fun k => t.length - k) (x + 1) ⟨rfl, rfl, by omega, by omega, by unfold endS; rw [q1], rfl, rfl, rfl, rfl, by simp; rfl, trivial⟩ ?_
  rintro k ρ ds w' ⟨rfl, rfl, h1, h2, h3, hs⟩
  refine Wp.forget _ ?_ hs
  clear hs ρ
  have hr' := hr.keep hst.keep
  refine Wp.seq (Wp.seq (Wp.reads (is := [0, 1, 2, 3, 4, 5, 6, 7, 8, 9, 10, 11]) (Keep.refl _) (Rn.s rfl Yv.mv (Rn.s rfl Yv.mv (Rn.s rfl (Yv.len_v (e := 32) (m := 8)) (Rn.s rfl (Yv.cmp _ rfl) (Rn.s rfl Yv.mv (Rn.and (is := [5, 6, 7, 8, 9, 10, 11]) (js := []) (t := 58) (d := 65) (hg := rfl) (ht := fun h4 => have h4 := of_decide_eq_true h4; Rn.s rfl Yv.mv (Rn.s rfl Yv.mv (Rn.s rfl (Yv.ia (e := 32) hr' (by omega) (by omega)) (Rn.s rfl (Yv.fa (off := 1)) (Rn.s rfl (Yv.ld (hr'.ld 1 (by omega) (by omega))) (Rn.s rfl (Yv.cmp _ rfl) (Rn.s rfl Yv.pick_t ((Rn.e 7 rfl rfl))))))))) (hf := fun _ => Rn.no rfl (Rn.no rfl (Rn.no rfl (Rn.no rfl (Rn.no rfl (Rn.no rfl (Rn.s rfl Yv.pick_f (Rn.e 7 rfl rfl)))))))) (k := Rn.nil))))))) ?_))
  refine Wp.cond rfl (fun h => ?_) (fun h => ?_)
  · simp only [Bool.and_eq_true, decide_eq_true_eq] at h
    have hkl : k < t.length := by omega
    rw [drop_cons hkl, endR, if_pos h.2] at h3
    refine Wp.skip (Wp.block (Wp.reads (is := [0, 1, 2]) (Keep.refl _) (Rn.s rfl Yv.mv (Rn.s rfl (Yv.add (by unfold inI; omega)) (Rn.s rfl Yv.as (Rn.nil)))) ?_))
    exact ⟨k + 1, ⟨rfl, rfl, by omega, hkl, h3, rfl, rfl, rfl, rfl, rfl, trivial⟩, by omega⟩
  refine Wp.exit ?_
  have ek : endS t x = k := by
    rw [h3]
    by_cases hkl : k < t.length
    · rw [drop_cons hkl, endR, if_neg]
      simp only [Bool.and_eq_false_iff, decide_eq_false_iff_not] at h
      omega
    · rw [List.drop_eq_nil_of_le (by omega), endR]
  rw [ek] at q5 q7 q9 e1 e2
  clear h h3
  -- the part alone
  have hss : ((t.take k).drop x).length = k - x := by simp; omega
  refine Wp.seq (Wp.regionL (l := [0, 1, 2, 3, 4, 5, 6, 7]) (WO.rd (is := [0]) (js := [1, 2, 3, 4, 5, 6, 7]) (Keep.refl _) (Rn.s rfl (Yv.bd (cs := ndR.cs)) (Rn.nil)) (WO.act (hc := rfl) (he := Ef.bsl (T := 32) NdE [ndR] hst (fun b12 w12 k12 hs12 => ?_)))))
  have hr12 := hr.keep hs12.keep
  have hcut : Rd NdE w12 (cutA A c x 8) ((t.take k).drop x) := hr12.cut hcap e2
  have hk2 : ((t.take k).drop x).length = (k : Int).toNat - (x : Int).toNat := by rw [Int.toNat_natCast, Int.toNat_natCast]; exact hss
  refine WO.rd (is := [2, 3, 4, 5]) (js := [6, 7]) (Keep.refl _) (Rn.s rfl Yv.mv (Rn.s rfl Yv.mv (Rn.s rfl Yv.mv (Rn.s rfl (Yv.sl_ft (n := 8) (e := 32) (k := ((t.take k).drop x).length) (by omega) (by omega) (by omega) hk2) (Rn.nil))))) (WO.act (hc := rfl) (he := Ef.append (ys := (t.take k).drop x) hs12 0 hcut (cut_none (t := t) hA) (fitN (by simp; omega)) ?_))
  intro NA nc w13 hs13
  have hst : St w [] w13 [Ch.row NdE 32 NA nc (ndR :: (t.take k).drop x), Ch.row NdE 32 WA wc W] := hs13
  refine WO.rd (is := [7]) (js := []) (Keep.refl _) (Rn.s rfl Yv.as (Rn.nil)) (WO.done ?_)
  -- laid over
  refine Wp.seq (Wp.regionL (l := [0, 1, 2, 3, 4, 5, 6, 7, 8]) (WO.rd (is := [0, 1]) (js := [2, 3, 4, 5, 6, 7, 8]) (Keep.refl _) (Rn.s rfl Yv.mv (Rn.s rfl Yv.mv (Rn.nil))) (WO.act (hc := rfl) (he := Ef.bsl (T := 22) TsE [(WA, wc, W), (NA, nc, ndR :: (t.take k).drop x)] hst (fun b14 w14 k14 hs14 => ?_)))))
  have hm := merge_cx (some ⟨b14, 0, none⟩) 2 [(WA, wc, W), (NA, nc, ndR :: (t.take k).drop x)] w14 (hs14.rd 0) (by simp) (by simp) (by
    intro x hx
    simp only [List.mem_cons, List.not_mem_nil, or_false] at hx
    rcases hx with rfl | rfl
    · exact ⟨hs14.rd 2, hs14.cap 2⟩
    · exact ⟨hs14.rd 1, hs14.cap 1⟩)
  have em : mergeS (([(WA, wc, W), (NA, nc, ndR :: (t.take k).drop x)] : List Tr).map ts1) = (u, 0) := q7
  rw [em] at hm
  refine WO.act (hc := rfl) (he := Ef.cx hm hs14 (FnOk.of Tryd.func19) ?_)
  rintro v D w15 ⟨UA, uc, rfl, rfl⟩ hs15
  refine WO.rd (is := [4, 5, 6, 7, 8]) (js := []) (Keep.refl _) (Rn.s rfl Yv.mv (Rn.s rfl Yv.ex (Rn.s rfl Yv.ex (Rn.s rfl Yv.as (Rn.s rfl Yv.as (Rn.nil)))))) (WO.done ?_)
  have hst : St w [] w15 [Ch.row NdE 32 UA uc u, Ch.row NdE 32 WA wc W] := hs15.pick [0, 3]
  clear hs12 hs13 hs14 hs15 hm em
  have hul2 : (t.length : Int) ≤ (u.length : Int) := by omega
  have hwl : W.length = t.length - (k - x) := by rw [q5]; simp; omega
  have hUA : UA ≠ none := rd_some (hst.rd 0) (by omega)
  have hd := hst.quiet (Keep.drew w15)
  have hrd := hr.keep hd.keep
  have hru := hd.rd 0
  have hs0 := St.init w15.drew
  have hkd := hd.keep
  have htk : (t.take x).length = (x : Int).toNat := by rw [Int.toNat_natCast]; simp; omega
  have htd : (t.drop k).length = t.length - (k : Int).toNat := by rw [Int.toNat_natCast]; simp
  have hcu := hst.cap 0
  have huk : (u.take W.length).length = (W.length : Int).toNat := by rw [Int.toNat_natCast]; simp; omega
  have hud : (u.drop t.length).length = u.length - (t.length : Int).toNat := by rw [Int.toNat_natCast]; simp
  refine Wp.seq (Wp.drawsB [] mixed (WDB.rd (is := [0, 1, 2, 3, 4, 5, 6, 7, 8, 9, 10, 11, 12, 13, 14, 15, 16, 17, 18, 19, 20, 21, 22, 23]) (fun _ _ _ _ _ h => h) (Keep.refl _) (Keep.refl _) (Rn.s rfl Yv.mv (Rn.s rfl (Yv.cmp true (by rfl)) (Rn.s rfl Yv.mv (Rn.s rfl Yv.mv (Rn.s rfl (Yv.len_v (e := 32) (m := 8)) (Rn.s rfl Yv.mv (Rn.s rfl (Yv.len_v (e := 32) (m := 8)) (Rn.s rfl (Yv.cmp true (by simp only [icmp, Option.some.injEq, decide_eq_true_eq, decide_eq_false_iff_not, beq_iff_eq, beq_eq_false_iff_ne, bne_iff_ne, bne_eq_false_iff_eq]; omega)) (Rn.s rfl Yv.pick_t (Rn.s rfl Yv.mv (Rn.s rfl Yv.mv (Rn.s rfl (Yv.len_v (e := 32) (m := 8)) (Rn.s rfl Yv.mv (Rn.s rfl (Yv.len_v (e := 32) (m := 8)) (Rn.s rfl Yv.mv (Rn.s rfl Yv.mv (Rn.s rfl (Yv.sub (by unfold inI; omega)) (Rn.s rfl (Yv.sub (by unfold inI; omega)) (Rn.s rfl (Yv.cmp true (by simp only [icmp, Option.some.injEq, decide_eq_true_eq, decide_eq_false_iff_not, beq_iff_eq, beq_eq_false_iff_ne, bne_iff_ne, bne_eq_false_iff_eq]; omega)) (Rn.s rfl Yv.pick_t (Rn.s rfl Yv.mv (Rn.s rfl Yv.mv (Rn.s rfl Yv.mv (Rn.s rfl (Yv.sl_t (n := 8) (e := 32) (k := (t.take x).length) (by omega) (by omega) htk) (Rn.nil))))))))))))))))))))))))) ?_))
  refine WDB.rd (is := [25, 26, 27]) (fun _ _ _ _ _ h => h) (Keep.refl _) (Keep.refl _) (Rn.s rfl Yv.mv (Rn.s rfl Yv.mv (Rn.s rfl (Yv.sl_f (n := 8) (e := 32) (k := (t.drop k).length) (by omega) (by omega) htd) (Rn.nil)))) ?_
  refine WDB.rd (is := [29, 30, 31, 32]) (fun _ _ _ _ _ h => h) (Keep.refl _) (Keep.refl _) (Rn.s rfl Yv.mv (Rn.s rfl Yv.mv (Rn.s rfl (Yv.len_v (e := 32) (m := 8)) (Rn.s rfl (Yv.sl_t (n := 8) (e := 32) (k := (u.take W.length).length) (by omega) (by omega) huk) (Rn.nil))))) ?_
  refine WDB.rd (is := [34, 35, 36, 37]) (fun _ _ _ _ _ h => h) (Keep.refl _) (Keep.refl _) (Rn.s rfl Yv.mv (Rn.s rfl Yv.mv (Rn.s rfl (Yv.len_v (e := 32) (m := 8)) (Rn.s rfl (Yv.sl_f (n := 8) (e := 32) (k := (u.drop t.length).length) (by omega) hul2 hud) (Rn.nil))))) ?_
  refine WDB.act 24 (hc := rfl) (he := Ef.cx (copyL_cx A c (t.take x) _ (rd_take hrd) hn (by simp; omega)) hs0 (FnOk.of Tryd.func21) ?_)
  rintro v D w16 ⟨F1, g1, rfl, rfl⟩ hs16
  refine ⟨fun _ _ => hs16.keep, ?_⟩
  have hs16 : St w15.drew [] w16 [Ch.row NdE 32 F1 g1 (t.take x)] := hs16
  refine WDB.act 28 (hc := rfl) (he := Ef.append (ys := t.drop k) hs16 0 (rd_drop (hrd.keep hs16.keep) hcap) (cut_none (t := t) hA) (fitN (by simp; omega)) ?_)
  intro F2 g2 w17 hs17
  refine ⟨fun _ _ => hs17.keep, ?_⟩
  have hs17 : St w15.drew [] w17 [Ch.row NdE 32 F2 g2 (t.take x ++ t.drop k)] := hs17
  refine WDB.act 33 (hc := rfl) (he := Ef.cx (copyL_cx UA uc (u.take W.length) _ (rd_take (hru.keep hs17.keep)) (fun h => (hUA h).elim) (by simp; omega)) hs17 (FnOk.of Tryd.func21) ?_)
  rintro v D w18 ⟨F3, g3, rfl, rfl⟩ hs18
  refine ⟨fun _ _ => hs18.keep, ?_⟩
  have hs18 : St w15.drew [] w18 [Ch.row NdE 32 F3 g3 (u.take W.length), Ch.row NdE 32 F2 g2 (t.take x ++ t.drop k)] := hs18
  refine WDB.act 38 (hc := rfl) (he := Ef.append (ys := u.drop t.length) hs18 0 (rd_drop (hru.keep hs18.keep) hcu) (cut_none (t := u) hUA) (fitN (by simp; omega)) ?_)
  intro F4 g4 w19 hs19
  refine ⟨fun _ _ => hs19.keep, ?_⟩
  have hs19 : St w15.drew [] w19 [Ch.row NdE 32 F4 g4 (u.take W.length ++ u.drop t.length), Ch.row NdE 32 F2 g2 (t.take x ++ t.drop k)] := hs19
  have hal := alike_cv F2 g2 (t.take x ++ t.drop k) F4 g4 (u.take W.length ++ u.drop t.length) w19 (hs19.rd 1) (hs19.rd 0) (by simp; omega)
  rw [decide_eq_true q9] at hal
  refine WDB.act 39 (hc := rfl) (he := Ef.quiet hal (Keep.refl _) (FnOk.of Tryd.func31) (fun w20 k20 => ⟨fun _ h => h.trans k20, ?_⟩))
  refine WDB.rd0 (is := [40, 41]) (fun _ _ _ _ _ h => h) (Keep.refl _) (Rn.s rfl Yv.pick_t (Rn.s rfl Yv.mv (Rn.nil))) ?_
  refine WDB.act 42 (hc := rfl) (he := Ef.quiet (awake8_cv w20 (hg.keep (hkd.trans (hs19.keep.trans k20)))) (Keep.refl _) (FnOk.of Tryd.func24) (fun w21 k21 => ⟨fun _ h => h.trans k21, ?_⟩))
  refine WDB.rd0 (is := [43, 44]) (fun _ _ _ _ _ h => h) (Keep.refl _) (Rn.s rfl Yv.pick_t (Rn.s rfl Yv.as (Rn.nil))) (WDB.done ?_)
  exact Wp.ret (Fin.ret (Res.one rfl rfl) ⟨rfl, hkd.trans ((hs19.keep.trans k20).trans k21)⟩)
end Go.Proofs.YtbmplmehofgocaaDoor.C
