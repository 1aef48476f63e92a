/- MergeGets is walked: its answer is true. -/
import Derived.Test.YtbmplmehofgocaaDoorSa
set_option linter.unusedVariables false
set_option linter.unusedSimpArgs false
set_option maxRecDepth 10000
namespace Go.Proofs.YtbmplmehofgocaaDoor.C
open Go.RowKit Go.Proofs.YtbmplmehofgocaaDoor.Sh
theorem merged {a b T : List Nd} (h : mergeS [a, b] = (T, 0)) : isS a = true ∧ isS b = true ∧ (layS a b).length ≤ 16384 ∧ T = layS a b := by
  unfold mergeS at h
  by_cases h1 : ([a, b] : List (List Nd)).all isS = true
  · rw [if_pos h1] at h
    simp only at h
    rw [foldS] at h
    split at h
    · cases h
    · rename_i h2
      rw [foldS] at h
      simp at h1
      exact ⟨h1.1, h1.2, by omega, by injection h with h; exact h.symm⟩
  · rw [if_neg h1] at h; cases h
theorem get_bd {t : List Nd} (h : isS t = true) (key more : Bs) : (-1 ≤ getS t [key] ∧ getS t [key] < t.length) ∧ (-1 ≤ getS t [key, more] ∧ getS t [key, more] < t.length) := by
  have h0 := (isS_depth h).1
  obtain ⟨b1, b2, -⟩ := findS_bd h0 key
  rw [getS_one h, getS_two h]
  refine ⟨⟨b1, b2⟩, ?_⟩
  split
  · omega
  · exact stepS_bd t _ more (by omega)
set_option maxHeartbeats 1600000 in
theorem gets_calls (A0 : Option Addr) (c0 : Nat) (a : List Nd) (A1 : Option Addr) (c1 : Nat) (b : List Nd) (key more : Bs) (w : World) (hg : Gl w) (h0 : Rd NdE w A0 a) (h1 : Rd NdE w A1 b) (n0 : A0 = none → c0 = 0) (n1 : A1 = none → c1 = 0) (l0 : a.length ≤ 1599289640380) (l1 : b.length ≤ 1599289640380) :
    Calls Tryd.prog 15 #[.slice A0 a.length c0, .slice A1 b.length c1, S key, S more] w fun e w' => e = .returned (.bool true) ∧ Keep w w' := by
  refine calls_of_Wp (vs := [_, _, _, _]) Tryd.func15 ?_
  refine Wp.seq (Wp.reads (is := [0]) (Keep.refl _) (Rn.s rfl Yv.as (Rn.nil)) ?_)
  obtain ⟨T, eT, hT⟩ : ∃ T eT, mergeS [a, b] = (T, eT) := ⟨_, _, rfl⟩
  have hTl := mergeS_len [a, b]
  rw [hT] at hTl
  simp only at hTl
  refine Wp.seq (Wp.regionL (l := [0, 1, 2, 3, 4, 5, 6, 7, 8, 9, 10]) (WO.rd (is := [0]) (js := [1, 2, 3, 4, 5, 6, 7, 8, 9, 10]) (Keep.refl _) (Rn.s rfl Yv.mv (Rn.nil)) (WO.act (hc := rfl) (he := Ef.cx (copyL_cx A0 c0 a w h0 n0 (by omega)) (St.init w) (FnOk.of Tryd.func21) ?_))))
  rintro v D w1 ⟨B0, d0, rfl, rfl⟩ hs1
  refine WO.rd (is := [2]) (js := [3, 4, 5, 6, 7, 8, 9, 10]) (Keep.refl _) (Rn.s rfl Yv.mv (Rn.nil)) (WO.act (hc := rfl) (he := Ef.cx (copyL_cx A1 c1 b w1 (h1.keep hs1.keep) n1 (by omega)) hs1 (FnOk.of Tryd.func21) ?_))
  rintro v D w2 ⟨B1, d1, rfl, rfl⟩ hs2
  have hst : St w [] w2 [Ch.row NdE 32 B1 d1 b, Ch.row NdE 32 B0 d0 a] := hs2
  refine WO.act (hc := rfl) (he := Ef.bsl (T := 22) TsE [(B0, d0, a), (B1, d1, b)] hst (fun b4 w4 k4 hs4 => ?_))
  have hm := merge_cx (some ⟨b4, 0, none⟩) 2 [(B0, d0, a), (B1, d1, b)] w4 (hs4.rd 0) (by simp) (by simp) (by
    intro x hx
    simp only [List.mem_cons, List.not_mem_nil, or_false] at hx
    rcases hx with rfl | rfl
    · exact ⟨hs4.rd 2, hs4.cap 2⟩
    · exact ⟨hs4.rd 1, hs4.cap 1⟩)
  have em : mergeS (([(B0, d0, a), (B1, d1, b)] : List Tr).map ts1) = (T, eT) := hT
  rw [em] at hm
  refine WO.act (hc := rfl) (he := Ef.cx hm hs4 (FnOk.of Tryd.func19) ?_)
  rintro v D w5 ⟨TA, tc, rfl, rfl⟩ hs5
  refine WO.rd (is := [6, 7, 8, 9, 10]) (js := []) (Keep.refl _) (Rn.s rfl Yv.mv (Rn.s rfl Yv.ex (Rn.s rfl Yv.ex (Rn.s rfl Yv.as (Rn.s rfl Yv.as (Rn.nil)))))) (WO.done ?_)
  have hst : St w [] w5 [Ch.row NdE 32 TA tc T] := hs5.pick [0]
  clear hs1 hs2 hs4 hs5 hm
  refine Wp.seq (Wp.seq (Wp.reads (is := [0, 1]) (Keep.refl _) (Rn.s rfl Yv.mv (Rn.s rfl (Yv.cmp _ rfl) (Rn.nil))) ?_))
  refine Wp.cond rfl (fun h => ?_) (fun h => ?_)
  · refine Wp.seq (Wp.regionL (l := [0, 1]) (WO.cv rfl (awake8_cv w5 (hg.keep hst.keep)) (Keep.refl _) (FnOk.of Tryd.func24) (fun wx1 kx1 => WO.rd (is := [1]) (js := []) ((Keep.refl _).trans kx1) (Rn.s rfl Yv.as (Rn.nil)) (WO.done ?_))))
    exact Wp.ret (Fin.ret (Res.one rfl rfl) ⟨rfl, hst.keep.trans (by assumption)⟩)
  have h : eT = 0 := by simpa using h
  subst h
  obtain ⟨ia, ib, il, rfl⟩ := merged hT
  have iT := layS_is ia ib il
  obtain ⟨x, hx⟩ : ∃ x, x = getS a [key] := ⟨_, rfl⟩
  obtain ⟨y, hy⟩ : ∃ y, y = getS b [key] := ⟨_, rfl⟩
  obtain ⟨z, hz⟩ : ∃ z, z = getS (layS a b) [key] := ⟨_, rfl⟩
  obtain ⟨p, hp⟩ : ∃ p, p = getS a [key, more] := ⟨_, rfl⟩
  obtain ⟨q, hq⟩ : ∃ q, q = getS b [key, more] := ⟨_, rfl⟩
  obtain ⟨r, hr⟩ : ∃ r, r = getS (layS a b) [key, more] := ⟨_, rfl⟩
  obtain ⟨g1, g2, g3, g4⟩ := gets_law ia ib il key more x y z p q r hx hy hz hp hq hr
  obtain ⟨bx, bp⟩ := get_bd ia key more
  obtain ⟨by', bq⟩ := get_bd ib key more
  obtain ⟨bz, br⟩ := get_bd iT key more
  rw [← hx] at bx; rw [← hp] at bp; rw [← hy] at by'; rw [← hq] at bq; rw [← hz] at bz; rw [← hr] at br
  generalize layS a b = T at *
  refine Wp.skip ?_
  -- the paths of one key
  refine Wp.seq (Wp.regionL (l := [0, 1, 2, 3, 4, 5, 6, 7, 8, 9, 10, 11, 12, 13, 14]) (WO.rd (is := [0, 1]) (js := [2, 3, 4, 5, 6, 7, 8, 9, 10, 11, 12, 13, 14]) (Keep.refl _) (Rn.s rfl Yv.mv (Rn.s rfl Yv.mv (Rn.nil))) (WO.act (hc := rfl) (he := Ef.bsl (T := 9) StE [key] hst (fun b6 w6 k6 hs6 => ?_)))))
  have e6 := get_cv A0 c0 a (some ⟨b6, 0, none⟩) 1 [key] w6 (hg.keep hs6.keep) (h0.keep hs6.keep) (hs6.rd 0) (by simp)
  rw [← hx] at e6
  refine WO.cv rfl e6 (Keep.refl _) (FnOk.of Tryd.func36) (fun w7 k7 => ?_)
  refine WO.rd (is := [4, 5]) (js := [6, 7, 8, 9, 10, 11, 12, 13, 14]) (Keep.refl _) (Rn.s rfl Yv.mv (Rn.s rfl Yv.mv (Rn.nil))) (WO.act (hc := rfl) (he := Ef.bsl (T := 9) StE [key] (hs6.quiet k7) (fun b8 w8 k8 hs8 => ?_)))
  have e8 := get_cv A1 c1 b (some ⟨b8, 0, none⟩) 1 [key] w8 (hg.keep hs8.keep) (h1.keep hs8.keep) (hs8.rd 0) (by simp)
  rw [← hy] at e8
  refine WO.cv rfl e8 (Keep.refl _) (FnOk.of Tryd.func36) (fun w9 k9 => ?_)
  refine WO.rd (is := [8, 9]) (js := [10, 11, 12, 13, 14]) (Keep.refl _) (Rn.s rfl Yv.mv (Rn.s rfl Yv.mv (Rn.nil))) (WO.act (hc := rfl) (he := Ef.bsl (T := 9) StE [key] (hs8.quiet k9) (fun b10 w10 k10 hs10 => ?_)))
  have e10 := get_cv TA tc T (some ⟨b10, 0, none⟩) 1 [key] w10 (hg.keep hs10.keep) (hs10.rd 3) (hs10.rd 0) (by simp)
  rw [← hz] at e10
  refine WO.cv rfl e10 (Keep.refl _) (FnOk.of Tryd.func36) (fun w11 k11 => ?_)
  refine WO.rd (is := [12, 13, 14]) (js := []) (Keep.refl _) (Rn.s rfl Yv.as (Rn.s rfl Yv.as (Rn.s rfl Yv.as (Rn.nil)))) (WO.done ?_)
  have hst : St w [] w11 [Ch.row NdE 32 TA tc T] := (hs10.quiet k11).pick [3]
  clear hs6 hs8 hs10 e6 e8 e10
  refine Wp.seq (Wp.seq (Wp.reads (is := [0, 1, 2, 3, 4, 5, 6, 7, 8, 9, 10, 11, 12, 13, 14, 15]) (Keep.refl _) (Rn.s rfl Yv.mv (Rn.s rfl Yv.mv (Rn.s rfl (Yv.len_v (e := 32) (m := 8)) (Rn.s rfl (Yv.cmp _ rfl) (Rn.s rfl Yv.mv (Rn.or (is := [5, 6, 7, 8, 9]) (js := [10, 11, 12, 13, 14, 15]) (t := 48) (d := 53) (hg := rfl) (hf := fun h4 => have h4 := of_decide_eq_false h4; Rn.s rfl Yv.mv (Rn.s rfl Yv.mv (Rn.s rfl (Yv.len_v (e := 32) (m := 8)) (Rn.s rfl (Yv.cmp _ rfl) (Rn.s rfl Yv.pick_f ((Rn.e 5 rfl rfl))))))) (ht := fun _ => Rn.no rfl (Rn.no rfl (Rn.no rfl (Rn.no rfl (Rn.s rfl Yv.pick_t (Rn.e 5 rfl rfl)))))) (k := Rn.s rfl Yv.mv (Rn.or (is := [11, 12, 13, 14, 15]) (js := []) (t := 54) (d := 59) (hg := rfl) (hf := fun h10 => Rn.s rfl Yv.mv (Rn.s rfl Yv.mv (Rn.s rfl (Yv.len_v (e := 32) (m := 8)) (Rn.s rfl (Yv.cmp _ rfl) (Rn.s rfl Yv.pick_f ((Rn.e 5 rfl rfl))))))) (ht := fun _ => Rn.no rfl (Rn.no rfl (Rn.no rfl (Rn.no rfl (Rn.s rfl Yv.pick_t (Rn.e 5 rfl rfl)))))) (k := Rn.nil))))))))) ?_))
  refine Wp.cond rfl (fun h => ?_) (fun h => ?_)
  · simp only [Bool.or_eq_true, decide_eq_true_eq] at h
    omega
  refine Wp.skip (Wp.seq (Wp.seq (Wp.reads (is := [0, 1, 2, 3, 4, 5, 6, 7, 8]) (Keep.refl _) (Rn.s rfl Yv.mv (Rn.s rfl (Yv.cmp _ rfl) (Rn.s rfl Yv.mv (Rn.s rfl (Yv.cmp _ rfl) (Rn.s rfl Yv.mv (Rn.or (is := [5, 6, 7]) (js := [8]) (t := 64) (d := 67) (hg := rfl) (hf := fun h4 => have h4 := of_decide_eq_false h4; Rn.s rfl Yv.mv (Rn.s rfl (Yv.cmp _ rfl) (Rn.s rfl Yv.pick_f ((Rn.e 3 rfl rfl))))) (ht := fun _ => Rn.no rfl (Rn.no rfl (Rn.s rfl Yv.pick_t (Rn.e 3 rfl rfl)))) (k := Rn.s rfl (Yv.bcm _ rfl) (Rn.nil)))))))) ?_)))
  refine Wp.cond rfl (fun h => ?_) (fun h => ?_)
  · exfalso
    have : decide (0 ≤ z) = (decide (0 ≤ x) || decide (0 ≤ y)) := by
      rw [← Bool.decide_or]
      exact decide_eq_decide.2 g1
    rw [this] at h
    simp at h
  clear h
  refine Wp.skip (Wp.seq (Wp.seq (Wp.reads (is := [0, 1]) (Keep.refl _) (Rn.s rfl Yv.mv (Rn.s rfl (Yv.cmp _ rfl) (Rn.nil))) ?_)))
  refine Wp.cond rfl (fun h => ?_) (fun h => ?_)
  · refine Wp.seq (Wp.regionL (l := [0, 1]) (WO.cv rfl (awake8_cv w11 (hg.keep hst.keep)) (Keep.refl _) (FnOk.of Tryd.func24) (fun wx1 kx1 => WO.rd (is := [1]) (js := []) ((Keep.refl _).trans kx1) (Rn.s rfl Yv.as (Rn.nil)) (WO.done ?_))))
    exact Wp.ret (Fin.ret (Res.one rfl rfl) ⟨rfl, hst.keep.trans (by assumption)⟩)
  have hz0 : 0 ≤ z := by have := of_decide_eq_false h; omega
  refine Wp.skip ?_
  have hra := h0.keep hst.keep
  have hrb := h1.keep hst.keep
  have hrT := hst.rd 0
  refine Wp.seq (Wp.mid (fun ρ ds w' => ds = [] ∧ w11 = w' ∧ ∃ bt : Bool, (bt = true ↔ 0 ≤ x ∧ 0 ≤ y ∧ (nth a x).kind = 1 ∧ (nth b y).kind = 1) ∧
    Sub [(0, .slice A0 a.length c0), (1, .slice A1 b.length c1), (2, S key), (3, S more), (9, .slice TA T.length tc), (11, .int .i64 x), (12, .int .i64 y), (13, .int .i64 z), (14, .bool bt)] ρ) ?_ ?_)
  · by_cases hx0 : 0 ≤ x
    · by_cases hy0 : 0 ≤ y
      · by_cases hka : (nth a x).kind = 1
        · refine Wp.reads (is := [0, 1, 2, 3, 4, 5, 6, 7, 8, 9, 10, 11, 12, 13, 14, 15, 16, 17, 18, 19, 20, 21, 22]) (Keep.refl _) (Rn.s rfl Yv.mv (Rn.s rfl (Yv.cmp true (by simp only [icmp, Option.some.injEq, decide_eq_true_eq, decide_eq_false_iff_not, beq_iff_eq, beq_eq_false_iff_ne, bne_iff_ne, bne_eq_false_iff_eq]; omega)) (Rn.s rfl Yv.mv (Rn.s rfl Yv.mv (Rn.s rfl (Yv.cmp true (by simp only [icmp, Option.some.injEq, decide_eq_true_eq, decide_eq_false_iff_not, beq_iff_eq, beq_eq_false_iff_ne, bne_iff_ne, bne_eq_false_iff_eq]; omega)) (Rn.s rfl Yv.pick_t (Rn.s rfl Yv.mv (Rn.s rfl Yv.mv (Rn.s rfl Yv.mv (Rn.s rfl (Yv.ia (e := 32) hra (by omega) (by omega)) (Rn.s rfl (Yv.fa (off := 0)) (Rn.s rfl (Yv.ld (hra.ld 0 (by omega) (by omega))) (Rn.s rfl (Yv.cmp true (by simp only [icmp, Option.some.injEq, decide_eq_true_eq, decide_eq_false_iff_not, beq_iff_eq, beq_eq_false_iff_ne, bne_iff_ne, bne_eq_false_iff_eq]; omega)) (Rn.s rfl Yv.pick_t (Rn.s rfl Yv.mv (Rn.s rfl Yv.mv (Rn.s rfl Yv.mv (Rn.s rfl (Yv.ia (e := 32) hrb (by omega) (by omega)) (Rn.s rfl (Yv.fa (off := 0)) (Rn.s rfl (Yv.ld (hrb.ld 0 (by omega) (by omega))) (Rn.s rfl (Yv.cmp _ rfl) (Rn.s rfl Yv.pick_t (Rn.s rfl Yv.as (Rn.nil)))))))))))))))))))))))) ⟨rfl, rfl, _, ?_, rfl, rfl, rfl, rfl, rfl, rfl, rfl, rfl, rfl, trivial⟩
          rw [beq_iff_eq]
          exact ⟨fun h => ⟨hx0, hy0, hka, h⟩, fun h => h.2.2.2⟩
        · refine Wp.reads (is := [0, 1, 2, 3, 4, 5, 6, 7, 8, 9, 10, 11, 12, 13, 14, 15, 16, 17, 18, 19, 20, 21, 22]) (Keep.refl _) (Rn.s rfl Yv.mv (Rn.s rfl (Yv.cmp true (by simp only [icmp, Option.some.injEq, decide_eq_true_eq, decide_eq_false_iff_not, beq_iff_eq, beq_eq_false_iff_ne, bne_iff_ne, bne_eq_false_iff_eq]; omega)) (Rn.s rfl Yv.mv (Rn.s rfl Yv.mv (Rn.s rfl (Yv.cmp true (by simp only [icmp, Option.some.injEq, decide_eq_true_eq, decide_eq_false_iff_not, beq_iff_eq, beq_eq_false_iff_ne, bne_iff_ne, bne_eq_false_iff_eq]; omega)) (Rn.s rfl Yv.pick_t (Rn.s rfl Yv.mv (Rn.s rfl Yv.mv (Rn.s rfl Yv.mv (Rn.s rfl (Yv.ia (e := 32) hra (by omega) (by omega)) (Rn.s rfl (Yv.fa (off := 0)) (Rn.s rfl (Yv.ld (hra.ld 0 (by omega) (by omega))) (Rn.s rfl (Yv.cmp false (by simp only [icmp, Option.some.injEq, decide_eq_true_eq, decide_eq_false_iff_not, beq_iff_eq, beq_eq_false_iff_ne, bne_iff_ne, bne_eq_false_iff_eq]; omega)) (Rn.s rfl Yv.pick_t (Rn.s rfl Yv.mv (Rn.no rfl (Rn.no rfl (Rn.no rfl (Rn.no rfl (Rn.no rfl (Rn.no rfl (Rn.s rfl Yv.pick_f (Rn.s rfl Yv.as (Rn.nil)))))))))))))))))))))))) ⟨rfl, rfl, false, ?_, rfl, rfl, rfl, rfl, rfl, rfl, rfl, rfl, rfl, trivial⟩
          exact ⟨(fun h => by cases h), fun h => (hka h.2.2.1).elim⟩
      · refine Wp.reads (is := [0, 1, 2, 3, 4, 5, 6, 7, 8, 9, 10, 11, 12, 13, 14, 15, 16, 17, 18, 19, 20, 21, 22]) (Keep.refl _) (Rn.s rfl Yv.mv (Rn.s rfl (Yv.cmp true (by simp only [icmp, Option.some.injEq, decide_eq_true_eq, decide_eq_false_iff_not, beq_iff_eq, beq_eq_false_iff_ne, bne_iff_ne, bne_eq_false_iff_eq]; omega)) (Rn.s rfl Yv.mv (Rn.s rfl Yv.mv (Rn.s rfl (Yv.cmp false (by simp only [icmp, Option.some.injEq, decide_eq_true_eq, decide_eq_false_iff_not, beq_iff_eq, beq_eq_false_iff_ne, bne_iff_ne, bne_eq_false_iff_eq]; omega)) (Rn.s rfl Yv.pick_t (Rn.s rfl Yv.mv (Rn.no rfl (Rn.no rfl (Rn.no rfl (Rn.no rfl (Rn.no rfl (Rn.no rfl (Rn.s rfl Yv.pick_f (Rn.s rfl Yv.mv (Rn.no rfl (Rn.no rfl (Rn.no rfl (Rn.no rfl (Rn.no rfl (Rn.no rfl (Rn.s rfl Yv.pick_f (Rn.s rfl Yv.as (Rn.nil)))))))))))))))))))))))) ⟨rfl, rfl, false, ?_, rfl, rfl, rfl, rfl, rfl, rfl, rfl, rfl, rfl, trivial⟩
        exact ⟨(fun h => by cases h), fun h => (hy0 h.2.1).elim⟩
    · refine Wp.reads (is := [0, 1, 2, 3, 4, 5, 6, 7, 8, 9, 10, 11, 12, 13, 14, 15, 16, 17, 18, 19, 20, 21, 22]) (Keep.refl _) (Rn.s rfl Yv.mv (Rn.s rfl (Yv.cmp false (by simp only [icmp, Option.some.injEq, decide_eq_true_eq, decide_eq_false_iff_not, beq_iff_eq, beq_eq_false_iff_ne, bne_iff_ne, bne_eq_false_iff_eq]; omega)) (Rn.s rfl Yv.mv (Rn.no rfl (Rn.no rfl (Rn.s rfl Yv.pick_f (Rn.s rfl Yv.mv (Rn.no rfl (Rn.no rfl (Rn.no rfl (Rn.no rfl (Rn.no rfl (Rn.no rfl (Rn.s rfl Yv.pick_f (Rn.s rfl Yv.mv (Rn.no rfl (Rn.no rfl (Rn.no rfl (Rn.no rfl (Rn.no rfl (Rn.no rfl (Rn.s rfl Yv.pick_f (Rn.s rfl Yv.as (Rn.nil)))))))))))))))))))))))) ⟨rfl, rfl, false, ?_, rfl, rfl, rfl, rfl, rfl, rfl, rfl, rfl, rfl, trivial⟩
      exact ⟨(fun h => by cases h), fun h => (hx0 h.1).elim⟩
  rintro ρ ds w' ⟨rfl, rfl, bt, hbt, hsub⟩
  refine Wp.forget _ ?_ hsub
  clear hsub ρ
  refine Wp.seq (Wp.seq (Wp.reads (is := [0, 1]) (Keep.refl _) (Rn.s rfl Yv.mv (Rn.s rfl Yv.not (Rn.nil))) ?_))
  refine Wp.cond rfl (fun h => ?_) (fun h => ?_)
  · -- one of the two alone
    have hnb : ¬ (0 ≤ x ∧ 0 ≤ y ∧ (nth a x).kind = 1 ∧ (nth b y).kind = 1) := fun h' => by rw [hbt.2 h'] at h; cases h
    refine Wp.seq (Wp.reads (is := [0, 1]) (Keep.refl _) (Rn.s rfl Yv.mv (Rn.s rfl Yv.as (Rn.nil))) ?_)
    refine Wp.seq (Wp.reads (is := [0, 1]) (Keep.refl _) (Rn.s rfl Yv.mv (Rn.s rfl Yv.as (Rn.nil))) ?_)
    refine Wp.seq (Wp.mid (fun ρ ds w' => ds = [] ∧ w11 = w' ∧ ∃ (FA : Option Addr) (fc : Nat) (f : List Nd) (i : Int), Rd NdE w11 FA f ∧ isS f = true ∧ 0 ≤ i ∧ i < f.length ∧ nth T z = nth f i ∧ (0 ≤ r ↔ 0 ≤ getS f [key, more]) ∧
      Sub [(0, .slice A0 a.length c0), (1, .slice A1 b.length c1), (2, S key), (3, S more), (9, .slice TA T.length tc), (11, .int .i64 x), (12, .int .i64 y), (13, .int .i64 z), (15, .slice FA f.length fc), (16, .int .i64 i)] ρ) ?_ ?_)
    · refine Wp.seq (Wp.reads (is := [0, 1]) (Keep.refl _) (Rn.s rfl Yv.mv (Rn.s rfl (Yv.cmp _ rfl) (Rn.nil))) ?_)
      refine Wp.cond rfl (fun h2 => ?_) (fun h2 => ?_)
      · have h2 := of_decide_eq_true h2
        refine Wp.seq (Wp.reads (is := [0, 1]) (Keep.refl _) (Rn.s rfl Yv.mv (Rn.s rfl Yv.as (Rn.nil))) ?_)
        refine Wp.reads (is := [0, 1]) (Keep.refl _) (Rn.s rfl Yv.mv (Rn.s rfl Yv.as (Rn.nil))) ?_
        obtain ⟨u1, u2⟩ := g2 hnb h2
        exact ⟨rfl, rfl, A1, c1, b, y, hrb, ib, h2, by'.2, u1, by rw [← hq]; exact u2, rfl, rfl, rfl, rfl, rfl, rfl, rfl, rfl, rfl, rfl, trivial⟩
      · have h2 := of_decide_eq_false h2
        refine Wp.skip ?_
        have hx0 : 0 ≤ x := by
          rcases g1.1 hz0 with h | h
          · exact h
          · omega
        obtain ⟨u1, u2⟩ := g3 (by omega) hx0
        exact ⟨rfl, rfl, A0, c0, a, x, hra, ia, hx0, bx.2, u1, by rw [← hp]; exact u2, rfl, rfl, rfl, rfl, rfl, rfl, rfl, rfl, rfl, rfl, trivial⟩
    rintro ρ ds w' ⟨rfl, rfl, FA, fc, f, i, hrf, isf, i0, i1, hzf, hrq, hsub⟩
    refine Wp.forget _ ?_ hsub
    clear hsub ρ
    have hd0 := hst.quiet (Keep.drew w11)
    have hgd := fun w2 (k : Keep w11.drew w2) => hg.keep (hd0.keep.trans k)
    have hrfd := fun w2 (k : Keep w11.drew w2) => hrf.keep ((Keep.drew w11).trans k)
    have hrTd := fun w2 (k : Keep w11.drew w2) => hrT.keep ((Keep.drew w11).trans k)
    rw [hr] at hrq
    have hk1 : icmp .eql (nth T z).kind (nth f i).kind = some true := by rw [hzf]; simp [icmp]
    have hk2 : scmp .eql (nth T z).text (nth f i).text = some true := by rw [hzf]; simp [scmp]
    have hk3 : icmp .eql (nth T z).line (nth f i).line = some true := by rw [hzf]; simp [icmp]
    have hk4 : bcmp .eql (decide (0 ≤ getS T [key, more])) (decide (0 ≤ getS f [key, more])) = some true := congrArg some (beq_iff_eq.2 (decide_eq_decide.2 hrq))
    refine Wp.seq (Wp.drawsB [] mixed (WDB.rd (is := [0, 1, 2, 3, 4, 5, 6, 7, 8, 9, 10, 11, 12, 13, 14, 15, 16, 17, 18, 19, 20, 21, 22, 23, 24, 25, 26, 27, 28, 29, 30, 31, 32, 33, 34, 35, 36, 37, 38, 39, 40]) (fun _ _ _ _ _ h => h) (Keep.refl _) (Keep.drew _) (Rn.s rfl Yv.mv (Rn.s rfl Yv.mv (Rn.s rfl (Yv.ia (e := 32) hrT (by omega) (by omega)) (Rn.s rfl (Yv.fa (off := 0)) (Rn.s rfl (Yv.ld (hrT.ld 0 (by omega) (by omega))) (Rn.s rfl Yv.mv (Rn.s rfl Yv.mv (Rn.s rfl (Yv.ia (e := 32) hrf (by omega) (by omega)) (Rn.s rfl (Yv.fa (off := 0)) (Rn.s rfl (Yv.ld (hrf.ld 0 (by omega) (by omega))) (Rn.s rfl (Yv.cmp true hk1) (Rn.s rfl Yv.mv (Rn.s rfl Yv.mv (Rn.s rfl Yv.mv (Rn.s rfl (Yv.ia (e := 32) hrT (by omega) (by omega)) (Rn.s rfl (Yv.fa (off := 3)) (Rn.s rfl (Yv.ld (hrT.ld 3 (by omega) (by omega))) (Rn.s rfl Yv.mv (Rn.s rfl Yv.mv (Rn.s rfl (Yv.ia (e := 32) hrf (by omega) (by omega)) (Rn.s rfl (Yv.fa (off := 3)) (Rn.s rfl (Yv.ld (hrf.ld 3 (by omega) (by omega))) (Rn.s rfl (Yv.scm true hk2) (Rn.s rfl Yv.pick_t (Rn.s rfl Yv.mv (Rn.s rfl Yv.mv (Rn.s rfl Yv.mv (Rn.s rfl (Yv.ia (e := 32) hrT (by omega) (by omega)) (Rn.s rfl (Yv.fa (off := 5)) (Rn.s rfl (Yv.ld (hrT.ld 5 (by omega) (by omega))) (Rn.s rfl Yv.mv (Rn.s rfl Yv.mv (Rn.s rfl (Yv.ia (e := 32) hrf (by omega) (by omega)) (Rn.s rfl (Yv.fa (off := 5)) (Rn.s rfl (Yv.ld (hrf.ld 5 (by omega) (by omega))) (Rn.s rfl (Yv.cmp true hk3) (Rn.s rfl Yv.pick_t (Rn.s rfl Yv.mv (Rn.s rfl Yv.mv (Rn.s rfl Yv.mv (Rn.s rfl Yv.mv (Rn.nil)))))))))))))))))))))))))))))))))))))))))) ?_))
    refine WDB.rd0 (is := [44, 45, 46]) (fun _ _ _ _ _ h => h) (Keep.refl _) (Rn.s rfl Yv.mv (Rn.s rfl Yv.mv (Rn.s rfl Yv.mv (Rn.nil)))) ?_
    refine WDB.act2 41 47 (hci := rfl) (hcj := rfl) (hi := Ef.bsl (T := 9) StE [key, more] hd0 (fun b1 w1 k1 hs1 => ⟨fun _ h => h.trans k1, ?_⟩)) (hj := Ef.bsl (T := 9) StE [key, more] hd0 (fun b1 w1 k1 hs1 => ⟨fun _ h => h.trans k1, ?_⟩))
    · refine WDB.act2 42 47 (hci := rfl) (hcj := rfl) (hi := Ef.quiet (get_cv TA tc T _ _ [key, more] w1 (hgd w1 k1) (hrTd w1 k1) (hs1.rd 0) (by simp)) (Keep.refl _) (FnOk.of Tryd.func36) (fun w2 k2 => ⟨fun _ h => h.trans k2, ?_⟩)) (hj := Ef.bsl (T := 9) StE [key, more] hs1 (fun b2 w2 k2 hs2 => ⟨fun _ h => h.trans k2, ?_⟩))
      · refine WDB.rd0 (is := [43]) (fun _ _ _ _ _ h => h) (Keep.refl _) (Rn.s rfl (Yv.cmp _ rfl) (Rn.nil)) ?_
        refine WDB.act 47 (hc := rfl) (he := Ef.bsl (T := 9) StE [key, more] (hs1.quiet k2) (fun b3 w3 k3 hs3 => ⟨fun _ h => h.trans k3, ?_⟩))
        have k3' := k1.trans (k2.trans k3)
        refine WDB.act 48 (hc := rfl) (he := Ef.quiet (get_cv FA fc f _ _ [key, more] w3 (hgd w3 k3') (hrfd w3 k3') (hs3.rd 0) (by simp)) (Keep.refl _) (FnOk.of Tryd.func36) (fun w4 k4 => ⟨fun _ h => h.trans k4, ?_⟩))
        refine WDB.rd0 (is := [49, 50, 51, 52]) (fun _ _ _ _ _ h => h) (Keep.refl _) (Rn.s rfl (Yv.cmp _ rfl) (Rn.s rfl (Yv.bcm true hk4) (Rn.s rfl Yv.pick_t (Rn.s rfl Yv.mv (Rn.nil))))) ?_
        refine WDB.act 53 (hc := rfl) (he := Ef.quiet (awake8_cv w4 (hgd w4 (k3'.trans k4))) (Keep.refl _) (FnOk.of Tryd.func24) (fun w5 k5 => ⟨fun _ h => h.trans k5, ?_⟩))
        refine WDB.rd0 (is := [54, 55]) (fun _ _ _ _ _ h => h) (Keep.refl _) (Rn.s rfl Yv.pick_t (Rn.s rfl Yv.as (Rn.nil))) (WDB.done ?_)
        exact Wp.ret (Fin.ret (Res.one rfl rfl) ⟨rfl, (hd0.keep.trans (k3'.trans k4)).trans k5⟩)
      · have k2' := k1.trans k2
        refine WDB.act 42 (hc := rfl) (he := Ef.quiet (get_cv TA tc T _ _ [key, more] w2 (hgd w2 k2') (hrTd w2 k2') (hs2.rd 1) (by simp)) (Keep.refl _) (FnOk.of Tryd.func36) (fun w3 k3 => ⟨fun _ h => h.trans k3, ?_⟩))
        refine WDB.rd0 (is := [43]) (fun _ _ _ _ _ h => h) (Keep.refl _) (Rn.s rfl (Yv.cmp _ rfl) (Rn.nil)) ?_
        refine WDB.act 48 (hc := rfl) (he := Ef.quiet (get_cv FA fc f _ _ [key, more] w3 (hgd w3 (k2'.trans k3)) (hrfd w3 (k2'.trans k3)) ((hs2.quiet k3).rd 0) (by simp)) (Keep.refl _) (FnOk.of Tryd.func36) (fun w4 k4 => ⟨fun _ h => h.trans k4, ?_⟩))
        refine WDB.rd0 (is := [49, 50, 51, 52]) (fun _ _ _ _ _ h => h) (Keep.refl _) (Rn.s rfl (Yv.cmp _ rfl) (Rn.s rfl (Yv.bcm true hk4) (Rn.s rfl Yv.pick_t (Rn.s rfl Yv.mv (Rn.nil))))) ?_
        refine WDB.act 53 (hc := rfl) (he := Ef.quiet (awake8_cv w4 (hgd w4 ((k2'.trans k3).trans k4))) (Keep.refl _) (FnOk.of Tryd.func24) (fun w5 k5 => ⟨fun _ h => h.trans k5, ?_⟩))
        refine WDB.rd0 (is := [54, 55]) (fun _ _ _ _ _ h => h) (Keep.refl _) (Rn.s rfl Yv.pick_t (Rn.s rfl Yv.as (Rn.nil))) (WDB.done ?_)
        exact Wp.ret (Fin.ret (Res.one rfl rfl) ⟨rfl, (hd0.keep.trans ((k2'.trans k3).trans k4)).trans k5⟩)
    · refine WDB.act 41 (hc := rfl) (he := Ef.bsl (T := 9) StE [key, more] hs1 (fun b2 w2 k2 hs2 => ⟨fun _ h => h.trans k2, ?_⟩))
      have k2' := k1.trans k2
      refine WDB.act 42 (hc := rfl) (he := Ef.quiet (get_cv TA tc T _ _ [key, more] w2 (hgd w2 k2') (hrTd w2 k2') (hs2.rd 0) (by simp)) (Keep.refl _) (FnOk.of Tryd.func36) (fun w3 k3 => ⟨fun _ h => h.trans k3, ?_⟩))
      refine WDB.rd0 (is := [43]) (fun _ _ _ _ _ h => h) (Keep.refl _) (Rn.s rfl (Yv.cmp _ rfl) (Rn.nil)) ?_
      refine WDB.act 48 (hc := rfl) (he := Ef.quiet (get_cv FA fc f _ _ [key, more] w3 (hgd w3 (k2'.trans k3)) (hrfd w3 (k2'.trans k3)) ((hs2.quiet k3).rd 1) (by simp)) (Keep.refl _) (FnOk.of Tryd.func36) (fun w4 k4 => ⟨fun _ h => h.trans k4, ?_⟩))
      refine WDB.rd0 (is := [49, 50, 51, 52]) (fun _ _ _ _ _ h => h) (Keep.refl _) (Rn.s rfl (Yv.cmp _ rfl) (Rn.s rfl (Yv.bcm true hk4) (Rn.s rfl Yv.pick_t (Rn.s rfl Yv.mv (Rn.nil))))) ?_
      refine WDB.act 53 (hc := rfl) (he := Ef.quiet (awake8_cv w4 (hgd w4 ((k2'.trans k3).trans k4))) (Keep.refl _) (FnOk.of Tryd.func24) (fun w5 k5 => ⟨fun _ h => h.trans k5, ?_⟩))
      refine WDB.rd0 (is := [54, 55]) (fun _ _ _ _ _ h => h) (Keep.refl _) (Rn.s rfl Yv.pick_t (Rn.s rfl Yv.as (Rn.nil))) (WDB.done ?_)
      exact Wp.ret (Fin.ret (Res.one rfl rfl) ⟨rfl, (hd0.keep.trans ((k2'.trans k3).trans k4)).trans k5⟩)
  -- both are maps
  have hb : bt = true := by simpa using h
  obtain ⟨hx0, hy0, hka, hkb⟩ := hbt.1 hb
  obtain ⟨v1, v2, v3, v4⟩ := g4 hx0 hy0 hka hkb
  refine Wp.skip ?_
  refine Wp.seq (Wp.regionL (l := [0, 1, 2, 3, 4, 5, 6, 7, 8, 9, 10, 11, 12, 13, 14, 15, 16, 17]) (WO.rd (is := [0, 1, 2]) (js := [3, 4, 5, 6, 7, 8, 9, 10, 11, 12, 13, 14, 15, 16, 17]) (Keep.refl _) (Rn.s rfl Yv.mv (Rn.s rfl Yv.mv (Rn.s rfl Yv.mv (Rn.nil)))) (WO.act (hc := rfl) (he := Ef.bsl (T := 9) StE [key, more] hst (fun b6 w6 k6 hs6 => ?_)))))
  have e6 := get_cv A0 c0 a (some ⟨b6, 0, none⟩) 2 [key, more] w6 (hg.keep hs6.keep) (h0.keep hs6.keep) (hs6.rd 0) (by simp)
  rw [← hp] at e6
  refine WO.cv rfl e6 (Keep.refl _) (FnOk.of Tryd.func36) (fun w7 k7 => ?_)
  refine WO.rd (is := [5, 6, 7]) (js := [8, 9, 10, 11, 12, 13, 14, 15, 16, 17]) (Keep.refl _) (Rn.s rfl Yv.mv (Rn.s rfl Yv.mv (Rn.s rfl Yv.mv (Rn.nil)))) (WO.act (hc := rfl) (he := Ef.bsl (T := 9) StE [key, more] (hs6.quiet k7) (fun b8 w8 k8 hs8 => ?_)))
  have e8 := get_cv A1 c1 b (some ⟨b8, 0, none⟩) 2 [key, more] w8 (hg.keep hs8.keep) (h1.keep hs8.keep) (hs8.rd 0) (by simp)
  rw [← hq] at e8
  refine WO.cv rfl e8 (Keep.refl _) (FnOk.of Tryd.func36) (fun w9 k9 => ?_)
  refine WO.rd (is := [10, 11, 12]) (js := [13, 14, 15, 16, 17]) (Keep.refl _) (Rn.s rfl Yv.mv (Rn.s rfl Yv.mv (Rn.s rfl Yv.mv (Rn.nil)))) (WO.act (hc := rfl) (he := Ef.bsl (T := 9) StE [key, more] (hs8.quiet k9) (fun b10 w10 k10 hs10 => ?_)))
  have e10 := get_cv TA tc T (some ⟨b10, 0, none⟩) 2 [key, more] w10 (hg.keep hs10.keep) (hs10.rd 3) (hs10.rd 0) (by simp)
  rw [← hr] at e10
  refine WO.cv rfl e10 (Keep.refl _) (FnOk.of Tryd.func36) (fun w12 k12 => ?_)
  refine WO.rd (is := [15, 16, 17]) (js := []) (Keep.refl _) (Rn.s rfl Yv.as (Rn.s rfl Yv.as (Rn.s rfl Yv.as (Rn.nil)))) (WO.done ?_)
  have hst : St w [] w12 [Ch.row NdE 32 TA tc T] := (hs10.quiet k12).pick [3]
  clear hs6 hs8 hs10 e6 e8 e10
  have hra := h0.keep hst.keep
  have hrb := h1.keep hst.keep
  have hrT := hst.rd 0
  refine Wp.seq (Wp.seq (Wp.reads (is := [0, 1, 2, 3, 4, 5, 6, 7, 8, 9, 10, 11, 12, 13, 14, 15]) (Keep.refl _) (Rn.s rfl Yv.mv (Rn.s rfl Yv.mv (Rn.s rfl (Yv.len_v (e := 32) (m := 8)) (Rn.s rfl (Yv.cmp _ rfl) (Rn.s rfl Yv.mv (Rn.or (is := [5, 6, 7, 8, 9]) (js := [10, 11, 12, 13, 14, 15]) (t := 176) (d := 181) (hg := rfl) (hf := fun h4 => have h4 := of_decide_eq_false h4; Rn.s rfl Yv.mv (Rn.s rfl Yv.mv (Rn.s rfl (Yv.len_v (e := 32) (m := 8)) (Rn.s rfl (Yv.cmp _ rfl) (Rn.s rfl Yv.pick_f ((Rn.e 5 rfl rfl))))))) (ht := fun _ => Rn.no rfl (Rn.no rfl (Rn.no rfl (Rn.no rfl (Rn.s rfl Yv.pick_t (Rn.e 5 rfl rfl)))))) (k := Rn.s rfl Yv.mv (Rn.or (is := [11, 12, 13, 14, 15]) (js := []) (t := 182) (d := 187) (hg := rfl) (hf := fun h10 => Rn.s rfl Yv.mv (Rn.s rfl Yv.mv (Rn.s rfl (Yv.len_v (e := 32) (m := 8)) (Rn.s rfl (Yv.cmp _ rfl) (Rn.s rfl Yv.pick_f ((Rn.e 5 rfl rfl))))))) (ht := fun _ => Rn.no rfl (Rn.no rfl (Rn.no rfl (Rn.no rfl (Rn.s rfl Yv.pick_t (Rn.e 5 rfl rfl)))))) (k := Rn.nil))))))))) ?_))
  refine Wp.cond rfl (fun h => ?_) (fun h => ?_)
  · simp only [Bool.or_eq_true, decide_eq_true_eq] at h
    omega
  refine Wp.skip (Wp.seq (Wp.seq (Wp.reads (is := [0, 1, 2, 3, 4, 5, 6, 7, 8, 9, 10, 11, 12, 13, 14, 15, 16]) (Keep.refl _) (Rn.s rfl Yv.mv (Rn.s rfl (Yv.cmp _ rfl) (Rn.s rfl Yv.mv (Rn.s rfl (Yv.cmp _ rfl) (Rn.s rfl Yv.mv (Rn.or (is := [5, 6, 7]) (js := [8, 9, 10, 11, 12, 13, 14, 15, 16]) (t := 192) (d := 195) (hg := rfl) (hf := fun h4 => have h4 := of_decide_eq_false h4; Rn.s rfl Yv.mv (Rn.s rfl (Yv.cmp _ rfl) (Rn.s rfl Yv.pick_f ((Rn.e 3 rfl rfl))))) (ht := fun _ => Rn.no rfl (Rn.no rfl (Rn.s rfl Yv.pick_t (Rn.e 3 rfl rfl)))) (k := Rn.s rfl (Yv.bcm _ rfl) (Rn.s rfl Yv.mv (Rn.or (is := [10, 11, 12, 13, 14, 15, 16]) (js := []) (t := 197) (d := 204) (hg := rfl) (hf := fun h9 => Rn.s rfl Yv.mv (Rn.s rfl Yv.mv (Rn.s rfl (Yv.ia (e := 32) hrT (by omega) (by omega)) (Rn.s rfl (Yv.fa (off := 0)) (Rn.s rfl (Yv.ld (hrT.ld 0 (by omega) (by omega))) (Rn.s rfl (Yv.cmp _ rfl) (Rn.s rfl Yv.pick_f ((Rn.e 7 rfl rfl))))))))) (ht := fun _ => Rn.no rfl (Rn.no rfl (Rn.no rfl (Rn.no rfl (Rn.no rfl (Rn.no rfl (Rn.s rfl Yv.pick_t (Rn.e 7 rfl rfl)))))))) (k := Rn.nil)))))))))) ?_)))
  refine Wp.cond rfl (fun h => ?_) (fun h => ?_)
  · exfalso
    have : decide (0 ≤ r) = (decide (0 ≤ p) || decide (0 ≤ q)) := by
      rw [← Bool.decide_or]
      exact decide_eq_decide.2 v2
    rw [this, v1] at h
    simp at h
  clear h
  refine Wp.skip ?_
  by_cases hr0 : 0 ≤ r
  · by_cases hq0 : 0 ≤ q
    · have hrq := v3 hr0 hq0
      by_cases hk3 : (nth b q).kind = 3
      · have ht : scmp .neq (nth T r).text (nth b q).text = some false := by rw [hrq]; simp [scmp]
        have hk : (nth T r).kind = 3 := by rw [hrq]; exact hk3
        refine Wp.seq (Wp.seq (Wp.readsD (is := [0, 1, 2, 3, 4, 5, 6, 7, 8, 9, 10, 11, 12, 13, 14, 15, 16, 17, 18, 19, 20, 21, 22, 23, 24, 25, 26, 27, 28, 29, 30, 31, 32, 33, 34]) mixed (fun _ _ _ _ _ h => h) (Keep.refl _) (Rn.s rfl Yv.mv (Rn.s rfl (Yv.cmp true (by simp only [icmp, Option.some.injEq, decide_eq_true_eq, decide_eq_false_iff_not, beq_iff_eq, beq_eq_false_iff_ne, bne_iff_ne, bne_eq_false_iff_eq]; omega)) (Rn.s rfl Yv.mv (Rn.s rfl Yv.mv (Rn.s rfl (Yv.cmp true (by simp only [icmp, Option.some.injEq, decide_eq_true_eq, decide_eq_false_iff_not, beq_iff_eq, beq_eq_false_iff_ne, bne_iff_ne, bne_eq_false_iff_eq]; omega)) (Rn.s rfl Yv.pick_t (Rn.s rfl Yv.mv (Rn.s rfl Yv.mv (Rn.s rfl Yv.mv (Rn.s rfl (Yv.ia (e := 32) hrb (by omega) (by omega)) (Rn.s rfl (Yv.fa (off := 0)) (Rn.s rfl (Yv.ld (hrb.ld 0 (by omega) (by omega))) (Rn.s rfl (Yv.cmp true (by simp only [icmp, Option.some.injEq, decide_eq_true_eq, decide_eq_false_iff_not, beq_iff_eq, beq_eq_false_iff_ne, bne_iff_ne, bne_eq_false_iff_eq]; omega)) (Rn.s rfl Yv.pick_t (Rn.s rfl Yv.mv (Rn.s rfl Yv.mv (Rn.s rfl Yv.mv (Rn.s rfl (Yv.ia (e := 32) hrT (by omega) (by omega)) (Rn.s rfl (Yv.fa (off := 3)) (Rn.s rfl (Yv.ld (hrT.ld 3 (by omega) (by omega))) (Rn.s rfl Yv.mv (Rn.s rfl Yv.mv (Rn.s rfl (Yv.ia (e := 32) hrb (by omega) (by omega)) (Rn.s rfl (Yv.fa (off := 3)) (Rn.s rfl (Yv.ld (hrb.ld 3 (by omega) (by omega))) (Rn.s rfl (Yv.scm false ht) (Rn.s rfl Yv.mv (Rn.s rfl Yv.mv (Rn.s rfl Yv.mv (Rn.s rfl (Yv.ia (e := 32) hrT (by omega) (by omega)) (Rn.s rfl (Yv.fa (off := 0)) (Rn.s rfl (Yv.ld (hrT.ld 0 (by omega) (by omega))) (Rn.s rfl (Yv.cmp false (by simp only [icmp, Option.some.injEq, decide_eq_true_eq, decide_eq_false_iff_not, beq_iff_eq, beq_eq_false_iff_ne, bne_iff_ne, bne_eq_false_iff_eq]; omega)) (Rn.s rfl Yv.pick_f (Rn.s rfl Yv.pick_t (Rn.nil)))))))))))))))))))))))))))))))))))) ?_))
        refine Wp.cond_f rfl (Wp.skip ?_)
        refine Wp.seq (Wp.draws [] mixed (WD.rd (is := [0, 1, 2, 3, 4, 5, 6, 7, 8, 9, 10, 11, 12, 13, 14, 15, 16, 17, 18, 19, 20, 21, 22, 23, 24, 25, 26, 27, 28, 29, 30, 31, 32]) (fun _ _ _ _ _ h => h) ((Keep.drew _).trans (Keep.drew _)) (Rn.s rfl Yv.mv (Rn.s rfl (Yv.cmp false (by simp only [icmp, Option.some.injEq, decide_eq_true_eq, decide_eq_false_iff_not, beq_iff_eq, beq_eq_false_iff_ne, bne_iff_ne, bne_eq_false_iff_eq]; omega)) (Rn.s rfl Yv.mv (Rn.s rfl Yv.mv (Rn.s rfl (Yv.cmp true (by simp only [icmp, Option.some.injEq, decide_eq_true_eq, decide_eq_false_iff_not, beq_iff_eq, beq_eq_false_iff_ne, bne_iff_ne, bne_eq_false_iff_eq]; omega)) (Rn.s rfl Yv.pick_f (Rn.s rfl Yv.mv (Rn.no rfl (Rn.no rfl (Rn.no rfl (Rn.no rfl (Rn.no rfl (Rn.no rfl (Rn.no rfl (Rn.no rfl (Rn.no rfl (Rn.no rfl (Rn.no rfl (Rn.no rfl (Rn.no rfl (Rn.no rfl (Rn.no rfl (Rn.no rfl (Rn.no rfl (Rn.no rfl (Rn.no rfl (Rn.no rfl (Rn.no rfl (Rn.no rfl (Rn.no rfl (Rn.no rfl (Rn.s rfl Yv.pick_t (Rn.s rfl Yv.mv (Rn.nil)))))))))))))))))))))))))))))))))) (WD.cv 33 rfl (awake8_cv w12 (hg.keep hst.keep)) ((Keep.drew _).trans (Keep.drew _)) (FnOk.of Tryd.func24) (fun w13 k13 => WD.rd (is := [34, 35]) (fun _ _ _ _ _ h => h) (Keep.refl _) (Rn.s rfl Yv.pick_t (Rn.s rfl Yv.as (Rn.nil))) (WD.done ?_)))))
        exact Wp.ret (Fin.ret (Res.one rfl rfl) ⟨rfl, (hst.keep.trans ((Keep.drew _).trans (Keep.drew _))).trans k13⟩)
      · refine Wp.seq (Wp.seq (Wp.readsD (is := [0, 1, 2, 3, 4, 5, 6, 7, 8, 9, 10, 11, 12, 13, 14, 15, 16, 17, 18, 19, 20, 21, 22, 23, 24, 25, 26, 27, 28, 29, 30, 31, 32, 33, 34]) mixed (fun _ _ _ _ _ h => h) (Keep.refl _) (Rn.s rfl Yv.mv (Rn.s rfl (Yv.cmp true (by simp only [icmp, Option.some.injEq, decide_eq_true_eq, decide_eq_false_iff_not, beq_iff_eq, beq_eq_false_iff_ne, bne_iff_ne, bne_eq_false_iff_eq]; omega)) (Rn.s rfl Yv.mv (Rn.s rfl Yv.mv (Rn.s rfl (Yv.cmp true (by simp only [icmp, Option.some.injEq, decide_eq_true_eq, decide_eq_false_iff_not, beq_iff_eq, beq_eq_false_iff_ne, bne_iff_ne, bne_eq_false_iff_eq]; omega)) (Rn.s rfl Yv.pick_t (Rn.s rfl Yv.mv (Rn.s rfl Yv.mv (Rn.s rfl Yv.mv (Rn.s rfl (Yv.ia (e := 32) hrb (by omega) (by omega)) (Rn.s rfl (Yv.fa (off := 0)) (Rn.s rfl (Yv.ld (hrb.ld 0 (by omega) (by omega))) (Rn.s rfl (Yv.cmp false (by simp only [icmp, Option.some.injEq, decide_eq_true_eq, decide_eq_false_iff_not, beq_iff_eq, beq_eq_false_iff_ne, bne_iff_ne, bne_eq_false_iff_eq]; omega)) (Rn.s rfl Yv.pick_t (Rn.s rfl Yv.mv (Rn.no rfl (Rn.no rfl (Rn.no rfl (Rn.no rfl (Rn.no rfl (Rn.no rfl (Rn.no rfl (Rn.no rfl (Rn.no rfl (Rn.no rfl (Rn.no rfl (Rn.no rfl (Rn.no rfl (Rn.no rfl (Rn.no rfl (Rn.no rfl (Rn.no rfl (Rn.no rfl (Rn.no rfl (Rn.s rfl Yv.pick_f (Rn.nil)))))))))))))))))))))))))))))))))))) ?_))
        refine Wp.cond_f rfl (Wp.skip ?_)
        refine Wp.seq (Wp.draws [] mixed (WD.rd (is := [0, 1, 2, 3, 4, 5, 6, 7, 8, 9, 10, 11, 12, 13, 14, 15, 16, 17, 18, 19, 20, 21, 22, 23, 24, 25, 26, 27, 28, 29, 30, 31, 32]) (fun _ _ _ _ _ h => h) ((Keep.drew _).trans (Keep.drew _)) (Rn.s rfl Yv.mv (Rn.s rfl (Yv.cmp false (by simp only [icmp, Option.some.injEq, decide_eq_true_eq, decide_eq_false_iff_not, beq_iff_eq, beq_eq_false_iff_ne, bne_iff_ne, bne_eq_false_iff_eq]; omega)) (Rn.s rfl Yv.mv (Rn.s rfl Yv.mv (Rn.s rfl (Yv.cmp true (by simp only [icmp, Option.some.injEq, decide_eq_true_eq, decide_eq_false_iff_not, beq_iff_eq, beq_eq_false_iff_ne, bne_iff_ne, bne_eq_false_iff_eq]; omega)) (Rn.s rfl Yv.pick_f (Rn.s rfl Yv.mv (Rn.no rfl (Rn.no rfl (Rn.no rfl (Rn.no rfl (Rn.no rfl (Rn.no rfl (Rn.no rfl (Rn.no rfl (Rn.no rfl (Rn.no rfl (Rn.no rfl (Rn.no rfl (Rn.no rfl (Rn.no rfl (Rn.no rfl (Rn.no rfl (Rn.no rfl (Rn.no rfl (Rn.no rfl (Rn.no rfl (Rn.no rfl (Rn.no rfl (Rn.no rfl (Rn.no rfl (Rn.s rfl Yv.pick_t (Rn.s rfl Yv.mv (Rn.nil)))))))))))))))))))))))))))))))))) (WD.cv 33 rfl (awake8_cv w12 (hg.keep hst.keep)) ((Keep.drew _).trans (Keep.drew _)) (FnOk.of Tryd.func24) (fun w13 k13 => WD.rd (is := [34, 35]) (fun _ _ _ _ _ h => h) (Keep.refl _) (Rn.s rfl Yv.pick_t (Rn.s rfl Yv.as (Rn.nil))) (WD.done ?_)))))
        exact Wp.ret (Fin.ret (Res.one rfl rfl) ⟨rfl, (hst.keep.trans ((Keep.drew _).trans (Keep.drew _))).trans k13⟩)
    · have hrq := v4 hr0 (by omega)
      have hp0 : 0 ≤ p := by
        rcases v2.1 hr0 with h | h
        · exact h
        · omega
      have ht : scmp .eql (nth T r).text (nth a p).text = some true := by rw [hrq]; simp [scmp]
      have hk : (nth T r).kind = (nth a p).kind := by rw [hrq]
      refine Wp.seq (Wp.seq (Wp.readsD (is := [0, 1, 2, 3, 4, 5, 6, 7, 8, 9, 10, 11, 12, 13, 14, 15, 16, 17, 18, 19, 20, 21, 22, 23, 24, 25, 26, 27, 28, 29, 30, 31, 32, 33, 34]) mixed (fun _ _ _ _ _ h => h) (Keep.refl _) (Rn.s rfl Yv.mv (Rn.s rfl (Yv.cmp true (by simp only [icmp, Option.some.injEq, decide_eq_true_eq, decide_eq_false_iff_not, beq_iff_eq, beq_eq_false_iff_ne, bne_iff_ne, bne_eq_false_iff_eq]; omega)) (Rn.s rfl Yv.mv (Rn.s rfl Yv.mv (Rn.s rfl (Yv.cmp false (by simp only [icmp, Option.some.injEq, decide_eq_true_eq, decide_eq_false_iff_not, beq_iff_eq, beq_eq_false_iff_ne, bne_iff_ne, bne_eq_false_iff_eq]; omega)) (Rn.s rfl Yv.pick_t (Rn.s rfl Yv.mv (Rn.no rfl (Rn.no rfl (Rn.no rfl (Rn.no rfl (Rn.no rfl (Rn.no rfl (Rn.s rfl Yv.pick_f (Rn.s rfl Yv.mv (Rn.no rfl (Rn.no rfl (Rn.no rfl (Rn.no rfl (Rn.no rfl (Rn.no rfl (Rn.no rfl (Rn.no rfl (Rn.no rfl (Rn.no rfl (Rn.no rfl (Rn.no rfl (Rn.no rfl (Rn.no rfl (Rn.no rfl (Rn.no rfl (Rn.no rfl (Rn.no rfl (Rn.no rfl (Rn.s rfl Yv.pick_f (Rn.nil)))))))))))))))))))))))))))))))))))) ?_))
      refine Wp.cond_f rfl (Wp.skip ?_)
      refine Wp.seq (Wp.draws [] mixed (WD.rd (is := [0, 1, 2, 3, 4, 5, 6, 7, 8, 9, 10, 11, 12, 13, 14, 15, 16, 17, 18, 19, 20, 21, 22, 23, 24, 25, 26, 27, 28, 29, 30, 31, 32]) (fun _ _ _ _ _ h => h) ((Keep.drew _).trans (Keep.drew _)) (Rn.s rfl Yv.mv (Rn.s rfl (Yv.cmp false (by simp only [icmp, Option.some.injEq, decide_eq_true_eq, decide_eq_false_iff_not, beq_iff_eq, beq_eq_false_iff_ne, bne_iff_ne, bne_eq_false_iff_eq]; omega)) (Rn.s rfl Yv.mv (Rn.s rfl Yv.mv (Rn.s rfl (Yv.cmp false (by simp only [icmp, Option.some.injEq, decide_eq_true_eq, decide_eq_false_iff_not, beq_iff_eq, beq_eq_false_iff_ne, bne_iff_ne, bne_eq_false_iff_eq]; omega)) (Rn.s rfl Yv.pick_f (Rn.s rfl Yv.mv (Rn.s rfl Yv.mv (Rn.s rfl Yv.mv (Rn.s rfl (Yv.ia (e := 32) hrT (by omega) (by omega)) (Rn.s rfl (Yv.fa (off := 0)) (Rn.s rfl (Yv.ld (hrT.ld 0 (by omega) (by omega))) (Rn.s rfl Yv.mv (Rn.s rfl Yv.mv (Rn.s rfl (Yv.ia (e := 32) hra (by omega) (by omega)) (Rn.s rfl (Yv.fa (off := 0)) (Rn.s rfl (Yv.ld (hra.ld 0 (by omega) (by omega))) (Rn.s rfl (Yv.cmp true (by simp only [icmp, Option.some.injEq, decide_eq_true_eq, decide_eq_false_iff_not, beq_iff_eq, beq_eq_false_iff_ne, bne_iff_ne, bne_eq_false_iff_eq]; omega)) (Rn.s rfl Yv.mv (Rn.s rfl Yv.mv (Rn.s rfl Yv.mv (Rn.s rfl (Yv.ia (e := 32) hrT (by omega) (by omega)) (Rn.s rfl (Yv.fa (off := 3)) (Rn.s rfl (Yv.ld (hrT.ld 3 (by omega) (by omega))) (Rn.s rfl Yv.mv (Rn.s rfl Yv.mv (Rn.s rfl (Yv.ia (e := 32) hra (by omega) (by omega)) (Rn.s rfl (Yv.fa (off := 3)) (Rn.s rfl (Yv.ld (hra.ld 3 (by omega) (by omega))) (Rn.s rfl (Yv.scm true ht) (Rn.s rfl Yv.pick_t (Rn.s rfl Yv.pick_f (Rn.s rfl Yv.mv (Rn.nil)))))))))))))))))))))))))))))))))) (WD.cv 33 rfl (awake8_cv w12 (hg.keep hst.keep)) ((Keep.drew _).trans (Keep.drew _)) (FnOk.of Tryd.func24) (fun w13 k13 => WD.rd (is := [34, 35]) (fun _ _ _ _ _ h => h) (Keep.refl _) (Rn.s rfl Yv.pick_t (Rn.s rfl Yv.as (Rn.nil))) (WD.done ?_)))))
      exact Wp.ret (Fin.ret (Res.one rfl rfl) ⟨rfl, (hst.keep.trans ((Keep.drew _).trans (Keep.drew _))).trans k13⟩)
  · refine Wp.seq (Wp.seq (Wp.readsD (is := [0, 1, 2, 3, 4, 5, 6, 7, 8, 9, 10, 11, 12, 13, 14, 15, 16, 17, 18, 19, 20, 21, 22, 23, 24, 25, 26, 27, 28, 29, 30, 31, 32, 33, 34]) mixed (fun _ _ _ _ _ h => h) (Keep.refl _) (Rn.s rfl Yv.mv (Rn.s rfl (Yv.cmp false (by simp only [icmp, Option.some.injEq, decide_eq_true_eq, decide_eq_false_iff_not, beq_iff_eq, beq_eq_false_iff_ne, bne_iff_ne, bne_eq_false_iff_eq]; omega)) (Rn.s rfl Yv.mv (Rn.no rfl (Rn.no rfl (Rn.s rfl Yv.pick_f (Rn.s rfl Yv.mv (Rn.no rfl (Rn.no rfl (Rn.no rfl (Rn.no rfl (Rn.no rfl (Rn.no rfl (Rn.s rfl Yv.pick_f (Rn.s rfl Yv.mv (Rn.no rfl (Rn.no rfl (Rn.no rfl (Rn.no rfl (Rn.no rfl (Rn.no rfl (Rn.no rfl (Rn.no rfl (Rn.no rfl (Rn.no rfl (Rn.no rfl (Rn.no rfl (Rn.no rfl (Rn.no rfl (Rn.no rfl (Rn.no rfl (Rn.no rfl (Rn.no rfl (Rn.no rfl (Rn.s rfl Yv.pick_f (Rn.nil)))))))))))))))))))))))))))))))))))) ?_))
    refine Wp.cond_f rfl (Wp.skip ?_)
    refine Wp.seq (Wp.draws [] mixed (WD.rd (is := [0, 1, 2, 3, 4, 5, 6, 7, 8, 9, 10, 11, 12, 13, 14, 15, 16, 17, 18, 19, 20, 21, 22, 23, 24, 25, 26, 27, 28, 29, 30, 31, 32]) (fun _ _ _ _ _ h => h) ((Keep.drew _).trans (Keep.drew _)) (Rn.s rfl Yv.mv (Rn.s rfl (Yv.cmp true (by simp only [icmp, Option.some.injEq, decide_eq_true_eq, decide_eq_false_iff_not, beq_iff_eq, beq_eq_false_iff_ne, bne_iff_ne, bne_eq_false_iff_eq]; omega)) (Rn.s rfl Yv.mv (Rn.no rfl (Rn.no rfl (Rn.s rfl Yv.pick_t (Rn.s rfl Yv.mv (Rn.no rfl (Rn.no rfl (Rn.no rfl (Rn.no rfl (Rn.no rfl (Rn.no rfl (Rn.no rfl (Rn.no rfl (Rn.no rfl (Rn.no rfl (Rn.no rfl (Rn.no rfl (Rn.no rfl (Rn.no rfl (Rn.no rfl (Rn.no rfl (Rn.no rfl (Rn.no rfl (Rn.no rfl (Rn.no rfl (Rn.no rfl (Rn.no rfl (Rn.no rfl (Rn.no rfl (Rn.s rfl Yv.pick_t (Rn.s rfl Yv.mv (Rn.nil)))))))))))))))))))))))))))))))))) (WD.cv 33 rfl (awake8_cv w12 (hg.keep hst.keep)) ((Keep.drew _).trans (Keep.drew _)) (FnOk.of Tryd.func24) (fun w13 k13 => WD.rd (is := [34, 35]) (fun _ _ _ _ _ h => h) (Keep.refl _) (Rn.s rfl Yv.pick_t (Rn.s rfl Yv.as (Rn.nil))) (WD.done ?_)))))
    exact Wp.ret (Fin.ret (Res.one rfl rfl) ⟨rfl, (hst.keep.trans ((Keep.drew _).trans (Keep.drew _))).trans k13⟩)
end Go.Proofs.YtbmplmehofgocaaDoor.C
