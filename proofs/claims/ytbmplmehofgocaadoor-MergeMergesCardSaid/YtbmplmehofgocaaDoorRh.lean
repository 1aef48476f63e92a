/- MergeMerges is walked: its answer is true. -/
import Derived.Test.YtbmplmehofgocaaDoorRg
set_option linter.unusedVariables false
set_option linter.unusedSimpArgs false
set_option maxRecDepth 10000
namespace Go.Proofs.YtbmplmehofgocaaDoor.C
open Go.RowKit Go.Proofs.YtbmplmehofgocaaDoor.Sh
theorem merges_calls (A0 : Option Addr) (c0 : Nat) (a : List Nd) (A1 : Option Addr) (c1 : Nat) (b : List Nd) (A2 : Option Addr) (c2 : Nat) (c : List Nd) (w : World) (hg : Gm w) (h0 : Rd NdE w A0 a) (h1 : Rd NdE w A1 b) (h2 : Rd NdE w A2 c) (n0 : A0 = none → c0 = 0) (n1 : A1 = none → c1 = 0) (n2 : A2 = none → c2 = 0) (l0 : a.length ≤ 1599289640380) (l1 : b.length ≤ 1599289640380) (l2 : c.length ≤ 1599289640380) :
    Calls Tryd.prog 3 #[.slice A0 a.length c0, .slice A1 b.length c1, .slice A2 c.length c2] w fun e w' => e = .returned (.bool true) ∧ Keep w w' := by
  refine calls_of_Wp (vs := [_, _, _]) Tryd.func3 ?_
  refine Wp.seq (Wp.reads (is := [0]) (Keep.refl _) (Rn.s rfl Yv.as (Rn.nil)) ?_)
  obtain ⟨T, eT, hT⟩ : ∃ T eT, mergeS [a, b, c] = (T, eT) := ⟨_, _, rfl⟩
  have hTl := mergeS_len [a, b, c]
  rw [hT] at hTl
  simp only at hTl
  have hne : ∀ x : Int, icmp .neq x x = some false := fun x => by simp [icmp]
  -- the document's answer
  refine Wp.seq (Wp.regionL (l := [0, 1, 2, 3, 4, 5, 6, 7, 8, 9]) (WO.rd (is := [0, 1, 2]) (js := [3, 4, 5, 6, 7, 8, 9]) (Keep.refl _) (Rn.s rfl Yv.mv (Rn.s rfl Yv.mv (Rn.s rfl Yv.mv (Rn.nil)))) (WO.act (hc := rfl) (he := Ef.bsl (T := 22) TsE [(A0, c0, a), (A1, c1, b), (A2, c2, c)] (St.init w) (fun b1 w1 k1 hs1 => ?_)))))
  have hm := rmerge_cx (some ⟨b1, 0, none⟩) 3 [(A0, c0, a), (A1, c1, b), (A2, c2, c)] w1 (hs1.rd 0) (by simp) (by
    intro x hx
    simp only [List.mem_cons, List.not_mem_nil, or_false] at hx
    rcases hx with rfl | rfl | rfl
    · exact ⟨h0.keep k1, n0⟩
    · exact ⟨h1.keep k1, n1⟩
    · exact ⟨h2.keep k1, n2⟩)
  have em : mergeS (([(A0, c0, a), (A1, c1, b), (A2, c2, c)] : List Tr).map ts1) = (T, eT) := hT
  rw [em] at hm
  refine WO.act (hc := rfl) (he := Ef.cx hm hs1 (FnOk.of Tryd.func17) ?_)
  rintro v D w2 ⟨WA, wc, rfl, rfl⟩ hs2
  refine WO.rd (is := [5, 6, 7, 8, 9]) (js := []) (Keep.refl _) (Rn.s rfl Yv.mv (Rn.s rfl Yv.ex (Rn.s rfl Yv.ex (Rn.s rfl Yv.as (Rn.s rfl Yv.as (Rn.nil)))))) (WO.done ?_)
  have hst : St w [] w2 [Ch.row NdE 32 WA wc T] := hs2.pick [0]
  clear hs1 hs2 hm
  -- they are lent
  refine Wp.seq (Wp.regionL (l := [0, 1, 2, 3, 4, 5, 6, 7, 8]) (WO.rd (is := [0]) (js := [1, 2, 3, 4, 5, 6, 7, 8]) (Keep.refl _) (Rn.s rfl Yv.mv (Rn.nil)) (WO.act (hc := rfl) (he := Ef.cx (lend_cx A0 c0 a w2 (h0.keep hst.keep) n0 (by omega)) hst (FnOk.of Tryd.func18) ?_))))
  rintro v D w3 ⟨B0, d0, rfl, rfl⟩ hs3
  refine WO.rd (is := [2]) (js := [3, 4, 5, 6, 7, 8]) (Keep.refl _) (Rn.s rfl Yv.mv (Rn.nil)) (WO.act (hc := rfl) (he := Ef.cx (lend_cx A1 c1 b w3 (h1.keep hs3.keep) n1 (by omega)) hs3 (FnOk.of Tryd.func18) ?_))
  rintro v D w4 ⟨B1, d1, rfl, rfl⟩ hs4
  refine WO.rd (is := [4]) (js := [5, 6, 7, 8]) (Keep.refl _) (Rn.s rfl Yv.mv (Rn.nil)) (WO.act (hc := rfl) (he := Ef.cx (lend_cx A2 c2 c w4 (h2.keep hs4.keep) n2 (by omega)) hs4 (FnOk.of Tryd.func18) ?_))
  rintro v D w5 ⟨B2, d2, rfl, rfl⟩ hs5
  refine WO.rd (is := [6, 7, 8]) (js := []) (Keep.refl _) (Rn.s rfl Yv.as (Rn.s rfl Yv.as (Rn.s rfl Yv.as (Rn.nil)))) (WO.done ?_)
  have hst : St w [] w5 [Ch.row NdE 32 B2 d2 (c ++ [spN, spN]), Ch.row NdE 32 B1 d1 (b ++ [spN, spN]), Ch.row NdE 32 B0 d0 (a ++ [spN, spN]), Ch.row NdE 32 WA wc T] := hs5
  clear hs3 hs4 hs5
  have q2 := hst.cap 0
  have q1 := hst.cap 1
  have q0 := hst.cap 2
  simp only [List.length_append, List.length_cons, List.length_nil] at q0 q1 q2
  refine Wp.seq (Wp.regionL (l := [0, 1, 2, 3, 4, 5, 6, 7, 8, 9]) (WO.rd (is := [0, 1, 2]) (js := [3, 4, 5, 6, 7, 8, 9]) (Keep.refl _) (Rn.s rfl Yv.mv (Rn.s rfl Yv.mv (Rn.s rfl Yv.mv (Rn.nil)))) (WO.act (hc := rfl) (he := Ef.bsl (T := 22) TsE [(B0, d0, a), (B1, d1, b), (B2, d2, c)] hst (fun b6 w6 k6 hs6 => ?_)))))
  have hm := merge_cx (some ⟨b6, 0, none⟩) 3 [(B0, d0, a), (B1, d1, b), (B2, d2, c)] w6 (hs6.rd 0) (by simp) (by simp) (by
    intro x hx
    simp only [List.mem_cons, List.not_mem_nil, or_false] at hx
    rcases hx with rfl | rfl | rfl
    · exact ⟨rd_pre (hs6.rd 3), by simp only; omega⟩
    · exact ⟨rd_pre (hs6.rd 2), by simp only; omega⟩
    · exact ⟨rd_pre (hs6.rd 1), by simp only; omega⟩)
  have em : mergeS (([(B0, d0, a), (B1, d1, b), (B2, d2, c)] : List Tr).map ts1) = (T, eT) := hT
  rw [em] at hm
  refine WO.act (hc := rfl) (he := Ef.cx hm hs6 (FnOk.of Tryd.func19) ?_)
  rintro v D w7 ⟨TA, tc, rfl, rfl⟩ hs7
  refine WO.rd (is := [5, 6, 7, 8, 9]) (js := []) (Keep.refl _) (Rn.s rfl Yv.mv (Rn.s rfl Yv.ex (Rn.s rfl Yv.ex (Rn.s rfl Yv.as (Rn.s rfl Yv.as (Rn.nil)))))) (WO.done ?_)
  have hst : St w [] w7 ([Ch.row NdE 32 B0 d0 (a ++ [spN, spN])] ++ [Ch.row NdE 32 B1 d1 (b ++ [spN, spN]), Ch.row NdE 32 B2 d2 (c ++ [spN, spN]), Ch.row NdE 32 TA tc T, Ch.row NdE 32 WA wc T]) := hs7.pick [4, 3, 2, 0, 5]
  clear hs6 hs7 hm
  -- they stay
  refine Wp.seq (Wp.seq (Wp.regionL (l := [0, 1, 2, 3, 4, 5, 6, 7, 8, 9, 10, 11, 12, 13, 14, 15]) (WO.rd (is := [0, 1]) (js := [2, 3, 4, 5, 6, 7, 8, 9, 10, 11, 12, 13, 14, 15]) (Keep.refl _) (Rn.s rfl Yv.mv (Rn.s rfl Yv.mv (Rn.nil))) (WO.act (hc := rfl) (he := Ef.callv Tryd.func20 (Calls.mono (kept_calls B0 d0 A0 c0 a w7 (h0.keep hst.keep) (St.enter (A := [Ch.row NdE 32 B0 d0 (a ++ [spN, spN])]) hst) (by omega)) ?_))))))
  rintro e w8 ⟨rfl, hs8⟩
  have hst : St w [] w8 ([Ch.row NdE 32 B1 d1 (b ++ [spN, spN])] ++ [Ch.row NdE 32 B2 d2 (c ++ [spN, spN]), Ch.row NdE 32 TA tc T, Ch.row NdE 32 WA wc T]) := St.call (A := [Ch.row NdE 32 B0 d0 (a ++ [spN, spN])]) (D := [Ch.row NdE 32 B1 d1 (b ++ [spN, spN]), Ch.row NdE 32 B2 d2 (c ++ [spN, spN]), Ch.row NdE 32 TA tc T, Ch.row NdE 32 WA wc T]) hst hs8
  refine WO.rd (is := [3, 4, 5, 6]) (js := [7, 8, 9, 10, 11, 12, 13, 14, 15]) (Keep.refl _) (Rn.s rfl Yv.not (Rn.s rfl Yv.mv (Rn.s rfl Yv.mv (Rn.s rfl Yv.mv (Rn.nil))))) (WO.act (hc := rfl) (he := Ef.callv Tryd.func20 (Calls.mono (kept_calls B1 d1 A1 c1 b w8 (h1.keep hst.keep) (St.enter (A := [Ch.row NdE 32 B1 d1 (b ++ [spN, spN])]) hst) (by omega)) ?_)))
  rintro e w9 ⟨rfl, hs9⟩
  have hst : St w [] w9 ([Ch.row NdE 32 B2 d2 (c ++ [spN, spN])] ++ [Ch.row NdE 32 TA tc T, Ch.row NdE 32 WA wc T]) := St.call (A := [Ch.row NdE 32 B1 d1 (b ++ [spN, spN])]) (D := [Ch.row NdE 32 B2 d2 (c ++ [spN, spN]), Ch.row NdE 32 TA tc T, Ch.row NdE 32 WA wc T]) hst hs9
  refine WO.rd (is := [8, 9, 10, 11, 12]) (js := [13, 14, 15]) (Keep.refl _) (Rn.s rfl Yv.not (Rn.s rfl Yv.pick_f (Rn.s rfl Yv.mv (Rn.s rfl Yv.mv (Rn.s rfl Yv.mv (Rn.nil)))))) (WO.act (hc := rfl) (he := Ef.callv Tryd.func20 (Calls.mono (kept_calls B2 d2 A2 c2 c w9 (h2.keep hst.keep) (St.enter (A := [Ch.row NdE 32 B2 d2 (c ++ [spN, spN])]) hst) (by omega)) ?_)))
  rintro e w10 ⟨rfl, hs10⟩
  have hst : St w [] w10 [Ch.row NdE 32 TA tc T, Ch.row NdE 32 WA wc T] := St.call (A := [Ch.row NdE 32 B2 d2 (c ++ [spN, spN])]) (D := [Ch.row NdE 32 TA tc T, Ch.row NdE 32 WA wc T]) hst hs10
  refine WO.rd (is := [14, 15]) (js := []) (Keep.refl _) (Rn.s rfl Yv.not (Rn.s rfl Yv.pick_f (Rn.nil))) (WO.done ?_)
  refine Wp.cond_f rfl (Wp.skip ?_)
  clear hs8 hs9 hs10
  -- once more
  refine Wp.seq (Wp.regionL (l := [0, 1, 2, 3, 4, 5, 6, 7, 8, 9, 10, 11, 12]) (WO.rd (is := [0]) (js := [1, 2, 3, 4, 5, 6, 7, 8, 9, 10, 11, 12]) (Keep.refl _) (Rn.s rfl Yv.mv (Rn.nil)) (WO.act (hc := rfl) (he := Ef.cx (copyL_cx A0 c0 a w10 (h0.keep hst.keep) n0 (by omega)) hst (FnOk.of Tryd.func21) ?_))))
  rintro v D w11 ⟨E0, f0, rfl, rfl⟩ hs11
  refine WO.rd (is := [2]) (js := [3, 4, 5, 6, 7, 8, 9, 10, 11, 12]) (Keep.refl _) (Rn.s rfl Yv.mv (Rn.nil)) (WO.act (hc := rfl) (he := Ef.cx (copyL_cx A1 c1 b w11 (h1.keep hs11.keep) n1 (by omega)) hs11 (FnOk.of Tryd.func21) ?_))
  rintro v D w12 ⟨E1, f1, rfl, rfl⟩ hs12
  refine WO.rd (is := [4]) (js := [5, 6, 7, 8, 9, 10, 11, 12]) (Keep.refl _) (Rn.s rfl Yv.mv (Rn.nil)) (WO.act (hc := rfl) (he := Ef.cx (copyL_cx A2 c2 c w12 (h2.keep hs12.keep) n2 (by omega)) hs12 (FnOk.of Tryd.func21) ?_))
  rintro v D w13 ⟨E2, f2, rfl, rfl⟩ hs13
  have hst : St w [] w13 [Ch.row NdE 32 E2 f2 c, Ch.row NdE 32 E1 f1 b, Ch.row NdE 32 E0 f0 a, Ch.row NdE 32 TA tc T, Ch.row NdE 32 WA wc T] := hs13
  refine WO.act (hc := rfl) (he := Ef.bsl (T := 22) TsE [(E0, f0, a), (E1, f1, b), (E2, f2, c)] hst (fun b14 w14 k14 hs14 => ?_))
  have hm := merge_cx (some ⟨b14, 0, none⟩) 3 [(E0, f0, a), (E1, f1, b), (E2, f2, c)] w14 (hs14.rd 0) (by simp) (by simp) (by
    intro x hx
    simp only [List.mem_cons, List.not_mem_nil, or_false] at hx
    rcases hx with rfl | rfl | rfl
    · exact ⟨hs14.rd 3, hs14.cap 3⟩
    · exact ⟨hs14.rd 2, hs14.cap 2⟩
    · exact ⟨hs14.rd 1, hs14.cap 1⟩)
  have em : mergeS (([(E0, f0, a), (E1, f1, b), (E2, f2, c)] : List Tr).map ts1) = (T, eT) := hT
  rw [em] at hm
  refine WO.act (hc := rfl) (he := Ef.cx hm hs14 (FnOk.of Tryd.func19) ?_)
  rintro v D w15 ⟨UA, uc, rfl, rfl⟩ hs15
  refine WO.rd (is := [8, 9, 10, 11, 12]) (js := []) (Keep.refl _) (Rn.s rfl Yv.mv (Rn.s rfl Yv.ex (Rn.s rfl Yv.ex (Rn.s rfl Yv.as (Rn.s rfl Yv.as (Rn.nil)))))) (WO.done ?_)
  have hst : St w [] w15 [Ch.row NdE 32 UA uc T, Ch.row NdE 32 TA tc T, Ch.row NdE 32 WA wc T] := hs15.pick [0, 5, 6]
  clear hs11 hs12 hs13 hs14 hs15 hm
  -- alike
  have hsm := same_cv TA tc T WA wc T w15 (hst.rd 1) (hst.rd 2) (by omega)
  rw [decide_eq_true rfl] at hsm
  refine Wp.seq (Wp.seq (Wp.regionL (l := [0, 1, 2, 3, 4, 5, 6, 7, 8, 9, 10, 11, 12, 13]) (WO.rd (is := [0, 1, 2, 3, 4, 5, 6, 7, 8, 9, 10]) (js := [11, 12, 13]) (Keep.refl _) (Rn.s rfl Yv.mv (Rn.s rfl Yv.mv (Rn.s rfl (Yv.cmp false (hne eT)) (Rn.s rfl Yv.mv (Rn.s rfl Yv.mv (Rn.s rfl Yv.mv (Rn.s rfl (Yv.cmp false (hne eT)) (Rn.s rfl Yv.pick_f (Rn.s rfl Yv.mv (Rn.s rfl Yv.mv (Rn.s rfl Yv.mv (Rn.nil)))))))))))) (WO.cv rfl hsm (Keep.refl _) (FnOk.of Tryd.func22) (fun w16 k16 => WO.rd (is := [12, 13]) (js := []) (Keep.refl _) (Rn.s rfl Yv.not (Rn.s rfl Yv.pick_f (Rn.nil))) (WO.done ?_))))))
  refine Wp.cond_f rfl (Wp.skip ?_)
  have hst : St w [] w16 ([Ch.row NdE 32 TA tc T] ++ [Ch.row NdE 32 UA uc T, Ch.row NdE 32 WA wc T]) := (hst.quiet k16).pick [1, 0, 2]
  refine Wp.seq (Wp.regionL (l := [0, 1]) (WO.rd (is := [0]) (js := [1]) (Keep.refl _) (Rn.s rfl Yv.mv (Rn.nil)) (WO.act (hc := rfl) (he := Ef.callv Tryd.func23 (Calls.mono (spoil_calls TA tc T w16 (St.enter (A := [Ch.row NdE 32 TA tc T]) hst) (by omega)) ?_)))))
  rintro e w17 ⟨rfl, hs17⟩
  refine WO.done ?_
  have hst : St w [] w17 [Ch.row NdE 32 UA uc T, Ch.row NdE 32 WA wc T] := St.call (A := [Ch.row NdE 32 TA tc T]) (D := [Ch.row NdE 32 UA uc T, Ch.row NdE 32 WA wc T]) hst hs17
  have hm := merge_cx none 0 [] w17 ⟨fun h => absurd h (by simp), fun j x h => by simp at h⟩ (by simp) (by simp) (by simp)
  have em : mergeS (([] : List Tr).map ts1) = ([ndR], 0) := rfl
  rw [em] at hm
  refine Wp.seq (Wp.regionL (l := [0, 1, 2, 3, 4, 5]) (WO.act (hc := rfl) (he := Ef.cx hm hst (FnOk.of Tryd.func19) ?_)))
  rintro v D w18 ⟨NA, nc, rfl, rfl⟩ hs18
  refine WO.rd (is := [1, 2, 3, 4, 5]) (js := []) (Keep.refl _) (Rn.s rfl Yv.mv (Rn.s rfl Yv.ex (Rn.s rfl Yv.ex (Rn.s rfl Yv.as (Rn.s rfl Yv.as (Rn.nil)))))) (WO.done ?_)
  have hst : St w [] w18 [Ch.row NdE 32 NA nc [ndR], Ch.row NdE 32 UA uc T, Ch.row NdE 32 WA wc T] := hs18
  have hsm := same_cv UA uc T WA wc T w18 (hst.rd 1) (hst.rd 2) (by omega)
  rw [decide_eq_true rfl] at hsm
  refine Wp.seq (Wp.regionL (l := [0, 1, 2, 3, 4, 5, 6, 7, 8, 9, 10, 11, 12, 13, 14, 15, 16]) (WO.rd (is := [0, 1]) (js := [2, 3, 4, 5, 6, 7, 8, 9, 10, 11, 12, 13, 14, 15, 16]) (Keep.refl _) (Rn.s rfl Yv.mv (Rn.s rfl Yv.mv (Rn.nil))) (WO.cv rfl hsm (Keep.refl _) (FnOk.of Tryd.func22) (fun w19 k19 => WO.rd (is := [3, 4, 5, 6, 7, 8, 9]) (js := [10, 11, 12, 13, 14, 15, 16]) (Keep.refl _) (Rn.s rfl Yv.mv (Rn.s rfl Yv.mv (Rn.s rfl (Yv.cmp true (by rfl)) (Rn.s rfl Yv.pick_t (Rn.s rfl Yv.mv (Rn.s rfl Yv.mv (Rn.s rfl (Yv.bd (cs := ndR.cs)) (Rn.nil)))))))) (WO.act (hc := rfl) (he := Ef.bsl (T := 32) NdE [ndR] (hst.quiet k19) (fun b20 w20 k20 hs20 => ?_)))))))
  have hsm2 := same_cv NA nc [ndR] (some ⟨b20, 0, none⟩) 1 [ndR] w20 (hs20.rd 1) (hs20.rd 0) (by simp)
  rw [decide_eq_true rfl] at hsm2
  refine WO.cv rfl hsm2 (Keep.refl _) (FnOk.of Tryd.func22) (fun w21 k21 => WO.rd (is := [12, 13]) (js := [14, 15, 16]) (Keep.refl _) (Rn.s rfl Yv.pick_t (Rn.s rfl Yv.mv (Rn.nil))) (WO.cv rfl (awake8_cv w21 (hg.keep (hs20.keep.trans k21))) (Keep.refl _) (FnOk.of Tryd.func24) (fun w22 k22 => WO.rd (is := [15, 16]) (js := []) (Keep.refl _) (Rn.s rfl Yv.pick_t (Rn.s rfl Yv.as (Rn.nil))) (WO.done ?_))))
  exact Wp.ret (Fin.ret (Res.one rfl rfl) ⟨rfl, (hs20.keep.trans k21).trans k22⟩)
end Go.Proofs.YtbmplmehofgocaaDoor.C
