/- MergeSteps is walked: its answer is true. -/
import Derived.Test.YtbmplmehofgocaaDoorRc
set_option linter.unusedVariables false
set_option linter.unusedSimpArgs false
set_option maxRecDepth 10000
namespace Go.Proofs.YtbmplmehofgocaaDoor.C
open Go.RowKit Go.Proofs.YtbmplmehofgocaaDoor.Sh
theorem foldS_err : ∀ (ts : List (List Nd)) (out : List Nd), (foldS out ts).2 ≠ 0 → (foldS out ts).1 = []
  | [], out, h => (h rfl).elim
  | t :: r, out, h => by
    rw [foldS] at h ⊢
    split
    · rfl
    · rename_i h1
      rw [if_neg h1] at h
      exact foldS_err r _ h
theorem mergeS_err {ts : List (List Nd)} (h : (mergeS ts).2 ≠ 0) : (mergeS ts).1 = [] := by
  unfold mergeS at h ⊢
  split
  · rename_i h1
    rw [if_pos h1] at h
    cases ts with
    | nil => exact (h rfl).elim
    | cons t r => exact foldS_err r t h
  · rfl
theorem steps_law {a b c : List Nd} (h : (mergeS [a, b, c]).2 = 0) : (mergeS [a, b]).2 = 0 ∧ (mergeS [(mergeS [a, b]).1, c]) = mergeS [a, b, c] ∧ isS (mergeS [a, b, c]).1 = true := by
  by_cases h1 : ([a, b, c] : List (List Nd)).all isS = true
  · have ea : isS a = true ∧ isS b = true ∧ isS c = true := by simpa using h1
    obtain ⟨ia, ib, ic⟩ := ea
    have e3 : mergeS [a, b, c] = foldS a [b, c] := by unfold mergeS; rw [if_pos h1]
    have e2 : mergeS [a, b] = foldS a [b] := by unfold mergeS; rw [if_pos (by simp [ia, ib])]
    rw [e3] at h ⊢
    rw [e2]
    rw [foldS] at h
    split at h
    · cases h
    rename_i h2
    rw [foldS] at h
    split at h
    · cases h
    rename_i h3
    have i2 : isS (layS a b) = true := layS_is ia ib (by omega)
    have i3 : isS (layS (layS a b) c) = true := layS_is i2 ic (by omega)
    have e4 : foldS a [b] = (layS a b, 0) := by rw [foldS, if_neg h2, foldS]
    have e5 : foldS (layS a b) [c] = (layS (layS a b) c, 0) := by rw [foldS, if_neg h3, foldS]
    have e6 : foldS a [b, c] = (layS (layS a b) c, 0) := by rw [foldS, if_neg h2, e5]
    have e7 : mergeS [layS a b, c] = foldS (layS a b) [c] := by unfold mergeS; rw [if_pos (by simp [i2, ic])]
    rw [e4, e6]
    exact ⟨rfl, by rw [e7, e5], i3⟩
  · have e3 : mergeS [a, b, c] = ([], 80) := by unfold mergeS; rw [if_neg h1]
    rw [e3] at h
    cases h
theorem foldS_len : ∀ (ts : List (List Nd)) (out : List Nd), out.length ≤ 16384 → (foldS out ts).1.length ≤ 16384
  | [], out, h => h
  | t :: r, out, h => by
    rw [foldS]
    split
    · simp
    · exact foldS_len r _ (by omega)
theorem mergeS_len (ts : List (List Nd)) : (mergeS ts).1.length ≤ 16384 := by
  unfold mergeS
  split
  · rename_i h
    cases ts with
    | nil => simp
    | cons t r =>
      have : isS t = true := by simp at h; exact h.1
      exact foldS_len r t (isS_depth this).2.1
  · simp
theorem steps_calls (A0 : Option Addr) (c0 : Nat) (a : List Nd) (A1 : Option Addr) (c1 : Nat) (b : List Nd) (A2 : Option Addr) (c2 : Nat) (c : List Nd) (w : World) (hg : Gm w) (h0 : Rd NdE w A0 a) (h1 : Rd NdE w A1 b) (h2 : Rd NdE w A2 c) (n0 : A0 = none → c0 = 0) (n1 : A1 = none → c1 = 0) (n2 : A2 = none → c2 = 0) (l0 : a.length ≤ 1599289640380) (l1 : b.length ≤ 1599289640380) (l2 : c.length ≤ 1599289640380) :
    Calls Tryd.prog 6 #[.slice A0 a.length c0, .slice A1 b.length c1, .slice A2 c.length c2] w fun e w' => e = .returned (.bool true) ∧ Keep w w' := by
  refine calls_of_Wp (vs := [_, _, _]) Tryd.func6 ?_
  refine Wp.seq (Wp.reads (is := [0]) (Keep.refl _) (Rn.s rfl Yv.as (Rn.nil)) ?_)
  obtain ⟨T, eT, hT⟩ : ∃ T eT, mergeS [a, b, c] = (T, eT) := ⟨_, _, rfl⟩
  obtain ⟨U, eU, hU⟩ : ∃ U eU, mergeS [a, b] = (U, eU) := ⟨_, _, rfl⟩
  have hTl := mergeS_len [a, b, c]
  have hUl := mergeS_len [a, b]
  rw [hT] at hTl
  rw [hU] at hUl
  simp only at hTl hUl
  -- the first
  refine Wp.seq (Wp.regionL (l := [0, 1, 2, 3, 4, 5, 6, 7, 8, 9, 10, 11, 12]) (WO.rd (is := [0]) (js := [1, 2, 3, 4, 5, 6, 7, 8, 9, 10, 11, 12]) (Keep.refl _) (Rn.s rfl Yv.mv (Rn.nil)) (WO.act (hc := rfl) (he := Ef.cx (copyL_cx A0 c0 a w h0 n0 (by omega)) (St.init w) (FnOk.of Tryd.func21) ?_))))
  rintro v D w1 ⟨B0, d0, rfl, rfl⟩ hs1
  refine WO.rd (is := [2]) (js := [3, 4, 5, 6, 7, 8, 9, 10, 11, 12]) (Keep.refl _) (Rn.s rfl Yv.mv (Rn.nil)) (WO.act (hc := rfl) (he := Ef.cx (copyL_cx A1 c1 b w1 (h1.keep hs1.keep) n1 (by omega)) hs1 (FnOk.of Tryd.func21) ?_))
  rintro v D w2 ⟨B1, d1, rfl, rfl⟩ hs2
  refine WO.rd (is := [4]) (js := [5, 6, 7, 8, 9, 10, 11, 12]) (Keep.refl _) (Rn.s rfl Yv.mv (Rn.nil)) (WO.act (hc := rfl) (he := Ef.cx (copyL_cx A2 c2 c w2 (h2.keep hs2.keep) n2 (by omega)) hs2 (FnOk.of Tryd.func21) ?_))
  rintro v D w3 ⟨B2, d2, rfl, rfl⟩ hs3
  have hst : St w [] w3 [Ch.row NdE 32 B2 d2 c, Ch.row NdE 32 B1 d1 b, Ch.row NdE 32 B0 d0 a] := hs3
  refine WO.act (hc := rfl) (he := Ef.bsl (T := 22) TsE [(B0, d0, a), (B1, d1, b), (B2, d2, c)] hst (fun b4 w4 k4 hs4 => ?_))
  have hm := merge_cx (some ⟨b4, 0, none⟩) 3 [(B0, d0, a), (B1, d1, b), (B2, d2, c)] w4 (hs4.rd 0) (by simp) (by simp) (by
    intro x hx
    simp only [List.mem_cons, List.not_mem_nil, or_false] at hx
    rcases hx with rfl | rfl | rfl
    · exact ⟨hs4.rd 3, hs4.cap 3⟩
    · exact ⟨hs4.rd 2, hs4.cap 2⟩
    · exact ⟨hs4.rd 1, hs4.cap 1⟩)
  have em : mergeS (([(B0, d0, a), (B1, d1, b), (B2, d2, c)] : List Tr).map ts1) = (T, eT) := hT
  rw [em] at hm
  refine WO.act (hc := rfl) (he := Ef.cx hm hs4 (FnOk.of Tryd.func19) ?_)
  rintro v D w5 ⟨TA, tc, rfl, rfl⟩ hs5
  refine WO.rd (is := [8, 9, 10, 11, 12]) (js := []) (Keep.refl _) (Rn.s rfl Yv.mv (Rn.s rfl Yv.ex (Rn.s rfl Yv.ex (Rn.s rfl Yv.as (Rn.s rfl Yv.as (Rn.nil)))))) (WO.done ?_)
  have hst : St w [] w5 [Ch.row NdE 32 TA tc T] := hs5.pick [0]
  clear hs1 hs2 hs3 hs4 hs5 hm
  -- the second
  refine Wp.seq (Wp.regionL (l := [0, 1, 2, 3, 4, 5, 6, 7, 8, 9, 10]) (WO.rd (is := [0]) (js := [1, 2, 3, 4, 5, 6, 7, 8, 9, 10]) (Keep.refl _) (Rn.s rfl Yv.mv (Rn.nil)) (WO.act (hc := rfl) (he := Ef.cx (copyL_cx A0 c0 a w5 (h0.keep hst.keep) n0 (by omega)) hst (FnOk.of Tryd.func21) ?_))))
  rintro v D w6 ⟨E0, f0, rfl, rfl⟩ hs6
  refine WO.rd (is := [2]) (js := [3, 4, 5, 6, 7, 8, 9, 10]) (Keep.refl _) (Rn.s rfl Yv.mv (Rn.nil)) (WO.act (hc := rfl) (he := Ef.cx (copyL_cx A1 c1 b w6 (h1.keep hs6.keep) n1 (by omega)) hs6 (FnOk.of Tryd.func21) ?_))
  rintro v D w7 ⟨E1, f1, rfl, rfl⟩ hs7
  have hst : St w [] w7 [Ch.row NdE 32 E1 f1 b, Ch.row NdE 32 E0 f0 a, Ch.row NdE 32 TA tc T] := hs7
  refine WO.act (hc := rfl) (he := Ef.bsl (T := 22) TsE [(E0, f0, a), (E1, f1, b)] hst (fun b8 w8 k8 hs8 => ?_))
  have hm := merge_cx (some ⟨b8, 0, none⟩) 2 [(E0, f0, a), (E1, f1, b)] w8 (hs8.rd 0) (by simp) (by simp) (by
    intro x hx
    simp only [List.mem_cons, List.not_mem_nil, or_false] at hx
    rcases hx with rfl | rfl
    · exact ⟨hs8.rd 2, hs8.cap 2⟩
    · exact ⟨hs8.rd 1, hs8.cap 1⟩)
  have em : mergeS (([(E0, f0, a), (E1, f1, b)] : List Tr).map ts1) = (U, eU) := hU
  rw [em] at hm
  refine WO.act (hc := rfl) (he := Ef.cx hm hs8 (FnOk.of Tryd.func19) ?_)
  rintro v D w9 ⟨UA, uc, rfl, rfl⟩ hs9
  refine WO.rd (is := [6, 7, 8, 9, 10]) (js := []) (Keep.refl _) (Rn.s rfl Yv.mv (Rn.s rfl Yv.ex (Rn.s rfl Yv.ex (Rn.s rfl Yv.as (Rn.s rfl Yv.as (Rn.nil)))))) (WO.done ?_)
  have hst : St w [] w9 [Ch.row NdE 32 UA uc U, Ch.row NdE 32 TA tc T] := hs9.pick [0, 4]
  refine Wp.seq (Wp.seq (Wp.reads (is := [0, 1]) (Keep.refl _) (Rn.s rfl Yv.mv (Rn.s rfl (Yv.cmp _ rfl) (Rn.nil))) ?_))
  refine Wp.cond rfl (fun h => ?_) (fun h => ?_)
  · have h : eT ≠ 0 := by simpa using h
    have hT0 : T = [] := by
      have := mergeS_err (ts := [a, b, c]) (by rw [hT]; exact h)
      rw [hT] at this
      exact this
    subst hT0
    refine Wp.seq (Wp.regionL (l := [0, 1, 2, 3, 4, 5, 6]) (WO.rd (is := [0, 1, 2, 3]) (js := [4, 5, 6]) (Keep.refl _) (Rn.s rfl Yv.mv (Rn.s rfl (Yv.len_v (e := 32) (m := 8)) (Rn.s rfl (Yv.cmp true (by rfl)) (Rn.s rfl Yv.mv (Rn.nil))))) (WO.cv rfl (awake8_cv w9 (hg.keep hst.keep)) (Keep.refl _) (FnOk.of Tryd.func24) (fun w10 k10 => WO.rd (is := [5, 6]) (js := []) (Keep.refl _) (Rn.s rfl Yv.pick_t (Rn.s rfl Yv.as (Rn.nil))) (WO.done ?_)))))
    exact Wp.ret (Fin.ret (Res.one rfl rfl) ⟨rfl, hst.keep.trans k10⟩)
  have h : eT = 0 := by simpa using h
  subst h
  obtain ⟨q1, q2, q3⟩ := steps_law (a := a) (b := b) (c := c) (by rw [hT])
  rw [hU, hT] at q2
  rw [hU] at q1
  rw [hT] at q3
  simp only at q1 q2 q3
  subst q1
  refine Wp.skip ?_
  refine Wp.seq (Wp.regionL (l := [0, 1, 2, 3, 4, 5, 6, 7, 8, 9]) (WO.rd (is := [0, 1]) (js := [2, 3, 4, 5, 6, 7, 8, 9]) (Keep.refl _) (Rn.s rfl Yv.mv (Rn.s rfl Yv.mv (Rn.nil))) (WO.act (hc := rfl) (he := Ef.cx (copyL_cx A2 c2 c w9 (h2.keep hst.keep) n2 (by omega)) hst (FnOk.of Tryd.func21) ?_))))
  rintro v D w10 ⟨G, g, rfl, rfl⟩ hs10
  have hst : St w [] w10 [Ch.row NdE 32 G g c, Ch.row NdE 32 UA uc U, Ch.row NdE 32 TA tc T] := hs10
  refine WO.act (hc := rfl) (he := Ef.bsl (T := 22) TsE [(UA, uc, U), (G, g, c)] hst (fun b11 w11 k11 hs11 => ?_))
  have hm := merge_cx (some ⟨b11, 0, none⟩) 2 [(UA, uc, U), (G, g, c)] w11 (hs11.rd 0) (by simp) (by simp) (by
    intro x hx
    simp only [List.mem_cons, List.not_mem_nil, or_false] at hx
    rcases hx with rfl | rfl
    · exact ⟨hs11.rd 2, hs11.cap 2⟩
    · exact ⟨hs11.rd 1, hs11.cap 1⟩)
  have em : mergeS (([(UA, uc, U), (G, g, c)] : List Tr).map ts1) = (T, 0) := q2
  rw [em] at hm
  refine WO.act (hc := rfl) (he := Ef.cx hm hs11 (FnOk.of Tryd.func19) ?_)
  rintro v D w12 ⟨VA, vc, rfl, rfl⟩ hs12
  refine WO.rd (is := [5, 6, 7, 8, 9]) (js := []) (Keep.refl _) (Rn.s rfl Yv.mv (Rn.s rfl Yv.ex (Rn.s rfl Yv.ex (Rn.s rfl Yv.as (Rn.s rfl Yv.as (Rn.nil)))))) (WO.done ?_)
  have hst : St w [] w12 [Ch.row NdE 32 VA vc T, Ch.row NdE 32 TA tc T] := hs12.pick [0, 4]
  have hsm := same_cv VA vc T TA tc T w12 (hst.rd 0) (hst.rd 1) (by omega)
  rw [decide_eq_true rfl] at hsm
  have his := fun w' (k : Keep w12 w') => is_cv TA tc T w' ((hst.rd 1).keep k)
  rw [q3] at his
  refine Wp.seq (Wp.regionL (l := [0, 1, 2, 3, 4, 5, 6, 7, 8, 9, 10, 11, 12, 13, 14, 15, 16, 17, 18]) (WO.rd (is := [0, 1, 2, 3, 4, 5, 6, 7, 8]) (js := [9, 10, 11, 12, 13, 14, 15, 16, 17, 18]) (Keep.refl _) (Rn.s rfl Yv.mv (Rn.s rfl (Yv.cmp true (by rfl)) (Rn.s rfl Yv.mv (Rn.s rfl Yv.mv (Rn.s rfl (Yv.cmp true (by rfl)) (Rn.s rfl Yv.pick_t (Rn.s rfl Yv.mv (Rn.s rfl Yv.mv (Rn.s rfl Yv.mv (Rn.nil)))))))))) (WO.cv rfl hsm (Keep.refl _) (FnOk.of Tryd.func22) (fun w13 k13 => WO.rd (is := [10, 11, 12]) (js := [13, 14, 15, 16, 17, 18]) (Keep.refl _) (Rn.s rfl Yv.pick_t (Rn.s rfl Yv.mv (Rn.s rfl Yv.mv (Rn.nil)))) (WO.cv rfl (his w13 k13) (Keep.refl _) (FnOk.of Tryd.func30) (fun w14 k14 => WO.rd (is := [14, 15]) (js := [16, 17, 18]) (Keep.refl _) (Rn.s rfl Yv.pick_t (Rn.s rfl Yv.mv (Rn.nil))) (WO.cv rfl (awake8_cv w14 (hg.keep ((hst.keep.trans k13).trans k14))) (Keep.refl _) (FnOk.of Tryd.func24) (fun w15 k15 => WO.rd (is := [17, 18]) (js := []) (Keep.refl _) (Rn.s rfl Yv.pick_t (Rn.s rfl Yv.as (Rn.nil))) (WO.done ?_)))))))))
  exact Wp.ret (Fin.ret (Res.one rfl rfl) ⟨rfl, ((hst.keep.trans k13).trans k14).trans k15⟩)
end Go.Proofs.YtbmplmehofgocaaDoor.C
