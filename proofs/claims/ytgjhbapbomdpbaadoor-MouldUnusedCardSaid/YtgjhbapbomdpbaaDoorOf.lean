/- MouldUnused, walked. -/
import Derived.Test.YtgjhbapbomdpbaaDoorOe
set_option linter.unusedVariables false
set_option linter.unusedSimpArgs false
set_option maxRecDepth 10000
namespace Go.Proofs.YtgjhbapbomdpbaaDoor.C
open Go.RowKit Go.Proofs.YtgjhbapbomdpbaaDoor.Sh
set_option maxHeartbeats 3200000 in
theorem unused_calls (A : Option Addr) (c : Nat) (t : List Nd) (name : Bs) (A2 : Option Addr) (c2 : Nat) (junk : List Nd) (w : World) (hg : Gl w) (hr : Rd NdE w A t) (hn : A = none → c = 0) (hcap : t.length ≤ c) (hl : t.length ≤ 1599289640380) (hr2 : Rd NdE w A2 junk) (hn2 : A2 = none → c2 = 0) (hl2 : junk.length ≤ 1599289640380) :
    Calls Tryd.prog 10 #[.slice A t.length c, S name, .slice A2 junk.length c2] w fun e w' => e = .returned (.bool true) ∧ Keep w w' := by
  refine calls_of_Wp (vs := [_, _, _]) Tryd.func10 ?_
  refine Wp.seq (Wp.reads (is := [0]) (Keep.refl _) (Rn.s rfl Yv.as (Rn.nil)) ?_)
  obtain ⟨X, F, hXF⟩ : ∃ X F, jobS t name = (X, F) := ⟨_, _, rfl⟩
  have hXl : X.length ≤ 16384 := by
    by_cases h : F.code = 0
    · have := (plain_law (t := t) (name := name) (by rw [hXF]; exact h)).1
      rw [hXF] at this
      exact (isS_depth this).2.1
    · have := job_err (t := t) (name := name) (by rw [hXF]; exact h)
      rw [hXF] at this
      have : X = [] := this
      rw [this]; simp
  refine Wp.seq (Wp.regionL (l := [0, 1, 2, 3, 4, 5, 6, 7, 8, 9]) (WO.rd (is := [0]) (js := [1, 2, 3, 4, 5, 6, 7, 8, 9]) (Keep.refl _) (Rn.s rfl Yv.mv (Rn.nil)) (WO.act (hc := rfl) (he := Ef.cx (copyL_cx A c t w hr hn (by omega)) (St.init w) (FnOk.of Tryd.func23) ?_))))
  rintro v D w1 ⟨B1, d1, rfl, rfl⟩ hs1
  have hs1 : St w [] w1 [Ch.row NdE 48 B1 d1 t] := hs1
  have hj := job_cx B1 d1 t name w1 (hs1.rd 0) (hs1.cap 0)
  rw [hXF] at hj
  refine WO.rd (is := [2]) (js := [3, 4, 5, 6, 7, 8, 9]) (Keep.refl _) (Rn.s rfl Yv.mv (Rn.nil)) (WO.act (hc := rfl) (he := Ef.cx hj hs1 (FnOk.of Tryd.func25) ?_))
  rintro v D w2 ⟨B2, d2, rfl, rfl⟩ hs2
  refine WO.rd (is := [4, 5, 6]) (js := [7, 8, 9]) (Keep.refl _) (Rn.s rfl Yv.mv (Rn.s rfl Yv.ex (Rn.s rfl Yv.ex (Rn.nil)))) (WO.act (he := Ef.allocL (vs := ft0.cs) hs2 (fun b4 w3 k3 hs3 => WO.rd (is := [8]) (js := [9]) (Keep.refl _) (Rn.s rfl Yv.as (Rn.nil)) (WO.act (he := Ef.stores hs3 0 (fun w4 hs4 => WO.done ?_))))))
  have hst : St w [] w4 [Ch.cells b4 27 F.cs, Ch.row NdE 48 B2 d2 X] := hs4.pick [0, 1]
  clear hs1 hs2 hs3 hs4
  obtain ⟨K, hK⟩ : ∃ K, K = getS t [kTem] := ⟨_, rfl⟩
  refine Wp.seq (Wp.regionL (l := [0, 1, 2, 3, 4]) (WO.rd (is := [0]) (js := [1, 2, 3, 4]) (Keep.refl _) (Rn.s rfl Yv.mv (Rn.nil)) (WO.act (hc := rfl) (he := Ef.cx (copyL_cx A c t w4 (hr.keep hst.keep) hn (by omega)) hst (FnOk.of Tryd.func23) ?_))))
  rintro v D w5 ⟨B5, d5, rfl, rfl⟩ hs5
  refine WO.act (hc := rfl) (he := Ef.bsl (T := 9) StE [kTem] hs5 (fun b6 w6 k6 hs6 => ?_))
  have hs6 : St w [] w6 [Ch.row StE 9 (some ⟨b6, 0, none⟩) 1 [kTem], Ch.row NdE 48 B5 d5 t, Ch.cells b4 27 F.cs, Ch.row NdE 48 B2 d2 X] := hs6
  have e6 := get_cv B5 d5 t (some ⟨b6, 0, none⟩) 1 [kTem] w6 (hg.keep hs6.keep) (hs6.rd 1) (hs6.rd 0) (by simp)
  rw [← hK] at e6
  refine WO.cv rfl e6 (Keep.refl _) (FnOk.of Tryd.func22) (fun w7 k7 => WO.rd (is := [4]) (js := []) (Keep.refl _) (Rn.s rfl Yv.as (Rn.nil)) (WO.done ?_))
  have hst : St w [] w7 [Ch.cells b4 27 F.cs, Ch.row NdE 48 B2 d2 X] := (hs6.quiet k7).pick [2, 3]
  clear hs5 hs6 e6
  have hr7 := hr.keep hst.keep
  refine Wp.seq (Wp.seq (Wp.mid (fun ρ ds w' => ds = [] ∧ St w [] w' [Ch.cells b4 27 F.cs, Ch.row NdE 48 B2 d2 X] ∧ ∃ bb : Bool, (bb = false → isS t = true ∧ 0 ≤ K ∧ (nth t K).kind = 1 ∧ isS junk = true ∧ getS t [kTem, kLone] < 0 ∧ t.length + junk.length ≤ 4000) ∧
    Sub [(0, .slice A t.length c), (1, S name), (2, .slice A2 junk.length c2), (7, .slice B2 X.length d2), (8, PB b4), (9, .int .i64 K), (61, .bool bb)] ρ) ?_ ?_))
  · refine Wp.regionL (l := [0, 1, 2, 3, 4, 5, 6, 7, 8, 9, 10, 11, 12, 13, 14, 15, 16, 17, 18, 19, 20, 21, 22, 23, 24, 25, 26, 27, 28, 29, 30, 31, 32, 33, 34, 35]) (WO.rd (is := [0]) (js := [1, 2, 3, 4, 5, 6, 7, 8, 9, 10, 11, 12, 13, 14, 15, 16, 17, 18, 19, 20, 21, 22, 23, 24, 25, 26, 27, 28, 29, 30, 31, 32, 33, 34, 35]) (Keep.refl _) (Rn.s rfl Yv.mv (Rn.nil)) (WO.act (hc := rfl) (he := Ef.cx (copyL_cx A c t w7 hr7 hn (by omega)) hst (FnOk.of Tryd.func23) ?_)))
    rintro v D w8 ⟨B8, d8, rfl, rfl⟩ hs8
    have hs8 : St w [] w8 [Ch.row NdE 48 B8 d8 t, Ch.cells b4 27 F.cs, Ch.row NdE 48 B2 d2 X] := hs8
    have hI := is_cv B8 d8 t w8 (hs8.rd 0)
    have hst := hs8.pick [1, 2]
    clear hs8
    cases hIs : isS t with
    | false =>
      rw [hIs] at hI
      refine WO.cv rfl hI (Keep.refl _) (FnOk.of Tryd.func27) (fun w9 k9 => WO.rd (is := [3, 4, 5, 6, 7, 8, 9, 10, 11, 12, 13, 14, 15, 16, 17, 18, 19, 20, 21, 22, 23, 24, 25, 26, 27, 28, 29, 30, 31, 32, 33, 34, 35]) (js := []) (Keep.refl _) (Rn.s rfl Yv.not (Rn.s rfl Yv.mv (Rn.no rfl (Rn.no rfl (Rn.s rfl Yv.pick_t (Rn.s rfl Yv.mv (Rn.no rfl (Rn.no rfl (Rn.no rfl (Rn.no rfl (Rn.no rfl (Rn.no rfl (Rn.s rfl Yv.pick_t (Rn.s rfl Yv.mv (Rn.no rfl (Rn.no rfl (Rn.no rfl (Rn.no rfl (Rn.s rfl Yv.pick_t (Rn.s rfl Yv.mv (Rn.no rfl (Rn.no rfl (Rn.no rfl (Rn.no rfl (Rn.s rfl Yv.pick_t (Rn.s rfl Yv.mv (Rn.no rfl (Rn.no rfl (Rn.no rfl (Rn.no rfl (Rn.no rfl (Rn.no rfl (Rn.s rfl Yv.pick_t (Rn.nil)))))))))))))))))))))))))))))))))) (WO.done ?_))
      exact ⟨rfl, hst.quiet k9, true, fun h => (by cases h), rfl, rfl, rfl, rfl, rfl, rfl, rfl, trivial⟩
    | true =>
    rw [hIs] at hI
    refine WO.cv rfl hI (Keep.refl _) (FnOk.of Tryd.func27) (fun w9 k9 => ?_)
    have hst : St w [] w9 [Ch.cells b4 27 F.cs, Ch.row NdE 48 B2 d2 X] := hst.quiet k9
    have hr9 := hr.keep hst.keep
    by_cases hK0 : K < 0
    · refine WO.rd (is := [3, 4, 5, 6, 7, 8, 9, 10, 11, 12, 13, 14, 15, 16, 17, 18, 19, 20, 21, 22, 23, 24, 25, 26, 27, 28, 29, 30, 31, 32, 33, 34, 35]) (js := []) (Keep.refl _) (Rn.s rfl Yv.not (Rn.s rfl Yv.mv (Rn.s rfl Yv.mv (Rn.s rfl (Yv.cmp true (congrArg some (decide_eq_true hK0))) (Rn.s rfl Yv.pick_f (Rn.s rfl Yv.mv (Rn.no rfl (Rn.no rfl (Rn.no rfl (Rn.no rfl (Rn.no rfl (Rn.no rfl (Rn.s rfl Yv.pick_t (Rn.s rfl Yv.mv (Rn.no rfl (Rn.no rfl (Rn.no rfl (Rn.no rfl (Rn.s rfl Yv.pick_t (Rn.s rfl Yv.mv (Rn.no rfl (Rn.no rfl (Rn.no rfl (Rn.no rfl (Rn.s rfl Yv.pick_t (Rn.s rfl Yv.mv (Rn.no rfl (Rn.no rfl (Rn.no rfl (Rn.no rfl (Rn.no rfl (Rn.no rfl (Rn.s rfl Yv.pick_t (Rn.nil)))))))))))))))))))))))))))))))))) (WO.done ?_)
      exact ⟨rfl, hst, true, fun h => (by cases h), rfl, rfl, rfl, rfl, rfl, rfl, rfl, trivial⟩
    have hKb : getS t [kTem] < t.length := by rw [getS_one hIs]; exact (findM_bd (isS_depth hIs).1 kTem).2.1
    rw [← hK] at hKb
    by_cases hkk : (nth t K).kind = 1
    case neg =>
      refine WO.rd (is := [3, 4, 5, 6, 7, 8, 9, 10, 11, 12, 13, 14, 15, 16, 17, 18, 19, 20, 21, 22, 23, 24, 25, 26, 27, 28, 29, 30, 31, 32, 33, 34, 35]) (js := []) (Keep.refl _) (Rn.s rfl Yv.not (Rn.s rfl Yv.mv (Rn.s rfl Yv.mv (Rn.s rfl (Yv.cmp false (congrArg some (decide_eq_false hK0))) (Rn.s rfl Yv.pick_f (Rn.s rfl Yv.mv (Rn.s rfl Yv.mv (Rn.s rfl Yv.mv (Rn.s rfl (Yv.ia (e := 48) hr9 (by omega) (by omega)) (Rn.s rfl (Yv.fa (off := 0)) (Rn.s rfl (Yv.ld (hr9.ld 0 (by omega) (by omega))) (Rn.s rfl (Yv.cmp true (congrArg some (bne_iff_ne.2 hkk))) (Rn.s rfl Yv.pick_f (Rn.s rfl Yv.mv (Rn.no rfl (Rn.no rfl (Rn.no rfl (Rn.no rfl (Rn.s rfl Yv.pick_t (Rn.s rfl Yv.mv (Rn.no rfl (Rn.no rfl (Rn.no rfl (Rn.no rfl (Rn.s rfl Yv.pick_t (Rn.s rfl Yv.mv (Rn.no rfl (Rn.no rfl (Rn.no rfl (Rn.no rfl (Rn.no rfl (Rn.no rfl (Rn.s rfl Yv.pick_t (Rn.nil)))))))))))))))))))))))))))))))))) (WO.done ?_)
      exact ⟨rfl, hst, true, fun h => (by cases h), rfl, rfl, rfl, rfl, rfl, rfl, rfl, trivial⟩
    refine WO.rd (is := [3, 4, 5, 6, 7, 8, 9, 10, 11, 12, 13, 14, 15, 16, 17]) (js := [18, 19, 20, 21, 22, 23, 24, 25, 26, 27, 28, 29, 30, 31, 32, 33, 34, 35]) (Keep.refl _) (Rn.s rfl Yv.not (Rn.s rfl Yv.mv (Rn.s rfl Yv.mv (Rn.s rfl (Yv.cmp false (congrArg some (decide_eq_false hK0))) (Rn.s rfl Yv.pick_f (Rn.s rfl Yv.mv (Rn.s rfl Yv.mv (Rn.s rfl Yv.mv (Rn.s rfl (Yv.ia (e := 48) hr9 (by omega) (by omega)) (Rn.s rfl (Yv.fa (off := 0)) (Rn.s rfl (Yv.ld (hr9.ld 0 (by omega) (by omega))) (Rn.s rfl (Yv.cmp false (congrArg some (bne_eq_false_iff_eq.2 hkk))) (Rn.s rfl Yv.pick_f (Rn.s rfl Yv.mv (Rn.s rfl Yv.mv (Rn.nil)))))))))))))))) (WO.act (hc := rfl) (he := Ef.cx (copyL_cx A2 c2 junk w9 (hr2.keep hst.keep) hn2 (by omega)) hst (FnOk.of Tryd.func23) ?_))
    rintro v D w10 ⟨B10, d10, rfl, rfl⟩ hs10
    have hs10 : St w [] w10 [Ch.row NdE 48 B10 d10 junk, Ch.cells b4 27 F.cs, Ch.row NdE 48 B2 d2 X] := hs10
    have hI2 := is_cv B10 d10 junk w10 (hs10.rd 0)
    have hst := hs10.pick [1, 2]
    clear hs10
    cases hIs2 : isS junk with
    | false =>
      rw [hIs2] at hI2
      refine WO.cv rfl hI2 (Keep.refl _) (FnOk.of Tryd.func27) (fun w11 k11 => WO.rd (is := [20, 21, 22, 23, 24, 25, 26, 27, 28, 29, 30, 31, 32, 33, 34, 35]) (js := []) (Keep.refl _) (Rn.s rfl Yv.not (Rn.s rfl Yv.pick_f (Rn.s rfl Yv.mv (Rn.no rfl (Rn.no rfl (Rn.no rfl (Rn.no rfl (Rn.s rfl Yv.pick_t (Rn.s rfl Yv.mv (Rn.no rfl (Rn.no rfl (Rn.no rfl (Rn.no rfl (Rn.no rfl (Rn.no rfl (Rn.s rfl Yv.pick_t (Rn.nil))))))))))))))))) (WO.done ?_))
      exact ⟨rfl, hst.quiet k11, true, fun h => (by cases h), rfl, rfl, rfl, rfl, rfl, rfl, rfl, trivial⟩
    | true =>
    rw [hIs2] at hI2
    refine WO.cv rfl hI2 (Keep.refl _) (FnOk.of Tryd.func27) (fun w11 k11 => WO.rd (is := [20, 21, 22, 23]) (js := [24, 25, 26, 27, 28, 29, 30, 31, 32, 33, 34, 35]) (Keep.refl _) (Rn.s rfl Yv.not (Rn.s rfl Yv.pick_f (Rn.s rfl Yv.mv (Rn.s rfl Yv.mv (Rn.nil))))) (WO.act (hc := rfl) (he := Ef.bsl (T := 9) StE [kTem, kLone] (hst.quiet k11) (fun b12 w12 k12 hs12 => ?_))))
    have hs12 : St w [] w12 [Ch.row StE 9 (some ⟨b12, 0, none⟩) 2 [kTem, kLone], Ch.cells b4 27 F.cs, Ch.row NdE 48 B2 d2 X] := hs12
    refine WO.cv rfl (get_cv A c t (some ⟨b12, 0, none⟩) 2 [kTem, kLone] w12 (hg.keep hs12.keep) (hr.keep hs12.keep) (hs12.rd 0) (by simp)) (Keep.refl _) (FnOk.of Tryd.func22) (fun w13 k13 => ?_)
    have hst : St w [] w13 [Ch.cells b4 27 F.cs, Ch.row NdE 48 B2 d2 X] := (hs12.quiet k13).pick [1, 2]
    by_cases hG : 0 ≤ getS t [kTem, kLone]
    · refine WO.rd (is := [26, 27, 28, 29, 30, 31, 32, 33, 34, 35]) (js := []) (Keep.refl _) (Rn.s rfl (Yv.cmp true (congrArg some (decide_eq_true hG))) (Rn.s rfl Yv.pick_f (Rn.s rfl Yv.mv (Rn.no rfl (Rn.no rfl (Rn.no rfl (Rn.no rfl (Rn.no rfl (Rn.no rfl (Rn.s rfl Yv.pick_t (Rn.nil))))))))))) (WO.done ?_)
      exact ⟨rfl, hst, true, fun h => (by cases h), rfl, rfl, rfl, rfl, rfl, rfl, rfl, trivial⟩
    · refine WO.rd (is := [26, 27, 28, 29, 30, 31, 32, 33, 34, 35]) (js := []) (Keep.refl _) (Rn.s rfl (Yv.cmp false (congrArg some (decide_eq_false hG))) (Rn.s rfl Yv.pick_f (Rn.s rfl Yv.mv (Rn.s rfl Yv.mv (Rn.s rfl (Yv.len_v (e := 48) (m := 8)) (Rn.s rfl Yv.mv (Rn.s rfl (Yv.len_v (e := 48) (m := 8)) (Rn.s rfl (Yv.add (by unfold inI; omega)) (Rn.s rfl (Yv.cmp _ rfl) (Rn.s rfl Yv.pick_f (Rn.nil))))))))))) (WO.done ?_)
      refine ⟨rfl, hst, _, fun h => ?_, rfl, rfl, rfl, rfl, rfl, rfl, rfl, trivial⟩
      have h := of_decide_eq_false h
      exact ⟨rfl, by omega, hkk, rfl, by omega, by omega⟩
  clear hst hr7
  rintro ρ ds w20 ⟨rfl, hst, bb, hbb, hsub⟩
  refine Wp.forget _ ?_ hsub
  clear hsub ρ
  have hg20 := hg.keep hst.keep
  have hr20 := hr.keep hst.keep
  have hr220 := hr2.keep hst.keep
  cases bb with
  | true =>
    refine Wp.cond_t rfl ?_
    refine Wp.seq (Wp.regionL (l := [0, 1]) (WO.cv rfl (awake9_cv w20 hg20.toGm) (Keep.refl _) (FnOk.of Tryd.func26) (fun wx1 kx1 => WO.rd (is := [1]) (js := []) ((Keep.refl _).trans kx1) (Rn.s rfl Yv.as (Rn.nil)) (WO.done ?_))))
    exact Wp.ret (Fin.ret (Res.one rfl rfl) ⟨rfl, hst.keep.trans kx1⟩)
  | false =>
  obtain ⟨L1, L2, L3, L4, L5, L6⟩ := hbb rfl
  refine Wp.cond_f rfl (Wp.skip ?_)
  have hKb : getS t [kTem] < t.length := by rw [getS_one L1]; exact (findM_bd (isS_depth L1).1 kTem).2.1
  rw [← hK] at hKb
  rw [getS_one L1] at hK
  obtain ⟨k, rfl⟩ : ∃ k : Nat, K = k := ⟨K.toNat, by omega⟩
  have hG := L5
  rw [getS_two L1, ← hK, if_neg (by omega), Int.toNat_natCast] at hG
  unfold stepS at hG
  rw [if_pos L3] at hG
  refine Wp.seq (Wp.seq (Wp.reads (is := [0]) (Keep.refl _) (Rn.s rfl Yv.as (Rn.nil)) ?_))
  refine Wp.block ?_
  refine Wp.loop (α := Nat) (fun i ρ ds w' => ds = [] ∧ w20 = w' ∧ i ≤ t.length ∧ (∀ j : Nat, j < i → (nth t (j : Int)).text ≠ kLone) ∧ Sub [(0, .slice A t.length c), (1, S name), (2, .slice A2 junk.length c2), (7, .slice B2 X.length d2), (8, PB b4), (9, .int .i64 (k : Int)), (10, .int .i64 (i : Int))] ρ) (fun i => t.length - i) 0
    ⟨rfl, rfl, Nat.zero_le _, fun j hj => absurd hj (Nat.not_lt_zero j), rfl, rfl, rfl, rfl, rfl, rfl, rfl, trivial⟩ ?_
  rintro i ρ ds w' ⟨rfl, rfl, hi, hall, hsub⟩
  refine Wp.forget _ ?_ hsub
  clear hsub ρ
  refine Wp.seq (Wp.seq (Wp.reads (is := [0, 1, 2, 3]) (Keep.refl _) (Rn.s rfl Yv.mv (Rn.s rfl Yv.mv (Rn.s rfl (Yv.len_v (e := 48) (m := 8)) (Rn.s rfl (Yv.cmp _ rfl) (Rn.nil))))) ?_))
  refine Wp.cond rfl (fun h => ?_) (fun h => ?_)
  · have h := of_decide_eq_true h
    refine Wp.skip (Wp.seq (Wp.block ?_))
    refine Wp.seq (Wp.reads (is := [0, 1, 2, 3, 4, 5]) (Keep.refl _) (Rn.s rfl Yv.mv (Rn.s rfl Yv.mv (Rn.s rfl (Yv.ia (e := 48) hr20 (by omega) (by omega)) (Rn.s rfl (Yv.fa (off := 3)) (Rn.s rfl (Yv.ld (hr20.ld 3 (by omega) (by omega))) (Rn.s rfl (Yv.scm _ rfl) (Rn.nil))))))) ?_)
    refine Wp.cond rfl (fun h2 => ?_) (fun h2 => ?_)
    · refine Wp.seq (Wp.regionL (l := [0, 1]) (WO.cv rfl (awake9_cv w20 hg20.toGm) (Keep.refl _) (FnOk.of Tryd.func26) (fun wx1 kx1 => WO.rd (is := [1]) (js := []) ((Keep.refl _).trans kx1) (Rn.s rfl Yv.as (Rn.nil)) (WO.done ?_))))
      exact Wp.ret (Fin.ret (Res.one rfl rfl) ⟨rfl, hst.keep.trans kx1⟩)
    · have h2 : (nth t (i : Int)).text ≠ kLone := by unfold kLone; simpa using h2
      refine Wp.skip (Wp.reads (is := [0, 1, 2]) (Keep.refl _) (Rn.s rfl Yv.mv (Rn.s rfl (Yv.add (by unfold inI; omega)) (Rn.s rfl Yv.as (Rn.nil)))) ?_)
      refine ⟨i + 1, ⟨rfl, rfl, by omega, fun j hj => ?_, rfl, rfl, rfl, rfl, rfl, rfl, rfl, trivial⟩, by omega⟩
      by_cases hji : j = i
      · subst hji; exact h2
      · exact hall j (by omega)
  have h := of_decide_eq_false h
  have htx : ∀ n ∈ t, n.text ≠ kLone := by
    intro n hn
    obtain ⟨j, hj⟩ := List.mem_iff_getElem?.1 hn
    have hjl := (List.getElem?_eq_some_iff.1 hj).1
    have := hall j (by omega)
    rw [nth_of hj] at this
    exact this
  clear hall
  refine Wp.exit ?_
  refine Wp.seq (Wp.seq (Wp.reads (is := [0]) (Keep.refl _) (Rn.s rfl Yv.as (Rn.nil)) ?_))
  refine Wp.block ?_
  refine Wp.loop (α := Nat) (fun i ρ ds w' => ds = [] ∧ w20 = w' ∧ i ≤ junk.length ∧ (∀ j : Nat, j < i → (nth junk (j : Int)).depth ≤ 30) ∧ Sub [(0, .slice A t.length c), (1, S name), (2, .slice A2 junk.length c2), (7, .slice B2 X.length d2), (8, PB b4), (9, .int .i64 (k : Int)), (11, .int .i64 (i : Int))] ρ) (fun i => junk.length - i) 0
    ⟨rfl, rfl, Nat.zero_le _, fun j hj => absurd hj (Nat.not_lt_zero j), rfl, rfl, rfl, rfl, rfl, rfl, rfl, trivial⟩ ?_
  rintro i ρ ds w' ⟨rfl, rfl, hi, hall, hsub⟩
  refine Wp.forget _ ?_ hsub
  clear hsub ρ
  refine Wp.seq (Wp.seq (Wp.reads (is := [0, 1, 2, 3]) (Keep.refl _) (Rn.s rfl Yv.mv (Rn.s rfl Yv.mv (Rn.s rfl (Yv.len_v (e := 48) (m := 8)) (Rn.s rfl (Yv.cmp _ rfl) (Rn.nil))))) ?_))
  refine Wp.cond rfl (fun h => ?_) (fun h => ?_)
  · have h := of_decide_eq_true h
    refine Wp.skip (Wp.seq (Wp.block ?_))
    refine Wp.seq (Wp.reads (is := [0, 1, 2, 3, 4, 5]) (Keep.refl _) (Rn.s rfl Yv.mv (Rn.s rfl Yv.mv (Rn.s rfl (Yv.ia (e := 48) hr220 (by omega) (by omega)) (Rn.s rfl (Yv.fa (off := 1)) (Rn.s rfl (Yv.ld (hr220.ld 1 (by omega) (by omega))) (Rn.s rfl (Yv.cmp _ rfl) (Rn.nil))))))) ?_)
    refine Wp.cond rfl (fun h2 => ?_) (fun h2 => ?_)
    · refine Wp.seq (Wp.regionL (l := [0, 1]) (WO.cv rfl (awake9_cv w20 hg20.toGm) (Keep.refl _) (FnOk.of Tryd.func26) (fun wx1 kx1 => WO.rd (is := [1]) (js := []) ((Keep.refl _).trans kx1) (Rn.s rfl Yv.as (Rn.nil)) (WO.done ?_))))
      exact Wp.ret (Fin.ret (Res.one rfl rfl) ⟨rfl, hst.keep.trans kx1⟩)
    · have h2 := of_decide_eq_false h2
      refine Wp.skip (Wp.reads (is := [0, 1, 2]) (Keep.refl _) (Rn.s rfl Yv.mv (Rn.s rfl (Yv.add (by unfold inI; omega)) (Rn.s rfl Yv.as (Rn.nil)))) ?_)
      refine ⟨i + 1, ⟨rfl, rfl, by omega, fun j hj => ?_, rfl, rfl, rfl, rfl, rfl, rfl, rfl, trivial⟩, by omega⟩
      by_cases hji : j = i
      · subst hji; omega
      · exact hall j (by omega)
  have h := of_decide_eq_false h
  have hdp : ∀ n ∈ junk, n.depth ≤ 30 := by
    intro n hn
    obtain ⟨j, hj⟩ := List.mem_iff_getElem?.1 hn
    have hjl := (List.getElem?_eq_some_iff.1 hj).1
    have := hall j (by omega)
    rw [nth_of hj] at this
    exact this
  clear hall
  refine Wp.exit ?_
  have hJ : jobS (unusedT t k junk) name = (X, F) := by rw [← hXF]; exact unused_law L1 L4 hK.symm L3 hG L6 htx hdp name
  have htn : ((k : Int) + 1).toNat = k + 1 := by omega
  have htk : (t.take (k + 1)).length = ((k : Int) + 1).toNat := by rw [htn]; simp; omega
  have htd : (t.drop (k + 1)).length = t.length - ((k : Int) + 1).toNat := by rw [htn]; simp
  have hA : A ≠ none := rd_some hr (by omega)
  have hjd : ∀ n ∈ junk, 0 ≤ n.depth ∧ n.depth ≤ 1000 := fun n hn => by have := isS_Deep L4 n hn; omega
  refine Wp.seq (Wp.regionL (l := [0, 1, 2, 3, 4, 5]) (WO.rd (is := [0, 1, 2, 3]) (js := [4, 5]) (Keep.refl _) (Rn.s rfl Yv.mv (Rn.s rfl Yv.mv (Rn.s rfl (Yv.add (by unfold inI; omega)) (Rn.s rfl (Yv.sl_t (n := 8) (e := 48) (k := (t.take (k + 1)).length) (by omega) (by omega) htk) (Rn.nil))))) (WO.act (hc := rfl) (he := Ef.cx (copyL_cx A c (t.take (k + 1)) w20 (rd_take hr20) hn (by simp; omega)) hst (FnOk.of Tryd.func23) ?_))))
  rintro v D w21 ⟨B21, d21, rfl, rfl⟩ hs21
  refine WO.rd (is := [5]) (js := []) (Keep.refl _) (Rn.s rfl Yv.as (Rn.nil)) (WO.done ?_)
  have hst : St w [] w21 [Ch.row NdE 48 B21 d21 (t.take (k + 1)), Ch.cells b4 27 F.cs, Ch.row NdE 48 B2 d2 X] := hs21
  clear hs21
  refine Wp.seq (Wp.regionL (l := [0, 1, 2, 3, 4]) (WO.rd (is := [0, 1]) (js := [2, 3, 4]) (Keep.refl _) (Rn.s rfl Yv.mv (Rn.s rfl (Yv.bd (cs := loneN.cs)) (Rn.nil))) (WO.app NdE [loneN] rfl (fun _ => rfl) hst 0 (fitN (by simp; omega)) (fun bz1 Az1 cz1 wz1 hsz1 => WO.rd (is := [4]) (js := []) (Keep.refl _) (Rn.s rfl Yv.as (Rn.nil)) (WO.done ?_)))))
  have hst : St w [] wz1 [Ch.row NdE 48 Az1 cz1 (t.take (k + 1) ++ [loneN]), Ch.cells b4 27 F.cs, Ch.row NdE 48 B2 d2 X] := hsz1
  clear hsz1
  refine Wp.seq (Wp.regionL (l := [0, 1, 2, 3]) (WO.rd (is := [0, 1]) (js := [2, 3]) (Keep.refl _) (Rn.s rfl Yv.mv (Rn.s rfl Yv.mv (Rn.nil))) (WO.act (hc := rfl) (he := Ef.callv Tryd.func29 (Calls.mono (under_calls Az1 cz1 (t.take (k + 1) ++ [loneN]) A2 c2 junk 2 wz1 hst hr2 (by simp; omega) hjd (by decide)) ?_)))))
  rintro e w22 ⟨B22, d22, rfl, hs22⟩
  refine WO.rd (is := [3]) (js := []) (Keep.refl _) (Rn.s rfl Yv.as (Rn.nil)) (WO.done ?_)
  refine Wp.seq (Wp.regionL (l := [0, 1, 2, 3, 4, 5, 6]) (WO.rd (is := [0, 1, 2, 3, 4]) (js := [5, 6]) (Keep.refl _) (Rn.s rfl Yv.mv (Rn.s rfl Yv.mv (Rn.s rfl Yv.mv (Rn.s rfl (Yv.add (by unfold inI; omega)) (Rn.s rfl (Yv.sl_f (n := 8) (e := 48) (k := (t.drop (k + 1)).length) (by omega) (by omega) htd) (Rn.nil)))))) (WO.act (hc := rfl) (he := Ef.append (ys := t.drop (k + 1)) hs22 0 (by rw [htn]; exact rd_drop (hr.keep hs22.keep) hcap) (by rw [htn]; exact cut_none (t := t) hA) (fitN (by simp; omega)) ?_))))
  rintro B23 d23 w23 hs23
  refine WO.rd (is := [6]) (js := []) (Keep.refl _) (Rn.s rfl Yv.as (Rn.nil)) (WO.done ?_)
  have hst : St w [] w23 [Ch.row NdE 48 B23 d23 (unusedT t k junk), Ch.cells b4 27 F.cs, Ch.row NdE 48 B2 d2 X] := hs23
  clear hs22 hs23
  have hj := job_cx B23 d23 (unusedT t k junk) name w23 (hst.rd 0) (hst.cap 0)
  rw [hJ] at hj
  refine Wp.seq (Wp.regionL (l := [0, 1, 2, 3, 4, 5, 6, 7, 8]) (WO.rd (is := [0, 1]) (js := [2, 3, 4, 5, 6, 7, 8]) (Keep.refl _) (Rn.s rfl Yv.mv (Rn.s rfl Yv.mv (Rn.nil))) (WO.act (hc := rfl) (he := Ef.cx hj hst (FnOk.of Tryd.func25) ?_))))
  rintro v D w24 ⟨B24, d24, rfl, rfl⟩ hs24
  refine WO.rd (is := [3, 4, 5]) (js := [6, 7, 8]) (Keep.refl _) (Rn.s rfl Yv.mv (Rn.s rfl Yv.ex (Rn.s rfl Yv.ex (Rn.nil)))) (WO.act (he := Ef.allocL (vs := ft0.cs) hs24 (fun b25 w25 k25 hs25 => WO.rd (is := [7]) (js := [8]) (Keep.refl _) (Rn.s rfl Yv.as (Rn.nil)) (WO.act (he := Ef.stores hs25 0 (fun w26 hs26 => WO.done ?_))))))
  have hst : St w [] w26 [Ch.cells b25 27 F.cs, Ch.row NdE 48 B24 d24 X, Ch.row NdE 48 B23 d23 (unusedT t k junk), Ch.cells b4 27 F.cs, Ch.row NdE 48 B2 d2 X] := hs26
  clear hs24 hs25 hs26
  have c14 := hst.cells 0
  have c8 := hst.cells 3
  have hg26 := hg.keep hst.keep
  refine Wp.seq (Wp.regionL (l := [0, 1, 2, 3, 4, 5, 6, 7, 8, 9, 10, 11]) (WO.rd (is := [0, 1, 2, 3]) (js := [4, 5, 6, 7, 8, 9, 10, 11]) (Keep.refl _) (Rn.s rfl (Yv.ldb c8) (Rn.s rfl (Yv.ldb c14) (Rn.s rfl (Yv.eqs (ftEq F F)) (Rn.s rfl Yv.mv (Rn.nil))))) (WO.and (js := [8, 9, 10, 11]) 116 120 (hg := rfl) (ht := fun h3 qu1 => WO.rd (is := [4, 5]) (js := [6, 7, 8, 9, 10, 11]) (Keep.refl _) (Rn.s rfl Yv.mv (Rn.s rfl Yv.mv (Rn.nil))) (WO.cv rfl (same_cv B2 d2 X B24 d24 X w26 (hst.rd 4) (hst.rd 1) (by omega)) (Keep.refl _) (FnOk.of Tryd.func24) (fun wu2 ku2 => WO.rd (is := [7]) (js := [8, 9, 10, 11]) ((Keep.refl _).trans ku2) (Rn.s rfl Yv.pick_t (Rn.nil)) (WO.e 4 (qu1 _ ((Keep.refl _).trans ku2)))))) (hf := fun _ qu1 => WO.rd (is := [4, 5, 6, 7]) (js := [8, 9, 10, 11]) (Keep.refl _) (Rn.no rfl (Rn.no rfl (Rn.no rfl (Rn.s rfl Yv.pick_f Rn.nil)))) (WO.e 4 (qu1 _ (Keep.refl _)))) (k := fun wu1 ku1 => WO.rd (is := [8]) (js := [9, 10, 11]) ((Keep.refl _).trans ku1) (Rn.s rfl Yv.mv (Rn.nil)) (WO.and (js := [11]) 121 123 (hg := rfl) (ht := fun h8 qu3 => WO.cv rfl (awake9_cv w26 hg26.toGm) ((Keep.refl _).trans ku1) (FnOk.of Tryd.func26) (fun wu4 ku4 => WO.rd (is := [10]) (js := [11]) (((Keep.refl _).trans ku1).trans ku4) (Rn.s rfl Yv.pick_t (Rn.nil)) (WO.e 2 (qu3 _ ((Keep.refl _).trans ku4))))) (hf := fun _ qu3 => WO.rd (is := [9, 10]) (js := [11]) ((Keep.refl _).trans ku1) (Rn.no rfl (Rn.s rfl Yv.pick_f Rn.nil)) (WO.e 2 (qu3 _ (Keep.refl _)))) (k := fun wu3 ku3 => WO.rd (is := [11]) (js := []) (((Keep.refl _).trans ku1).trans ku3) (Rn.s rfl Yv.as (Rn.nil)) (WO.done ?_)))))))
  refine Wp.ret (Fin.ret (Res.one rfl rfl) ⟨?_, ?_⟩)
  · simp
  · exact hst.keep.trans (ku1.trans ku3)
end Go.Proofs.YtgjhbapbomdpbaaDoor.C
