/- MouldChains, walked. -/
import Derived.Test.YtgjhbapbomdpbaaDoorNi
import Derived.Test.YtgjhbapbomdpbaaDoorNj
set_option linter.unusedVariables false
set_option linter.unusedSimpArgs false
set_option maxRecDepth 100000
namespace Go.Proofs.YtgjhbapbomdpbaaDoor.C
open Go.RowKit Go.Proofs.YtgjhbapbomdpbaaDoor.Sh
theorem chP_len (ring : Bool) (k : Nat) (r : Int) : ∀ i, (chP ring k r i).length ≤ 11 + 200 * i
  | 0 => by show ch0.length ≤ _; decide
  | i + 1 => by
    have := chP_len ring k r i
    have hla := abc_len
    unfold chP chE chL nmI ch1 ch2 ch3
    split
    all_goals (simp only [List.length_append, List.length_drop, List.length_take, List.length_cons, List.length_nil, hla]; omega)
theorem chP_no (k : Nat) (r : Int) : ∀ i, chP false k r i = chP false k 0 i
  | 0 => rfl
  | i + 1 => by
    have := chP_no k r i
    unfold chP
    rw [this]
    rfl
set_option maxHeartbeats 4000000 in
theorem chains_calls (more : Int) (ring : Bool) (w0 : World) (hg : Gl w0) (w : World) (hk : Keep w0 w) : Calls Tryd.prog 9 #[.int .i64 more, .bool ring] w fun e w' => e = .returned (.bool true) ∧ Keep w w' := by
  have hg := hg.keep hk
  refine calls_of_Wp (vs := [_, _]) Tryd.func9 ?_
  refine Wp.seq (Wp.reads (is := [0]) (Keep.refl _) (Rn.s rfl Yv.as (Rn.nil)) ?_)
  obtain ⟨lb0, lb1⟩ := lowI_bd more
  refine Wp.seq (Wp.regionL (l := [0, 1, 2, 3, 4, 5]) (WO.rd (is := [0]) (js := [1, 2, 3, 4, 5]) (Keep.refl _) (Rn.s rfl Yv.mv (Rn.nil)) (WO.cv rfl (low_cv more w) (Keep.refl _) (FnOk.of Tryd.func17) (fun wa1 ka1 => WO.rd (is := [2, 3, 4, 5]) (js := []) ((Keep.refl _).trans ka1) (Rn.s rfl (Yv.rem (by omega) (by omega) (by omega)) (Rn.s rfl (Yv.add (by unfold inI; omega)) (Rn.s rfl (Yv.sub (by unfold inI; omega)) (Rn.s rfl Yv.as (Rn.nil))))) (WO.done ?_)))))
  obtain ⟨k, hkd⟩ : ∃ k : Nat, lowI more % 4 + 16 - 2 = k := ⟨(lowI more % 4 + 16 - 2).toNat, by omega⟩
  have hk14 : 14 ≤ k := by omega
  have hk17 : k ≤ 17 := by omega
  rw [hkd]
  obtain ⟨r, hr⟩ : ∃ r : Nat, lowI more % (k : Int) = r := ⟨(lowI more % (k : Int)).toNat, by have := Int.emod_nonneg (lowI more) (show (k : Int) ≠ 0 by omega); omega⟩
  have hrk : r < k := by have := Int.emod_lt_of_pos (lowI more) (show (0 : Int) < k by omega); omega
  have hla := abc_len
  refine Wp.seq (Wp.reads (is := [0]) (Keep.refl _) (Rn.s rfl Yv.as (Rn.nil)) ?_)
  refine Wp.seq (Wp.reads (is := [0]) (Keep.refl _) (Rn.s rfl Yv.as (Rn.nil)) ?_)
  refine Wp.seq (Wp.seq (Wp.reads (is := [0]) (Keep.refl _) (Rn.s rfl Yv.as (Rn.nil)) ?_))
  refine Wp.block ?_
  refine Wp.loop (α := Nat) (fun i ρ ds w' => ds = [] ∧ i ≤ k ∧ Keep w w' ∧ Sub [(0, .int .i64 more), (1, .bool ring), (5, .int .i64 (k : Int)), (6, S abc), (7, S (chP ring k r i)), (8, .int .i64 (i : Int))] ρ) (fun i => k - i) 0
    ⟨rfl, Nat.zero_le _, ka1, rfl, rfl, rfl, rfl, rfl, rfl, trivial⟩ ?_
  rintro i ρ ds w1 ⟨rfl, hi, hk1, hsub⟩
  refine Wp.forget _ ?_ hsub
  clear hsub ρ
  refine Wp.seq (Wp.seq (Wp.reads (is := [0, 1, 2]) (Keep.refl _) (Rn.s rfl Yv.mv (Rn.s rfl Yv.mv (Rn.s rfl (Yv.cmp _ rfl) (Rn.nil)))) ?_))
  have hsl := chP_len ring k r i
  refine Wp.cond rfl (fun h1 => ?_) (fun h1 => ?_)
  · have h1 := of_decide_eq_true h1
    have en : chP ring k r (i + 1) = chE (chL (chP ring k r i) i) k (chN ring k r i) := rfl
    obtain ⟨s, hs⟩ : ∃ s, s = chP ring k r i := ⟨_, rfl⟩
    rw [← hs] at hsl en ⊢
    refine Wp.skip (Wp.seq (Wp.block ?_))
    refine Wp.seq (Wp.draws [] mixed (WD.rd (is := [0, 1, 2, 3, 4, 5, 6, 7, 8, 9, 10, 11, 12, 13, 14, 15, 16, 17, 18, 19, 20, 21, 22, 23]) (fun _ _ _ _ _ h => h) (Keep.drew _) (Rn.s rfl Yv.mv (Rn.s rfl (Yv.cat (by simp only [List.length_append, List.length_drop, List.length_take, List.length_cons, List.length_nil, hla]; omega)) (Rn.s rfl Yv.mv (Rn.s rfl Yv.mv (Rn.s rfl Yv.mv (Rn.s rfl (Yv.add (by unfold inI; omega)) (Rn.s rfl (Yv.ss_ft (l := abc) (by omega) (by omega) (by rw [hla]; omega)) (Rn.s rfl (Yv.cat (by simp only [List.length_append, List.length_drop, List.length_take, List.length_cons, List.length_nil, hla]; omega)) (Rn.s rfl (Yv.cat (by simp only [List.length_append, List.length_drop, List.length_take, List.length_cons, List.length_nil, hla]; omega)) (Rn.s rfl Yv.mv (Rn.s rfl Yv.mv (Rn.s rfl Yv.mv (Rn.s rfl (Yv.add (by unfold inI; omega)) (Rn.s rfl (Yv.ss_ft (l := abc) (by omega) (by omega) (by rw [hla]; omega)) (Rn.s rfl (Yv.cat (by simp only [List.length_append, List.length_drop, List.length_take, List.length_cons, List.length_nil, hla]; omega)) (Rn.s rfl (Yv.cat (by simp only [List.length_append, List.length_drop, List.length_take, List.length_cons, List.length_nil, hla]; omega)) (Rn.s rfl Yv.mv (Rn.s rfl Yv.mv (Rn.s rfl Yv.mv (Rn.s rfl (Yv.add (by unfold inI; omega)) (Rn.s rfl (Yv.ss_ft (l := abc) (by omega) (by omega) (by rw [hla]; omega)) (Rn.s rfl (Yv.cat (by simp only [List.length_append, List.length_drop, List.length_take, List.length_cons, List.length_nil, hla]; omega)) (Rn.s rfl (Yv.cat (by simp only [List.length_append, List.length_drop, List.length_take, List.length_cons, List.length_nil, hla]; omega)) (Rn.s rfl Yv.as (Rn.nil))))))))))))))))))))))))) (WD.done ?_)))
    refine Wp.forget [(0, .int .i64 more), (1, .bool ring), (5, .int .i64 (k : Int)), (6, S abc), (7, S (chL s i)), (8, .int .i64 (i : Int))] ?_ ⟨rfl, rfl, rfl, rfl, rfl, rfl, trivial⟩
    obtain ⟨u, hu⟩ : ∃ u, u = chL s i := ⟨_, rfl⟩
    have hul : u.length ≤ 11 + 200 * i + 150 := by
      rw [hu]
      unfold chL nmI ch1 ch2
      simp only [List.length_append, List.length_drop, List.length_take, List.length_cons, List.length_nil, hla]; omega
    rw [← hu] at en ⊢
    refine Wp.seq (Wp.reads (is := [0, 1, 2]) (Keep.refl _) (Rn.s rfl Yv.mv (Rn.s rfl (Yv.add (by unfold inI; omega)) (Rn.s rfl Yv.as (Rn.nil)))) ?_)
    refine Wp.seq (Wp.mid (fun ρ ds w' => ds = [] ∧ Keep w w' ∧ Sub [(0, .int .i64 more), (1, .bool ring), (5, .int .i64 (k : Int)), (6, S abc), (7, S u), (8, .int .i64 (i : Int)), (9, .int .i64 (chN ring k r i))] ρ) ?_ ?_)
    · refine Wp.seq (Wp.reads (is := [0, 1, 2, 3, 4, 5]) (Keep.refl _) (Rn.s rfl Yv.mv (Rn.s rfl Yv.mv (Rn.and (is := [2, 3, 4, 5]) (js := []) (t := 51) (d := 55) (hg := rfl) (ht := fun h1 => Rn.s rfl Yv.mv (Rn.s rfl Yv.mv (Rn.s rfl (Yv.cmp _ rfl) (Rn.s rfl Yv.pick_t ((Rn.e 4 rfl rfl)))))) (hf := fun _ => Rn.no rfl (Rn.no rfl (Rn.no rfl (Rn.s rfl Yv.pick_f (Rn.e 4 rfl rfl))))) (k := Rn.nil)))) ?_)
      refine Wp.cond rfl (fun h2 => ?_) (fun h2 => ?_)
      · have h2 : ring = true ∧ i + 1 = k := by
          simp only [Bool.and_eq_true, decide_eq_true_eq, beq_iff_eq] at h2
          obtain ⟨q1, q2⟩ := h2
          exact ⟨q1, by omega⟩
        refine Wp.regionL (l := [0, 1, 2, 3, 4]) (WO.rd (is := [0]) (js := [1, 2, 3, 4]) (Keep.refl _) (Rn.s rfl Yv.mv (Rn.nil)) (WO.cv rfl (low_cv more _) (Keep.refl _) (FnOk.of Tryd.func17) (fun wy1 ky1 => WO.rd (is := [2, 3, 4]) (js := []) ((Keep.refl _).trans ky1) (Rn.s rfl Yv.mv (Rn.s rfl (Yv.rem (by omega) (by omega) (by omega)) (Rn.s rfl Yv.as (Rn.nil)))) (WO.done ?_))))
        refine ⟨rfl, hk1.trans ((Keep.drew _).trans ky1), rfl, rfl, rfl, rfl, rfl, rfl, ?_, trivial⟩
        unfold chN
        rw [if_pos h2, ← hr]
        rfl
      · have h2 : ¬ (ring = true ∧ i + 1 = k) := by
          rintro ⟨q1, q2⟩
          subst q1
          have q3 : ((i : Int) + 1) = k := by omega
          simp [q3] at h2
        refine Wp.skip ⟨rfl, hk1.trans (Keep.drew _), rfl, rfl, rfl, rfl, rfl, rfl, ?_, trivial⟩
        unfold chN
        rw [if_neg h2]
        rfl
    rintro ρ ds w2 ⟨rfl, hk2, hsub⟩
    refine Wp.forget _ ?_ hsub
    clear hsub ρ
    obtain ⟨n, hn⟩ : ∃ n, n = chN ring k r i := ⟨_, rfl⟩
    have hn0 : 0 ≤ n := by rw [hn]; unfold chN; split <;> omega
    rw [← hn] at en ⊢
    refine (Wp.mid (fun ρ ds w' => ds = [] ∧ Keep w w' ∧ Sub [(0, .int .i64 more), (1, .bool ring), (5, .int .i64 (k : Int)), (6, S abc), (7, S (chP ring k r (i + 1))), (8, .int .i64 (i : Int))] ρ) ?_ ?_)
    · refine Wp.seq (Wp.reads (is := [0, 1, 2]) (Keep.refl _) (Rn.s rfl Yv.mv (Rn.s rfl Yv.mv (Rn.s rfl (Yv.cmp _ rfl) (Rn.nil)))) ?_)
      refine Wp.cond rfl (fun h2 => ?_) (fun h2 => ?_)
      · have h2 := of_decide_eq_true h2
        refine Wp.regionL (l := [0, 1, 2, 3, 4, 5, 6, 7, 8, 9]) (WO.rd (is := [0, 1, 2, 3, 4, 5, 6, 7, 8, 9]) (js := []) (Keep.refl _) (Rn.s rfl Yv.mv (Rn.s rfl (Yv.cat (by simp only [List.length_append, List.length_drop, List.length_take, List.length_cons, List.length_nil, hla]; omega)) (Rn.s rfl Yv.mv (Rn.s rfl Yv.mv (Rn.s rfl Yv.mv (Rn.s rfl (Yv.add (by unfold inI; omega)) (Rn.s rfl (Yv.ss_ft (l := abc) (by omega) (by omega) (by rw [hla]; omega)) (Rn.s rfl (Yv.cat (by simp only [List.length_append, List.length_drop, List.length_take, List.length_cons, List.length_nil, hla]; omega)) (Rn.s rfl (Yv.cat (by simp only [List.length_append, List.length_drop, List.length_take, List.length_cons, List.length_nil, hla]; omega)) (Rn.s rfl Yv.as (Rn.nil))))))))))) (WO.done ?_))
        refine ⟨rfl, hk2, rfl, rfl, rfl, rfl, ?_, rfl, trivial⟩
        rw [en]
        unfold chE
        rw [if_pos h2]
        rfl
      · have h2 := of_decide_eq_false h2
        refine Wp.skip ⟨rfl, hk2, rfl, rfl, rfl, rfl, ?_, rfl, trivial⟩
        rw [en]
        unfold chE
        rw [if_neg h2]
        rfl
    rintro ρ ds w3 ⟨rfl, hk3, hsub⟩
    refine Wp.forget _ ?_ hsub
    clear hsub ρ
    refine Wp.reads (is := [0, 1, 2]) (Keep.refl _) (Rn.s rfl Yv.mv (Rn.s rfl (Yv.add (by unfold inI; omega)) (Rn.s rfl Yv.as (Rn.nil)))) ?_
    exact ⟨i + 1, ⟨rfl, by omega, hk3, rfl, rfl, rfl, rfl, rfl, rfl, trivial⟩, by omega⟩
  have h1 := of_decide_eq_false h1
  have e : i = k := by omega
  subst e
  refine Wp.exit ?_
  refine Wp.seq (Wp.regionL (l := [0, 1, 2]) (WO.rd (is := [0, 1, 2]) (js := []) (Keep.refl _) (Rn.s rfl Yv.mv (Rn.s rfl (Yv.cat (by simp only [List.length_append, List.length_drop, List.length_take, List.length_cons, List.length_nil, hla]; omega)) (Rn.s rfl Yv.as (Rn.nil)))) (WO.done ?_)))
  obtain ⟨T, hT⟩ : ∃ T, T = chT ring i r := ⟨_, rfl⟩
  obtain ⟨X, hX⟩ : ∃ X, X = (jobS T [106]).1 := ⟨_, rfl⟩
  obtain ⟨F, hF⟩ : ∃ F, F = (jobS T [106]).2 := ⟨_, rfl⟩
  have hgc := hg.keep hk1
  have hp1 := parse_cx [102] (chP ring i r i ++ ch4) w1 hgc.toGm
  have hj0 : jobS T [106] = (X, F) := by rw [hX, hF]
  have hcase : (parseS [102] (chP ring i r i ++ ch4)).2 = ft0 ∧ (ring = true → F = ⟨92, [102], 1 + 4 * (i : Int), 14⟩ ∧ X.length = 0) ∧ (ring = false → 16 < i → F.code = 93 ∧ X.length = 0) ∧ (ring = false → i ≤ 16 → F.code = 0 ∧ X.length = i + 2 ∧ 0 ≤ getS X [ch5] ∧ getS X [ch5] < X.length ∧ (nth X (getS X [ch5])).text = [97]) := by
    cases ring with
    | true =>
      have hR : chRg i r = true := by
        obtain rfl | rfl | rfl | rfl : i = 14 ∨ i = 15 ∨ i = 16 ∨ i = 17 := by omega
        · exact ch_rg14 r hrk
        · exact ch_rg15 r hrk
        · exact ch_rg16 r hrk
        · exact ch_rg17 r hrk
      unfold chRg at hR
      simp only [Bool.and_eq_true, decide_eq_true_eq] at hR
      obtain ⟨⟨q1, q2⟩, q3⟩ := hR
      refine ⟨q1, fun _ => ?_, fun h => (by cases h), fun h => (by cases h)⟩
      rw [hF, hX, hT]
      exact ⟨q2, q3⟩
    | false =>
      have eT : chT false i r = chT false i 0 := by unfold chT; rw [chP_no]
      by_cases h16 : 16 < i
      · obtain rfl : i = 17 := by omega
        have hR := ch_dp
        unfold chDp at hR
        simp only [Bool.and_eq_true, decide_eq_true_eq] at hR
        obtain ⟨⟨q1, q2⟩, q3⟩ := hR
        refine ⟨by rw [chP_no]; exact q1, fun h => (by cases h), fun _ _ => ?_, fun _ h => absurd h (by omega)⟩
        rw [hF, hX, hT, eT]
        exact ⟨q2, q3⟩
      · have hR : chOk i = true := by
          obtain rfl | rfl | rfl : i = 14 ∨ i = 15 ∨ i = 16 := by omega
          · exact ch_ok14
          · exact ch_ok15
          · exact ch_ok16
        unfold chOk at hR
        simp only [Bool.and_eq_true, decide_eq_true_eq] at hR
        obtain ⟨⟨⟨q1, q2⟩, q3⟩, q4⟩ := hR
        refine ⟨by rw [chP_no]; exact q1, fun h => (by cases h), fun _ h => absurd h h16, fun _ _ => ?_⟩
        rw [hF, hX, hT, eT]
        exact ⟨q2, q3, q4⟩
  obtain ⟨hP, hC1, hC2, hC3⟩ := hcase
  rw [hP] at hp1
  have eT : (parseS [102] (chP ring i r i ++ ch4)).1 = T := hT.symm
  rw [eT] at hp1
  refine Wp.seq (Wp.regionL (l := [0, 1, 2, 3, 4, 5, 6, 7]) (WO.rd (is := [0]) (js := [1, 2, 3, 4, 5, 6, 7]) (Keep.refl _) (Rn.s rfl Yv.mv (Rn.nil)) (WO.act (hc := rfl) (he := Ef.cx hp1 (St.init w1) (FnOk.of Tryd.func21) ?_))))
  rintro v D w2 ⟨A1, c1, rfl, rfl⟩ hs1
  refine WO.rd (is := [2, 3, 4]) (js := [5, 6, 7]) (Keep.refl _) (Rn.s rfl Yv.mv (Rn.s rfl Yv.ex (Rn.s rfl Yv.ex (Rn.nil)))) (WO.act (he := Ef.allocL (vs := ft0.cs) hs1 (fun b2 w3 k2 hs2 => WO.rd (is := [6]) (js := [7]) (Keep.refl _) (Rn.s rfl Yv.as (Rn.nil)) (WO.act (he := Ef.stores hs2 0 (fun w4 hs3 => WO.done ?_))))))
  have hst : St w1 [] w4 [Ch.cells b2 27 ft0.cs, Ch.row NdE 48 A1 c1 T] := hs3
  clear hs1 hs2 hs3
  have hcap := hst.cap 1
  have hj1 := job_cx A1 c1 T [106] w4 (hst.rd 1) hcap
  rw [hj0] at hj1
  refine Wp.seq (Wp.regionL (l := [0, 1, 2, 3, 4, 5, 6, 7]) (WO.rd (is := [0]) (js := [1, 2, 3, 4, 5, 6, 7]) (Keep.refl _) (Rn.s rfl Yv.mv (Rn.nil)) (WO.act (hc := rfl) (he := Ef.cx hj1 hst (FnOk.of Tryd.func25) ?_))))
  rintro v D w5 ⟨A2, c2, rfl, rfl⟩ hs4
  refine WO.rd (is := [2, 3, 4]) (js := [5, 6, 7]) (Keep.refl _) (Rn.s rfl Yv.mv (Rn.s rfl Yv.ex (Rn.s rfl Yv.ex (Rn.nil)))) (WO.act (he := Ef.allocL (vs := ft0.cs) hs4 (fun b4 w6 k5 hs5 => WO.rd (is := [6]) (js := [7]) (Keep.refl _) (Rn.s rfl Yv.as (Rn.nil)) (WO.act (he := Ef.stores hs5 0 (fun w7 hs6 => WO.done ?_))))))
  have hst : St w1 [] w7 [Ch.cells b4 27 F.cs, Ch.row NdE 48 A2 c2 X, Ch.cells b2 27 ft0.cs] := hs6.pick [0, 1, 2]
  clear hs4 hs5 hs6
  have c11 := hst.cells 2
  have c13 := hst.cells 0
  have hr := hst.rd 1
  have hk7 := hk1.trans hst.keep
  have hg7 := hg.keep hk7
  refine Wp.seq (Wp.block ?_)
  refine Wp.seq (Wp.reads (is := [0, 1, 2, 3]) (Keep.refl _) (Rn.s rfl (Yv.fa (off := 0)) (Rn.s rfl (Yv.ld (c11.at_ 0)) (Rn.s rfl (Yv.cmp _ rfl) (Rn.s rfl Yv.as (Rn.nil))))) ?_)
  refine Wp.cond_f rfl ?_
  refine Wp.seq (Wp.reads (is := [0, 1]) (Keep.refl _) (Rn.s rfl Yv.mv (Rn.s rfl Yv.as (Rn.nil))) ?_)
  cases ring with
  | true =>
    obtain ⟨q1, q2⟩ := hC1 rfl
    refine Wp.cond_t rfl ?_
    refine Wp.seq (Wp.regionL (l := [0, 1, 2, 3, 4, 5, 6, 7, 8, 9, 10, 11, 12, 13, 14, 15, 16, 17, 18, 19, 20, 21, 22, 23, 24]) (WO.rd (is := [0, 1, 2, 3, 4, 5, 6, 7, 8, 9, 10, 11, 12, 13, 14, 15, 16, 17, 18, 19, 20, 21]) (js := [22, 23, 24]) (Keep.refl _) (Rn.s rfl (Yv.fa (off := 0)) (Rn.s rfl (Yv.ld (c13.at_ 0)) (Rn.s rfl (Yv.cmp _ rfl) (Rn.s rfl Yv.mv (Rn.and (is := [4, 5, 6, 7, 8, 9, 10]) (js := [11, 12, 13, 14, 15, 16, 17, 18, 19, 20, 21]) (t := 93) (d := 100) (hg := rfl) (ht := fun h3 => have h3 := eq_of_beq h3; Rn.s rfl (Yv.fa (off := 2)) (Rn.s rfl (Yv.ld (c13.at_ 2)) (Rn.s rfl Yv.mv (Rn.s rfl (Yv.mul (by unfold inI; omega)) (Rn.s rfl (Yv.add (by unfold inI; omega)) (Rn.s rfl (Yv.cmp _ rfl) (Rn.s rfl Yv.pick_t ((Rn.e 7 rfl rfl))))))))) (hf := fun _ => Rn.no rfl (Rn.no rfl (Rn.no rfl (Rn.no rfl (Rn.no rfl (Rn.no rfl (Rn.s rfl Yv.pick_f (Rn.e 7 rfl rfl)))))))) (k := Rn.s rfl Yv.mv (Rn.and (is := [12, 13, 14, 15]) (js := [16, 17, 18, 19, 20, 21]) (t := 101) (d := 105) (hg := rfl) (ht := fun h11 => Rn.s rfl (Yv.fa (off := 3)) (Rn.s rfl (Yv.ld (c13.at_ 3)) (Rn.s rfl (Yv.cmp _ rfl) (Rn.s rfl Yv.pick_t ((Rn.e 4 rfl rfl)))))) (hf := fun _ => Rn.no rfl (Rn.no rfl (Rn.no rfl (Rn.s rfl Yv.pick_f (Rn.e 4 rfl rfl))))) (k := Rn.s rfl Yv.mv (Rn.and (is := [17, 18, 19, 20]) (js := [21]) (t := 106) (d := 110) (hg := rfl) (ht := fun h16 => Rn.s rfl Yv.mv (Rn.s rfl (Yv.len_v (e := 48) (m := 8)) (Rn.s rfl (Yv.cmp _ rfl) (Rn.s rfl Yv.pick_t ((Rn.e 4 rfl rfl)))))) (hf := fun _ => Rn.no rfl (Rn.no rfl (Rn.no rfl (Rn.s rfl Yv.pick_f (Rn.e 4 rfl rfl))))) (k := Rn.s rfl Yv.mv (Rn.nil))))))))))) (WO.and (js := [24]) 111 113 (hg := rfl) (ht := fun h21 qx1 => WO.cv rfl (awake9_cv w7 hg7.toGm) (Keep.refl _) (FnOk.of Tryd.func26) (fun wx2 kx2 => WO.rd (is := [23]) (js := [24]) ((Keep.refl _).trans kx2) (Rn.s rfl Yv.pick_t (Rn.nil)) (WO.e 2 (qx1 _ ((Keep.refl _).trans kx2))))) (hf := fun _ qx1 => WO.rd (is := [22, 23]) (js := [24]) (Keep.refl _) (Rn.no rfl (Rn.s rfl Yv.pick_f Rn.nil)) (WO.e 2 (qx1 _ (Keep.refl _)))) (k := fun wx1 kx1 => WO.rd (is := [24]) (js := []) ((Keep.refl _).trans kx1) (Rn.s rfl Yv.as (Rn.nil)) (WO.done ?_)))))
    refine Wp.ret (Fin.ret (Res.one rfl rfl) ⟨?_, ?_⟩)
    · rw [q1, q2]; simp
    · exact hk7.trans kx1
  | false =>
  refine Wp.cond_f rfl ?_
  refine Wp.seq (Wp.reads (is := [0, 1, 2]) (Keep.refl _) (Rn.s rfl Yv.mv (Rn.s rfl (Yv.cmp _ rfl) (Rn.s rfl Yv.as (Rn.nil)))) ?_)
  refine Wp.cond rfl (fun h2 => ?_) (fun h2 => ?_)
  · have h2 := of_decide_eq_true h2
    obtain ⟨q1, q2⟩ := hC2 rfl (by omega)
    refine Wp.seq (Wp.regionL (l := [0, 1, 2, 3, 4, 5, 6, 7, 8, 9, 10, 11]) (WO.rd (is := [0, 1, 2, 3, 4, 5, 6, 7, 8]) (js := [9, 10, 11]) (Keep.refl _) (Rn.s rfl (Yv.fa (off := 0)) (Rn.s rfl (Yv.ld (c13.at_ 0)) (Rn.s rfl (Yv.cmp _ rfl) (Rn.s rfl Yv.mv (Rn.and (is := [4, 5, 6, 7]) (js := [8]) (t := 120) (d := 124) (hg := rfl) (ht := fun h3 => have h3 := eq_of_beq h3; Rn.s rfl Yv.mv (Rn.s rfl (Yv.len_v (e := 48) (m := 8)) (Rn.s rfl (Yv.cmp _ rfl) (Rn.s rfl Yv.pick_t ((Rn.e 4 rfl rfl)))))) (hf := fun _ => Rn.no rfl (Rn.no rfl (Rn.no rfl (Rn.s rfl Yv.pick_f (Rn.e 4 rfl rfl))))) (k := Rn.s rfl Yv.mv (Rn.nil))))))) (WO.and (js := [11]) 125 127 (hg := rfl) (ht := fun h8 qx1 => WO.cv rfl (awake9_cv w7 hg7.toGm) (Keep.refl _) (FnOk.of Tryd.func26) (fun wx2 kx2 => WO.rd (is := [10]) (js := [11]) ((Keep.refl _).trans kx2) (Rn.s rfl Yv.pick_t (Rn.nil)) (WO.e 2 (qx1 _ ((Keep.refl _).trans kx2))))) (hf := fun _ qx1 => WO.rd (is := [9, 10]) (js := [11]) (Keep.refl _) (Rn.no rfl (Rn.s rfl Yv.pick_f Rn.nil)) (WO.e 2 (qx1 _ (Keep.refl _)))) (k := fun wx1 kx1 => WO.rd (is := [11]) (js := []) ((Keep.refl _).trans kx1) (Rn.s rfl Yv.as (Rn.nil)) (WO.done ?_)))))
    refine Wp.ret (Fin.ret (Res.one rfl rfl) ⟨?_, ?_⟩)
    · rw [q1, q2]; simp
    · exact hk7.trans kx1
  have h2 := of_decide_eq_false h2
  obtain ⟨q1, q2, q3, q4, q5⟩ := hC3 rfl (by omega)
  refine Wp.skip ?_
  refine Wp.seq (Wp.regionL (l := [0, 1, 2, 3]) (WO.rd (is := [0]) (js := [1, 2, 3]) (Keep.refl _) (Rn.s rfl Yv.mv (Rn.nil)) (WO.act (hc := rfl) (he := Ef.bsl (T := 9) StE [ch5] hst (fun bx1 wx1 kx1 hsx1 => WO.cv rfl (get_cv A2 c2 X _ _ [ch5] wx1 (hg7.keep kx1) (hr.keep kx1) (hsx1.rd 0) (by decide)) (Keep.refl _) (FnOk.of Tryd.func22) (fun wx2 kx2 => WO.rd (is := [3]) (js := []) (((Keep.refl _).trans kx1).trans kx2) (Rn.s rfl Yv.as (Rn.nil)) (WO.done ?_)))))))
  have hk8 := hk7.trans (kx1.trans kx2)
  obtain ⟨g, hgg⟩ : ∃ g, g = getS X [ch5] := ⟨_, rfl⟩
  rw [← hgg] at q3 q4 q5 ⊢
  have c13 := c13.keep (kx1.trans kx2)
  have hr := hr.keep (kx1.trans kx2)
  refine Wp.seq (Wp.regionL (l := [0, 1, 2, 3, 4, 5, 6, 7, 8, 9, 10, 11, 12, 13, 14, 15, 16, 17, 18, 19, 20, 21, 22, 23, 24, 25]) (WO.rd (is := [0, 1, 2, 3, 4, 5, 6, 7, 8, 9, 10, 11, 12, 13, 14, 15, 16, 17, 18, 19, 20, 21, 22]) (js := [23, 24, 25]) (Keep.refl _) (Rn.s rfl (Yv.fa (off := 0)) (Rn.s rfl (Yv.ld (c13.at_ 0)) (Rn.s rfl (Yv.cmp _ rfl) (Rn.s rfl Yv.mv (Rn.and (is := [4, 5, 6, 7, 8, 9]) (js := [10, 11, 12, 13, 14, 15, 16, 17, 18, 19, 20, 21, 22]) (t := 134) (d := 140) (hg := rfl) (ht := fun h3 => have h3 := eq_of_beq h3; Rn.s rfl Yv.mv (Rn.s rfl (Yv.len_v (e := 48) (m := 8)) (Rn.s rfl Yv.mv (Rn.s rfl (Yv.add (by unfold inI; omega)) (Rn.s rfl (Yv.cmp _ rfl) (Rn.s rfl Yv.pick_t ((Rn.e 6 rfl rfl)))))))) (hf := fun _ => Rn.no rfl (Rn.no rfl (Rn.no rfl (Rn.no rfl (Rn.no rfl (Rn.s rfl Yv.pick_f (Rn.e 6 rfl rfl))))))) (k := Rn.s rfl Yv.mv (Rn.and (is := [11, 12, 13]) (js := [14, 15, 16, 17, 18, 19, 20, 21, 22]) (t := 141) (d := 144) (hg := rfl) (ht := fun h10 => Rn.s rfl Yv.mv (Rn.s rfl (Yv.cmp _ rfl) (Rn.s rfl Yv.pick_t ((Rn.e 3 rfl rfl))))) (hf := fun _ => Rn.no rfl (Rn.no rfl (Rn.s rfl Yv.pick_f (Rn.e 3 rfl rfl)))) (k := Rn.s rfl Yv.mv (Rn.and (is := [15, 16, 17, 18, 19, 20, 21]) (js := [22]) (t := 145) (d := 152) (hg := rfl) (ht := fun h14 => Rn.s rfl Yv.mv (Rn.s rfl Yv.mv (Rn.s rfl (Yv.ia (e := 48) hr (by omega) (by omega)) (Rn.s rfl (Yv.fa (off := 3)) (Rn.s rfl (Yv.ld (hr.ld 3 (by omega) (by omega))) (Rn.s rfl (Yv.scm _ rfl) (Rn.s rfl Yv.pick_t ((Rn.e 7 rfl rfl))))))))) (hf := fun _ => Rn.no rfl (Rn.no rfl (Rn.no rfl (Rn.no rfl (Rn.no rfl (Rn.no rfl (Rn.s rfl Yv.pick_f (Rn.e 7 rfl rfl)))))))) (k := Rn.s rfl Yv.mv (Rn.nil))))))))))) (WO.and (js := [25]) 153 155 (hg := rfl) (ht := fun h22 qy1 => WO.cv rfl (awake9_cv wx2 (hg.keep hk8).toGm) (Keep.refl _) (FnOk.of Tryd.func26) (fun wy2 ky2 => WO.rd (is := [24]) (js := [25]) ((Keep.refl _).trans ky2) (Rn.s rfl Yv.pick_t (Rn.nil)) (WO.e 2 (qy1 _ ((Keep.refl _).trans ky2))))) (hf := fun _ qy1 => WO.rd (is := [23, 24]) (js := [25]) (Keep.refl _) (Rn.no rfl (Rn.s rfl Yv.pick_f Rn.nil)) (WO.e 2 (qy1 _ (Keep.refl _)))) (k := fun wy1 ky1 => WO.rd (is := [25]) (js := []) ((Keep.refl _).trans ky1) (Rn.s rfl Yv.as (Rn.nil)) (WO.done ?_)))))
  refine Wp.ret (Fin.ret (Res.one rfl rfl) ⟨?_, ?_⟩)
  · rw [q1, q2, q5]; simp; omega
  · exact hk8.trans ky1
end Go.Proofs.YtgjhbapbomdpbaaDoor.C
