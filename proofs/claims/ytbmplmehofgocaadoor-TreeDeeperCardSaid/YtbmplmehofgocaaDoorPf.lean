/- TreeBlocks is walked: its answer is true. -/
import Derived.Test.YtbmplmehofgocaaDoorPc
import Derived.Test.YtbmplmehofgocaaDoorPe
set_option linter.unusedVariables false
set_option linter.unusedSimpArgs false
set_option maxRecDepth 10000
namespace Go.Proofs.YtbmplmehofgocaaDoor.C
open Go.RowKit Go.Proofs.YtbmplmehofgocaaDoor.Sh
theorem andI_max (a : Int) (m : Nat) (hm : m ≤ 9223372036854775807) : 0 ≤ andI .i64 a m ∧ andI .i64 a m ≤ m := by
  have e : (BitVec.ofInt 64 a &&& BitVec.ofInt 64 (m : Int)).toNat = (BitVec.ofInt 64 a).toNat &&& m := by
    rw [BitVec.toNat_and, BitVec.ofInt_natCast, BitVec.toNat_ofNat, Nat.mod_eq_of_lt (by omega)]
  have h := Nat.and_le_right (n := (BitVec.ofInt 64 a).toNat) (m := m)
  have w : andI .i64 a m = (((BitVec.ofInt 64 a).toNat &&& m : Nat) : Int) := by
    show IntKind.i64.wrap ((BitVec.ofInt 64 a &&& BitVec.ofInt 64 (m : Int)).toNat : Int) = _
    rw [e]
    exact wrapI ⟨by omega, by omega⟩
  rw [w]
  omega
def lowI (n : Int) : Int := andI .i64 n 9223372036854775807
theorem lowI_bd (n : Int) : 0 ≤ lowI n ∧ lowI n ≤ 9223372036854775807 := andI_max n 9223372036854775807 (by omega)
theorem low_cv (n : Int) (w0 : World) : Cv Tryd.prog 40 [.int .i64 n] (.int .i64 (lowI n)) w0 := by
  intro w hk
  refine calls_of_Wp (vs := [_]) Tryd.func40 ?_
  refine Wp.seq (Wp.reads (is := [0]) (Keep.refl _) (Rn.s rfl Yv.as (Rn.nil)) ?_)
  refine Wp.seq (Wp.reads (is := [0, 1, 2]) (Keep.refl _) (Rn.s rfl Yv.mv (Rn.s rfl Yv.and (Rn.s rfl Yv.as (Rn.nil)))) ?_)
  exact Wp.ret (Fin.ret (Res.one rfl rfl) ⟨rfl, Keep.refl _⟩)
theorem fault_cv (f : Ft) (e line col : Int) (w0 : World) : Cv Tryd.prog 41 [.agg f.cs.toArray, .int .i64 e, .int .i64 line, .int .i64 col] (.bool (faultB f e line col)) w0 := by
  intro w hk
  refine calls_of_Wp (vs := [_, _, _, _]) Tryd.func41 ?_
  refine Wp.seq (Wp.regionL (l := [0, 1]) (WO.act (hc := rfl) (he := Ef.boxL (f.cs) (St.init w) (fun bx1 wx1 kx1 hsx1 => WO.rd (is := [1]) (js := []) ((Keep.refl _).trans kx1) (Rn.s rfl Yv.as (Rn.nil)) (WO.done ?_)))))
  have c4 := hsx1.cells 0
  refine Wp.seq (Wp.reads (is := [0, 1, 2, 3, 4, 5, 6, 7, 8, 9, 10, 11, 12, 13, 14, 15, 16, 17]) (Keep.refl _) (Rn.s rfl (Yv.ldb c4) (Rn.s rfl Yv.mv (Rn.s rfl Yv.mv (Rn.s rfl Yv.mv (Rn.s rfl (Yv.bd (cs := Ft.cs ⟨e, [102], line, col⟩)) (Rn.s rfl (Yv.eqs (ftEq f ⟨e, [102], line, col⟩)) (Rn.s rfl Yv.mv (Rn.or (is := [7, 8, 9, 10, 11, 12, 13, 14, 15, 16]) (js := [17]) (t := 15) (d := 25) (hg := rfl) (hf := fun h6 => Rn.s rfl (Yv.fa (off := 0)) (Rn.s rfl (Yv.ld (c4.at_ 0)) (Rn.s rfl (Yv.cmp _ rfl) (Rn.s rfl Yv.mv (Rn.and (is := [11, 12, 13, 14, 15]) (js := [16]) (t := 19) (d := 24) (hg := rfl) (ht := fun h10 => have h10 := eq_of_beq h10; Rn.s rfl (Yv.fa (off := 2)) (Rn.s rfl (Yv.ld (c4.at_ 2)) (Rn.s rfl Yv.mv (Rn.s rfl (Yv.cmp _ rfl) (Rn.s rfl Yv.pick_t ((Rn.e 5 rfl rfl))))))) (hf := fun _ => Rn.no rfl (Rn.no rfl (Rn.no rfl (Rn.no rfl (Rn.s rfl Yv.pick_f (Rn.e 5 rfl rfl)))))) (k := Rn.s rfl Yv.pick_f ((Rn.e 6 rfl rfl)))))))) (ht := fun _ => Rn.no rfl (Rn.no rfl (Rn.no rfl (Rn.no rfl (Rn.no rfl (Rn.no rfl (Rn.no rfl (Rn.no rfl (Rn.no rfl (Rn.s rfl Yv.pick_t (Rn.e 10 rfl rfl))))))))))) (k := Rn.s rfl Yv.as (Rn.nil)))))))))) ?_)
  exact Wp.ret (Fin.ret (Res.one rfl rfl) ⟨rfl, hsx1.keep⟩)
theorem blocks_calls (s : Bs) (deep : Int) (w0 : World) (hg : Gl w0) (w : World) (hk : Keep w0 w) : Calls Tryd.prog 13 #[S s, .int .i64 deep] w fun e w' => e = .returned (.bool true) ∧ Keep w w' := by
  have hg := hg.keep hk
  have hpc := parse_cx [102] s w hg
  have hlaw := fun k : Nat => blocks_all (s := s) (k := k)
  obtain ⟨N, F, hNF⟩ : ∃ N F, parseS [102] s = (N, F) := ⟨_, _, rfl⟩
  rw [hNF] at hpc hlaw
  simp only at hpc hlaw
  refine calls_of_Wp (vs := [_, _]) Tryd.func13 ?_
  refine Wp.seq (Wp.reads (is := [0]) (Keep.refl _) (Rn.s rfl Yv.as (Rn.nil)) ?_)
  refine Wp.seq (Wp.regionL (l := [0, 1, 2, 3, 4, 5, 6, 7]) (WO.rd (is := [0]) (js := [1, 2, 3, 4, 5, 6, 7]) (Keep.refl _) (Rn.s rfl Yv.mv (Rn.nil)) (WO.act (hc := rfl) (he := Ef.cx hpc (St.init w) (FnOk.of Tryd.func33) ?_))))
  rintro v D w1 ⟨A, c, rfl, rfl⟩ hs1
  refine WO.rd (is := [2, 3, 4]) (js := [5, 6, 7]) (Keep.refl _) (Rn.s rfl Yv.mv (Rn.s rfl Yv.ex (Rn.s rfl Yv.ex (Rn.nil)))) (WO.act (he := Ef.allocL (vs := ft0.cs) hs1 (fun b2 w2 k2 hs2 => WO.rd (is := [6]) (js := [7]) (Keep.refl _) (Rn.s rfl Yv.as (Rn.nil)) (WO.act (he := Ef.stores hs2 0 (fun w3 hs3 => WO.done ?_))))))
  have hst : St w [] w3 [Ch.cells b2 42 F.cs, Ch.row NdE 32 A c N] := hs3
  have hg3 := hg.keep hst.keep
  have c6 := hst.cells 0
  refine Wp.seq (Wp.seq (Wp.reads (is := [0, 1, 2, 3, 4, 5, 6, 7]) (Keep.refl _) (Rn.s rfl (Yv.fa (off := 0)) (Rn.s rfl (Yv.ld (c6.at_ 0)) (Rn.s rfl (Yv.cmp _ rfl) (Rn.s rfl Yv.mv (Rn.or (is := [4, 5, 6, 7]) (js := []) (t := 26) (d := 30) (hg := rfl) (hf := fun h3 => have h3 := bne_eq_false_iff_eq.1 h3; Rn.s rfl Yv.mv (Rn.s rfl Yv.len_s (Rn.s rfl (Yv.cmp _ rfl) (Rn.s rfl Yv.pick_f ((Rn.e 4 rfl rfl)))))) (ht := fun _ => Rn.no rfl (Rn.no rfl (Rn.no rfl (Rn.s rfl Yv.pick_t (Rn.e 4 rfl rfl))))) (k := Rn.nil)))))) ?_))
  refine Wp.cond rfl (fun h => ?_) (fun h => ?_)
  · refine Wp.seq (Wp.regionL (l := [0, 1]) (WO.cv rfl (awake4_cv w3 hg3) (Keep.refl _) (FnOk.of Tryd.func34) (fun wx1 kx1 => WO.rd (is := [1]) (js := []) ((Keep.refl _).trans kx1) (Rn.s rfl Yv.as (Rn.nil)) (WO.done ?_))))
    exact Wp.ret (Fin.ret (Res.one rfl rfl) ⟨rfl, hst.keep.trans (by assumption)⟩)
  simp only [Bool.or_eq_false_iff, bne_eq_false_iff_eq, decide_eq_false_iff_not] at h
  obtain ⟨hF, hsl⟩ := h
  have hsl : s.length ≤ 3000 := by omega
  refine Wp.skip (Wp.seq (Wp.seq (Wp.reads (is := [0, 1, 2, 3, 4, 5, 6, 7, 8, 9, 10]) (Keep.refl _) (Rn.s rfl Yv.mv (Rn.s rfl Yv.len_s (Rn.s rfl (Yv.cmp _ rfl) (Rn.s rfl Yv.mv (Rn.and (is := [4, 5, 6, 7, 8, 9, 10]) (js := []) (t := 35) (d := 42) (hg := rfl) (ht := fun h3 => have h3 := of_decide_eq_true h3; Rn.s rfl Yv.mv (Rn.s rfl Yv.mv (Rn.s rfl Yv.len_s (Rn.s rfl (Yv.sub (by unfold inI; omega)) (Rn.s rfl (Yv.ix (by omega) (by omega)) (Rn.s rfl (Yv.cmp _ rfl) (Rn.s rfl Yv.pick_t ((Rn.e 7 rfl rfl))))))))) (hf := fun _ => Rn.no rfl (Rn.no rfl (Rn.no rfl (Rn.no rfl (Rn.no rfl (Rn.no rfl (Rn.s rfl Yv.pick_f (Rn.e 7 rfl rfl)))))))) (k := Rn.nil)))))) ?_)))
  refine Wp.mid (fun ρ ds w' => ds = [] ∧ w' = w3 ∧ Sub [(0, S (endl s)), (1, .int .i64 deep)] ρ) ?_ ?_
  · refine Wp.cond rfl (fun h => ?_) (fun h => ?_)
    · refine Wp.reads (is := [0, 1, 2]) (Keep.refl _) (Rn.s rfl Yv.mv (Rn.s rfl (Yv.cat (by simp; omega)) (Rn.s rfl Yv.as (Rn.nil)))) ?_
      exact ⟨rfl, rfl, by rw [endl_t h]; rfl, rfl, trivial⟩
    · exact Wp.skip ⟨rfl, rfl, by rw [endl_f h]; rfl, rfl, trivial⟩
  rintro ρ ds w6 ⟨rfl, rfl, hs⟩
  refine Wp.forget _ ?_ hs
  have hel := endl_len s
  refine Wp.seq (Wp.reads (is := [0]) (Keep.refl _) (Rn.s rfl Yv.as (Rn.nil)) ?_)
  refine Wp.seq (Wp.seq (Wp.reads (is := [0]) (Keep.refl _) (Rn.s rfl Yv.as (Rn.nil)) ?_))
  refine Wp.block ?_
  refine Wp.loop (α := Nat) (fun i ρ ds w' => ds = [] ∧ i ≤ (endl s).length ∧ Keep w6 w' ∧ Sub [(0, S (endl s)), (1, .int .i64 deep), (7, .int .i64 (((endl s).take i).count 10 : Nat)), (8, .int .i64 (i : Int))] ρ) (fun i => (endl s).length - i) 0
    ⟨rfl, Nat.zero_le _, Keep.refl _, rfl, rfl, rfl, rfl, trivial⟩ ?_
  rintro i ρ ds w' ⟨rfl, hi, hkw, hs⟩
  refine Wp.forget _ ?_ hs
  have hcl : ((endl s).take i).count 10 ≤ i := Nat.le_trans List.count_le_length (by simp; omega)
  refine Wp.seq (Wp.seq (Wp.reads (is := [0, 1, 2, 3]) (Keep.refl _) (Rn.s rfl Yv.mv (Rn.s rfl Yv.mv (Rn.s rfl Yv.len_s (Rn.s rfl (Yv.cmp _ rfl) (Rn.nil))))) ?_))
  refine Wp.cond rfl (fun h3 => ?_) (fun h3 => ?_)
  · have h3 := of_decide_eq_true h3
    have hil : i < (endl s).length := by omega
    have hcs := count_step (endl s) i hil
    refine Wp.skip (Wp.seq (Wp.block ?_))
    refine Wp.seq (Wp.reads (is := [0, 1, 2, 3]) (Keep.refl _) (Rn.s rfl Yv.mv (Rn.s rfl Yv.mv (Rn.s rfl (Yv.ix (by omega) (by omega)) (Rn.s rfl (Yv.cmp _ rfl) (Rn.nil))))) ?_)
    refine Wp.mid (fun ρ ds w2 => ds = [] ∧ w2 = w' ∧ Sub [(0, S (endl s)), (1, .int .i64 deep), (7, .int .i64 (((endl s).take (i + 1)).count 10 : Nat)), (8, .int .i64 (i : Int))] ρ) ?_ ?_
    · refine Wp.cond rfl (fun h => ?_) (fun h => ?_)
      · have h := eq_of_beq h
        refine Wp.reads (is := [0, 1, 2]) (Keep.refl _) (Rn.s rfl Yv.mv (Rn.s rfl (Yv.add (by unfold inI; omega)) (Rn.s rfl Yv.as (Rn.nil)))) ?_
        refine ⟨rfl, rfl, rfl, rfl, ?_, rfl, trivial⟩
        rw [hcs, if_pos h]; rfl
      · have h := ne_of_beq_false h
        refine Wp.skip ⟨rfl, rfl, rfl, rfl, ?_, rfl, trivial⟩
        rw [hcs, if_neg h, Int.add_zero]; rfl
    rintro ρ ds w2 ⟨rfl, rfl, hs⟩
    refine Wp.forget _ ?_ hs
    refine Wp.reads (is := [0, 1, 2]) (Keep.refl _) (Rn.s rfl Yv.mv (Rn.s rfl (Yv.add (by unfold inI; omega)) (Rn.s rfl Yv.as (Rn.nil)))) ?_
    exact ⟨i + 1, ⟨rfl, hil, hkw, rfl, rfl, rfl, rfl, trivial⟩, by omega⟩
  have h3 := of_decide_eq_false h3
  rw [List.take_of_length_le (by omega)] at hcl
  rw [List.take_of_length_le (by omega)]
  refine Wp.exit ?_
  have hst : St w [] w' [Ch.cells b2 42 F.cs, Ch.row NdE 32 A c N] := hst.quiet hkw
  have hg5 := hg.keep hst.keep
  refine Wp.seq (Wp.seq (Wp.reads (is := [0, 1]) (Keep.refl _) (Rn.s rfl Yv.mv (Rn.s rfl (Yv.cmp _ rfl) (Rn.nil))) ?_))
  refine Wp.cond rfl (fun h4 => ?_) (fun h4 => ?_)
  · refine Wp.seq (Wp.regionL (l := [0, 1]) (WO.cv rfl (awake4_cv w' hg5) (Keep.refl _) (FnOk.of Tryd.func34) (fun wx1 kx1 => WO.rd (is := [1]) (js := []) ((Keep.refl _).trans kx1) (Rn.s rfl Yv.as (Rn.nil)) (WO.done ?_))))
    exact Wp.ret (Fin.ret (Res.one rfl rfl) ⟨rfl, hst.keep.trans (by assumption)⟩)
  have h4 := of_decide_eq_false h4
  obtain ⟨lb0, lb1⟩ := lowI_bd deep
  refine Wp.skip (Wp.seq (Wp.regionL (l := [0, 1, 2, 3, 4]) (WO.rd (is := [0]) (js := [1, 2, 3, 4]) (Keep.refl _) (Rn.s rfl Yv.mv (Rn.nil)) (WO.cv rfl (low_cv deep w') (Keep.refl _) (FnOk.of Tryd.func40) (fun wx1 kx1 => WO.rd (is := [2, 3, 4]) (js := []) ((Keep.refl _).trans kx1) (Rn.s rfl (Yv.rem (by omega) (by omega) (by omega)) (Rn.s rfl (Yv.add (by unfold inI; omega)) (Rn.s rfl Yv.as (Rn.nil)))) (WO.done ?_))))))
  obtain ⟨k, hkd⟩ : ∃ k : Nat, (2 : Int) + lowI deep % 6 = k := ⟨((2 : Int) + lowI deep % 6).toNat, by omega⟩
  have hk2 : 2 ≤ k := by omega
  have hk7 : k ≤ 7 := by omega
  rw [hkd]
  have hst := hst.quiet kx1
  refine Wp.seq (Wp.reads (is := [0, 1, 2]) (Keep.refl _) (Rn.s rfl Yv.mv (Rn.s rfl (Yv.ss_t (by omega) (by simp; omega)) (Rn.s rfl Yv.as (Rn.nil)))) ?_)
  have hpad : List.take (k : Int).toNat ([32, 32, 32, 32, 32, 32, 32] : Bs) = spc k := by
    rw [Int.toNat_natCast]
    have : k = 2 ∨ k = 3 ∨ k = 4 ∨ k = 5 ∨ k = 6 ∨ k = 7 := by omega
    rcases this with rfl | rfl | rfl | rfl | rfl | rfl <;> rfl
  rw [hpad]
  have hpl : (spc k).length = k := by unfold spc; simp
  obtain ⟨q, hq⟩ : ∃ q, q = (endl s).count 10 := ⟨_, rfl⟩
  obtain ⟨hA, hB, hC⟩ := hlaw k hk2 hk7 hsl (by omega) hF
  rw [← hq] at hA hB hC hcl h4 ⊢
  refine Wp.seq (Wp.reads (is := [0, 1, 2, 3, 4, 5]) (Keep.refl _) (Rn.s rfl Yv.mv (Rn.s rfl (Yv.cat (by simp; omega)) (Rn.s rfl Yv.mv (Rn.s rfl (Yv.cat (by simp; omega)) (Rn.s rfl (Yv.cat (by simp; omega)) (Rn.s rfl Yv.as (Rn.nil))))))) ?_)
  obtain ⟨AH, hAH⟩ : ∃ AH : Bs, AH = endl s ++ [34, 122, 122, 32, 48, 34, 58, 10] ++ spc k ++ [34, 122, 122, 32, 49, 34, 58, 32, 49, 10] := ⟨_, rfl⟩
  rw [← hAH]
  have hAl : AH.length ≤ 4000 := by rw [hAH]; simp; omega
  have eA : AH ++ spc k ++ [32, 98, 58, 32, 49, 10] = endl s ++ blk k (k + 1) zb := by
    rw [hAH]
    unfold blk spc
    rw [List.replicate_succ']
    simp
  have eB : AH ++ [32, 98, 58, 32, 49, 10] = endl s ++ blk k 1 zb := by
    rw [hAH]
    unfold blk spc
    simp
  have eC : AH ++ spc k ++ [45, 32, 49, 10] = endl s ++ blk k k zi := by
    rw [hAH]
    unfold blk spc
    simp
  obtain ⟨FA, hFA⟩ : ∃ FA, FA = (parseS [102] (endl s ++ blk k (k + 1) zb)).2 := ⟨_, rfl⟩
  obtain ⟨FB, hFB⟩ : ∃ FB, FB = (parseS [102] (endl s ++ blk k 1 zb)).2 := ⟨_, rfl⟩
  obtain ⟨FC, hFC⟩ : ∃ FC, FC = (parseS [102] (endl s ++ blk k k zi)).2 := ⟨_, rfl⟩
  rw [← hFA] at hA
  rw [← hFB] at hB
  rw [← hFC] at hC
  have hpA := parse_cx [102] (AH ++ spc k ++ [32, 98, 58, 32, 49, 10]) wx1 (hg.keep hst.keep)
  rw [eA, ← hFA, ← eA] at hpA
  refine Wp.seq (Wp.regionL (l := [0, 1, 2, 3, 4, 5, 6, 7, 8, 9, 10]) (WO.rd (is := [0, 1, 2, 3]) (js := [4, 5, 6, 7, 8, 9, 10]) (Keep.refl _) (Rn.s rfl Yv.mv (Rn.s rfl Yv.mv (Rn.s rfl (Yv.cat (by omega)) (Rn.s rfl (Yv.cat (by simp; omega)) (Rn.nil))))) (WO.act (hc := rfl) (he := Ef.cx hpA hst (FnOk.of Tryd.func33) ?_))))
  rintro v D w7 ⟨A2, c2, rfl, rfl⟩ hs7
  refine WO.rd (is := [5, 6, 7]) (js := [8, 9, 10]) (Keep.refl _) (Rn.s rfl Yv.mv (Rn.s rfl Yv.ex (Rn.s rfl Yv.ex (Rn.nil)))) (WO.act (he := Ef.allocL (vs := ft0.cs) hs7 (fun b8 w8 k8 hs8 => WO.rd (is := [9]) (js := [10]) (Keep.refl _) (Rn.s rfl Yv.as (Rn.nil)) (WO.act (he := Ef.stores hs8 0 (fun w9 hs9 => WO.done ?_))))))
  have hst : St w [] w9 [Ch.cells b8 42 FA.cs] := hs9.pick [0]
  have hpB := parse_cx [102] (AH ++ [32, 98, 58, 32, 49, 10]) w9 (hg.keep hst.keep)
  rw [eB, ← hFB, ← eB] at hpB
  refine Wp.seq (Wp.regionL (l := [0, 1, 2, 3, 4, 5, 6, 7, 8]) (WO.rd (is := [0, 1]) (js := [2, 3, 4, 5, 6, 7, 8]) (Keep.refl _) (Rn.s rfl Yv.mv (Rn.s rfl (Yv.cat (by simp; omega)) (Rn.nil))) (WO.act (hc := rfl) (he := Ef.cx hpB hst (FnOk.of Tryd.func33) ?_))))
  rintro v D w10 ⟨A3, c3, rfl, rfl⟩ hs10
  refine WO.rd (is := [3, 4, 5]) (js := [6, 7, 8]) (Keep.refl _) (Rn.s rfl Yv.mv (Rn.s rfl Yv.ex (Rn.s rfl Yv.ex (Rn.nil)))) (WO.act (he := Ef.allocL (vs := ft0.cs) hs10 (fun b11 w11 k11 hs11 => WO.rd (is := [7]) (js := [8]) (Keep.refl _) (Rn.s rfl Yv.as (Rn.nil)) (WO.act (he := Ef.stores hs11 0 (fun w12 hs12 => WO.done ?_))))))
  have hst : St w [] w12 [Ch.cells b11 42 FB.cs, Ch.cells b8 42 FA.cs] := hs12.pick [0, 2]
  have hpC := parse_cx [102] (AH ++ spc k ++ [45, 32, 49, 10]) w12 (hg.keep hst.keep)
  rw [eC, ← hFC, ← eC] at hpC
  refine Wp.seq (Wp.regionL (l := [0, 1, 2, 3, 4, 5, 6, 7, 8, 9, 10]) (WO.rd (is := [0, 1, 2, 3]) (js := [4, 5, 6, 7, 8, 9, 10]) (Keep.refl _) (Rn.s rfl Yv.mv (Rn.s rfl Yv.mv (Rn.s rfl (Yv.cat (by omega)) (Rn.s rfl (Yv.cat (by simp; omega)) (Rn.nil))))) (WO.act (hc := rfl) (he := Ef.cx hpC hst (FnOk.of Tryd.func33) ?_))))
  rintro v D w13 ⟨A4, c4, rfl, rfl⟩ hs13
  refine WO.rd (is := [5, 6, 7]) (js := [8, 9, 10]) (Keep.refl _) (Rn.s rfl Yv.mv (Rn.s rfl Yv.ex (Rn.s rfl Yv.ex (Rn.nil)))) (WO.act (he := Ef.allocL (vs := ft0.cs) hs13 (fun b14 w14 k14 hs14 => WO.rd (is := [9]) (js := [10]) (Keep.refl _) (Rn.s rfl Yv.as (Rn.nil)) (WO.act (he := Ef.stores hs14 0 (fun w15 hs15 => WO.done ?_))))))
  have hst : St w [] w15 [Ch.cells b14 42 FC.cs, Ch.cells b11 42 FB.cs, Ch.cells b8 42 FA.cs] := hs15.pick [0, 2, 3]
  have d1 := hst.cells 0
  have d2 := hst.cells 1
  have d3 := hst.cells 2
  have hgz := hg.keep hst.keep
  have cA : ∀ w0, Cv Tryd.prog 41 [.agg FA.cs.toArray, .int .i64 40, .int .i64 ((q : Int) + 3), .int .i64 ((k : Int) + 2)] (.bool true) w0 := fun w0 => by rw [← hA]; exact fault_cv FA 40 _ _ w0
  have cB : ∀ w0, Cv Tryd.prog 41 [.agg FB.cs.toArray, .int .i64 40, .int .i64 ((q : Int) + 3), .int .i64 2] (.bool true) w0 := fun w0 => by rw [← hB]; exact fault_cv FB 40 _ _ w0
  have cC : ∀ w0, Cv Tryd.prog 41 [.agg FC.cs.toArray, .int .i64 41, .int .i64 ((q : Int) + 3), .int .i64 ((k : Int) + 1)] (.bool true) w0 := fun w0 => by rw [← hC]; exact fault_cv FC 41 _ _ w0
  refine Wp.seq (Wp.regionL (l := [0, 1, 2, 3, 4, 5, 6, 7, 8, 9, 10, 11, 12, 13, 14, 15, 16, 17, 18, 19, 20, 21, 22, 23]) (WO.rd (is := [0, 1, 2, 3, 4]) (js := [5, 6, 7, 8, 9, 10, 11, 12, 13, 14, 15, 16, 17, 18, 19, 20, 21, 22, 23]) (Keep.refl _) (Rn.s rfl (Yv.ldb d3) (Rn.s rfl Yv.mv (Rn.s rfl (Yv.add (by unfold inI; omega)) (Rn.s rfl Yv.mv (Rn.s rfl (Yv.add (by unfold inI; omega)) (Rn.nil)))))) (WO.cv rfl (cA w15) (Keep.refl _) (FnOk.of Tryd.func41) (fun wv1 kv1 => WO.rd (is := [6]) (js := [7, 8, 9, 10, 11, 12, 13, 14, 15, 16, 17, 18, 19, 20, 21, 22, 23]) ((Keep.refl _).trans kv1) (Rn.s rfl Yv.mv (Rn.nil)) (WO.and (js := [12, 13, 14, 15, 16, 17, 18, 19, 20, 21, 22, 23]) 99 104 (hg := rfl) (ht := fun h6 qv2 => WO.rd (is := [7, 8, 9]) (js := [10, 11, 12, 13, 14, 15, 16, 17, 18, 19, 20, 21, 22, 23]) ((Keep.refl _).trans kv1) (Rn.s rfl (Yv.ldb d2) (Rn.s rfl Yv.mv (Rn.s rfl (Yv.add (by unfold inI; omega)) (Rn.nil)))) (WO.cv rfl (cB _) ((Keep.refl _).trans kv1) (FnOk.of Tryd.func41) (fun wv3 kv3 => WO.rd (is := [11]) (js := [12, 13, 14, 15, 16, 17, 18, 19, 20, 21, 22, 23]) (((Keep.refl _).trans kv1).trans kv3) (Rn.s rfl Yv.pick_t (Rn.nil)) (WO.e 5 (qv2 _ ((Keep.refl _).trans kv3)))))) (hf := fun _ qv2 => WO.rd (is := [7, 8, 9, 10, 11]) (js := [12, 13, 14, 15, 16, 17, 18, 19, 20, 21, 22, 23]) ((Keep.refl _).trans kv1) (Rn.no rfl (Rn.no rfl (Rn.no rfl (Rn.no rfl (Rn.s rfl Yv.pick_f Rn.nil))))) (WO.e 5 (qv2 _ (Keep.refl _)))) (k := fun wv2 kv2 => WO.rd (is := [12]) (js := [13, 14, 15, 16, 17, 18, 19, 20, 21, 22, 23]) (((Keep.refl _).trans kv1).trans kv2) (Rn.s rfl Yv.mv (Rn.nil)) (WO.and (js := [20, 21, 22, 23]) 105 112 (hg := rfl) (ht := fun h12 qv4 => WO.rd (is := [13, 14, 15, 16, 17]) (js := [18, 19, 20, 21, 22, 23]) (((Keep.refl _).trans kv1).trans kv2) (Rn.s rfl (Yv.ldb d1) (Rn.s rfl Yv.mv (Rn.s rfl (Yv.add (by unfold inI; omega)) (Rn.s rfl Yv.mv (Rn.s rfl (Yv.add (by unfold inI; omega)) (Rn.nil)))))) (WO.cv rfl (cC _) (((Keep.refl _).trans kv1).trans kv2) (FnOk.of Tryd.func41) (fun wv5 kv5 => WO.rd (is := [19]) (js := [20, 21, 22, 23]) ((((Keep.refl _).trans kv1).trans kv2).trans kv5) (Rn.s rfl Yv.pick_t (Rn.nil)) (WO.e 7 (qv4 _ ((Keep.refl _).trans kv5)))))) (hf := fun _ qv4 => WO.rd (is := [13, 14, 15, 16, 17, 18, 19]) (js := [20, 21, 22, 23]) (((Keep.refl _).trans kv1).trans kv2) (Rn.no rfl (Rn.no rfl (Rn.no rfl (Rn.no rfl (Rn.no rfl (Rn.no rfl (Rn.s rfl Yv.pick_f Rn.nil))))))) (WO.e 7 (qv4 _ (Keep.refl _)))) (k := fun wv4 kv4 => WO.rd (is := [20]) (js := [21, 22, 23]) ((((Keep.refl _).trans kv1).trans kv2).trans kv4) (Rn.s rfl Yv.mv (Rn.nil)) (WO.and (js := [23]) 113 115 (hg := rfl) (ht := fun h20 qv6 => WO.cv rfl (awake4_cv w15 hgz) ((((Keep.refl _).trans kv1).trans kv2).trans kv4) (FnOk.of Tryd.func34) (fun wv7 kv7 => WO.rd (is := [22]) (js := [23]) (((((Keep.refl _).trans kv1).trans kv2).trans kv4).trans kv7) (Rn.s rfl Yv.pick_t (Rn.nil)) (WO.e 2 (qv6 _ ((Keep.refl _).trans kv7))))) (hf := fun _ qv6 => WO.rd (is := [21, 22]) (js := [23]) ((((Keep.refl _).trans kv1).trans kv2).trans kv4) (Rn.no rfl (Rn.s rfl Yv.pick_f Rn.nil)) (WO.e 2 (qv6 _ (Keep.refl _)))) (k := fun wv6 kv6 => WO.rd (is := [23]) (js := []) (((((Keep.refl _).trans kv1).trans kv2).trans kv4).trans kv6) (Rn.s rfl Yv.as (Rn.nil)) (WO.done ?_)))))))))))
  refine Wp.ret (Fin.ret (Res.one rfl rfl) ⟨?_, hst.keep.trans (((kv1.trans kv2).trans kv4).trans kv6)⟩)
  simp
end Go.Proofs.YtbmplmehofgocaaDoor.C
