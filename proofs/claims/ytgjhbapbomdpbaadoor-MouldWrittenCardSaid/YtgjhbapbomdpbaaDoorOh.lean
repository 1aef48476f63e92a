/- MouldWritten, walked. -/
import Derived.Test.YtgjhbapbomdpbaaDoorOe
import Derived.Test.YtgjhbapbomdpbaaDoorOg
set_option linter.unusedVariables false
set_option linter.unusedSimpArgs false
set_option maxRecDepth 10000
namespace Go.Proofs.YtgjhbapbomdpbaaDoor.C
open Go.RowKit Go.Proofs.YtgjhbapbomdpbaaDoor.Sh
theorem parseS_isT {file s : Bs} (h : (parseS file s).2.code = 0) : isS (parseS file s).1 = true := by
  obtain ⟨l1, l2, l3⟩ := parseS_law file s
  by_cases he : (linesS s).e = 0
  · exact (l3 he h).2.1
  · rw [l1 he] at h
    exact absurd h he
def okT (t : List Nd) : Prop := getS t [kExt] < 0 ∧ ∀ n ∈ t, n.depth ≤ 29
set_option maxHeartbeats 3200000 in
theorem written_calls (sd sp sj : Bs) (own : Bool) (w0 : World) (hg : Gl w0) (w : World) (hk : Keep w0 w) : Calls Tryd.prog 8 #[S sd, S sp, S sj, .bool own] w fun e w' => e = .returned (.bool true) ∧ Keep w w' := by
  have hg := hg.keep hk
  refine calls_of_Wp (vs := [_, _, _, _]) Tryd.func8 ?_
  refine Wp.seq (Wp.reads (is := [0]) (Keep.refl _) (Rn.s rfl Yv.as (Rn.nil)) ?_)
  obtain ⟨N1, F1, h1⟩ : ∃ N F, parseS [102] sd = (N, F) := ⟨_, _, rfl⟩
  obtain ⟨N2, F2, h2⟩ : ∃ N F, parseS [102] sp = (N, F) := ⟨_, _, rfl⟩
  obtain ⟨N3, F3, h3⟩ : ∃ N F, parseS [102] sj = (N, F) := ⟨_, _, rfl⟩
  have i1 : F1.code = 0 → isS N1 = true := fun h => by have := parseS_isT (file := [102]) (s := sd); rw [h1] at this; exact this h
  have i2 : F2.code = 0 → isS N2 = true := fun h => by have := parseS_isT (file := [102]) (s := sp); rw [h2] at this; exact this h
  have i3 : F3.code = 0 → isS N3 = true := fun h => by have := parseS_isT (file := [102]) (s := sj); rw [h3] at this; exact this h
  have l1 := parseS_len [102] sd
  have l2 := parseS_len [102] sp
  have l3 := parseS_len [102] sj
  rw [h1] at l1
  rw [h2] at l2
  rw [h3] at l3
  simp only at l1 l2 l3
  have hp1 := parse_cx [102] sd w hg.toGm
  rw [h1] at hp1
  dsimp only at hp1
  refine Wp.seq (Wp.regionL (l := [0, 1, 2, 3, 4, 5, 6, 7]) (WO.rd (is := [0]) (js := [1, 2, 3, 4, 5, 6, 7]) (Keep.refl _) (Rn.s rfl Yv.mv (Rn.nil)) (WO.act (hc := rfl) (he := Ef.cx hp1 (St.init w) (FnOk.of Tryd.func21) ?_))))
  rintro v D w1 ⟨A1, c1, rfl, rfl⟩ hs1
  refine WO.rd (is := [2, 3, 4]) (js := [5, 6, 7]) (Keep.refl _) (Rn.s rfl Yv.mv (Rn.s rfl Yv.ex (Rn.s rfl Yv.ex (Rn.nil)))) (WO.act (he := Ef.allocL (vs := ft0.cs) hs1 (fun b1 w2 k2 hs2 => WO.rd (is := [6]) (js := [7]) (Keep.refl _) (Rn.s rfl Yv.as (Rn.nil)) (WO.act (he := Ef.stores hs2 0 (fun w3 hs3 => WO.done ?_))))))
  have hst : St w [] w3 [Ch.cells b1 27 F1.cs, Ch.row NdE 48 A1 c1 N1] := hs3
  clear hs1 hs2 hs3
  have hp2 := parse_cx [102] sp w3 (hg.keep hst.keep).toGm
  rw [h2] at hp2
  dsimp only at hp2
  refine Wp.seq (Wp.regionL (l := [0, 1, 2, 3, 4, 5, 6, 7]) (WO.rd (is := [0]) (js := [1, 2, 3, 4, 5, 6, 7]) (Keep.refl _) (Rn.s rfl Yv.mv (Rn.nil)) (WO.act (hc := rfl) (he := Ef.cx hp2 hst (FnOk.of Tryd.func21) ?_))))
  rintro v D w4 ⟨A2, c2, rfl, rfl⟩ hs1
  refine WO.rd (is := [2, 3, 4]) (js := [5, 6, 7]) (Keep.refl _) (Rn.s rfl Yv.mv (Rn.s rfl Yv.ex (Rn.s rfl Yv.ex (Rn.nil)))) (WO.act (he := Ef.allocL (vs := ft0.cs) hs1 (fun b2 w5 k2 hs2 => WO.rd (is := [6]) (js := [7]) (Keep.refl _) (Rn.s rfl Yv.as (Rn.nil)) (WO.act (he := Ef.stores hs2 0 (fun w6 hs3 => WO.done ?_))))))
  have hst : St w [] w6 [Ch.cells b2 27 F2.cs, Ch.row NdE 48 A2 c2 N2, Ch.cells b1 27 F1.cs, Ch.row NdE 48 A1 c1 N1] := hs3
  clear hs1 hs2 hs3
  have hp3 := parse_cx [102] sj w6 (hg.keep hst.keep).toGm
  rw [h3] at hp3
  dsimp only at hp3
  refine Wp.seq (Wp.regionL (l := [0, 1, 2, 3, 4, 5, 6, 7]) (WO.rd (is := [0]) (js := [1, 2, 3, 4, 5, 6, 7]) (Keep.refl _) (Rn.s rfl Yv.mv (Rn.nil)) (WO.act (hc := rfl) (he := Ef.cx hp3 hst (FnOk.of Tryd.func21) ?_))))
  rintro v D w7 ⟨A3, c3, rfl, rfl⟩ hs1
  refine WO.rd (is := [2, 3, 4]) (js := [5, 6, 7]) (Keep.refl _) (Rn.s rfl Yv.mv (Rn.s rfl Yv.ex (Rn.s rfl Yv.ex (Rn.nil)))) (WO.act (he := Ef.allocL (vs := ft0.cs) hs1 (fun b3 w8 k2 hs2 => WO.rd (is := [6]) (js := [7]) (Keep.refl _) (Rn.s rfl Yv.as (Rn.nil)) (WO.act (he := Ef.stores hs2 0 (fun w9 hs3 => WO.done ?_))))))
  have hst : St w [] w9 [Ch.cells b3 27 F3.cs, Ch.row NdE 48 A3 c3 N3, Ch.cells b2 27 F2.cs, Ch.row NdE 48 A2 c2 N2, Ch.cells b1 27 F1.cs, Ch.row NdE 48 A1 c1 N1] := hs3
  clear hs1 hs2 hs3
  have c10 := hst.cells 4
  have c12 := hst.cells 2
  have c14 := hst.cells 0
  have hg9 := hg.keep hst.keep
  refine Wp.seq (Wp.seq (Wp.reads (is := [0, 1, 2, 3, 4, 5, 6, 7, 8, 9, 10, 11, 12, 13, 14, 15, 16, 17, 18, 19, 20, 21, 22, 23]) (Keep.refl _) (Rn.s rfl (Yv.fa (off := 0)) (Rn.s rfl (Yv.ld (c10.at_ 0)) (Rn.s rfl (Yv.cmp _ rfl) (Rn.s rfl Yv.mv (Rn.or (is := [4, 5, 6, 7]) (js := [8, 9, 10, 11, 12, 13, 14, 15, 16, 17, 18, 19, 20, 21, 22, 23]) (t := 41) (d := 45) (hg := rfl) (hf := fun h3 => have h3 := bne_eq_false_iff_eq.1 h3; Rn.s rfl (Yv.fa (off := 0)) (Rn.s rfl (Yv.ld (c12.at_ 0)) (Rn.s rfl (Yv.cmp _ rfl) (Rn.s rfl Yv.pick_f ((Rn.e 4 rfl rfl)))))) (ht := fun _ => Rn.no rfl (Rn.no rfl (Rn.no rfl (Rn.s rfl Yv.pick_t (Rn.e 4 rfl rfl))))) (k := Rn.s rfl Yv.mv (Rn.or (is := [9, 10, 11, 12]) (js := [13, 14, 15, 16, 17, 18, 19, 20, 21, 22, 23]) (t := 46) (d := 50) (hg := rfl) (hf := fun h8 => Rn.s rfl (Yv.fa (off := 0)) (Rn.s rfl (Yv.ld (c14.at_ 0)) (Rn.s rfl (Yv.cmp _ rfl) (Rn.s rfl Yv.pick_f ((Rn.e 4 rfl rfl)))))) (ht := fun _ => Rn.no rfl (Rn.no rfl (Rn.no rfl (Rn.s rfl Yv.pick_t (Rn.e 4 rfl rfl))))) (k := Rn.s rfl Yv.mv (Rn.or (is := [14, 15, 16, 17, 18, 19, 20, 21, 22, 23]) (js := []) (t := 51) (d := 61) (hg := rfl) (hf := fun h13 => Rn.s rfl Yv.mv (Rn.s rfl (Yv.len_v (e := 48) (m := 8)) (Rn.s rfl Yv.mv (Rn.s rfl (Yv.len_v (e := 48) (m := 8)) (Rn.s rfl (Yv.add (by unfold inI; omega)) (Rn.s rfl Yv.mv (Rn.s rfl (Yv.len_v (e := 48) (m := 8)) (Rn.s rfl (Yv.add (by unfold inI; omega)) (Rn.s rfl (Yv.cmp _ rfl) (Rn.s rfl Yv.pick_f ((Rn.e 10 rfl rfl)))))))))))) (ht := fun _ => Rn.no rfl (Rn.no rfl (Rn.no rfl (Rn.no rfl (Rn.no rfl (Rn.no rfl (Rn.no rfl (Rn.no rfl (Rn.no rfl (Rn.s rfl Yv.pick_t (Rn.e 10 rfl rfl))))))))))) (k := Rn.nil)))))))))) ?_))
  refine Wp.cond rfl (fun h => ?_) (fun h => ?_)
  · refine Wp.seq (Wp.regionL (l := [0, 1]) (WO.cv rfl (awake9_cv w9 hg9.toGm) (Keep.refl _) (FnOk.of Tryd.func26) (fun wx1 kx1 => WO.rd (is := [1]) (js := []) ((Keep.refl _).trans kx1) (Rn.s rfl Yv.as (Rn.nil)) (WO.done ?_))))
    exact Wp.ret (Fin.ret (Res.one rfl rfl) ⟨rfl, hst.keep.trans kx1⟩)
  simp only [Bool.or_eq_false_iff, decide_eq_false_iff_not, bne_eq_false_iff_eq] at h
  obtain ⟨⟨⟨z1, z2⟩, z3⟩, z4⟩ := h
  have i1 := i1 z1
  have i2 := i2 z2
  have i3 := i3 z3
  have hl : N1.length + N2.length + N3.length ≤ 500 := by omega
  obtain ⟨L, hL⟩ : ∃ L : List Tr, L = [(A1, c1, N1), (A2, c2, N2), (A3, c3, N3)] := ⟨_, rfl⟩
  refine Wp.skip ?_
  refine Wp.seq (Wp.regionL (l := [0, 1, 2, 3, 4]) (WO.rd (is := [0, 1, 2]) (js := [3, 4]) (Keep.refl _) (Rn.s rfl Yv.mv (Rn.s rfl Yv.mv (Rn.s rfl Yv.mv (Rn.nil)))) (WO.act (hc := rfl) (he := Ef.bsl (T := 43) TsE [(A1, c1, N1), (A2, c2, N2), (A3, c3, N3)] hst (fun ba1 wa1 ka1 hsa1 => WO.rd (is := [4]) (js := []) ((Keep.refl _).trans ka1) (Rn.s rfl Yv.as (Rn.nil)) (WO.done ?_))))))
  have hst : St w [] wa1 [Ch.row TsE 43 (some ⟨ba1, 0, none⟩) 3 [(A1, c1, N1), (A2, c2, N2), (A3, c3, N3)], Ch.cells b3 27 F3.cs, Ch.row NdE 48 A3 c3 N3, Ch.cells b2 27 F2.cs, Ch.row NdE 48 A2 c2 N2, Ch.cells b1 27 F1.cs, Ch.row NdE 48 A1 c1 N1] := hsa1
  clear hsa1 c10 c12 c14
  have hk0 := hst.keep
  have rT : Rd TsE wa1 (some ⟨ba1, 0, none⟩) L := by rw [hL]; exact hst.rd 0
  have r1 := hst.rd 6
  have r2 := hst.rd 4
  have r3 := hst.rd 2
  have k1 := hst.cap 6
  have k2 := hst.cap 4
  have k3 := hst.cap 2
  clear hst
  have hLl : L.length = 3 := by rw [hL]; rfl
  have hmem : ∀ i : Nat, i < 3 → nth L (i : Int) ∈ L := fun i hi => by rw [nth_of (List.getElem?_eq_getElem (show i < L.length by omega))]; exact List.getElem_mem _
  have hrd : ∀ x ∈ L, Rd NdE wa1 x.1 x.2.2 ∧ x.2.2.length ≤ x.2.1 ∧ isS x.2.2 = true ∧ x.2.2.length ≤ 500 := by
    intro x hx
    rw [hL] at hx
    simp only [List.mem_cons, List.not_mem_nil, or_false] at hx
    rcases hx with rfl | rfl | rfl
    · exact ⟨r1, k1, i1, by show N1.length ≤ 500; omega⟩
    · exact ⟨r2, k2, i2, by show N2.length ≤ 500; omega⟩
    · exact ⟨r3, k3, i3, by show N3.length ≤ 500; omega⟩
  have hga := hg.keep hk0
  have e3 : (3 : Nat) = L.length := hLl.symm
  refine Wp.forget [(3, .bool own), (9, .slice A1 N1.length c1), (11, .slice A2 N2.length c2), (13, .slice A3 N3.length c3), (15, .slice (some ⟨ba1, 0, none⟩) L.length 3)] ?_ ⟨rfl, rfl, rfl, rfl, by rw [hLl]; rfl, trivial⟩
  refine Wp.seq (Wp.seq (Wp.reads (is := [0]) (Keep.refl _) (Rn.s rfl Yv.as (Rn.nil)) ?_))
  refine Wp.block ?_
  refine Wp.loop (α := Nat) (fun i ρ ds w' => ds = [] ∧ Keep wa1 w' ∧ i ≤ 3 ∧ (∀ j : Nat, j < i → okT (nth L (j : Int)).2.2) ∧ Sub [(3, .bool own), (9, .slice A1 N1.length c1), (11, .slice A2 N2.length c2), (13, .slice A3 N3.length c3), (15, .slice (some ⟨ba1, 0, none⟩) L.length 3), (16, .int .i64 (i : Int))] ρ) (fun i => 3 - i) 0
    ⟨rfl, Keep.refl _, Nat.zero_le _, fun j hj => absurd hj (Nat.not_lt_zero j), rfl, rfl, rfl, rfl, rfl, rfl, trivial⟩ ?_
  rintro i ρ ds w' ⟨rfl, hk1, hi, hall, hsub⟩
  refine Wp.forget _ ?_ hsub
  clear hsub ρ
  refine Wp.seq (Wp.seq (Wp.reads (is := [0, 1]) (Keep.refl _) (Rn.s rfl Yv.mv (Rn.s rfl (Yv.cmp _ rfl) (Rn.nil))) ?_))
  refine Wp.cond rfl (fun h => ?_) (fun h => ?_)
  · have h := of_decide_eq_true h
    have hi3 : i < 3 := by omega
    obtain ⟨q1, q2, q3, q4⟩ := hrd _ (hmem i hi3)
    obtain ⟨x, hx⟩ : ∃ x, x = nth L (i : Int) := ⟨_, rfl⟩
    have rT' := rT.keep hk1
    rw [← hx] at q1 q2 q3 q4
    have q1' := q1.keep hk1
    have hg' := hga.keep hk1
    refine Wp.skip (Wp.seq (Wp.block ?_))
    refine Wp.seq (Wp.seq (Wp.regionL (l := [0, 1, 2, 3, 4, 5, 6]) (WO.rd (is := [0, 1, 2, 3]) (js := [4, 5, 6]) (Keep.refl _) (Rn.s rfl Yv.mv (Rn.s rfl Yv.mv (Rn.s rfl (Yv.ia (e := 43) rT' (by omega) (by omega)) (Rn.s rfl (Yv.ld (rT'.ld 0 (by omega) (by omega))) (Rn.nil))))) (WO.act (hc := rfl) (he := Ef.bsl (T := 9) StE [kExt] (St.init w') (fun bx1 wx1 kx1 hsx1 => WO.cv rfl (get_cv (nth L (i : Int)).1 (nth L (i : Int)).2.1 (nth L (i : Int)).2.2 _ _ [kExt] wx1 (hg'.keep kx1) (by rw [← hx]; exact q1'.keep kx1) (hsx1.rd 0) (by decide)) (Keep.refl _) (FnOk.of Tryd.func22) (fun wx2 kx2 => WO.rd (is := [6]) (js := []) (((Keep.refl _).trans kx1).trans kx2) (Rn.s rfl (Yv.cmp _ rfl) (Rn.nil)) (WO.done ?_))))))))
    have hk2 := hk1.trans (kx1.trans kx2)
    refine Wp.cond rfl (fun h4 => ?_) (fun h4 => ?_)
    · refine Wp.seq (Wp.regionL (l := [0, 1]) (WO.cv rfl (awake9_cv _ (hga.keep hk2).toGm) (Keep.refl _) (FnOk.of Tryd.func26) (fun wy1 ky1 => WO.rd (is := [1]) (js := []) ((Keep.refl _).trans ky1) (Rn.s rfl Yv.as (Rn.nil)) (WO.done ?_))))
      exact Wp.ret (Fin.ret (Res.one rfl rfl) ⟨rfl, hk0.trans (hk2.trans ky1)⟩)
    have h4 := of_decide_eq_false h4
    refine Wp.skip (Wp.seq (Wp.reads (is := [0]) (Keep.refl _) (Rn.s rfl Yv.as (Rn.nil)) ?_))
    refine Wp.block ?_
    have rT2 := rT.keep hk2
    refine Wp.loop (α := Nat) (fun m ρ ds w' => ds = [] ∧ wx2 = w' ∧ m ≤ x.2.2.length ∧ (∀ j : Nat, j < m → (nth x.2.2 (j : Int)).depth ≤ 29) ∧ Sub [(3, .bool own), (9, .slice A1 N1.length c1), (11, .slice A2 N2.length c2), (13, .slice A3 N3.length c3), (15, .slice (some ⟨ba1, 0, none⟩) L.length 3), (16, .int .i64 (i : Int)), (17, .int .i64 (m : Int))] ρ) (fun m => x.2.2.length - m) 0
      ⟨rfl, rfl, Nat.zero_le _, fun j hj => absurd hj (Nat.not_lt_zero j), rfl, rfl, rfl, rfl, rfl, rfl, rfl, trivial⟩ ?_
    rintro m ρ ds w' ⟨rfl, rfl, hm, hdp, hsub⟩
    refine Wp.forget _ ?_ hsub
    clear hsub ρ
    refine Wp.seq (Wp.seq (Wp.reads (is := [0, 1, 2, 3, 4, 5, 6]) (Keep.refl _) (Rn.s rfl Yv.mv (Rn.s rfl Yv.mv (Rn.s rfl Yv.mv (Rn.s rfl (Yv.ia (e := 43) rT2 (by omega) (by omega)) (Rn.s rfl (Yv.ld (rT2.ld 0 (by omega) (by omega))) (Rn.s rfl (Yv.len_v (e := 48) (m := 8)) (Rn.s rfl (Yv.cmp _ rfl) (Rn.nil)))))))) ?_))
    refine Wp.cond rfl (fun h5 => ?_) (fun h5 => ?_)
    · have h5 := of_decide_eq_true h5
      rw [← hx] at h5
      have q2' := q1.keep hk2
      have q3' : Rd NdE wx2 (nth L (i : Int)).1 (nth L (i : Int)).2.2 := by rw [← hx]; exact q2'
      refine Wp.skip (Wp.seq (Wp.block ?_))
      refine Wp.seq (Wp.reads (is := [0, 1, 2, 3, 4, 5, 6, 7, 8]) (Keep.refl _) (Rn.s rfl Yv.mv (Rn.s rfl Yv.mv (Rn.s rfl (Yv.ia (e := 43) rT2 (by omega) (by omega)) (Rn.s rfl (Yv.ld (rT2.ld 0 (by omega) (by omega))) (Rn.s rfl Yv.mv (Rn.s rfl (Yv.ia (e := 48) q3' (by omega) (by rw [← hx]; omega)) (Rn.s rfl (Yv.fa (off := 1)) (Rn.s rfl (Yv.ld (q3'.ld 1 (by omega) (by rw [← hx]; omega))) (Rn.s rfl (Yv.cmp _ rfl) (Rn.nil)))))))))) ?_)
      refine Wp.cond rfl (fun h6 => ?_) (fun h6 => ?_)
      · refine Wp.seq (Wp.regionL (l := [0, 1]) (WO.cv rfl (awake9_cv _ (hga.keep hk2).toGm) (Keep.refl _) (FnOk.of Tryd.func26) (fun wy1 ky1 => WO.rd (is := [1]) (js := []) ((Keep.refl _).trans ky1) (Rn.s rfl Yv.as (Rn.nil)) (WO.done ?_))))
        exact Wp.ret (Fin.ret (Res.one rfl rfl) ⟨rfl, hk0.trans (hk2.trans ky1)⟩)
      · have h6 := of_decide_eq_false h6
        rw [← hx] at h6
        refine Wp.skip (Wp.reads (is := [0, 1, 2]) (Keep.refl _) (Rn.s rfl Yv.mv (Rn.s rfl (Yv.add (by unfold inI; omega)) (Rn.s rfl Yv.as (Rn.nil)))) ?_)
        refine ⟨m + 1, ⟨rfl, rfl, by omega, fun j hj => ?_, rfl, rfl, rfl, rfl, rfl, rfl, rfl, trivial⟩, by omega⟩
        by_cases hji : j = m
        · subst hji; omega
        · exact hdp j (by omega)
    · have h5 := of_decide_eq_false h5
      rw [← hx] at h5
      refine Wp.exit ?_
      refine Wp.reads (is := [0, 1, 2]) (Keep.refl _) (Rn.s rfl Yv.mv (Rn.s rfl (Yv.add (by unfold inI; omega)) (Rn.s rfl Yv.as (Rn.nil)))) ?_
      refine ⟨i + 1, ⟨rfl, hk2, by omega, fun j hj => ?_, rfl, rfl, rfl, rfl, rfl, rfl, trivial⟩, by omega⟩
      by_cases hji : j = i
      · subst hji
        rw [← hx]
        refine ⟨by rw [← hx] at h4; omega, fun n hn => ?_⟩
        obtain ⟨j, hj⟩ := List.mem_iff_getElem?.1 hn
        have hjl := (List.getElem?_eq_some_iff.1 hj).1
        have := hdp j (by omega)
        rw [nth_of hj] at this
        exact this
      · exact hall j (by omega)
  have h := of_decide_eq_false h
  have e : i = 3 := by omega
  subst e
  clear hi h
  have t1 : okT N1 := by have := hall 0 (by decide); rw [hL] at this; exact this
  have t2 : okT N2 := by have := hall 1 (by decide); rw [hL] at this; exact this
  have t3 : okT N3 := by have := hall 2 (by decide); rw [hL] at this; exact this
  clear hall
  refine Wp.exit ?_
  obtain ⟨X, W, m1, m2, m3, m4⟩ := writ_law i1 i2 i3 own (by rw [← getS_one i1]; exact t1.1) (by rw [← getS_one i2]; exact t2.1) (by rw [← getS_one i3]; exact t3.1) t1.2 t2.2 t3.2 hl
  have s1 := r1.keep hk1
  have s2 := r2.keep hk1
  have s3 := r3.keep hk1
  have d1 : ∀ n ∈ N1, 0 ≤ n.depth ∧ n.depth ≤ 1000 := fun n hn => by have := isS_Deep i1 n hn; omega
  have d2 : ∀ n ∈ N2, 0 ≤ n.depth ∧ n.depth ≤ 1000 := fun n hn => by have := isS_Deep i2 n hn; omega
  have d3 : ∀ n ∈ N3, 0 ≤ n.depth ∧ n.depth ≤ 1000 := fun n hn => by have := isS_Deep i3 n hn; omega
  refine Wp.seq (Wp.regionL (l := [0, 1, 2, 3]) (WO.rd (is := [0, 1]) (js := [2, 3]) (Keep.refl _) (Rn.s rfl (Yv.bd (cs := nR.cs)) (Rn.s rfl (Yv.bd (cs := nDef.cs)) (Rn.nil))) (WO.act (hc := rfl) (he := Ef.bsl (T := 48) NdE [nR, nDef] (St.init w') (fun bb1 wb1 kb1 hsb1 => WO.rd (is := [3]) (js := []) ((Keep.refl _).trans kb1) (Rn.s rfl Yv.as (Rn.nil)) (WO.done ?_))))))
  obtain ⟨U1, hU1⟩ : ∃ U : List Nd, U = [nR, nDef] ++ (N1.drop 1).map (downD 1) := ⟨_, rfl⟩
  have u1 : U1.length ≤ 600 := by rw [hU1]; simp; omega
  have hc := under_calls (some ⟨bb1, 0, none⟩) 2 [nR, nDef] A1 c1 N1 1 wb1 hsb1 s1 (by simp; omega) d1 (by decide)
  rw [← hU1] at hc
  refine Wp.seq (Wp.regionL (l := [0, 1, 2, 3]) (WO.rd (is := [0, 1]) (js := [2, 3]) (Keep.refl _) (Rn.s rfl Yv.mv (Rn.s rfl Yv.mv (Rn.nil))) (WO.act (hc := rfl) (he := Ef.callv Tryd.func29 (Calls.mono hc ?_)))))
  rintro e v2 ⟨B2, e2, rfl, hs2⟩
  refine WO.rd (is := [3]) (js := []) (Keep.refl _) (Rn.s rfl Yv.as (Rn.nil)) (WO.done ?_)
  clear hc hsb1
  refine Wp.seq (Wp.regionL (l := [0, 1, 2, 3, 4, 5]) (WO.rd (is := [0, 1, 2]) (js := [3, 4, 5]) (Keep.refl _) (Rn.s rfl Yv.mv (Rn.s rfl (Yv.bd (cs := nTem.cs)) (Rn.s rfl (Yv.bd (cs := nT.cs)) (Rn.nil)))) (WO.app NdE [nTem, nT] rfl (fun _ => rfl) hs2 0 (fitN (by simp; omega)) (fun bc1 Ac1 cc1 wc1 hsc1 => WO.rd (is := [5]) (js := []) (Keep.refl _) (Rn.s rfl Yv.as (Rn.nil)) (WO.done ?_)))))
  have hst : St w' [] wc1 [Ch.row NdE 48 Ac1 cc1 (U1 ++ [nTem, nT])] := hsc1
  clear hs2 hsc1
  obtain ⟨U2, hU2⟩ : ∃ U : List Nd, U = (U1 ++ [nTem, nT]) ++ (N2.drop 1).map (downD 2) := ⟨_, rfl⟩
  have u2 : U2.length ≤ 1200 := by rw [hU2]; simp; omega
  have hc := under_calls Ac1 cc1 (U1 ++ [nTem, nT]) A2 c2 N2 2 wc1 hst s2 (by simp; omega) d2 (by decide)
  rw [← hU2] at hc
  refine Wp.seq (Wp.regionL (l := [0, 1, 2, 3]) (WO.rd (is := [0, 1]) (js := [2, 3]) (Keep.refl _) (Rn.s rfl Yv.mv (Rn.s rfl Yv.mv (Rn.nil))) (WO.act (hc := rfl) (he := Ef.callv Tryd.func29 (Calls.mono hc ?_)))))
  rintro e v4 ⟨B4, e4, rfl, hs4⟩
  refine WO.rd (is := [3]) (js := []) (Keep.refl _) (Rn.s rfl Yv.as (Rn.nil)) (WO.done ?_)
  clear hc hst
  refine Wp.seq (Wp.regionL (l := [0, 1, 2, 3, 4, 5]) (WO.rd (is := [0, 1, 2]) (js := [3, 4, 5]) (Keep.refl _) (Rn.s rfl Yv.mv (Rn.s rfl (Yv.bd (cs := nJob.cs)) (Rn.s rfl (Yv.bd (cs := nJ.cs)) (Rn.nil)))) (WO.app NdE [nJob, nJ] rfl (fun _ => rfl) hs4 0 (fitN (by simp; omega)) (fun bd1 Ad1 cd1 wd1 hsd1 => WO.rd (is := [5]) (js := []) (Keep.refl _) (Rn.s rfl Yv.as (Rn.nil)) (WO.done ?_)))))
  have hst : St w' [] wd1 [Ch.row NdE 48 Ad1 cd1 (U2 ++ [nJob, nJ])] := hsd1
  clear hs4 hsd1
  obtain ⟨U3, hU3⟩ : ∃ U : List Nd, U = (U2 ++ [nJob, nJ]) ++ eL own := ⟨_, rfl⟩
  have u3 : U3.length ≤ 1300 := by
    have : (eL own).length ≤ 2 := by cases own <;> decide
    rw [hU3]; simp; omega
  refine Wp.seq (Wp.mid (fun ρ ds w'' => ds = [] ∧ ∃ B d, St w' [] w'' [Ch.row NdE 48 B d U3] ∧ Sub [(9, .slice A1 N1.length c1), (11, .slice A2 N2.length c2), (13, .slice A3 N3.length c3), (18, .slice B U3.length d)] ρ) ?_ ?_)
  · refine Wp.seq (Wp.reads (is := [0]) (Keep.refl _) (Rn.s rfl Yv.mv (Rn.nil)) ?_)
    cases own with
    | true =>
      refine Wp.cond_t rfl ?_
      refine Wp.regionL (l := [0, 1, 2, 3, 4]) (WO.rd (is := [0, 1]) (js := [2, 3, 4]) (Keep.refl _) (Rn.s rfl Yv.mv (Rn.s rfl (Yv.bd (cs := (nE true).cs)) (Rn.nil))) (WO.app NdE [nE true] rfl (fun _ => rfl) hst 0 (fitN (by simp; omega)) (fun bf1 Af1 cf1 wf1 hsf1 => WO.rd (is := [4]) (js := []) (Keep.refl _) (Rn.s rfl Yv.as (Rn.nil)) (WO.done ?_))))
      have hst : St w' [] wf1 [Ch.row NdE 48 Af1 cf1 U3] := by rw [hU3]; exact hsf1
      exact ⟨rfl, Af1, cf1, hst, rfl, rfl, rfl, by rw [hU3]; rfl, trivial⟩
    | false =>
      refine Wp.cond_f rfl ?_
      refine Wp.regionL (l := [0, 1, 2, 3, 4, 5]) (WO.rd (is := [0, 1, 2]) (js := [3, 4, 5]) (Keep.refl _) (Rn.s rfl Yv.mv (Rn.s rfl (Yv.bd (cs := (nE false).cs)) (Rn.s rfl (Yv.bd (cs := nE2.cs)) (Rn.nil)))) (WO.app NdE [nE false, nE2] rfl (fun _ => rfl) hst 0 (fitN (by simp; omega)) (fun bf1 Af1 cf1 wf1 hsf1 => WO.rd (is := [5]) (js := []) (Keep.refl _) (Rn.s rfl Yv.as (Rn.nil)) (WO.done ?_))))
      have hst : St w' [] wf1 [Ch.row NdE 48 Af1 cf1 U3] := by rw [hU3]; exact hsf1
      exact ⟨rfl, Af1, cf1, hst, rfl, rfl, rfl, by rw [hU3]; rfl, trivial⟩
  clear hst
  rintro ρ ds v5 ⟨rfl, B5, e5, hst, hsub⟩
  refine Wp.forget _ ?_ hsub
  clear hsub ρ
  obtain ⟨U4, hU4⟩ : ∃ U : List Nd, U = U3 ++ (N3.drop 1).map (downD 2) := ⟨_, rfl⟩
  have hc := under_calls B5 e5 U3 A3 c3 N3 2 v5 hst s3 (by omega) d3 (by decide)
  rw [← hU4] at hc
  have hUT : U4 = writT N1 N2 N3 own := by rw [hU4, hU3, hU2, hU1]; rfl
  refine Wp.seq (Wp.regionL (l := [0, 1, 2, 3]) (WO.rd (is := [0, 1]) (js := [2, 3]) (Keep.refl _) (Rn.s rfl Yv.mv (Rn.s rfl Yv.mv (Rn.nil))) (WO.act (hc := rfl) (he := Ef.callv Tryd.func29 (Calls.mono hc ?_)))))
  rintro e v6 ⟨B6, e6, rfl, hs6⟩
  refine WO.rd (is := [3]) (js := []) (Keep.refl _) (Rn.s rfl Yv.as (Rn.nil)) (WO.done ?_)
  have hst : St w' [] v6 [Ch.row NdE 48 B6 e6 U4] := hs6
  clear hc hs6
  refine Wp.seq (Wp.regionL (l := [0, 1, 2, 3, 4, 5, 6, 7, 8, 9]) (WO.rd (is := [0, 1, 2]) (js := [3, 4, 5, 6, 7, 8, 9]) (Keep.refl _) (Rn.s rfl Yv.mv (Rn.s rfl Yv.mv (Rn.s rfl Yv.mv (Rn.nil)))) (WO.act (hc := rfl) (he := Ef.bsl (T := 43) TsE [(A1, c1, N1), (A2, c2, N2), (A3, c3, N3)] hst (fun b7 v7 k7 hs7 => ?_)))))
  have kv7 := hs7.keep
  have hm := merge_cx (some ⟨b7, 0, none⟩) 3 [(A1, c1, N1), (A2, c2, N2), (A3, c3, N3)] v7 (hs7.rd 0) (by simp) (by simp) (by
    intro x hx
    simp only [List.mem_cons, List.not_mem_nil, or_false] at hx
    rcases hx with rfl | rfl | rfl
    · exact ⟨s1.keep kv7, k1⟩
    · exact ⟨s2.keep kv7, k2⟩
    · exact ⟨s3.keep kv7, k3⟩)
  have em : mergeS (([(A1, c1, N1), (A2, c2, N2), (A3, c3, N3)] : List Tr).map ts1) = (W, 0) := m1
  rw [em] at hm
  dsimp only at hm
  refine WO.act (hc := rfl) (he := Ef.cx hm hs7 (FnOk.of Tryd.func30) ?_)
  rintro v D v8 ⟨B8, e8, rfl, rfl⟩ hs8
  refine WO.rd (is := [5, 6, 7, 8, 9]) (js := []) (Keep.refl _) (Rn.s rfl Yv.mv (Rn.s rfl Yv.ex (Rn.s rfl Yv.ex (Rn.s rfl Yv.as (Rn.s rfl Yv.as (Rn.nil)))))) (WO.done ?_)
  have hst : St w' [] v8 [Ch.row NdE 48 B8 e8 W, Ch.row NdE 48 B6 e6 U4] := hs8.pick [0, 2]
  clear hm hs7 hs8
  have hj := job_cx B6 e6 U4 kJj v8 (hst.rd 1) (hst.cap 1)
  rw [hUT, m2] at hj
  rw [← hUT] at hj
  dsimp only at hj
  refine Wp.seq (Wp.regionL (l := [0, 1, 2, 3, 4, 5, 6, 7]) (WO.rd (is := [0]) (js := [1, 2, 3, 4, 5, 6, 7]) (Keep.refl _) (Rn.s rfl Yv.mv (Rn.nil)) (WO.act (hc := rfl) (he := Ef.cx hj hst (FnOk.of Tryd.func25) ?_))))
  rintro v D v9 ⟨B9, e9, rfl, rfl⟩ hs9
  refine WO.rd (is := [2, 3, 4]) (js := [5, 6, 7]) (Keep.refl _) (Rn.s rfl Yv.mv (Rn.s rfl Yv.ex (Rn.s rfl Yv.ex (Rn.nil)))) (WO.act (he := Ef.allocL (vs := ft0.cs) hs9 (fun b10 v10 k10 hs10 => WO.rd (is := [6]) (js := [7]) (Keep.refl _) (Rn.s rfl Yv.as (Rn.nil)) (WO.act (he := Ef.stores hs10 0 (fun v11 hs11 => WO.done ?_))))))
  have hst : St w' [] v11 [Ch.cells b10 27 ft0.cs, Ch.row NdE 48 B9 e9 X, Ch.row NdE 48 B8 e8 W, Ch.row NdE 48 B6 e6 U4] := hs11
  clear hs9 hs10 hs11
  have c22 := hst.cells 0
  have hk11 := hk0.trans (hk1.trans hst.keep)
  have hg11 := hg.keep hk11
  refine Wp.seq (Wp.regionL (l := [0, 1, 2, 3, 4, 5, 6, 7, 8, 9, 10, 11, 12, 13, 14, 15]) (WO.rd (is := [0, 1, 2, 3, 4, 5, 6, 7]) (js := [8, 9, 10, 11, 12, 13, 14, 15]) (Keep.refl _) (Rn.s rfl Yv.mv (Rn.s rfl (Yv.cmp _ rfl) (Rn.s rfl Yv.mv (Rn.and (is := [3, 4, 5, 6]) (js := [7]) (t := 145) (d := 149) (hg := rfl) (ht := fun h2 => have h2 := eq_of_beq h2; Rn.s rfl (Yv.fa (off := 0)) (Rn.s rfl (Yv.ld (c22.at_ 0)) (Rn.s rfl (Yv.cmp _ rfl) (Rn.s rfl Yv.pick_t ((Rn.e 4 rfl rfl)))))) (hf := fun _ => Rn.no rfl (Rn.no rfl (Rn.no rfl (Rn.s rfl Yv.pick_f (Rn.e 4 rfl rfl))))) (k := Rn.s rfl Yv.mv (Rn.nil)))))) (WO.and (js := [12, 13, 14, 15]) 150 154 (hg := rfl) (ht := fun h7 qu1 => WO.rd (is := [8, 9]) (js := [10, 11, 12, 13, 14, 15]) (Keep.refl _) (Rn.s rfl Yv.mv (Rn.s rfl Yv.mv (Rn.nil))) (WO.cv rfl (alike_cv B9 e9 X B8 e8 W v11 (hst.rd 1) (hst.rd 2) (by omega)) (Keep.refl _) (FnOk.of Tryd.func31) (fun wu2 ku2 => WO.rd (is := [11]) (js := [12, 13, 14, 15]) ((Keep.refl _).trans ku2) (Rn.s rfl Yv.pick_t (Rn.nil)) (WO.e 4 (qu1 _ ((Keep.refl _).trans ku2)))))) (hf := fun _ qu1 => WO.rd (is := [8, 9, 10, 11]) (js := [12, 13, 14, 15]) (Keep.refl _) (Rn.no rfl (Rn.no rfl (Rn.no rfl (Rn.s rfl Yv.pick_f Rn.nil)))) (WO.e 4 (qu1 _ (Keep.refl _)))) (k := fun wu1 ku1 => WO.rd (is := [12]) (js := [13, 14, 15]) ((Keep.refl _).trans ku1) (Rn.s rfl Yv.mv (Rn.nil)) (WO.and (js := [15]) 155 157 (hg := rfl) (ht := fun h12 qu3 => WO.cv rfl (awake9_cv _ hg11.toGm) ((Keep.refl _).trans ku1) (FnOk.of Tryd.func26) (fun wu4 ku4 => WO.rd (is := [14]) (js := [15]) (((Keep.refl _).trans ku1).trans ku4) (Rn.s rfl Yv.pick_t (Rn.nil)) (WO.e 2 (qu3 _ ((Keep.refl _).trans ku4))))) (hf := fun _ qu3 => WO.rd (is := [13, 14]) (js := [15]) ((Keep.refl _).trans ku1) (Rn.no rfl (Rn.s rfl Yv.pick_f Rn.nil)) (WO.e 2 (qu3 _ (Keep.refl _)))) (k := fun wu3 ku3 => WO.rd (is := [15]) (js := []) (((Keep.refl _).trans ku1).trans ku3) (Rn.s rfl Yv.as (Rn.nil)) (WO.done ?_)))))))
  refine Wp.ret (Fin.ret (Res.one rfl rfl) ⟨?_, ?_⟩)
  · simp [m3]
  · exact hk11.trans (ku1.trans ku3)
end Go.Proofs.YtgjhbapbomdpbaaDoor.C
