/- IncludeOrder, walked. (Printed in part by tools/mkIs.py.) -/
import Derived.Test.YtgjhbapbomdpbaaDoorIk
set_option linter.unusedVariables false
set_option linter.unusedSimpArgs false
set_option maxRecDepth 10000
namespace Go.Proofs.YtgjhbapbomdpbaaDoor.C
open Go.RowKit Go.Proofs.YtgjhbapbomdpbaaDoor.Sh
/-- what is read, held against the law's own questions -/
structure Ord (files : List Fl) (root : Bs) (N : List Bs) (TT : List (List Nd)) : Prop where
  pos : 0 < N.length
  len : TT.length = N.length
  last : nth N ((N.length : Int) - 1) = root
  nd : ∀ i j : Nat, j < i → i < N.length → nth N (i : Int) ≠ nth N (j : Int)
  inc : ∀ i j : Nat, i < j → j < N.length → nmsS (txtS files (nth N (i : Int))) (nth N (j : Int)) = false
  tree : ∀ i : Nat, i < N.length → (parseS (nth N (i : Int)) (txtS files (nth N (i : Int)))).2.code = 0 ∧ nth TT (i : Int) = wcutS (parseS (nth N (i : Int)) (txtS files (nth N (i : Int)))).1 incl
theorem ord_of {files : List Fl} {root : Bs} (h : (loadS files root).2.code = 0) : Ord files root (outN files root) (outT files root) := by
  obtain ⟨h1, h2, h3⟩ := order_law h
  have eN : outN files root = (loadS files root).1.nms := by unfold outN; rw [if_neg (fun q => q h)]
  have eT : outT files root = (loadS files root).1.trs := by unfold outT; rw [if_neg (fun q => q h)]
  rw [eN, eT]
  obtain ⟨g1, g2⟩ := loadS_ok (files := files) (root := root) (by rw [h]; decide)
  obtain ⟨s, hs⟩ : ∃ s, s = (loadS files root).1 := ⟨_, rfl⟩
  rw [← hs] at h1 h2 h3 ⊢
  have hpos : 0 < s.nms.length := by
    cases q : s.nms with
    | nil => rw [q] at h3; cases h3
    | cons x l => simp
  have hget : ∀ i : Nat, i < s.nms.length → s.nms[i]? = some (nth s.nms (i : Int)) := fun i hi => by rw [nth_of (List.getElem?_eq_getElem hi)]; exact List.getElem?_eq_getElem hi
  have hnd : ∀ i j : Nat, i < s.nms.length → j < s.nms.length → nth s.nms (i : Int) = nth s.nms (j : Int) → i = j := by
    intro i j hi hj e
    have q1 := hget i hi
    have q2 := hget j hj
    rw [e, ← q2] at q1
    exact (List.getElem?_inj hi h1.nd).1 q1
  refine ⟨hpos, h2.len, ?_, fun i j hj hi e => ?_, fun i j hij hj => ?_, fun i hi => ?_⟩
  · have e : (s.nms.length : Int) - 1 = ((s.nms.length - 1 : Nat) : Int) := by omega
    rw [List.getLast?_eq_getElem?] at h3
    rw [e, nth_of h3]
  · have := hnd i j hi (by omega) e
    omega
  · obtain ⟨q1, q2, q3⟩ := h2.at_ i _ (hget i (by omega))
    rw [txt_file g2, nmsS_inc q1, decide_eq_false]
    intro hm
    have hm := q3 _ hm
    obtain ⟨k, hk⟩ := List.mem_iff_getElem?.1 hm
    have hkl := (List.getElem?_eq_some_iff.1 hk).1
    simp only [List.length_take] at hkl
    rw [List.getElem?_take_of_lt (by omega)] at hk
    have := hnd k j (by omega) hj (nth_of hk)
    omega
  · obtain ⟨q1, q2, q3⟩ := h2.at_ i _ (hget i hi)
    rw [txt_file g2]
    exact ⟨q1.1, nth_of q2⟩
set_option maxHeartbeats 3200000 in
theorem order_calls (A : Option Addr) (c : Nat) (files : List Fl) (root : Bs) (w : World) (hg : Gl w) (hr : Rd FlE w A files) (hA : A = none → c = 0) (hl : files.length ≤ 4398046511000) :
    Calls Tryd.prog 6 #[.slice A files.length c, S root] w fun e w' => e = .returned (.bool true) ∧ Keep w w' := by
  refine calls_of_Wp (vs := [_, _]) Tryd.func6 ?_
  refine Wp.seq (Wp.reads (is := [0]) (Keep.refl _) (Rn.s rfl Yv.as (Rn.nil)) ?_)
  refine Wp.seq (Wp.regionL (l := [0, 1, 2, 3, 4, 5, 6, 7, 8, 9, 10, 11]) (WO.rd (is := [0]) (js := [1, 2, 3, 4, 5, 6, 7, 8, 9, 10, 11]) (Keep.refl _) (Rn.s rfl Yv.mv (Rn.nil)) (WO.act (hc := rfl) (he := Ef.cx (copyF_cx A c files w hr hA (by omega)) (St.init w) (FnOk.of Tryd.func12) ?_))))
  rintro v D w1 ⟨B1, d1, rfl, rfl⟩ hs1
  have hst : St w [] w1 [Ch.row FlE 33 B1 d1 files] := hs1
  clear hs1
  refine WO.rd (is := [2]) (js := [3, 4, 5, 6, 7, 8, 9, 10, 11]) (Keep.refl _) (Rn.s rfl Yv.mv (Rn.nil)) (WO.act (hc := rfl) (he := Ef.cx (load_cx B1 d1 files root w1 (hg.toGm.keep hst.keep) (hst.rd 0) (by omega)) hst (FnOk.of Tryd.func11) ?_))
  rintro v D w4 ⟨NA, nc, TA, tc, ts, rfl, hts, rfl⟩ hs4
  refine WO.rd (is := [4, 5, 6, 7]) (js := [8, 9, 10, 11]) (Keep.refl _) (Rn.s rfl Yv.mv (Rn.s rfl Yv.ex (Rn.s rfl Yv.ex (Rn.s rfl Yv.ex (Rn.nil))))) (WO.act (he := Ef.allocL (vs := ft0.cs) hs4 (fun b7 w5 k5 hs5 => WO.rd (is := [9, 10]) (js := [11]) (Keep.refl _) (Rn.s rfl Yv.as (Rn.s rfl Yv.as (Rn.nil))) (WO.act (he := Ef.stores hs5 0 (fun w6 hs6 => WO.done ?_))))))
  have L1 := ld_of (nc := nc) (tc := tc) hts hs6 rfl
  have kw : Keep w w6 := hs6.keep
  clear hs4 hs5 hs6 hst hts
  have c7 := L1.fault
  have hcd := outF_code files root
  have hr6 := hr.keep kw
  have hg6 := hg.keep kw
  refine Wp.seq (Wp.seq (Wp.reads (is := [0, 1, 2]) (Keep.refl _) (Rn.s rfl (Yv.fa (off := 0)) (Rn.s rfl (Yv.ld (c7.at_ 0)) (Rn.s rfl (Yv.cmp _ rfl) (Rn.nil)))) ?_))
  refine Wp.cond rfl (fun h => ?_) (fun h => ?_)
  · have h : (outF files root).code ≠ 0 := bne_iff_ne.1 h
    rw [hcd] at h
    have eN : outN files root = [] := by unfold outN; rw [if_pos h]
    have eT : outT files root = [] := by unfold outT; rw [if_pos h]
    rw [eN, eT]
    refine Wp.seq (Wp.regionL (l := [0, 1, 2, 3, 4, 5, 6, 7, 8, 9, 10, 11]) (WO.rd (is := [0, 1, 2, 3, 4, 5, 6, 7, 8]) (js := [9, 10, 11]) (Keep.refl _) (Rn.s rfl Yv.mv (Rn.s rfl (Yv.len_v (e := 9) (m := 1)) (Rn.s rfl (Yv.cmp _ rfl) (Rn.s rfl Yv.mv (Rn.and (is := [4, 5, 6, 7]) (js := [8]) (t := 28) (d := 32) (hg := rfl) (ht := fun h3 => have h3 := eq_of_beq h3; Rn.s rfl Yv.mv (Rn.s rfl (Yv.len_v (e := 43) (m := 1)) (Rn.s rfl (Yv.cmp _ rfl) (Rn.s rfl Yv.pick_t ((Rn.e 4 rfl rfl)))))) (hf := fun _ => Rn.no rfl (Rn.no rfl (Rn.no rfl (Rn.s rfl Yv.pick_f (Rn.e 4 rfl rfl))))) (k := Rn.s rfl Yv.mv (Rn.nil))))))) (WO.and (js := [11]) 33 35 (hg := rfl) (ht := fun h8 qx1 => WO.cv rfl (awake7_cv w6 hg6) (Keep.refl _) (FnOk.of Tryd.func13) (fun wx2 kx2 => WO.rd (is := [10]) (js := [11]) ((Keep.refl _).trans kx2) (Rn.s rfl Yv.pick_t (Rn.nil)) (WO.e 2 (qx1 _ ((Keep.refl _).trans kx2))))) (hf := fun _ qx1 => WO.rd (is := [9, 10]) (js := [11]) (Keep.refl _) (Rn.no rfl (Rn.s rfl Yv.pick_f Rn.nil)) (WO.e 2 (qx1 _ (Keep.refl _)))) (k := fun wx1 kx1 => WO.rd (is := [11]) (js := []) ((Keep.refl _).trans kx1) (Rn.s rfl Yv.as (Rn.nil)) (WO.done ?_)))))
    exact Wp.ret (Fin.ret (Res.one rfl rfl) ⟨by simp, kw.trans kx1⟩)
  have h : (outF files root).code = 0 := bne_eq_false_iff_eq.1 h
  rw [hcd] at h
  have hord := ord_of h
  obtain ⟨hN64, -⟩ := outN_len files root
  obtain ⟨hts1, hts2, hts3⟩ := L1.len
  have hNr := L1.names
  have hTr := L1.trees
  have hTn := L1.tree
  have hTi := L1.is
  obtain ⟨N, hN⟩ : ∃ N, N = outN files root := ⟨_, rfl⟩
  obtain ⟨TT, hTT⟩ : ∃ TT, TT = outT files root := ⟨_, rfl⟩
  rw [← hN, ← hTT] at hord
  rw [← hN] at hNr hN64
  rw [← hTT] at hTi hts2
  rw [← hN, ← hTT]
  obtain ⟨p1, p2, p3, p4, p5, p6⟩ := hord
  refine Wp.skip (Wp.seq (Wp.seq (Wp.reads (is := [0, 1, 2, 3, 4, 5, 6, 7, 8, 9, 10, 11, 12, 13, 14, 15, 16, 17, 18, 19]) (Keep.refl _) (Rn.s rfl Yv.mv (Rn.s rfl (Yv.len_v (e := 9) (m := 1)) (Rn.s rfl (Yv.cmp _ rfl) (Rn.s rfl Yv.mv (Rn.or (is := [4, 5, 6, 7, 8, 9]) (js := [10, 11, 12, 13, 14, 15, 16, 17, 18, 19]) (t := 39) (d := 45) (hg := rfl) (hf := fun h3 => have h3 := ne_of_beq_false h3; Rn.s rfl Yv.mv (Rn.s rfl (Yv.len_v (e := 9) (m := 1)) (Rn.s rfl Yv.mv (Rn.s rfl (Yv.len_v (e := 43) (m := 1)) (Rn.s rfl (Yv.cmp _ rfl) (Rn.s rfl Yv.pick_f ((Rn.e 6 rfl rfl)))))))) (ht := fun _ => Rn.no rfl (Rn.no rfl (Rn.no rfl (Rn.no rfl (Rn.no rfl (Rn.s rfl Yv.pick_t (Rn.e 6 rfl rfl))))))) (k := Rn.s rfl Yv.mv (Rn.or (is := [11, 12, 13, 14, 15, 16, 17, 18, 19]) (js := []) (t := 46) (d := 55) (hg := rfl) (hf := fun h10 => Rn.s rfl Yv.mv (Rn.s rfl Yv.mv (Rn.s rfl (Yv.len_v (e := 9) (m := 1)) (Rn.s rfl (Yv.sub (by unfold inI; omega)) (Rn.s rfl (Yv.ia (e := 9) hNr (j := (N.length : Int) - 1) (by omega) (by omega)) (Rn.s rfl (Yv.ld (hNr.ld (i := (N.length : Int) - 1) 0 (by omega) (by omega))) (Rn.s rfl Yv.mv (Rn.s rfl (Yv.scm _ rfl) (Rn.s rfl Yv.pick_f ((Rn.e 9 rfl rfl))))))))))) (ht := fun _ => Rn.no rfl (Rn.no rfl (Rn.no rfl (Rn.no rfl (Rn.no rfl (Rn.no rfl (Rn.no rfl (Rn.no rfl (Rn.s rfl Yv.pick_t (Rn.e 9 rfl rfl)))))))))) (k := Rn.nil)))))))) ?_)))
  refine Wp.cond rfl (fun h2 => ?_) (fun h2 => ?_)
  · exfalso
    rw [p3, p2] at h2
    simp at h2
    simp [h2] at p1
  clear h2
  refine Wp.skip (Wp.seq (Wp.seq (Wp.reads (is := [0]) (Keep.refl _) (Rn.s rfl Yv.as (Rn.nil)) ?_)))
  refine Wp.block ?_
  refine Wp.loop (α := Nat) (fun i ρ ds w' => ds = [] ∧ Keep w6 w' ∧ i ≤ N.length ∧ Sub [(0, .slice A files.length c), (5, .slice NA N.length nc), (6, .slice TA TT.length tc), (8, .int .i64 (i : Int))] ρ) (fun i => N.length - i) 0
    ⟨rfl, Keep.refl _, Nat.zero_le _, rfl, rfl, rfl, rfl, trivial⟩ ?_
  rintro i ρ ds w7a ⟨rfl, hk7a, hi, hs⟩
  refine Wp.forget _ ?_ hs
  clear hs ρ
  refine Wp.seq (Wp.seq (Wp.reads (is := [0, 1, 2, 3]) (Keep.refl _) (Rn.s rfl Yv.mv (Rn.s rfl Yv.mv (Rn.s rfl (Yv.len_v (e := 9) (m := 1)) (Rn.s rfl (Yv.cmp _ rfl) (Rn.nil))))) ?_))
  refine Wp.cond rfl (fun h2 => ?_) (fun h2 => ?_)
  · have h2 := of_decide_eq_true h2
    have hil : i < N.length := by omega
    refine Wp.skip (Wp.seq (Wp.block ?_))
    refine Wp.seq (Wp.seq (Wp.reads (is := [0]) (Keep.refl _) (Rn.s rfl Yv.as (Rn.nil)) ?_))
    refine Wp.block ?_
    refine Wp.loop (α := Nat) (fun j ρ ds w' => ds = [] ∧ Keep w6 w' ∧ j ≤ N.length ∧ Sub [(0, .slice A files.length c), (5, .slice NA N.length nc), (6, .slice TA TT.length tc), (8, .int .i64 (i : Int)), (9, .int .i64 (j : Int))] ρ) (fun j => N.length - j) 0
      ⟨rfl, hk7a, Nat.zero_le _, rfl, rfl, rfl, rfl, rfl, trivial⟩ ?_
    rintro j ρ ds w7 ⟨rfl, hk, hj, hs⟩
    refine Wp.forget _ ?_ hs
    clear hs ρ
    have hr7 := hr6.keep hk
    have hg7 := hg6.keep hk
    have hN7 := hNr.keep hk
    refine Wp.seq (Wp.seq (Wp.reads (is := [0, 1, 2, 3]) (Keep.refl _) (Rn.s rfl Yv.mv (Rn.s rfl Yv.mv (Rn.s rfl (Yv.len_v (e := 9) (m := 1)) (Rn.s rfl (Yv.cmp _ rfl) (Rn.nil))))) ?_))
    refine Wp.cond rfl (fun h3 => ?_) (fun h3 => ?_)
    · have h3 := of_decide_eq_true h3
      have hjl : j < N.length := by omega
      refine Wp.skip (Wp.seq (Wp.block ?_))
      refine Wp.seq (Wp.draws [] mixed (WD.rd (is := [0, 1, 2, 3, 4, 5, 6, 7, 8, 9, 10, 11, 12, 13, 14]) (fun _ _ _ _ _ h => h) (Keep.drew _) (Rn.s rfl Yv.mv (Rn.s rfl Yv.mv (Rn.s rfl (Yv.cmp _ rfl) (Rn.s rfl Yv.mv (Rn.and (is := [4, 5, 6, 7, 8, 9, 10, 11, 12, 13]) (js := [14]) (t := 71) (d := 81) (hg := rfl) (ht := fun h3 => have h3 := of_decide_eq_true h3; Rn.s rfl Yv.mv (Rn.s rfl Yv.mv (Rn.s rfl (Yv.ia (e := 9) hN7 (j := (i : Int)) (by omega) (by omega)) (Rn.s rfl (Yv.ld (hN7.ld (i := (i : Int)) 0 (by omega) (by omega))) (Rn.s rfl Yv.mv (Rn.s rfl Yv.mv (Rn.s rfl (Yv.ia (e := 9) hN7 (j := (j : Int)) (by omega) (by omega)) (Rn.s rfl (Yv.ld (hN7.ld (i := (j : Int)) 0 (by omega) (by omega))) (Rn.s rfl (Yv.scm _ rfl) (Rn.s rfl Yv.pick_t ((Rn.e 10 rfl rfl)))))))))))) (hf := fun _ => Rn.no rfl (Rn.no rfl (Rn.no rfl (Rn.no rfl (Rn.no rfl (Rn.no rfl (Rn.no rfl (Rn.no rfl (Rn.no rfl (Rn.s rfl Yv.pick_f (Rn.e 10 rfl rfl))))))))))) (k := Rn.s rfl Yv.mv (Rn.nil))))))) (WD.or [15, 16, 17, 18, 19, 20, 21, 22, 23, 24, 25, 26, 27, 28, 29, 30, 31] 82 99 (hg := rfl) (hf := fun h14 qx1 => WD.rd (is := [15, 16, 17, 18]) (fun _ _ _ _ _ h => h) (Keep.drew _) (Rn.s rfl Yv.mv (Rn.s rfl Yv.mv (Rn.s rfl (Yv.cmp _ rfl) (Rn.s rfl Yv.mv (Rn.nil))))) (WD.and [19, 20, 21, 22, 23, 24, 25, 26, 27, 28, 29, 30] 86 98 (hg := rfl) (ht := fun h18 qx2 => have h18 := of_decide_eq_true h18; WD.rd (is := [19, 20, 21, 22, 23, 25, 26, 27, 28]) (fun _ _ _ _ _ h => h) (Keep.drew _) (Rn.s rfl Yv.mv (Rn.s rfl Yv.mv (Rn.s rfl Yv.mv (Rn.s rfl (Yv.ia (e := 9) hN7 (j := (i : Int)) (by omega) (by omega)) (Rn.s rfl (Yv.ld (hN7.ld (i := (i : Int)) 0 (by omega) (by omega))) (Rn.s rfl Yv.mv (Rn.s rfl Yv.mv (Rn.s rfl (Yv.ia (e := 9) hN7 (j := (j : Int)) (by omega) (by omega)) (Rn.s rfl (Yv.ld (hN7.ld (i := (j : Int)) 0 (by omega) (by omega))) (Rn.nil)))))))))) (WD.cv 24 rfl (text_cv A c files (nth N (i : Int)) w7 hr7 (by omega)) (Keep.drew _) (FnOk.of Tryd.func20) (fun wx3 kx3 => WD.cv 29 rfl (names_cv (txtS files (nth N (i : Int))) (nth N (j : Int)) w7 hg7) ((Keep.drew _).trans kx3) (FnOk.of Tryd.func19) (fun wx4 kx4 => WD.rd (is := [30]) (fun _ _ _ _ _ h => h) (((Keep.drew _).trans kx3).trans kx4) (Rn.s rfl Yv.pick_t (Rn.nil)) (WD.e 12 (qx2 _ (((Keep.refl _).trans kx3).trans kx4))))))) (hf := fun _ qx2 => WD.rd (is := [19, 20, 21, 22, 23, 24, 25, 26, 27, 28, 29, 30]) (fun _ _ _ _ _ h => h) (Keep.drew _) (Rn.no rfl (Rn.no rfl (Rn.no rfl (Rn.no rfl (Rn.no rfl (Rn.no rfl (Rn.no rfl (Rn.no rfl (Rn.no rfl (Rn.no rfl (Rn.no rfl (Rn.s rfl Yv.pick_f Rn.nil)))))))))))) (WD.e 12 (qx2 _ (Keep.refl _)))) (k := fun wx2 kx2 => WD.rd (is := [31]) (fun _ _ _ _ _ h => h) ((Keep.drew _).trans kx2) (Rn.s rfl Yv.pick_f (Rn.nil)) (WD.e 6 (qx1 _ ((Keep.refl _).trans kx2)))))) (ht := fun _ qx1 => WD.rd (is := [15, 16, 17, 18, 19, 20, 21, 22, 23, 24, 25, 26, 27, 28, 29, 30, 31]) (fun _ _ _ _ _ h => h) (Keep.drew _) (Rn.no rfl (Rn.no rfl (Rn.no rfl (Rn.no rfl (Rn.no rfl (Rn.no rfl (Rn.no rfl (Rn.no rfl (Rn.no rfl (Rn.no rfl (Rn.no rfl (Rn.no rfl (Rn.no rfl (Rn.no rfl (Rn.no rfl (Rn.no rfl (Rn.s rfl Yv.pick_t Rn.nil))))))))))))))))) (WD.e 17 (qx1 _ (Keep.refl _)))) (k := fun wx1 kx1 => WD.done ?_))))
      refine Wp.cond rfl (fun h4 => ?_) (fun h4 => ?_)
      · exfalso
        simp only [Bool.or_eq_true, Bool.and_eq_true, decide_eq_true_eq] at h4
        rcases h4 with ⟨h5, h6⟩ | ⟨h5, h6⟩
        · exact p4 i j (by omega) hil (eq_of_beq h6)
        · rw [p5 i j (by omega) hjl] at h6; cases h6
      refine Wp.skip (Wp.reads (is := [0, 1, 2]) (Keep.refl _) (Rn.s rfl Yv.mv (Rn.s rfl (Yv.add (by unfold inI; omega)) (Rn.s rfl Yv.as (Rn.nil)))) ?_)
      exact ⟨j + 1, ⟨rfl, hk.trans ((Keep.drew _).trans kx1), by omega, rfl, rfl, rfl, rfl, rfl, trivial⟩, by omega⟩
    clear h3
    refine Wp.exit ?_
    obtain ⟨t1, t2⟩ := p6 i hil
    obtain ⟨T, F, hP⟩ : ∃ T F, parseS (nth N (i : Int)) (txtS files (nth N (i : Int))) = (T, F) := ⟨_, _, rfl⟩
    have hTis : isS T = true := by have := parseS_is t1; rwa [hP] at this
    rw [hP] at t1 t2
    simp only at t1 t2
    have hd : St w7 [] _ [] := (St.init w7).quiet (Keep.drew w7)
    refine Wp.seq (Wp.mid (fun ρ ds w' => ds = [] ∧ ∃ b11 PA pc, St w7 [] w' [Ch.cells b11 27 F.cs, Ch.row NdE 48 PA pc T] ∧ Sub [(0, .slice A files.length c), (5, .slice NA N.length nc), (6, .slice TA TT.length tc), (8, .int .i64 (i : Int)), (10, .slice PA T.length pc), (11, PB b11)] ρ) ?_ ?_)
    · have e1 : T = (parseS (nth N (i : Int)) (txtS files (nth N (i : Int)))).1 := by rw [hP]
      have e2 : F = (parseS (nth N (i : Int)) (txtS files (nth N (i : Int)))).2 := by rw [hP]
      rw [e1, e2]
      clear e1 e2 hP hTis t1 t2
      refine Wp.drawsB [16] mixed (WDB.rd (is := [0, 1, 2, 3, 4, 5, 6, 7, 8]) (fun _ _ _ _ _ h => h) (Keep.refl _) (Keep.drew _) (Rn.s rfl Yv.mv (Rn.s rfl Yv.mv (Rn.s rfl (Yv.ia (e := 9) hN7 (j := (i : Int)) (by omega) (by omega)) (Rn.s rfl (Yv.ld (hN7.ld (i := (i : Int)) 0 (by omega) (by omega))) (Rn.s rfl Yv.mv (Rn.s rfl Yv.mv (Rn.s rfl Yv.mv (Rn.s rfl (Yv.ia (e := 9) hN7 (j := (i : Int)) (by omega) (by omega)) (Rn.s rfl (Yv.ld (hN7.ld (i := (i : Int)) 0 (by omega) (by omega))) (Rn.nil)))))))))) ?_)
      refine WDB.act2 9 14 (hci := rfl) (hcj := rfl) (hi := Ef.quiet (text_cv A c files (nth N (i : Int)) w7 hr7 (by omega)) (Keep.drew _) (FnOk.of Tryd.func20) (fun wT1 kT1 => ⟨fun _ h => h.trans kT1, ?_⟩)) (hj := Ef.allocL (vs := ft0.cs) hd (fun bA2 wA2 kA2 hsA2 => ⟨fun _ h => h.trans kA2, ?_⟩))
      · refine WDB.act2 10 14 (hci := rfl) (hcj := rfl) (hi := Ef.callv Tryd.func21 (Calls.mono (parse_calls (nth N (i : Int)) (txtS files (nth N (i : Int))) _ (hg7.toGm.keep ((Keep.drew _).trans kT1)) _ (Keep.refl _)) ?_)) (hj := Ef.allocL (vs := ft0.cs) (hd.quiet kT1) (fun bA4 wA4 kA4 hsA4 => ⟨fun _ h => h.trans kA4, ?_⟩))
        · rintro e wP3 ⟨PA3, pc3, rfl, hp3⟩; have kP3 := hp3.keep; have hsP3 := (hd.quiet kT1).call0 hp3; refine ⟨fun _ h => h.trans kP3, ?_⟩
          refine WDB.rd0 (is := [11, 12, 13]) (fun _ _ _ _ _ h => h) (Keep.refl _) (Rn.s rfl Yv.mv (Rn.s rfl Yv.ex (Rn.s rfl Yv.ex (Rn.nil)))) ?_
          refine WDB.act 14 (hc := rfl) (he := Ef.allocL (vs := ft0.cs) hsP3 (fun bA5 wA5 kA5 hsA5 => ⟨fun _ h => h.trans kA5, ?_⟩))
          refine WDB.rd0 (is := [15]) (fun _ _ _ _ _ h => h) (Keep.refl _) (Rn.s rfl Yv.as (Rn.nil)) ?_
          refine WDB.act 16 (hc := rfl) (he := Ef.stores hsA5 0 (fun wC6 hsC6 => ⟨fun h => (h (by simp)).elim, WDB.done ?_⟩))
          exact ⟨rfl, bA5, PA3, pc3, hsC6.pick [0, 1], rfl, rfl, rfl, rfl, rfl, rfl, trivial⟩
        · refine WDB.act 10 (hc := rfl) (he := Ef.callv Tryd.func21 (Calls.mono (parse_calls (nth N (i : Int)) (txtS files (nth N (i : Int))) _ (hg7.toGm.keep (((Keep.drew _).trans kT1).trans kA4)) _ (Keep.refl _)) ?_))
          rintro e wP7 ⟨PA7, pc7, rfl, hp7⟩; have kP7 := hp7.keep; have hsP7 := hsA4.call0 hp7; refine ⟨fun _ h => h.trans kP7, ?_⟩
          refine WDB.rd0 (is := [11, 12, 13]) (fun _ _ _ _ _ h => h) (Keep.refl _) (Rn.s rfl Yv.mv (Rn.s rfl Yv.ex (Rn.s rfl Yv.ex (Rn.nil)))) ?_
          refine WDB.rd0 (is := [15]) (fun _ _ _ _ _ h => h) (Keep.refl _) (Rn.s rfl Yv.as (Rn.nil)) ?_
          refine WDB.act 16 (hc := rfl) (he := Ef.stores hsP7 1 (fun wC8 hsC8 => ⟨fun h => (h (by simp)).elim, WDB.done ?_⟩))
          exact ⟨rfl, bA4, PA7, pc7, hsC8.pick [0, 1], rfl, rfl, rfl, rfl, rfl, rfl, trivial⟩
      · refine WDB.act 9 (hc := rfl) (he := Ef.quiet (text_cv A c files (nth N (i : Int)) w7 hr7 (by omega)) ((Keep.drew _).trans kA2) (FnOk.of Tryd.func20) (fun wT9 kT9 => ⟨fun _ h => h.trans kT9, ?_⟩))
        refine WDB.act 10 (hc := rfl) (he := Ef.callv Tryd.func21 (Calls.mono (parse_calls (nth N (i : Int)) (txtS files (nth N (i : Int))) _ (hg7.toGm.keep (((Keep.drew _).trans kA2).trans kT9)) _ (Keep.refl _)) ?_))
        rintro e wP10 ⟨PA10, pc10, rfl, hp10⟩; have kP10 := hp10.keep; have hsP10 := (hsA2.quiet kT9).call0 hp10; refine ⟨fun _ h => h.trans kP10, ?_⟩
        refine WDB.rd0 (is := [11, 12, 13]) (fun _ _ _ _ _ h => h) (Keep.refl _) (Rn.s rfl Yv.mv (Rn.s rfl Yv.ex (Rn.s rfl Yv.ex (Rn.nil)))) ?_
        refine WDB.rd0 (is := [15]) (fun _ _ _ _ _ h => h) (Keep.refl _) (Rn.s rfl Yv.as (Rn.nil)) ?_
        refine WDB.act 16 (hc := rfl) (he := Ef.stores hsP10 1 (fun wC11 hsC11 => ⟨fun h => (h (by simp)).elim, WDB.done ?_⟩))
        exact ⟨rfl, bA2, PA10, pc10, hsC11.pick [0, 1], rfl, rfl, rfl, rfl, rfl, rfl, trivial⟩
    clear hd
    rintro ρ ds w8 ⟨rfl, b11, PA, pc, hst, hs⟩
    refine Wp.forget _ ?_ hs
    clear hs ρ
    obtain ⟨hT0, hT1, hTd⟩ := isS_depth hTis
    have hrT := hst.rd 1
    have hcapT := hst.cap 1
    refine Wp.seq (Wp.regionL (l := [0, 1, 2, 3]) (WO.rd (is := [0]) (js := [1, 2, 3]) (Keep.refl _) (Rn.s rfl Yv.mv (Rn.nil)) (WO.act (hc := rfl) (he := Ef.bsl (T := 9) StE [incl] hst (fun bx1 wx1 kx1 hsx1 => WO.cv rfl (get_cv PA pc T _ _ [incl] wx1 (hg7.keep (hst.keep.trans kx1)) (hrT.keep kx1) (hsx1.rd 0) (by decide)) (Keep.refl _) (FnOk.of Tryd.func22) (fun wx2 kx2 => WO.rd (is := [3]) (js := []) (((Keep.refl _).trans kx1).trans kx2) (Rn.s rfl Yv.as (Rn.nil)) (WO.done ?_)))))))
    have hst := hst.quiet (kx1.trans kx2)
    clear hrT
    have hrT := hst.rd 1
    have c11 := hst.cells 0
    rw [getS_find hTis]
    have hKb := findS_bd hT0 incl
    obtain ⟨K, hK⟩ : ∃ K, K = findS T 0 incl := ⟨_, rfl⟩
    rw [← hK] at hKb ⊢
    refine Wp.seq (Wp.seq (Wp.reads (is := [0, 1, 2]) (Keep.refl _) (Rn.s rfl (Yv.fa (off := 0)) (Rn.s rfl (Yv.ld (c11.at_ 0)) (Rn.s rfl (Yv.cmp _ rfl) (Rn.nil)))) ?_))
    have hF0 : (F.code != 0) = false := by rw [t1]; rfl
    rw [hF0]
    refine Wp.cond_f rfl (Wp.skip ?_)
    refine Wp.seq (Wp.mid (fun ρ ds w' => ds = [] ∧ Keep wx2 w' ∧ (∃ UA uc, Rd NdE w' UA (wcutS T incl) ∧ Sub [(0, .slice A files.length c), (5, .slice NA N.length nc), (6, .slice TA TT.length tc), (8, .int .i64 (i : Int)), (10, .slice UA (wcutS T incl).length uc)] ρ)) ?_ ?_)
    · refine Wp.seq (Wp.reads (is := [0, 1]) (Keep.refl _) (Rn.s rfl Yv.mv (Rn.s rfl (Yv.cmp _ rfl) (Rn.nil))) ?_)
      refine Wp.cond rfl (fun h4 => ?_) (fun h4 => ?_)
      · have h4 := of_decide_eq_true h4
        obtain ⟨m, rfl⟩ : ∃ m : Nat, K = m := ⟨K.toNat, by omega⟩
        have hml : m < T.length := by omega
        have eW : wcutS T incl = T.take m ++ T.drop (endS T m) := by
          unfold wcutS
          rw [← hK, if_neg (by omega), Int.toNat_natCast]
        obtain ⟨e1, e2⟩ := endS_bd hml
        refine Wp.seq (Wp.reads (is := [0, 1, 2]) (Keep.refl _) (Rn.s rfl Yv.mv (Rn.s rfl (Yv.add (by unfold inI; omega)) (Rn.s rfl Yv.as (Rn.nil)))) ?_)
        refine Wp.seq (Wp.block ?_)
        refine Wp.loop (α := Nat) (fun k ρ ds w' => ds = [] ∧ Keep wx2 w' ∧ m < k ∧ k ≤ T.length ∧ endS T m = endR (nth T (m : Int)).depth (T.drop k) k ∧
          Sub [(0, .slice A files.length c), (5, .slice NA N.length nc), (6, .slice TA TT.length tc), (8, .int .i64 (i : Int)), (10, .slice PA T.length pc), (12, .int .i64 (m : Int)), (13, .int .i64 (k : Int))] ρ) (fun k => T.length - k) (m + 1)
          ⟨rfl, Keep.refl _, by omega, by omega, rfl, rfl, rfl, rfl, rfl, rfl, rfl, by simp; rfl, trivial⟩ ?_
        rintro k ρ ds w9 ⟨rfl, hk9, h5, h6, h7, hs⟩
        refine Wp.forget _ ?_ hs
        clear hs ρ
        have hr9 := hrT.keep hk9
        refine Wp.seq (Wp.seq (Wp.readsD (is := [0, 1, 2, 3, 4, 5, 6, 7, 8, 9, 10, 11, 12, 13, 14, 15, 16]) mixed (fun _ _ _ _ _ h => h) (Keep.refl _) (Rn.s rfl Yv.mv (Rn.s rfl Yv.mv (Rn.s rfl (Yv.len_v (e := 48) (m := 8)) (Rn.s rfl (Yv.cmp _ rfl) (Rn.s rfl Yv.mv (Rn.and (is := [5, 6, 7, 8, 9, 10, 11, 12, 13, 14, 15, 16]) (js := []) (t := 128) (d := 140) (hg := rfl) (ht := fun h4 => have h4 := of_decide_eq_true h4; Rn.s rfl Yv.mv (Rn.s rfl Yv.mv (Rn.s rfl (Yv.ia (e := 48) hr9 (by omega) (by omega)) (Rn.s rfl (Yv.fa (off := 1)) (Rn.s rfl (Yv.ld (hr9.ld 1 (by omega) (by omega))) (Rn.s rfl Yv.mv (Rn.s rfl Yv.mv (Rn.s rfl (Yv.ia (e := 48) hr9 (j := (m : Int)) (by omega) (by omega)) (Rn.s rfl (Yv.fa (off := 1)) (Rn.s rfl (Yv.ld (hr9.ld (i := (m : Int)) 1 (by omega) (by omega))) (Rn.s rfl (Yv.cmp _ rfl) (Rn.s rfl Yv.pick_t ((Rn.e 12 rfl rfl)))))))))))))) (hf := fun _ => Rn.no rfl (Rn.no rfl (Rn.no rfl (Rn.no rfl (Rn.no rfl (Rn.no rfl (Rn.no rfl (Rn.no rfl (Rn.no rfl (Rn.no rfl (Rn.no rfl (Rn.s rfl Yv.pick_f (Rn.e 12 rfl rfl))))))))))))) (k := Rn.nil))))))) ?_))
        refine Wp.cond rfl (fun h8 => ?_) (fun h8 => ?_)
        · simp only [Bool.and_eq_true, decide_eq_true_eq] at h8
          have hkl : k < T.length := by omega
          rw [drop_cons hkl, endR, if_pos h8.2] at h7
          refine Wp.skip (Wp.block (Wp.reads (is := [0, 1, 2]) (Keep.refl _) (Rn.s rfl Yv.mv (Rn.s rfl (Yv.add (by unfold inI; omega)) (Rn.s rfl Yv.as (Rn.nil)))) ?_))
          exact ⟨k + 1, ⟨rfl, hk9.trans (Keep.drew _), by omega, hkl, h7, rfl, rfl, rfl, rfl, rfl, rfl, rfl, trivial⟩, by omega⟩
        have e : endS T m = k := by
          rw [h7]
          by_cases hkl : k < T.length
          · rw [drop_cons hkl, endR, if_neg]
            simp only [Bool.and_eq_false_iff, decide_eq_false_iff_not] at h8
            omega
          · rw [List.drop_eq_nil_of_le (by omega), endR]
        rw [e] at eW
        clear h8 h7 e e1 e2
        refine Wp.exit ?_
        have htk : (T.take m).length = (m : Int).toNat := by rw [Int.toNat_natCast]; simp; omega
        have htd : (T.drop k).length = T.length - (k : Int).toNat := by rw [Int.toNat_natCast]; simp
        have hAT := rd_some hrT hT0
        refine Wp.drawsB [7] mixed (WDB.rd0 (is := [0, 1, 2]) (fun _ _ _ _ _ h => h) (Keep.refl _) (Rn.s rfl Yv.mv (Rn.s rfl Yv.mv (Rn.s rfl (Yv.sl_t (n := 8) (e := 48) (k := (T.take m).length) (by omega) (by omega) htk) (Rn.nil)))) (WDB.rd0 (is := [4, 5, 6]) (fun _ _ _ _ _ h => h) (Keep.refl _) (Rn.s rfl Yv.mv (Rn.s rfl Yv.mv (Rn.s rfl (Yv.sl_f (n := 8) (e := 48) (k := (T.drop k).length) (by omega) (by omega) htd) (Rn.nil)))) ?_))
        refine WDB.act 3 (hc := rfl) (he := Ef.callv Tryd.func23 (Calls.mono (copyL_cx PA pc (T.take m) _ (rd_take ((hr9.keep (Keep.drew _)).keep (Keep.drew _))) (fun h => (hAT h).elim) (by simp; omega)) ?_))
        rintro e wc ⟨v, D', rfl, ⟨B, d, rfl, rfl⟩, hp⟩
        have hp : St _ [] wc [Ch.row NdE 48 B d (T.take m)] := hp
        refine ⟨fun _ h => h.trans hp.keep, ?_⟩
        refine WDB.act 7 (hc := rfl) (he := Ef.append (ys := T.drop k) hp 0 (rd_drop (((hr9.keep (Keep.drew _)).keep (Keep.drew _)).keep hp.keep) hcapT) (cut_none (t := T) hAT) (fitN (by simp; omega)) (fun A7 c7 w10 hs10 => ⟨fun h => (h (by simp)).elim, ?_⟩))
        refine WDB.rd0 (is := [8]) (fun _ _ _ _ _ h => h) (Keep.refl _) (Rn.s rfl Yv.as (Rn.nil)) (WDB.done ?_)
        refine ⟨rfl, hk9.trans ((Keep.drew _).trans ((Keep.drew _).trans hs10.keep)), A7, c7, ?_, rfl, rfl, rfl, rfl, ?_, trivial⟩
        · rw [eW]; exact hs10.rd 0
        · rw [eW]; rfl
      · have h4 := of_decide_eq_false h4
        have eW : wcutS T incl = T := by
          unfold wcutS
          rw [← hK, if_pos (by omega)]
        refine Wp.skip ?_
        refine ⟨rfl, Keep.refl _, PA, pc, ?_, rfl, rfl, rfl, rfl, ?_, trivial⟩
        · rw [eW]; exact hrT
        · rw [eW]; rfl
    rintro ρ ds w11 ⟨rfl, hk11, UA, uc, hrU, hs⟩
    refine Wp.forget _ ?_ hs
    clear hs ρ
    have k11 : Keep w6 w11 := hk.trans (hst.keep.trans hk11)
    have hT11 := hTr.keep k11
    have hilt : i < ts.length := by omega
    have gx : nth ts (i : Int) ∈ ts := by rw [nth_of (List.getElem?_eq_getElem hilt)]; exact List.getElem_mem hilt
    have hrx := (hTn _ gx).keep k11
    have ex : (nth ts (i : Int)).2.2 = wcutS T incl := by
      rw [← t2, ← hTi, nth_of (List.getElem?_eq_getElem hilt)]
      have : (ts.map ts1)[i]? = some (ts1 ts[i]) := by rw [List.getElem?_map, List.getElem?_eq_getElem hilt]; rfl
      rw [nth_of this]
    have hlx := hts3 _ gx
    refine Wp.seq (Wp.regionL (l := [0, 1, 2, 3, 4, 5, 6]) (WO.rd (is := [0, 1, 2, 3, 4]) (js := [5, 6]) (Keep.refl _) (Rn.s rfl Yv.mv (Rn.s rfl Yv.mv (Rn.s rfl (Yv.ia (e := 43) hT11 (by omega) (by omega) (hm := hts2.symm)) (Rn.s rfl (Yv.ld (hT11.ld 0 (by omega) (by omega))) (Rn.s rfl Yv.mv (Rn.nil)))))) (WO.cv rfl (same_cv (nth ts (i : Int)).1 (nth ts (i : Int)).2.1 (nth ts (i : Int)).2.2 UA uc (wcutS T incl) w11 hrx hrU (by omega)) (Keep.refl _) (FnOk.of Tryd.func24) (fun wy1 ky1 => WO.rd (is := [6]) (js := []) ((Keep.refl _).trans ky1) (Rn.s rfl Yv.not (Rn.nil)) (WO.done ?_)))))
    rw [ex, decide_eq_true rfl]
    refine Wp.cond_f rfl (Wp.skip (Wp.reads (is := [0, 1, 2]) (Keep.refl _) (Rn.s rfl Yv.mv (Rn.s rfl (Yv.add (by unfold inI; omega)) (Rn.s rfl Yv.as (Rn.nil)))) ?_))
    exact ⟨i + 1, ⟨rfl, k11.trans ky1, by omega, rfl, rfl, rfl, rfl, trivial⟩, by omega⟩
  clear h2
  refine Wp.exit ?_
  refine Wp.seq (Wp.regionL (l := [0, 1]) (WO.cv rfl (awake7_cv w7a (hg6.keep hk7a)) (Keep.refl _) (FnOk.of Tryd.func13) (fun wx1 kx1 => WO.rd (is := [1]) (js := []) ((Keep.refl _).trans kx1) (Rn.s rfl Yv.as (Rn.nil)) (WO.done ?_))))
  exact Wp.ret (Fin.ret (Res.one rfl rfl) ⟨rfl, kw.trans (hk7a.trans kx1)⟩)
end Go.Proofs.YtgjhbapbomdpbaaDoor.C
