/- IncludeSets, walked. -/
import Derived.Test.YtgjhbapbomdpbaaDoorIj
set_option linter.unusedVariables false
set_option linter.unusedSimpArgs false
set_option maxRecDepth 10000
namespace Go.Proofs.YtgjhbapbomdpbaaDoor.C
open Go.RowKit Go.Proofs.YtgjhbapbomdpbaaDoor.Sh
theorem rdF_drop {w : World} {A : Option Addr} {t : List Fl} {c l : Nat} (hr : Rd FlE w A t) (hc : t.length ≤ c) : Rd FlE w (cutA A c l 2) (t.drop l) := by
  have := hr.cut (l := l) hc (Nat.le_refl _)
  rwa [List.take_length] at this
theorem rdF_take {w : World} {A : Option Addr} {t : List Fl} {m : Nat} (hr : Rd FlE w A t) : Rd FlE w A (t.take m) := by
  have : Rd FlE w A (t.take m ++ t.drop m) := by rw [List.take_append_drop]; exact hr
  exact rd_pre this
theorem cutF_none {A : Option Addr} {c l : Nat} (hA : A = none → c = 0) : cutA A c l 2 = none → c - l = 0 := by
  intro h
  unfold cutA at h
  split at h
  · omega
  · simp only [Option.map_eq_none_iff] at h
    have := hA h
    omega
/-- what a call of Load leaves to be read -/
structure Ld (w : World) (files : List Fl) (root : Bs) (NA TA : Option Addr) (nc tc : Nat) (ts : List Tr) (b : Nat) : Prop where
  names : Rd StE w NA (outN files root)
  trees : Rd TsE w TA ts
  tree : ∀ x ∈ ts, Rd NdE w x.1 x.2.2
  is : ts.map ts1 = outT files root
  fault : Cells w b (outF files root).cs
theorem Ld.keep {w w' : World} {files : List Fl} {root : Bs} {NA TA : Option Addr} {nc tc : Nat} {ts : List Tr} {b : Nat} (h : Ld w files root NA TA nc tc ts b) (k : Keep w w') : Ld w' files root NA TA nc tc ts b :=
  ⟨h.names.keep k, h.trees.keep k, fun x hx => (h.tree x hx).keep k, h.is, h.fault.keep k⟩
theorem ld_of {w0 w : World} {files : List Fl} {root : Bs} {NA TA : Option Addr} {nc tc : Nat} {ts : List Tr} {b : Nat} {E : List Chunk} {vs : List Value} (his : ts.map ts1 = outT files root) (hs : St w0 [] w (Ch.cells b 27 vs :: ((Ch.row StE 9 NA nc (outN files root) :: Ch.row TsE 43 TA tc ts :: trows ts) ++ E))) (hv : vs = (outF files root).cs) : Ld w files root NA TA nc tc ts b := by
  subst hv
  exact ⟨hs.rd 1, hs.rd 2, st_trows (D := [_, _, _]) hs, his, hs.cells 0⟩
theorem Ld.len {w : World} {files : List Fl} {root : Bs} {NA TA : Option Addr} {nc tc : Nat} {ts : List Tr} {b : Nat} (h : Ld w files root NA TA nc tc ts b) : ts.length ≤ 64 ∧ ts.length = (outT files root).length ∧ ∀ x ∈ ts, x.2.2.length ≤ 1000000 := by
  obtain ⟨h1, h2⟩ := outN_len files root
  have h3 : ts.length = (outT files root).length := by rw [← h.is, List.length_map]
  refine ⟨by omega, h3, fun x hx => ?_⟩
  have := outT_len files root x.2.2 (by rw [← h.is]; exact List.mem_map_of_mem hx)
  omega
/-- two answers alike: trees held against one another -/
theorem ld_same {w : World} {files gs : List Fl} {root : Bs} {NA TA NB TB : Option Addr} {nc tc nd td : Nat} {ts us : List Tr} {b d : Nat} (h : Ld w files root NA TA nc tc ts b) (h2 : Ld w gs root NB TB nd td us d) (he : outT files root = outT gs root) :
    Cv Tryd.prog 15 [.slice TA (outT files root).length tc, .slice TB (outT gs root).length td] (.bool true) w := by
  obtain ⟨g1, g2, g3⟩ := h.len
  obtain ⟨g4, g5, g6⟩ := h2.len
  have := sameTr_cv TA tc ts TB td us w h.trees h2.trees h.tree h2.tree (by omega) g3
  rw [h.is, h2.is, decide_eq_true he, g2, g5] at this
  exact this
theorem outF_code (files : List Fl) (root : Bs) : (outF files root).code = (loadS files root).2.code := by
  unfold outF
  split
  · rfl
  · rename_i h
    exact (Decidable.not_not.1 h).symm
theorem out_congr {files gs : List Fl} {root : Bs} (h : loadS gs root = loadS files root) : outN gs root = outN files root ∧ outT gs root = outT files root ∧ outF gs root = outF files root := by
  unfold outN outT outF
  rw [h]
  exact ⟨rfl, rfl, rfl⟩
set_option maxHeartbeats 1600000 in
theorem sets_calls (A : Option Addr) (c : Nat) (files : List Fl) (root more : Bs) (a : Int) (w : World) (hg : Gm w) (hr : Rd FlE w A files) (hA : A = none → c = 0) (hcap : files.length ≤ c) (hl : files.length ≤ 4398046511000) (hb : ∀ f ∈ files, f.name.length ≤ 140737488351232 ∧ f.text.length ≤ 140737488351232) (hrb : root.length ≤ 140737488351232) :
    Calls Tryd.prog 3 #[.slice A files.length c, S root, S more, .int .i64 a] w fun e w' => e = .returned (.bool true) ∧ Keep w w' := by
  refine calls_of_Wp (vs := [_, _, _, _]) Tryd.func3 ?_
  refine Wp.seq (Wp.reads (is := [0]) (Keep.refl _) (Rn.s rfl Yv.as (Rn.nil)) ?_)
  -- as it stands
  refine Wp.seq (Wp.regionL (l := [0, 1, 2, 3, 4, 5, 6, 7, 8, 9, 10, 11]) (WO.rd (is := [0]) (js := [1, 2, 3, 4, 5, 6, 7, 8, 9, 10, 11]) (Keep.refl _) (Rn.s rfl Yv.mv (Rn.nil)) (WO.act (hc := rfl) (he := Ef.cx (copyF_cx A c files w hr hA (by omega)) (St.init w) (FnOk.of Tryd.func12) ?_))))
  rintro v D w1 ⟨B1, d1, rfl, rfl⟩ hs1
  have hst : St w [] w1 [Ch.row FlE 33 B1 d1 files] := hs1
  clear hs1
  refine WO.rd (is := [2]) (js := [3, 4, 5, 6, 7, 8, 9, 10, 11]) (Keep.refl _) (Rn.s rfl Yv.mv (Rn.nil)) (WO.act (hc := rfl) (he := Ef.cx (load_cx B1 d1 files root w1 (hg.keep hst.keep) (hst.rd 0) (by omega)) hst (FnOk.of Tryd.func11) ?_))
  rintro v D w2 ⟨NA, nc, TA, tc, ts, rfl, hts, rfl⟩ hs2
  refine WO.rd (is := [4, 5, 6, 7]) (js := [8, 9, 10, 11]) (Keep.refl _) (Rn.s rfl Yv.mv (Rn.s rfl Yv.ex (Rn.s rfl Yv.ex (Rn.s rfl Yv.ex (Rn.nil))))) (WO.act (he := Ef.allocL (vs := ft0.cs) hs2 (fun b11 w3 k3 hs3 => WO.rd (is := [9, 10]) (js := [11]) (Keep.refl _) (Rn.s rfl Yv.as (Rn.s rfl Yv.as (Rn.nil))) (WO.act (he := Ef.stores hs3 0 (fun w4 hs4 => WO.done ?_))))))
  have L1 := ld_of (nc := nc) (tc := tc) hts hs4 rfl
  have k4 : Keep w w4 := hs4.keep
  clear hs2 hs3 hs4 hst hts
  have c11 := L1.fault
  have hc70 := outF_code files root
  obtain ⟨N, hN⟩ : ∃ N, N = outN files root := ⟨_, rfl⟩
  obtain ⟨T, hT⟩ : ∃ T, T = outT files root := ⟨_, rfl⟩
  obtain ⟨F, hF⟩ : ∃ F, F = outF files root := ⟨_, rfl⟩
  rw [← hF] at c11 hc70
  rw [← hN, ← hT]
  refine Wp.seq (Wp.seq (Wp.reads (is := [0, 1, 2, 3, 4, 5, 6, 7]) (Keep.refl _) (Rn.s rfl (Yv.fa (off := 0)) (Rn.s rfl (Yv.ld (c11.at_ 0)) (Rn.s rfl (Yv.cmp _ rfl) (Rn.s rfl Yv.mv (Rn.or (is := [4, 5, 6, 7]) (js := []) (t := 34) (d := 38) (hg := rfl) (hf := fun h3 => have h3 := ne_of_beq_false h3; Rn.s rfl Yv.mv (Rn.s rfl (Yv.len_v (e := 33) (m := 2)) (Rn.s rfl (Yv.cmp _ rfl) (Rn.s rfl Yv.pick_f ((Rn.e 4 rfl rfl)))))) (ht := fun _ => Rn.no rfl (Rn.no rfl (Rn.no rfl (Rn.s rfl Yv.pick_t (Rn.e 4 rfl rfl))))) (k := Rn.nil)))))) ?_))
  refine Wp.cond rfl (fun h => ?_) (fun h => ?_)
  · refine Wp.seq (Wp.regionL (l := [0, 1]) (WO.cv rfl (awake7_cv w4 (hg.keep k4)) (Keep.refl _) (FnOk.of Tryd.func13) (fun wx1 kx1 => WO.rd (is := [1]) (js := []) ((Keep.refl _).trans kx1) (Rn.s rfl Yv.as (Rn.nil)) (WO.done ?_))))
    exact Wp.ret (Fin.ret (Res.one rfl rfl) ⟨rfl, k4.trans kx1⟩)
  have h : F.code ≠ 70 ∧ files.length < 64 := by
    simp only [Bool.or_eq_false_iff, beq_eq_false_iff_ne, decide_eq_false_iff_not] at h
    exact ⟨h.1, by omega⟩
  obtain ⟨h70, hl64⟩ := h
  rw [hc70] at h70
  -- turned
  refine Wp.skip (Wp.seq (Wp.reads (is := [0]) (Keep.refl _) (Rn.s rfl Yv.as (Rn.nil)) ?_))
  refine Wp.seq (Wp.seq (Wp.reads (is := [0, 1, 2, 3]) (Keep.refl _) (Rn.s rfl Yv.mv (Rn.s rfl (Yv.len_v (e := 33) (m := 2)) (Rn.s rfl (Yv.sub (by unfold inI; omega)) (Rn.s rfl Yv.as (Rn.nil))))) ?_))
  refine Wp.block ?_
  refine Wp.loop (α := Nat) (fun i ρ ds w' => ds = [] ∧ i ≤ files.length ∧ (∃ B d, St w4 [] w' [Ch.row FlE 33 B d (files.reverse.take i)] ∧
    Sub [(0, .slice A files.length c), (1, S root), (2, S more), (3, .int .i64 a), (9, .slice NA N.length nc), (10, .slice TA T.length tc), (11, PB b11), (12, .slice B (files.reverse.take i).length d), (13, .int .i64 ((files.length : Int) - 1 - (i : Int)))] ρ)) (fun i => files.length - i) 0
    ⟨rfl, Nat.zero_le _, ⟨none, 0, (St.init w4).nilrow FlE _, rfl, rfl, rfl, rfl, rfl, rfl, rfl, rfl, by simp; rfl, trivial⟩⟩ ?_
  rintro i ρ ds w5 ⟨rfl, hi, B, d, hst, hsub⟩
  refine Wp.forget _ ?_ hsub
  clear hsub ρ
  have hr5 := hr.keep (k4.trans hst.keep)
  refine Wp.seq (Wp.seq (Wp.reads (is := [0, 1]) (Keep.refl _) (Rn.s rfl Yv.mv (Rn.s rfl (Yv.cmp _ rfl) (Rn.nil))) ?_))
  refine Wp.cond rfl (fun h2 => ?_) (fun h2 => ?_)
  · have h2 := of_decide_eq_true h2
    have hil : i < files.length := by omega
    refine Wp.skip (Wp.seq (Wp.block ?_))
    refine Wp.regionL (l := [0, 1, 2, 3, 4, 5, 6, 7]) (WO.rd (is := [0, 1, 2, 3, 4]) (js := [5, 6, 7]) (Keep.refl _) (Rn.s rfl Yv.mv (Rn.s rfl Yv.mv (Rn.s rfl Yv.mv (Rn.s rfl (Yv.ia (e := 33) hr5 (by omega) (by omega)) (Rn.s rfl (Yv.ldel hr5 rfl rfl (by omega) (by omega)) (Rn.nil)))))) (WO.app FlE [nth files ((files.length : Int) - 1 - (i : Int))] rfl (fun _ => rfl) hst 0 (fitF (by simp; omega)) (fun by1 Ay1 cy1 wy1 hsy1 => WO.rd (is := [7]) (js := []) (Keep.refl _) (Rn.s rfl Yv.as (Rn.nil)) (WO.done ?_))))
    refine Wp.reads (is := [0, 1, 2]) (Keep.refl _) (Rn.s rfl Yv.mv (Rn.s rfl (Yv.sub (by unfold inI; omega)) (Rn.s rfl Yv.as (Rn.nil)))) ?_
    have e : files.reverse.take (i + 1) = files.reverse.take i ++ [nth files ((files.length : Int) - 1 - (i : Int))] := by
      have e1 : (files.length : Int) - 1 - (i : Int) = ((files.length - 1 - i : Nat) : Int) := by omega
      rw [List.take_add_one, List.getElem?_reverse hil, e1, nth_nat, List.getD_eq_getElem?_getD, List.getElem?_eq_getElem (show files.length - 1 - i < files.length by omega)]
      rfl
    have e2 : (files.length : Int) - 1 - ((i + 1 : Nat) : Int) = (files.length : Int) - 1 - (i : Int) - 1 := by omega
    refine ⟨i + 1, ⟨rfl, by omega, ⟨Ay1, cy1, ?_, rfl, rfl, rfl, rfl, rfl, rfl, rfl, ?_, ?_, trivial⟩⟩, by omega⟩
    · rw [e]; exact hsy1.pick [0]
    · rw [e]; rfl
    · rw [e2]; rfl
  have h2 := of_decide_eq_false h2
  have etk : files.reverse.take i = files.reverse := List.take_of_length_le (by rw [List.length_reverse]; omega)
  rw [etk] at hst ⊢
  obtain ⟨o1, o2, o3⟩ := out_congr (sets_law h70)
  refine Wp.exit ?_
  have hl2 := load_cx B d files.reverse root w5 (hg.keep (k4.trans hst.keep)) (hst.rd 0) (by rw [List.length_reverse]; omega)
  refine Wp.seq (Wp.regionL (l := [0, 1, 2, 3, 4, 5, 6, 7, 8, 9, 10]) (WO.rd (is := [0, 1]) (js := [2, 3, 4, 5, 6, 7, 8, 9, 10]) (Keep.refl _) (Rn.s rfl Yv.mv (Rn.s rfl Yv.mv (Rn.nil))) (WO.act (hc := rfl) (he := Ef.cx hl2 hst (FnOk.of Tryd.func11) ?_))))
  rintro v D w6 ⟨NB, nd, TB, td, us, rfl, hus, rfl⟩ hs6
  refine WO.rd (is := [3, 4, 5, 6]) (js := [7, 8, 9, 10]) (Keep.refl _) (Rn.s rfl Yv.mv (Rn.s rfl Yv.ex (Rn.s rfl Yv.ex (Rn.s rfl Yv.ex (Rn.nil))))) (WO.act (he := Ef.allocL (vs := ft0.cs) hs6 (fun b16 w7 k7 hs7 => WO.rd (is := [8, 9]) (js := [10]) (Keep.refl _) (Rn.s rfl Yv.as (Rn.s rfl Yv.as (Rn.nil))) (WO.act (he := Ef.stores hs7 0 (fun w8 hs8 => WO.done ?_))))))
  have L2 := ld_of (nc := nd) (tc := td) hus hs8 rfl
  have k8 : Keep w4 w8 := hs8.keep
  clear hs6 hs7 hs8 hst hus hr5
  have L1 := L1.keep k8
  have k8 : Keep w w8 := k4.trans k8
  have hsT := ld_same L1 L2 o2.symm
  have hsN := sameT_cv NA nc (outN files root) NB nd (outN files.reverse root) w8 L1.names L2.names (by have := (outN_len files root).1; omega)
  have c11 := L1.fault
  have c16 := L2.fault
  rw [o1] at hsN
  rw [o1, o2] 
  rw [o2] at hsT
  rw [o3] at c16
  rw [← hF] at c11 c16
  rw [← hN] at hsN ⊢
  rw [← hT] at hsT ⊢
  refine Wp.seq (Wp.seq (Wp.regionL (l := [0, 1, 2, 3, 4, 5, 6, 7, 8, 9, 10, 11, 12, 13, 14]) (WO.rd (is := [0, 1, 2, 3]) (js := [4, 5, 6, 7, 8, 9, 10, 11, 12, 13, 14]) (Keep.refl _) (Rn.s rfl (Yv.ldb c11) (Rn.s rfl (Yv.ldb c16) (Rn.s rfl (Yv.nes (ftEq F F)) (Rn.s rfl Yv.mv (Rn.nil))))) (WO.or (js := [9, 10, 11, 12, 13, 14]) 64 69 (hg := rfl) (hf := fun h3 qx1 => WO.rd (is := [4, 5]) (js := [6, 7, 8, 9, 10, 11, 12, 13, 14]) (Keep.refl _) (Rn.s rfl Yv.mv (Rn.s rfl Yv.mv (Rn.nil))) (WO.cv rfl hsN (Keep.refl _) (FnOk.of Tryd.func14) (fun wx2 kx2 => WO.rd (is := [7, 8]) (js := [9, 10, 11, 12, 13, 14]) ((Keep.refl _).trans kx2) (Rn.s rfl Yv.not (Rn.s rfl Yv.pick_f (Rn.nil))) (WO.e 5 (qx1 _ ((Keep.refl _).trans kx2)))))) (ht := fun _ qx1 => WO.rd (is := [4, 5, 6, 7, 8]) (js := [9, 10, 11, 12, 13, 14]) (Keep.refl _) (Rn.no rfl (Rn.no rfl (Rn.no rfl (Rn.no rfl (Rn.s rfl Yv.pick_t Rn.nil))))) (WO.e 5 (qx1 _ (Keep.refl _)))) (k := fun wx1 kx1 => WO.rd (is := [9]) (js := [10, 11, 12, 13, 14]) ((Keep.refl _).trans kx1) (Rn.s rfl Yv.mv (Rn.nil)) (WO.or (js := []) 70 75 (hg := rfl) (hf := fun h9 qx3 => WO.rd (is := [10, 11]) (js := [12, 13, 14]) ((Keep.refl _).trans kx1) (Rn.s rfl Yv.mv (Rn.s rfl Yv.mv (Rn.nil))) (WO.cv rfl hsT ((Keep.refl _).trans kx1) (FnOk.of Tryd.func15) (fun wx4 kx4 => WO.rd (is := [13, 14]) (js := []) (((Keep.refl _).trans kx1).trans kx4) (Rn.s rfl Yv.not (Rn.s rfl Yv.pick_f (Rn.nil))) (WO.e 5 (qx3 _ ((Keep.refl _).trans kx4)))))) (ht := fun _ qx3 => WO.rd (is := [10, 11, 12, 13, 14]) (js := []) ((Keep.refl _).trans kx1) (Rn.no rfl (Rn.no rfl (Rn.no rfl (Rn.no rfl (Rn.s rfl Yv.pick_t Rn.nil))))) (WO.e 5 (qx3 _ (Keep.refl _)))) (k := fun wx3 kx3 => WO.done ?_)))))))
  refine Wp.cond rfl (fun h3 => ?_) (fun h3 => ?_)
  · simp at h3
  clear h3 hsN hsT
  refine Wp.skip ?_
  have k9 : Keep w8 wx3 := kx1.trans kx3
  have hr9 := hr.keep (k8.trans k9)
  -- with a file that nobody includes
  refine Wp.seq (Wp.regionL (l := [0, 1, 2, 3]) (WO.rd (is := [0, 1]) (js := [2, 3]) (Keep.refl _) (Rn.s rfl Yv.mv (Rn.s rfl Yv.mv (Rn.nil))) (WO.cv rfl (lonely_cv A c files root wx3 hr9 (by omega) hb hrb) (Keep.refl _) (FnOk.of Tryd.func16) (fun wy1 ky1 => WO.rd (is := [3]) (js := []) ((Keep.refl _).trans ky1) (Rn.s rfl Yv.as (Rn.nil)) (WO.done ?_)))))
  obtain ⟨lone, hlone⟩ : ∃ lone, lone = loneS files root := ⟨_, rfl⟩
  rw [← hlone]
  obtain ⟨lb0, lb1⟩ := lowI_bd a
  refine Wp.seq (Wp.regionL (l := [0, 1, 2, 3, 4, 5, 6]) (WO.rd (is := [0]) (js := [1, 2, 3, 4, 5, 6]) (Keep.refl _) (Rn.s rfl Yv.mv (Rn.nil)) (WO.cv rfl (low_cv a wy1) (Keep.refl _) (FnOk.of Tryd.func17) (fun wz1 kz1 => WO.rd (is := [2, 3, 4, 5, 6]) (js := []) ((Keep.refl _).trans kz1) (Rn.s rfl Yv.mv (Rn.s rfl (Yv.len_v (e := 33) (m := 2)) (Rn.s rfl (Yv.add (by unfold inI; omega)) (Rn.s rfl (Yv.rem (by omega) (by omega) (by omega)) (Rn.s rfl Yv.as (Rn.nil)))))) (WO.done ?_)))))
  have hm1 := Int.emod_nonneg (lowI a) (b := (files.length : Int) + 1) (by omega)
  have hm2 := Int.emod_lt_of_pos (lowI a) (b := (files.length : Int) + 1) (by omega)
  obtain ⟨k, hk⟩ : ∃ k : Nat, lowI a % ((files.length : Int) + 1) = k := ⟨(lowI a % ((files.length : Int) + 1)).toNat, by omega⟩
  rw [hk] at hm2 ⊢
  have k10 : Keep w8 wz1 := k9.trans (ky1.trans kz1)
  have hr10 := hr.keep (k8.trans k10)
  have htk : (files.take k).length = (k : Int).toNat := by rw [Int.toNat_natCast]; simp; omega
  refine Wp.seq (Wp.regionL (l := [0, 1, 2, 3, 4, 5, 6, 7, 8, 9]) (WO.rd (is := [0, 1, 2]) (js := [3, 4, 5, 6, 7, 8, 9]) (Keep.refl _) (Rn.s rfl Yv.mv (Rn.s rfl Yv.mv (Rn.s rfl (Yv.sl_t (n := 2) (e := 33) (k := (files.take k).length) (by omega) (by omega) htk) (Rn.nil)))) (WO.act (hc := rfl) (he := Ef.cx (copyF_cx A c (files.take k) wz1 (rdF_take hr10) hA (by simp; omega)) (St.init wz1) (FnOk.of Tryd.func12) ?_))))
  rintro v D w11 ⟨B3, d3, rfl, rfl⟩ hs11
  refine WO.rd (is := [4, 5, 6]) (js := [7, 8, 9]) (Keep.refl _) (Rn.s rfl Yv.mv (Rn.s rfl Yv.mv (Rn.s rfl (Yv.bd (cs := Fl.cs ⟨lone, more⟩)) (Rn.nil)))) (WO.act (hc := rfl) (he := Ef.bsl (T := 33) FlE ([⟨lone, more⟩] : List Fl) hs11 (fun b12 w12 k12 hs12 => WO.act (he := Ef.append (ys := [(⟨lone, more⟩ : Fl)]) hs12 1 (hs12.rd 0) (by simp) (fitF (by simp; omega)) (fun B4 d4 w13 hs13 => WO.rd (is := [9]) (js := []) (Keep.refl _) (Rn.s rfl Yv.as (Rn.nil)) (WO.done ?_))))))
  have hst : St wz1 [] w13 [Ch.row FlE 33 B4 d4 (files.take k ++ [⟨lone, more⟩])] := hs13.pick [0]
  clear hs11 hs12 hs13
  have htd : (files.drop k).length = files.length - (k : Int).toNat := by rw [Int.toNat_natCast]; simp
  have hr13 := hr10.keep hst.keep
  refine Wp.seq (Wp.regionL (l := [0, 1, 2, 3, 4, 5, 6, 7, 8, 9, 10, 11, 12, 13, 14]) (WO.rd (is := [0, 1, 2, 3]) (js := [4, 5, 6, 7, 8, 9, 10, 11, 12, 13, 14]) (Keep.refl _) (Rn.s rfl Yv.mv (Rn.s rfl Yv.mv (Rn.s rfl Yv.mv (Rn.s rfl (Yv.sl_f (n := 2) (e := 33) (k := (files.drop k).length) (by omega) (by omega) htd) (Rn.nil))))) (WO.act (he := Ef.append (ys := files.drop k) hst 0 (rdF_drop hr13 hcap) (cutF_none hA) (fitF (by simp; omega)) ?_))))
  intro B5 d5 w14 hs14
  have hst : St wz1 [] w14 [Ch.row FlE 33 B5 d5 (files.take k ++ [⟨lone, more⟩] ++ files.drop k)] := hs14
  clear hs14 hr13
  have eall : files.take k ++ [⟨lone, more⟩] ++ files.drop k = files.take k ++ (⟨loneS files root, more⟩ : Fl) :: files.drop k := by rw [hlone]; simp
  obtain ⟨p1, p2, p3⟩ := out_congr (lone_law more k h70 hl64)
  rw [← eall] at p1 p2 p3
  obtain ⟨all, hall⟩ : ∃ all, all = files.take k ++ [(⟨lone, more⟩ : Fl)] ++ files.drop k := ⟨_, rfl⟩
  have hall1 : all.length ≤ 4398046511100 := by rw [hall]; simp; omega
  rw [← hall] at hst p1 p2 p3
  have hl3 := load_cx B5 d5 all root w14 (hg.keep (k8.trans (k10.trans hst.keep))) (hst.rd 0) hall1
  rw [← hall]
  refine WO.rd (is := [5]) (js := [6, 7, 8, 9, 10, 11, 12, 13, 14]) (Keep.refl _) (Rn.s rfl Yv.mv (Rn.nil)) (WO.act (hc := rfl) (he := Ef.cx hl3 hst (FnOk.of Tryd.func11) ?_))
  rintro v D w15 ⟨NC, ne, TC, te, vs, rfl, hvs, rfl⟩ hs15
  refine WO.rd (is := [7, 8, 9, 10]) (js := [11, 12, 13, 14]) (Keep.refl _) (Rn.s rfl Yv.mv (Rn.s rfl Yv.ex (Rn.s rfl Yv.ex (Rn.s rfl Yv.ex (Rn.nil))))) (WO.act (he := Ef.allocL (vs := ft0.cs) hs15 (fun b22 w16 k16 hs16 => WO.rd (is := [12, 13]) (js := [14]) (Keep.refl _) (Rn.s rfl Yv.as (Rn.s rfl Yv.as (Rn.nil))) (WO.act (he := Ef.stores hs16 0 (fun w17 hs17 => WO.done ?_))))))
  have L3 := ld_of (nc := ne) (tc := te) hvs hs17 rfl
  have k17 : Keep w8 w17 := k10.trans hs17.keep
  clear hs15 hs16 hs17 hst hvs
  have L1 := L1.keep k17
  have hsT := ld_same L1 L3 p2.symm
  have hsN := sameT_cv NA nc (outN files root) NC ne (outN all root) w17 L1.names L3.names (by have := (outN_len files root).1; omega)
  have c11 := L1.fault
  have c22 := L3.fault
  rw [p1] at hsN
  rw [p1, p2]
  rw [p2] at hsT
  rw [p3] at c22
  rw [← hF] at c11 c22
  rw [← hN] at hsN ⊢
  rw [← hT] at hsT ⊢
  have hg17 := hg.keep (k8.trans k17)
  refine Wp.seq (Wp.regionL (l := [0, 1, 2, 3, 4, 5, 6, 7, 8, 9, 10, 11, 12, 13, 14, 15, 16, 17, 18, 19, 20, 21]) (WO.rd (is := [0, 1, 2, 3]) (js := [4, 5, 6, 7, 8, 9, 10, 11, 12, 13, 14, 15, 16, 17, 18, 19, 20, 21]) (Keep.refl _) (Rn.s rfl Yv.mv (Rn.s rfl Yv.mv (Rn.s rfl (Yv.scm _ rfl) (Rn.s rfl Yv.mv (Rn.nil))))) (WO.or (js := [21]) 108 125 (hg := rfl) (hf := fun h3 qx1 => WO.rd (is := [4, 5, 6, 7]) (js := [8, 9, 10, 11, 12, 13, 14, 15, 16, 17, 18, 19, 20, 21]) (Keep.refl _) (Rn.s rfl (Yv.ldb c11) (Rn.s rfl (Yv.ldb c22) (Rn.s rfl (Yv.eqs (ftEq F F)) (Rn.s rfl Yv.mv (Rn.nil))))) (WO.and (js := [12, 13, 14, 15, 16, 17, 18, 19, 20, 21]) 112 116 (hg := rfl) (ht := fun h7 qx2 => WO.rd (is := [8, 9]) (js := [10, 11, 12, 13, 14, 15, 16, 17, 18, 19, 20, 21]) (Keep.refl _) (Rn.s rfl Yv.mv (Rn.s rfl Yv.mv (Rn.nil))) (WO.cv rfl hsN (Keep.refl _) (FnOk.of Tryd.func14) (fun wx3 kx3 => WO.rd (is := [11]) (js := [12, 13, 14, 15, 16, 17, 18, 19, 20, 21]) ((Keep.refl _).trans kx3) (Rn.s rfl Yv.pick_t (Rn.nil)) (WO.e 4 (qx2 _ ((Keep.refl _).trans kx3)))))) (hf := fun _ qx2 => WO.rd (is := [8, 9, 10, 11]) (js := [12, 13, 14, 15, 16, 17, 18, 19, 20, 21]) (Keep.refl _) (Rn.no rfl (Rn.no rfl (Rn.no rfl (Rn.s rfl Yv.pick_f Rn.nil)))) (WO.e 4 (qx2 _ (Keep.refl _)))) (k := fun wx2 kx2 => WO.rd (is := [12]) (js := [13, 14, 15, 16, 17, 18, 19, 20, 21]) ((Keep.refl _).trans kx2) (Rn.s rfl Yv.mv (Rn.nil)) (WO.and (js := [17, 18, 19, 20, 21]) 117 121 (hg := rfl) (ht := fun h12 qx4 => WO.rd (is := [13, 14]) (js := [15, 16, 17, 18, 19, 20, 21]) ((Keep.refl _).trans kx2) (Rn.s rfl Yv.mv (Rn.s rfl Yv.mv (Rn.nil))) (WO.cv rfl hsT ((Keep.refl _).trans kx2) (FnOk.of Tryd.func15) (fun wx5 kx5 => WO.rd (is := [16]) (js := [17, 18, 19, 20, 21]) (((Keep.refl _).trans kx2).trans kx5) (Rn.s rfl Yv.pick_t (Rn.nil)) (WO.e 4 (qx4 _ ((Keep.refl _).trans kx5)))))) (hf := fun _ qx4 => WO.rd (is := [13, 14, 15, 16]) (js := [17, 18, 19, 20, 21]) ((Keep.refl _).trans kx2) (Rn.no rfl (Rn.no rfl (Rn.no rfl (Rn.s rfl Yv.pick_f Rn.nil)))) (WO.e 4 (qx4 _ (Keep.refl _)))) (k := fun wx4 kx4 => WO.rd (is := [17]) (js := [18, 19, 20, 21]) (((Keep.refl _).trans kx2).trans kx4) (Rn.s rfl Yv.mv (Rn.nil)) (WO.and (js := [20, 21]) 122 124 (hg := rfl) (ht := fun h17 qx6 => WO.cv rfl (awake7_cv w17 hg17) (((Keep.refl _).trans kx2).trans kx4) (FnOk.of Tryd.func13) (fun wx7 kx7 => WO.rd (is := [19]) (js := [20, 21]) ((((Keep.refl _).trans kx2).trans kx4).trans kx7) (Rn.s rfl Yv.pick_t (Rn.nil)) (WO.e 2 (qx6 _ ((Keep.refl _).trans kx7))))) (hf := fun _ qx6 => WO.rd (is := [18, 19]) (js := [20, 21]) (((Keep.refl _).trans kx2).trans kx4) (Rn.no rfl (Rn.s rfl Yv.pick_f Rn.nil)) (WO.e 2 (qx6 _ (Keep.refl _)))) (k := fun wx6 kx6 => WO.rd (is := [20]) (js := [21]) ((((Keep.refl _).trans kx2).trans kx4).trans kx6) (Rn.s rfl Yv.pick_f (Rn.nil)) (WO.e 10 (qx1 _ ((((Keep.refl _).trans kx2).trans kx4).trans kx6)))))))))) (ht := fun _ qx1 => WO.rd (is := [4, 5, 6, 7, 8, 9, 10, 11, 12, 13, 14, 15, 16, 17, 18, 19, 20]) (js := [21]) (Keep.refl _) (Rn.no rfl (Rn.no rfl (Rn.no rfl (Rn.no rfl (Rn.no rfl (Rn.no rfl (Rn.no rfl (Rn.no rfl (Rn.no rfl (Rn.no rfl (Rn.no rfl (Rn.no rfl (Rn.no rfl (Rn.no rfl (Rn.no rfl (Rn.no rfl (Rn.s rfl Yv.pick_t Rn.nil))))))))))))))))) (WO.e 17 (qx1 _ (Keep.refl _)))) (k := fun wx1 kx1 => WO.rd (is := [21]) (js := []) ((Keep.refl _).trans kx1) (Rn.s rfl Yv.as (Rn.nil)) (WO.done ?_)))))
  refine Wp.ret (Fin.ret (Res.one rfl rfl) ⟨?_, ?_⟩)
  · simp
  · exact k8.trans (k17.trans kx1)
end Go.Proofs.YtgjhbapbomdpbaaDoor.C
