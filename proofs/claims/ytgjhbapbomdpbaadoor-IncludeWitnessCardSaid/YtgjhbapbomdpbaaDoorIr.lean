/- IncludeWitness, walked. -/
import Derived.Test.YtgjhbapbomdpbaaDoorIk
set_option linter.unusedVariables false
set_option linter.unusedSimpArgs false
set_option maxRecDepth 10000
namespace Go.Proofs.YtgjhbapbomdpbaaDoor.C
open Go.RowKit Go.Proofs.YtgjhbapbomdpbaaDoor.Sh
theorem outC_not {files : List Fl} {root : Bs} (h : (loadS files root).2.code ≠ 74) : outC files root = [] := by unfold outC; rw [if_pos h]
theorem outC_is {files : List Fl} {root : Bs} (h : (loadS files root).2.code = 74) : outC files root = (loadS files root).1.cyc := by unfold outC; rw [if_neg (fun q => q h)]
/-- a cycle's files, held against the law's own questions -/
structure Wit (files : List Fl) (c : List Bs) (file : Bs) : Prop where
  pos : 0 < c.length
  last : nth c ((c.length : Int) - 1) = file
  nd : ∀ i j : Nat, j < i → i < c.length → nth c (i : Int) ≠ nth c (j : Int)
  inc : ∀ i : Nat, i < c.length → nmsS (txtS files (nth c (i : Int))) (nth c (((i : Int) + 1) % (c.length : Int))) = true
theorem wit_of {files : List Fl} {root : Bs} (h : (loadS files root).2.code = 74) : Wit files (outC files root) (outF files root).file := by
  have hc := cycle_law h
  have hF : (outF files root).file = (loadS files root).2.file := by unfold outF; rw [if_pos (by rw [h]; decide)]
  rw [outC_is h, hF]
  obtain ⟨g1, g2⟩ := loadS_ok (files := files) (root := root) (by rw [h]; decide)
  obtain ⟨c, hcc⟩ : ∃ c, c = (loadS files root).1.cyc := ⟨_, rfl⟩
  obtain ⟨f, hff⟩ : ∃ f, f = (loadS files root).2.file := ⟨_, rfl⟩
  rw [← hcc, ← hff] at hc ⊢
  obtain ⟨q1, q2, q3, q4, ⟨x, q5, q6⟩, q7⟩ := hc
  have hpos : 0 < c.length := (List.getElem?_eq_some_iff.1 q5).1
  have hlast : c[c.length - 1]? = some f := by rw [← List.getLast?_eq_getElem?]; exact q1
  have hget : ∀ i : Nat, i < c.length → c[i]? = some (nth c (i : Int)) := fun i hi => by rw [nth_of (List.getElem?_eq_getElem hi)]; exact List.getElem?_eq_getElem hi
  refine ⟨hpos, ?_, ?_, ?_⟩
  · have e : (c.length : Int) - 1 = ((c.length - 1 : Nat) : Int) := by omega
    rw [e, nth_of hlast]
  · intro i j hj hi e
    have h1 := hget i hi
    have h2 := hget j (by omega)
    rw [e, ← h2] at h1
    have := (List.getElem?_inj hi q2).1 h1
    omega
  · intro i hi
    rw [txt_file g2]
    by_cases hl : i + 1 < c.length
    · have e : ((i : Int) + 1) % (c.length : Int) = ((i + 1 : Nat) : Int) := by rw [Int.emod_eq_of_lt (by omega) (by omega)]; rfl
      rw [e]
      obtain ⟨r1, r2⟩ := q3 i _ _ (hget i hi) (hget (i + 1) hl)
      rw [nmsS_inc r1, decide_eq_true r2]
    · have ei : i = c.length - 1 := by omega
      have e : ((i : Int) + 1) % (c.length : Int) = ((0 : Nat) : Int) := by
        rw [show (i : Int) + 1 = (c.length : Int) by omega, Int.emod_self]; rfl
      rw [e]
      have e2 : nth c (i : Int) = f := by rw [ei, nth_of hlast]
      have e3 : nth c ((0 : Nat) : Int) = x := nth_of q5
      rw [e2, e3, nmsS_inc q4, decide_eq_true q6]
/-- how long a cycle that is told can be -/
theorem outC_len (files : List Fl) (root : Bs) : (outC files root).length ≤ 64 := by
  by_cases h : (loadS files root).2.code = 74
  · have hc := (cycle_law h).len
    rw [outC_is h]
    omega
  · rw [outC_not h]; simp
set_option maxHeartbeats 1600000 in
theorem witness_calls (A : Option Addr) (c : Nat) (files : List Fl) (root : Bs) (w : World) (hg : Gl w) (hr : Rd FlE w A files) (hA : A = none → c = 0) (hl : files.length ≤ 4398046511000) :
    Calls Tryd.prog 5 #[.slice A files.length c, S root] w fun e w' => e = .returned (.bool true) ∧ Keep w w' := by
  refine calls_of_Wp (vs := [_, _]) Tryd.func5 ?_
  refine Wp.seq (Wp.reads (is := [0]) (Keep.refl _) (Rn.s rfl Yv.as (Rn.nil)) ?_)
  refine Wp.seq (Wp.regionL (l := [0, 1, 2, 3, 4]) (WO.rd (is := [0]) (js := [1, 2, 3, 4]) (Keep.refl _) (Rn.s rfl Yv.mv (Rn.nil)) (WO.act (hc := rfl) (he := Ef.cx (copyF_cx A c files w hr hA (by omega)) (St.init w) (FnOk.of Tryd.func12) ?_))))
  rintro v D w1 ⟨B1, d1, rfl, rfl⟩ hs1
  have hst : St w [] w1 [Ch.row FlE 33 B1 d1 files] := hs1
  clear hs1
  refine WO.rd (is := [2]) (js := [3, 4]) (Keep.refl _) (Rn.s rfl Yv.mv (Rn.nil)) (WO.act (hc := rfl) (he := Ef.cx (cycle_cx B1 d1 files root w1 (hg.toGm.keep hst.keep) (hst.rd 0) (by omega)) hst (FnOk.of Tryd.func18) ?_))
  rintro v D w2 ⟨CA, cc, rfl, rfl⟩ hs2
  refine WO.rd (is := [4]) (js := []) (Keep.refl _) (Rn.s rfl Yv.as (Rn.nil)) (WO.done ?_)
  have hrC : Rd StE w2 CA (outC files root) := hs2.rd 0
  have k2 : Keep w w2 := hs2.keep
  clear hst hs2
  have hr2 := hr.keep k2
  refine Wp.seq (Wp.regionL (l := [0, 1, 2, 3, 4, 5, 6, 7, 8, 9, 10, 11]) (WO.rd (is := [0]) (js := [1, 2, 3, 4, 5, 6, 7, 8, 9, 10, 11]) (Keep.refl _) (Rn.s rfl Yv.mv (Rn.nil)) (WO.act (hc := rfl) (he := Ef.cx (copyF_cx A c files w2 hr2 hA (by omega)) (St.init w2) (FnOk.of Tryd.func12) ?_))))
  rintro v D w3 ⟨B3, d3, rfl, rfl⟩ hs3
  have hst : St w2 [] w3 [Ch.row FlE 33 B3 d3 files] := hs3
  clear hs3
  refine WO.rd (is := [2]) (js := [3, 4, 5, 6, 7, 8, 9, 10, 11]) (Keep.refl _) (Rn.s rfl Yv.mv (Rn.nil)) (WO.act (hc := rfl) (he := Ef.cx (load_cx B3 d3 files root w3 (hg.toGm.keep (k2.trans hst.keep)) (hst.rd 0) (by omega)) hst (FnOk.of Tryd.func11) ?_))
  rintro v D w4 ⟨NA, nc, TA, tc, ts, rfl, hts, rfl⟩ hs4
  refine WO.rd (is := [4, 5, 6, 7]) (js := [8, 9, 10, 11]) (Keep.refl _) (Rn.s rfl Yv.mv (Rn.s rfl Yv.ex (Rn.s rfl Yv.ex (Rn.s rfl Yv.ex (Rn.nil))))) (WO.act (he := Ef.allocL (vs := ft0.cs) hs4 (fun b8 w5 k5 hs5 => WO.rd (is := [9, 10]) (js := [11]) (Keep.refl _) (Rn.s rfl Yv.as (Rn.s rfl Yv.as (Rn.nil))) (WO.act (he := Ef.stores hs5 0 (fun w6 hs6 => WO.done ?_))))))
  have L1 := ld_of (nc := nc) (tc := tc) hts hs6 rfl
  have k6 : Keep w2 w6 := hs6.keep
  clear hs4 hs5 hs6 hst hts
  have c8 := L1.fault
  have hcd := outF_code files root
  have hrC := hrC.keep k6
  have hr6 := hr2.keep k6
  have kw : Keep w w6 := k2.trans k6
  have hg6 := hg.keep kw
  refine Wp.seq (Wp.seq (Wp.reads (is := [0, 1, 2]) (Keep.refl _) (Rn.s rfl (Yv.fa (off := 0)) (Rn.s rfl (Yv.ld (c8.at_ 0)) (Rn.s rfl (Yv.cmp _ rfl) (Rn.nil)))) ?_))
  refine Wp.cond rfl (fun h => ?_) (fun h => ?_)
  · have h : (outF files root).code ≠ 74 := bne_iff_ne.1 h
    rw [hcd] at h
    rw [outC_not h]
    refine Wp.seq (Wp.regionL (l := [0, 1, 2, 3, 4, 5, 6]) (WO.rd (is := [0, 1, 2, 3]) (js := [4, 5, 6]) (Keep.refl _) (Rn.s rfl Yv.mv (Rn.s rfl (Yv.len_v (e := 9) (m := 1)) (Rn.s rfl (Yv.cmp _ rfl) (Rn.s rfl Yv.mv (Rn.nil))))) (WO.and (js := [6]) 29 31 (hg := rfl) (ht := fun h3 qx1 => have h3 := eq_of_beq h3; WO.cv rfl (awake7_cv w6 hg6) (Keep.refl _) (FnOk.of Tryd.func13) (fun wx2 kx2 => WO.rd (is := [5]) (js := [6]) ((Keep.refl _).trans kx2) (Rn.s rfl Yv.pick_t (Rn.nil)) (WO.e 2 (qx1 _ ((Keep.refl _).trans kx2))))) (hf := fun _ qx1 => WO.rd (is := [4, 5]) (js := [6]) (Keep.refl _) (Rn.no rfl (Rn.s rfl Yv.pick_f Rn.nil)) (WO.e 2 (qx1 _ (Keep.refl _)))) (k := fun wx1 kx1 => WO.rd (is := [6]) (js := []) ((Keep.refl _).trans kx1) (Rn.s rfl Yv.as (Rn.nil)) (WO.done ?_)))))
    exact Wp.ret (Fin.ret (Res.one rfl rfl) ⟨by simp, kw.trans kx1⟩)
  have h : (outF files root).code = 74 := bne_eq_false_iff_eq.1 h
  rw [hcd] at h
  have hw := wit_of h
  have hcl := outC_len files root
  obtain ⟨C, hC⟩ : ∃ C, C = outC files root := ⟨_, rfl⟩
  rw [← hC] at hw hrC hcl ⊢
  obtain ⟨p1, p2, p3, p4⟩ := hw
  refine Wp.skip (Wp.seq (Wp.seq (Wp.readsD (is := [0, 1, 2, 3, 4, 5, 6, 7, 8, 9, 10, 11, 12, 13]) mixed (fun _ _ _ _ _ h => h) (Keep.refl _) (Rn.s rfl Yv.mv (Rn.s rfl (Yv.len_v (e := 9) (m := 1)) (Rn.s rfl (Yv.cmp _ rfl) (Rn.s rfl Yv.mv (Rn.or (is := [4, 5, 6, 7, 8, 9, 10, 11, 12, 13]) (js := []) (t := 35) (d := 45) (hg := rfl) (hf := fun h3 => have h3 := ne_of_beq_false h3; Rn.s rfl Yv.mv (Rn.s rfl Yv.mv (Rn.s rfl (Yv.len_v (e := 9) (m := 1)) (Rn.s rfl (Yv.sub (by unfold inI; omega)) (Rn.s rfl (Yv.ia (e := 9) hrC (j := (C.length : Int) - 1) (by omega) (by omega)) (Rn.s rfl (Yv.ld (hrC.ld (i := (C.length : Int) - 1) 0 (by omega) (by omega))) (Rn.s rfl (Yv.fa (off := 1)) (Rn.s rfl (Yv.ld (c8.at_ 1)) (Rn.s rfl (Yv.scm _ rfl) (Rn.s rfl Yv.pick_f ((Rn.e 10 rfl rfl)))))))))))) (ht := fun _ => Rn.no rfl (Rn.no rfl (Rn.no rfl (Rn.no rfl (Rn.no rfl (Rn.no rfl (Rn.no rfl (Rn.no rfl (Rn.no rfl (Rn.s rfl Yv.pick_t (Rn.e 10 rfl rfl))))))))))) (k := Rn.nil)))))) ?_)))
  refine Wp.cond rfl (fun h2 => ?_) (fun h2 => ?_)
  · exfalso
    rw [p2] at h2
    simp at h2
    simp [h2] at p1
  clear h2
  refine Wp.skip (Wp.seq (Wp.seq (Wp.reads (is := [0]) (Keep.refl _) (Rn.s rfl Yv.as (Rn.nil)) ?_)))
  refine Wp.block ?_
  refine Wp.loop (α := Nat) (fun i ρ ds w' => ds = [] ∧ Keep w6 w' ∧ i ≤ C.length ∧ Sub [(0, .slice A files.length c), (5, .slice CA C.length cc), (9, .int .i64 (i : Int))] ρ) (fun i => C.length - i) 0
    ⟨rfl, Keep.drew _, Nat.zero_le _, rfl, rfl, rfl, trivial⟩ ?_
  rintro i ρ ds w7 ⟨rfl, hk, hi, hs⟩
  refine Wp.forget _ ?_ hs
  clear hs ρ
  refine Wp.seq (Wp.seq (Wp.reads (is := [0, 1, 2, 3]) (Keep.refl _) (Rn.s rfl Yv.mv (Rn.s rfl Yv.mv (Rn.s rfl (Yv.len_v (e := 9) (m := 1)) (Rn.s rfl (Yv.cmp _ rfl) (Rn.nil))))) ?_))
  refine Wp.cond rfl (fun h2 => ?_) (fun h2 => ?_)
  · have h2 := of_decide_eq_true h2
    have hil : i < C.length := by omega
    refine Wp.skip (Wp.seq (Wp.block ?_))
    refine Wp.seq (Wp.seq (Wp.reads (is := [0]) (Keep.refl _) (Rn.s rfl Yv.as (Rn.nil)) ?_))
    refine Wp.block ?_
    refine Wp.loop (α := Nat) (fun j ρ ds w' => ds = [] ∧ Keep w7 w' ∧ j ≤ i ∧ Sub [(0, .slice A files.length c), (5, .slice CA C.length cc), (9, .int .i64 (i : Int)), (10, .int .i64 (j : Int))] ρ) (fun j => i - j) 0
      ⟨rfl, Keep.refl _, Nat.zero_le _, rfl, rfl, rfl, rfl, trivial⟩ ?_
    rintro j ρ ds w8 ⟨rfl, hk2, hj, hs⟩
    refine Wp.forget _ ?_ hs
    clear hs ρ
    have hrC8 := hrC.keep (hk.trans hk2)
    refine Wp.seq (Wp.seq (Wp.reads (is := [0, 1, 2]) (Keep.refl _) (Rn.s rfl Yv.mv (Rn.s rfl Yv.mv (Rn.s rfl (Yv.cmp _ rfl) (Rn.nil)))) ?_))
    refine Wp.cond rfl (fun h3 => ?_) (fun h3 => ?_)
    · have h3 := of_decide_eq_true h3
      refine Wp.skip (Wp.seq (Wp.block ?_))
      refine Wp.seq (Wp.readsD (is := [0, 1, 2, 3, 4, 5, 6, 7, 8]) mixed (fun _ _ _ _ _ h => h) (Keep.refl _) (Rn.s rfl Yv.mv (Rn.s rfl Yv.mv (Rn.s rfl (Yv.ia (e := 9) hrC8 (j := (i : Int)) (by omega) (by omega)) (Rn.s rfl (Yv.ld (hrC8.ld (i := (i : Int)) 0 (by omega) (by omega))) (Rn.s rfl Yv.mv (Rn.s rfl Yv.mv (Rn.s rfl (Yv.ia (e := 9) hrC8 (j := (j : Int)) (by omega) (by omega)) (Rn.s rfl (Yv.ld (hrC8.ld (i := (j : Int)) 0 (by omega) (by omega))) (Rn.s rfl (Yv.scm _ rfl) (Rn.nil)))))))))) ?_)
      refine Wp.cond rfl (fun h4 => ?_) (fun h4 => ?_)
      · exfalso
        have h4 : nth C (i : Int) = nth C (j : Int) := by simpa using h4
        exact p3 i j (by omega) hil h4
      refine Wp.skip (Wp.reads (is := [0, 1, 2]) (Keep.refl _) (Rn.s rfl Yv.mv (Rn.s rfl (Yv.add (by unfold inI; omega)) (Rn.s rfl Yv.as (Rn.nil)))) ?_)
      exact ⟨j + 1, ⟨rfl, hk2.trans (Keep.drew _), by omega, rfl, rfl, rfl, rfl, trivial⟩, by omega⟩
    clear h3
    refine Wp.exit ?_
    have hm1 := Int.emod_nonneg ((i : Int) + 1) (b := (C.length : Int)) (by omega)
    have hm2 := Int.emod_lt_of_pos ((i : Int) + 1) (b := (C.length : Int)) (by omega)
    have kk := hk.trans hk2
    refine Wp.seq (Wp.draws [] mixed (WD.rd (is := [0, 1, 2, 3, 4, 6, 7, 8, 9, 10, 11, 12, 13]) (fun _ _ _ _ _ h => h) (Keep.drew _) (Rn.s rfl Yv.mv (Rn.s rfl Yv.mv (Rn.s rfl Yv.mv (Rn.s rfl (Yv.ia (e := 9) hrC8 (j := (i : Int)) (by omega) (by omega)) (Rn.s rfl (Yv.ld (hrC8.ld (i := (i : Int)) 0 (by omega) (by omega))) (Rn.s rfl Yv.mv (Rn.s rfl Yv.mv (Rn.s rfl (Yv.add (by unfold inI; omega)) (Rn.s rfl Yv.mv (Rn.s rfl (Yv.len_v (e := 9) (m := 1)) (Rn.s rfl (Yv.rem (by omega) (by omega) (by omega)) (Rn.s rfl (Yv.ia (e := 9) hrC8 (j := ((i : Int) + 1) % (C.length : Int)) hm1 hm2) (Rn.s rfl (Yv.ld (hrC8.ld (i := ((i : Int) + 1) % (C.length : Int)) 0 hm1 hm2)) (Rn.nil)))))))))))))) (WD.cv 5 rfl (text_cv A c files (nth C (i : Int)) w8 (hr6.keep kk) (by omega)) (Keep.drew _) (FnOk.of Tryd.func20) (fun wx1 kx1 => WD.cv 14 rfl (names_cv (txtS files (nth C (i : Int))) (nth C (((i : Int) + 1) % (C.length : Int))) w8 (hg6.keep kk)) ((Keep.drew _).trans kx1) (FnOk.of Tryd.func19) (fun wx2 kx2 => WD.rd (is := [15]) (fun _ _ _ _ _ h => h) (((Keep.drew _).trans kx1).trans kx2) (Rn.s rfl Yv.not (Rn.nil)) (WD.done ?_))))))
    rw [p4 i hil]
    refine Wp.cond_f rfl (Wp.skip (Wp.reads (is := [0, 1, 2]) (Keep.refl _) (Rn.s rfl Yv.mv (Rn.s rfl (Yv.add (by unfold inI; omega)) (Rn.s rfl Yv.as (Rn.nil)))) ?_))
    exact ⟨i + 1, ⟨rfl, kk.trans ((Keep.drew _).trans (kx1.trans kx2)), by omega, rfl, rfl, rfl, trivial⟩, by omega⟩
  clear h2
  refine Wp.exit ?_
  refine Wp.seq (Wp.regionL (l := [0, 1]) (WO.cv rfl (awake7_cv w7 (hg6.keep hk)) (Keep.refl _) (FnOk.of Tryd.func13) (fun wx1 kx1 => WO.rd (is := [1]) (js := []) ((Keep.refl _).trans kx1) (Rn.s rfl Yv.as (Rn.nil)) (WO.done ?_))))
  exact Wp.ret (Fin.ret (Res.one rfl rfl) ⟨rfl, kw.trans (hk.trans kx1)⟩)
end Go.Proofs.YtgjhbapbomdpbaaDoor.C
