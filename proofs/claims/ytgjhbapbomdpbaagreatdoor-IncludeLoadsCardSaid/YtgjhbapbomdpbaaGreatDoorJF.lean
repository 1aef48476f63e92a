/- The document's own include (chapter 7): a file set is read: walked. -/
import Derived.Test.YtgjhbapbomdpbaaGreatDoorJE
set_option linter.unusedVariables false
set_option linter.unusedSimpArgs false
set_option maxRecDepth 10000
namespace Go.Proofs.YtgjhbapbomdpbaaGreatDoor.C
open Go.RowKit Go.Proofs.YtgjhbapbomdpbaaGreatDoor.Sh
/-! ### nothing but a cycle leaves a cycle -/
theorem mayS_c0 {set : List (Bs × Fl)} {s : LS} {n : Nd} (h : s.cyc = []) (hc : (mayS set s n).2.1.code ≠ 74) : (mayS set s n).2.2.cyc = [] := by
  unfold mayS at hc ⊢
  split
  · exact h
  rename_i q; rw [if_neg q] at hc
  split
  · rename_i q; rw [if_pos q] at hc; exact absurd rfl hc
  split
  · exact h
  split
  · exact h
  · exact h
theorem visL_c0 {set : List (Bs × Fl)} {rd : LS → Bs → LS × Ft} (hr : ∀ s nm, s.cyc = [] → (rd s nm).2.code ≠ 74 → (rd s nm).1.cyc = []) : ∀ (ns : List Nd) (s : LS), s.cyc = [] → (visL rd set ns s).2.code ≠ 74 → (visL rd set ns s).1.cyc = []
  | [], s, h, _ => h
  | n :: r, s, h, hc => by
    rw [visL] at hc ⊢
    by_cases q1 : (mayS set s n).1 = true
    · rw [if_pos q1] at hc ⊢
      have e := (mayS_true q1).1
      rw [e] at hc ⊢
      by_cases h2 : (rd s n.text).2.code ≠ 0
      · rw [if_pos h2] at hc ⊢
        exact hr s n.text h hc
      · rw [if_neg h2] at hc ⊢
        exact visL_c0 hr r _ (hr s n.text h (by rw [Decidable.not_not.1 h2]; decide)) hc
    · rw [if_neg q1] at hc ⊢
      by_cases h2 : (mayS set s n).2.1.code ≠ 0
      · rw [if_pos h2] at hc ⊢
        exact mayS_c0 h hc
      · rw [if_neg h2] at hc ⊢
        exact visL_c0 hr r _ (mayS_c0 h (by rw [Decidable.not_not.1 h2]; decide)) hc
theorem loadF_c0 (set : List (Bs × Fl)) : ∀ (f : Nat) (s : LS) (name : Bs), s.cyc = [] → (loadF set f s name).2.code ≠ 74 → (loadF set f s name).1.cyc = []
  | 0, s, _, h, _ => h
  | f + 1, s, name, h, hc => by
    rw [loadF] at hc ⊢
    split
    · exact h
    rename_i q; rw [if_neg q] at hc
    split
    · exact h
    rename_i q; rw [if_neg q] at hc
    split
    · rename_i q; rw [if_pos q] at hc
      exact visL_c0 (loadF_c0 set f) _ (pushS s name) h hc
    · rename_i q
      exact visL_c0 (loadF_c0 set f) _ (pushS s name) h (by rw [Decidable.not_not.1 q]; decide)
theorem resTTTA {P : Program} {fn : Func} {N n : Nat} {ρ : Env} {w : World} {t u v s b : Nat} {ty : TypeId} {vs : List Value} {x y z : Value} (h : fn.results = #[.tmp u, .tmp v, .tmp s, .cell t ty]) (hx : lk ρ u = some x) (hy : lk ρ v = some y) (hz : lk ρ s = some z) (hp : lk ρ t = some (PB b)) (hc : Cells w b vs) (hn : vs.length = n := by rfl) (ht : agB P ty n = true := by kernel_rfl) : Res P fn N ρ w (.tuple #[x, y, z, .agg vs.toArray]) := fun a ds ha => by
  have h1 := ha.val t _ hp
  have h3 := ha.val u _ hx
  have h4 := ha.val v _ hy
  have h5 := ha.val s _ hz
  have h2 : (loadVar ty ⟨b, 0, none⟩).run P w = .ok (.agg vs.toArray) w := run_loadVar_ag (agB_of ht) ⟨b, 0, none⟩ vs hn (fun j v hj => by rw [add_off, Nat.zero_add]; exact hc j v hj)
  simp only [results, h]
  simp at h1 h3 h4 h5
  simp [h1, h2, h3, h4, h5, asAddr]
theorem dup_set {files : List Fl} {i : Nat} (hi : i < files.length) (h : (nth files (i : Int)).name ∈ (files.take i).map Fl.name) : (setS files).length < files.length := by
  by_cases q : (setS files).length < files.length
  · exact q
  · exfalso
    have hn := (setS_nodup files).1 q
    obtain ⟨j, hj⟩ := List.mem_iff_getElem?.1 h
    have hjl := (List.getElem?_eq_some_iff.1 hj).1
    simp only [List.length_map, List.length_take] at hjl
    rw [List.getElem?_map, List.getElem?_take_of_lt (by omega)] at hj
    have h1 : (files.map Fl.name)[j]? = some (nth files (i : Int)).name := by rw [List.getElem?_map]; exact hj
    have h2 : (files.map Fl.name)[i]? = some (nth files (i : Int)).name := by rw [List.getElem?_map, List.getElem?_eq_getElem hi, nth_of (List.getElem?_eq_getElem hi)]; rfl
    have := (List.getElem?_inj (by simp; omega) hn).1 (h1.trans h2.symm)
    omega
theorem out_refused {files : List Fl} {root : Bs} {why : Int} (h : loadS files root = (ls0, ⟨why, [], 0, 0⟩)) (hw : why ≠ 0) (h74 : why ≠ 74) : outN files root = [] ∧ outT files root = [] ∧ outC files root = [] ∧ outF files root = ⟨why, [], 0, 0⟩ := by
  unfold outN outT outC outF
  rw [h]
  exact ⟨if_pos hw, if_pos hw, if_pos h74, if_pos hw⟩
set_option maxHeartbeats 1600000 in
theorem rload_cx (A : Option Addr) (c : Nat) (files : List Fl) (root : Bs) (w : World) (hr : Rd FlE w A files) (hcap : files.length ≤ c) (hl : files.length ≤ 4398046511100) :
    Cx Tryz.prog 6 [.slice A files.length c, S root] [] (fun v D => ∃ CA cc NA nc TA tc ts, v = .tuple #[.slice NA (outN files root).length nc, .slice TA (outT files root).length tc, .slice CA (outC files root).length cc, .agg (outF files root).cs.toArray] ∧ ts.map ts1 = outT files root ∧
      D = Ch.row StE 9 CA cc (outC files root) :: Ch.row StE 9 NA nc (outN files root) :: Ch.row TsE 38 TA tc ts :: trows ts) w := by
  refine calls_of_Wp (vs := [_, _]) Tryz.func6 ?_
  refine Wp.seq (Wp.regionL (l := [0, 1, 2, 3]) (WO.rd (is := [0, 1, 2]) (js := [3]) (Keep.refl _) (Rn.s rfl Yv.as (Rn.s rfl Yv.as (Rn.s rfl Yv.as (Rn.nil)))) (WO.act (hc := rfl) (he := Ef.allocL (vs := [.int .i64 0, S [], .int .i64 0, .int .i64 0]) (St.init w) (fun ba1 wa1 ka1 hsa1 => WO.done ?_)))))
  have hno : ∀ {w' : World} {D : List Chunk}, St w [] w' D → St w [] w' [Ch.row StE 9 none 0 [], Ch.row StE 9 none 0 [], Ch.row TsE 38 none 0 []] := fun h => (((h.sub (List.nil_sublist _)).nilrow TsE _).nilrow StE _).nilrow StE _
  refine Wp.seq (Wp.seq (Wp.reads (is := [0, 1, 2]) (Keep.refl _) (Rn.s rfl Yv.mv (Rn.s rfl (Yv.len_v (e := 49) (m := 2)) (Rn.s rfl (Yv.cmp _ rfl) (Rn.nil)))) ?_))
  refine Wp.cond rfl (fun h => ?_) (fun h => ?_)
  · have h := of_decide_eq_true h
    have hS : loadS files root = (ls0, ⟨70, [], 0, 0⟩) := by unfold loadS; rw [if_pos (.inl (by omega))]
    obtain ⟨e1, e2, e3, e4⟩ := out_refused hS (by decide) (by decide)
    rw [e1, e2, e3, e4]
    refine Wp.seq (Wp.regionL (l := [0, 1, 2, 3, 4]) (WO.rd (is := [0, 1, 2, 3]) (js := [4]) (Keep.refl _) (Rn.s rfl (Yv.bd (cs := Ft.cs ⟨70, [], 0, 0⟩)) (Rn.s rfl Yv.as (Rn.s rfl Yv.as (Rn.s rfl Yv.as (Rn.nil))))) (WO.act (hc := rfl) (he := Ef.stores hsa1 0 (fun wx1 hsx1 => WO.done ?_)))))
    exact Wp.ret (Fin.ret (resTTTA rfl rfl rfl rfl rfl (hsx1.cells 0)) ⟨_, _, rfl, ⟨none, 0, none, 0, none, 0, [], rfl, rfl, rfl⟩, hno hsx1⟩)
  have h := of_decide_eq_false h
  have h64 : files.length ≤ 64 := by omega
  refine Wp.skip (Wp.seq (Wp.seq (Wp.reads (is := [0]) (Keep.refl _) (Rn.s rfl Yv.as (Rn.nil)) ?_)))
  refine Wp.block ?_
  refine Wp.loop (α := Nat) (fun i ρ ds w' => ds = [] ∧ i ≤ files.length ∧ ((files.take i).map Fl.name).Nodup ∧ St w [] w' [Ch.cells ba1 27 ft0.cs] ∧ Sub [(0, .slice A files.length c), (1, S root), (7, PB ba1), (8, .int .i64 (i : Int))] ρ) (fun i => files.length - i) 0
    ⟨rfl, Nat.zero_le _, List.nodup_nil, hsa1, rfl, rfl, rfl, rfl, trivial⟩ ?_
  clear hsa1
  rintro i ρ ds w1 ⟨rfl, hi, hnd, hst, hs⟩
  refine Wp.forget _ ?_ hs
  clear hs ρ
  have hr1 := hr.keep hst.keep
  refine Wp.seq (Wp.seq (Wp.reads (is := [0, 1, 2, 3]) (Keep.refl _) (Rn.s rfl Yv.mv (Rn.s rfl Yv.mv (Rn.s rfl (Yv.len_v (e := 49) (m := 2)) (Rn.s rfl (Yv.cmp _ rfl) (Rn.nil))))) ?_))
  refine Wp.cond rfl (fun h2 => ?_) (fun h2 => ?_)
  · have h2 := of_decide_eq_true h2
    have hil : i < files.length := by omega
    have htk : (files.take i).length = (i : Int).toNat := by rw [Int.toNat_natCast]; simp; omega
    refine Wp.skip (Wp.seq (Wp.block ?_))
    refine Wp.seq (Wp.draws [] mixed (WD.rd (is := [0, 1, 2, 3, 4, 5, 6, 7]) (fun _ _ _ _ _ h => h) (Keep.drew _) (Rn.s rfl Yv.mv (Rn.s rfl Yv.mv (Rn.s rfl (Yv.sl_t (n := 2) (e := 49) (k := (files.take i).length) (by omega) (by omega) htk) (Rn.s rfl Yv.mv (Rn.s rfl Yv.mv (Rn.s rfl (Yv.ia (e := 49) hr1 (by omega) (by omega)) (Rn.s rfl (Yv.fa (off := 0)) (Rn.s rfl (Yv.ld (hr1.ld 0 (by omega) (by omega))) (Rn.nil))))))))) (WD.cv 8 rfl (rfindF_cv A c (files.take i) (nth files (i : Int)).name w1 (rdF_take hr1) (by simp; omega)) (Keep.drew _) (FnOk.of Tryz.func24) (fun wx1 kx1 => WD.rd (is := [9]) (fun _ _ _ _ _ h => h) ((Keep.drew _).trans kx1) (Rn.s rfl (Yv.cmp _ rfl) (Rn.nil)) (WD.done ?_)))))
    by_cases hm : (nth files (i : Int)).name ∈ (files.take i).map Fl.name
    · have hS : loadS files root = (ls0, ⟨70, [], 0, 0⟩) := by unfold loadS; rw [if_pos (.inr (dup_set hil hm))]
      obtain ⟨e1, e2, e3, e4⟩ := out_refused hS (by decide) (by decide)
      rw [e1, e2, e3, e4, idxT_in hm]
      refine Wp.cond rfl (fun _ => ?_) (fun h => by have := of_decide_eq_false h; omega)
      refine Wp.seq (Wp.regionL (l := [0, 1, 2, 3, 4]) (WO.rd (is := [0, 1, 2, 3]) (js := [4]) (Keep.refl _) (Rn.s rfl (Yv.bd (cs := Ft.cs ⟨70, [], 0, 0⟩)) (Rn.s rfl Yv.as (Rn.s rfl Yv.as (Rn.s rfl Yv.as (Rn.nil))))) (WO.act (hc := rfl) (he := Ef.stores (hst.quiet ((Keep.drew _).trans kx1)) 0 (fun wy1 hsy1 => WO.done ?_)))))
      exact Wp.ret (Fin.ret (resTTTA rfl rfl rfl rfl rfl (hsy1.cells 0)) ⟨_, _, rfl, ⟨none, 0, none, 0, none, 0, [], rfl, rfl, rfl⟩, hno hsy1⟩)
    · rw [idxT_out hm]
      refine Wp.cond rfl (fun h => absurd h (by decide)) (fun _ => ?_)
      refine Wp.skip (Wp.reads (is := [0, 1, 2]) (Keep.refl _) (Rn.s rfl Yv.mv (Rn.s rfl (Yv.add (by unfold inI; omega)) (Rn.s rfl Yv.as (Rn.nil)))) ?_)
      refine ⟨i + 1, ⟨rfl, by omega, ?_, hst.quiet ((Keep.drew _).trans kx1), rfl, rfl, rfl, rfl, trivial⟩, by omega⟩
      have e : (files.take (i + 1)).map Fl.name = (files.take i).map Fl.name ++ [(nth files (i : Int)).name] := by
        rw [List.take_add_one, List.getElem?_eq_getElem hil, nth_of (List.getElem?_eq_getElem hil), List.map_append]; rfl
      rw [e, List.nodup_append]
      refine ⟨hnd, by simp, fun a ha b hb => ?_⟩
      rw [List.mem_singleton] at hb
      rintro rfl
      exact hm (hb ▸ ha)
  have h2 := of_decide_eq_false h2
  rw [List.take_of_length_le (by omega)] at hnd
  have hcond : ¬ (64 < files.length ∨ (setS files).length < files.length) := by rw [not_or]; exact ⟨by omega, (setS_nodup files).2 hnd⟩
  refine Wp.exit ?_
  refine Wp.seq (Wp.regionL (l := [0, 1, 2, 3]) (WO.rd (is := [0, 1]) (js := [2, 3]) (Keep.refl _) (Rn.s rfl Yv.mv (Rn.s rfl Yv.mv (Rn.nil))) (WO.cv rfl (rfindF_cv A c files root w1 hr1 (by omega)) (Keep.refl _) (FnOk.of Tryz.func24) (fun wx1 kx1 => WO.rd (is := [3]) (js := []) ((Keep.refl _).trans kx1) (Rn.s rfl Yv.as (Rn.nil)) (WO.done ?_)))))
  have hst := hst.quiet kx1
  refine Wp.seq (Wp.seq (Wp.reads (is := [0, 1]) (Keep.refl _) (Rn.s rfl Yv.mv (Rn.s rfl (Yv.cmp _ rfl) (Rn.nil))) ?_))
  by_cases hroot : (alook root (setS files)).isSome = false
  · have hS : loadS files root = (ls0, ⟨71, [], 0, 0⟩) := by unfold loadS; rw [if_neg hcond, if_pos hroot]
    obtain ⟨e1, e2, e3, e4⟩ := out_refused hS (by decide) (by decide)
    rw [e1, e2, e3, e4, idxF_out hroot hnd]
    refine Wp.cond rfl (fun _ => ?_) (fun h => absurd h (by decide))
    refine Wp.seq (Wp.regionL (l := [0, 1, 2, 3, 4]) (WO.rd (is := [0, 1, 2, 3]) (js := [4]) (Keep.refl _) (Rn.s rfl (Yv.bd (cs := Ft.cs ⟨71, [], 0, 0⟩)) (Rn.s rfl Yv.as (Rn.s rfl Yv.as (Rn.s rfl Yv.as (Rn.nil))))) (WO.act (hc := rfl) (he := Ef.stores hst 0 (fun wy1 hsy1 => WO.done ?_)))))
    exact Wp.ret (Fin.ret (resTTTA rfl rfl rfl rfl rfl (hsy1.cells 0)) ⟨_, _, rfl, ⟨none, 0, none, 0, none, 0, [], rfl, rfl, rfl⟩, hno hsy1⟩)
  have hroot' : (alook root (setS files)).isSome = true := by rw [Bool.not_eq_false] at hroot; exact hroot
  obtain ⟨k, ek, hk, hkn, hkt⟩ := idxF_in hroot' hnd
  rw [ek]
  have hS : loadS files root = loadF (setS files) 16 ls0 root := by unfold loadS; rw [if_neg hcond, if_neg hroot]
  refine Wp.cond rfl (fun h => by have := of_decide_eq_true h; omega) (fun _ => ?_)
  refine Wp.skip (Wp.seq (Wp.regionL (l := [0, 1, 2, 3]) (WO.rd (is := [0, 1]) (js := [2, 3]) (Keep.refl _) (Rn.s rfl Yv.mv (Rn.s rfl (Yv.bd (cs := rcs A files.length c ls0 lm0)) (Rn.nil))) (WO.act (hc := rfl) (he := Ef.boxL ((rcs A files.length c ls0 lm0)) hst (fun by1 wy1 ky1 hsy1 => WO.rd (is := [3]) (js := []) ((Keep.refl _).trans ky1) (Rn.s rfl Yv.as (Rn.nil)) (WO.done ?_)))))))
  have hst : St w [] wy1 (ChX by1 A files.length c ls0 lm0 ++ (trows lm0.trs ++ [Ch.cells ba1 27 ft0.cs])) := by
    have h2 := (((hsy1.nilrow StE 9).nilrow TsE 38).nilrow StE 9).nilrow StE 9
    exact h2.pick [4, 0, 1, 2, 3, 5]
  obtain ⟨fl, hfl⟩ : ∃ fl, fl = nth files (k : Int) := ⟨_, rfl⟩
  rw [← hfl] at hkn hkt
  have hcall := readAll by1 A c files w hnd h64 hr 16 ls0 lm0 k fl wy1 _ (ls0_inv _) (by decide) (by decide) hk hfl.symm (by rw [hkt, hkn]) (by rw [hkn]; exact hroot') (fun q => by cases q) (fun q => by cases q) rfl hst
  rw [hkn, ← hS] at hcall
  refine Wp.seq (Wp.seq (Wp.regionL (l := [0, 1, 2, 3, 4]) (WO.rd (is := [0, 1]) (js := [2, 3, 4]) (Keep.refl _) (Rn.s rfl Yv.mv (Rn.s rfl Yv.mv (Rn.nil))) (WO.act (hc := rfl) (he := Ef.callv Tryz.func25 (Calls.mono hcall ?_))))))
  rintro e w5 ⟨rfl, s', m', q1, q2, q3, hs5⟩
  refine WO.act (he := Ef.allocL (vs := ft0.cs) hs5 (fun b11 w6 k6 hs6 => WO.act (he := Ef.stores hs6 0 (fun w7 hs7 => WO.done ?_))))
  obtain ⟨s, F, hsF⟩ : ∃ s F, loadS files root = (s, F) := ⟨_, _, rfl⟩
  rw [hsF] at q2 q3 hs7
  simp only at q2 q3 hs7
  have eN : outN files root = if F.code ≠ 0 then [] else s.nms := by unfold outN; rw [hsF]
  have eT : outT files root = if F.code ≠ 0 then [] else s.trs := by unfold outT; rw [hsF]
  have eF : outF files root = if F.code ≠ 0 then F else ft0 := by unfold outF; rw [hsF]
  have eC : outC files root = if F.code ≠ 74 then [] else s.cyc := by unfold outC; rw [hsF]
  have hc74 : F.code ≠ 74 → s.cyc = [] := by
    intro q
    have := loadF_c0 (setS files) 16 ls0 root rfl
    rw [← hS, hsF] at this
    exact this q
  rw [eN, eT, eF, eC]
  have hst : St w [] w7 ([Ch.cells b11 27 F.cs, _, _, _, _, _] ++ (trows m'.trs ++ [Ch.cells ba1 27 ft0.cs])) := hs7
  have hst := hst.perm (List.Perm.append_left _ (List.perm_append_comm (l₁ := trows m'.trs) (l₂ := [Ch.cells ba1 27 ft0.cs])))
  clear hs5 hs6 hs7 hsy1
  have c11 := hst.cells 0
  have hc := hst.cells 1
  refine Wp.seq (Wp.reads (is := [0, 1, 2]) (Keep.refl _) (Rn.s rfl (Yv.fa (off := 0)) (Rn.s rfl (Yv.ld (c11.at_ 0)) (Rn.s rfl (Yv.cmp _ rfl) (Rn.nil)))) ?_)
  refine Wp.cond rfl (fun h => ?_) (fun h => ?_)
  · have h : F.code ≠ 0 := bne_iff_ne.1 h
    have eC2 : (if F.code ≠ 74 then [] else s.cyc) = s'.cyc := by
      rw [q2]
      by_cases q : F.code ≠ 74
      · rw [if_pos q, hc74 q]
      · rw [if_neg q]
    rw [if_pos h, if_pos h, if_pos h, eC2]
    refine Wp.seq (Wp.draws [8] mixed (WD.rd (is := [0, 1, 2, 3, 4, 5, 6, 7]) (fun _ _ _ _ _ h => h) (Keep.drew _) (Rn.s rfl Yv.mv (Rn.s rfl Yv.nc (Rn.s rfl (Yv.fa (off := 4)) (Rn.s rfl (Yv.ld (hc.at_ 4)) (Rn.s rfl (Yv.ldb c11) (Rn.s rfl Yv.as (Rn.s rfl Yv.as (Rn.s rfl Yv.as (Rn.nil))))))))) (WD.act 8 (hc := rfl) (he := Ef.stores (hst.quiet (Keep.drew _)) 6 (fun wz1 hsz1 => ⟨fun hn => (hn (by decide)).elim, WD.done ?_⟩)))))
    refine Wp.ret (Fin.ret (resTTTA rfl rfl rfl rfl rfl (hsz1.cells 0)) ⟨_, _, rfl, ⟨m'.C, m'.cc, none, 0, none, 0, [], rfl, rfl, rfl⟩, ?_⟩)
    have h9 := hsz1.pickT (P := [_, _, _, _, _, _, _]) (T := trows m'.trs) [6]
    have h9 : St w [] _ ([Ch.row StE 9 m'.C m'.cc s'.cyc] ++ trows m'.trs) := h9
    have h10 := ((h9.sub (List.sublist_append_left _ _)).nilrow TsE 38).nilrow StE 9
    exact h10.pick [2, 0, 1]
  · have h : F.code = 0 := bne_eq_false_iff_eq.1 h
    have h' : ¬ F.code ≠ 0 := fun q => q h
    have e := q3 h
    subst e
    rw [if_neg h', if_neg h', if_neg h', if_pos (show F.code ≠ 74 by rw [h]; decide)]
    refine Wp.skip (Wp.seq (Wp.draws [12] mixed (WD.rd (is := [0, 1, 2, 3, 4, 5, 6, 7, 8, 9, 10, 11]) (fun _ _ _ _ _ h => h) (Keep.drew _) (Rn.s rfl Yv.mv (Rn.s rfl Yv.nc (Rn.s rfl (Yv.fa (off := 2)) (Rn.s rfl (Yv.ld (hc.at_ 2)) (Rn.s rfl Yv.mv (Rn.s rfl Yv.nc (Rn.s rfl (Yv.fa (off := 3)) (Rn.s rfl (Yv.ld (hc.at_ 3)) (Rn.s rfl (Yv.bd (cs := ft0.cs)) (Rn.s rfl Yv.as (Rn.s rfl Yv.as (Rn.s rfl Yv.as (Rn.nil))))))))))))) (WD.act 12 (hc := rfl) (he := Ef.stores (hst.quiet (Keep.drew _)) 6 (fun wz1 hsz1 => ⟨fun hn => (hn (by decide)).elim, WD.done ?_⟩))))))
    refine Wp.ret (Fin.ret (resTTTA rfl rfl rfl rfl rfl (hsz1.cells 0)) ⟨_, _, rfl, ⟨none, 0, m'.Nm, m'.nc, m'.T, m'.tc, m'.trs, ?_, q1, rfl⟩, ?_⟩)
    · rw [← q1, List.length_map]; rfl
    · exact (hsz1.pickT (P := [_, _, _, _, _, _, _]) (T := trows m'.trs) [4, 5]).nilrow StE 9
end Go.Proofs.YtgjhbapbomdpbaaGreatDoor.C
/- What the laws over include share: files and texts lent, looked at again, and written over. (Printed by tools/mkZf.py.) -/
set_option linter.unusedVariables false
set_option linter.unusedSimpArgs false
set_option maxRecDepth 10000
namespace Go.Proofs.YtgjhbapbomdpbaaGreatDoor.C
open Go.RowKit Go.Proofs.YtgjhbapbomdpbaaGreatDoor.Sh
theorem flEq (f g : Fl) : vEqs f.cs g.cs = some (decide (f = g)) := by
  rw [vEqs_cons (vEq_S _ _) (vEqs_cons (vEq_S _ _) rfl)]
  congr 1
  cases f; cases g
  simp only [Fl.mk.injEq, Bool.and_true, Bool.decide_and]
abbrev spF : Fl := ⟨[115, 112, 111, 105, 108, 116], []⟩
theorem sameF_cv (A : Option Addr) (c : Nat) (xs : List Fl) (B : Option Addr) (d : Nat) (ys : List Fl) (w0 : World) (hx : Rd FlE w0 A xs) (hy : Rd FlE w0 B ys) (hl : xs.length < 4000000000000000000) :
    Cv Tryz.prog 27 [.slice A xs.length c, .slice B ys.length d] (.bool (decide (xs = ys))) w0 := by
  intro w hk
  have hx := hx.keep hk
  have hy := hy.keep hk
  refine calls_of_Wp (vs := [_, _]) Tryz.func27 ?_
  refine Wp.seq (Wp.reads (is := [0]) (Keep.refl _) (Rn.s rfl Yv.as (Rn.nil)) ?_)
  refine Wp.seq (Wp.seq (Wp.reads (is := [0, 1, 2, 3, 4]) (Keep.refl _) (Rn.s rfl Yv.mv (Rn.s rfl (Yv.len_v (e := 49) (m := 2)) (Rn.s rfl Yv.mv (Rn.s rfl (Yv.len_v (e := 49) (m := 2)) (Rn.s rfl (Yv.cmp _ rfl) (Rn.nil)))))) ?_))
  refine Wp.cond rfl (fun h => ?_) (fun h => ?_)
  · refine Wp.seq (Wp.reads (is := [0]) (Keep.refl _) (Rn.s rfl Yv.as (Rn.nil)) ?_)
    have hne : xs ≠ ys := by rintro rfl; simp at h
    exact Wp.ret (Fin.ret (Res.one rfl rfl) ⟨by rw [decide_eq_false hne], Keep.refl _⟩)
  have hle : xs.length = ys.length := by
    have : (xs.length : Int) = ys.length := by simpa using h
    omega
  refine Wp.skip (Wp.seq (Wp.seq (Wp.reads (is := [0]) (Keep.refl _) (Rn.s rfl Yv.as (Rn.nil)) ?_)))
  refine Wp.block ?_
  refine Wp.loop (α := Nat) (fun i ρ ds w' => ds = [] ∧ Keep w w' ∧ i ≤ xs.length ∧ (∀ j : Nat, j < i → nth xs (j : Int) = nth ys (j : Int)) ∧ Sub [(0, .slice A xs.length c), (1, .slice B ys.length d), (5, .int .i64 (i : Int))] ρ) (fun i => xs.length - i) 0
    ⟨rfl, Keep.refl _, Nat.zero_le _, fun j hj => absurd hj (Nat.not_lt_zero j), rfl, rfl, rfl, trivial⟩ ?_
  rintro i ρ ds w' ⟨rfl, hk, hi, hall, hs⟩
  refine Wp.forget _ ?_ hs
  have hx' := hx.keep hk
  have hy' := hy.keep hk
  refine Wp.seq (Wp.seq (Wp.reads (is := [0, 1, 2, 3]) (Keep.refl _) (Rn.s rfl Yv.mv (Rn.s rfl Yv.mv (Rn.s rfl (Yv.len_v (e := 49) (m := 2)) (Rn.s rfl (Yv.cmp _ rfl) (Rn.nil))))) ?_))
  refine Wp.cond rfl (fun h2 => ?_) (fun h2 => ?_)
  · have h2 := of_decide_eq_true h2
    refine Wp.skip (Wp.seq (Wp.block ?_))
    refine Wp.seq (Wp.readsD (is := [0, 1, 2, 3, 4, 5, 6, 7, 8]) mixed (fun _ _ _ _ _ h => h) (Keep.refl _) (Rn.s rfl Yv.mv (Rn.s rfl Yv.mv (Rn.s rfl (Yv.ia (e := 49) hx' (by omega) (by omega)) (Rn.s rfl (Yv.ldel hx' rfl rfl (by omega) (by omega)) (Rn.s rfl Yv.mv (Rn.s rfl Yv.mv (Rn.s rfl (Yv.ia (e := 49) hy' (by omega) (by omega)) (Rn.s rfl (Yv.ldel hy' rfl rfl (by omega) (by omega)) (Rn.s rfl (Yv.nes (flEq (nth xs (i : Int)) (nth ys (i : Int)))) (Rn.nil)))))))))) ?_)
    refine Wp.cond rfl (fun h3 => ?_) (fun h3 => ?_)
    · refine Wp.seq (Wp.reads (is := [0]) (Keep.refl _) (Rn.s rfl Yv.as (Rn.nil)) ?_)
      have hne : xs ≠ ys := by rintro rfl; simp at h3
      exact Wp.ret (Fin.ret (Res.one rfl rfl) ⟨by rw [decide_eq_false hne], hk.trans (Keep.drew _)⟩)
    · have h3 : nth xs (i : Int) = nth ys (i : Int) := by simpa using h3
      refine Wp.skip (Wp.reads (is := [0, 1, 2]) (Keep.refl _) (Rn.s rfl Yv.mv (Rn.s rfl (Yv.add (by unfold inI; omega)) (Rn.s rfl Yv.as (Rn.nil)))) ?_)
      refine ⟨i + 1, ⟨rfl, hk.trans (Keep.drew _), by omega, fun j hj => ?_, rfl, rfl, rfl, trivial⟩, by omega⟩
      by_cases hji : j = i
      · subst hji; exact h3
      · exact hall j (by omega)
  · have h2 := of_decide_eq_false h2
    refine Wp.exit ?_
    refine Wp.seq (Wp.reads (is := [0]) (Keep.refl _) (Rn.s rfl Yv.as (Rn.nil)) ?_)
    have he : xs = ys := take_ext hle fun j hj => hall j (by omega)
    exact Wp.ret (Fin.ret (Res.one rfl rfl) ⟨by rw [decide_eq_true he], hk⟩)
theorem lendF_cx (A : Option Addr) (c : Nat) (t : List Fl) (w : World) (hr : Rd FlE w A t) (hc : A = none → c = 0) (hl : t.length ≤ 4398046511000) : Cx Tryz.prog 7 [.slice A t.length c] [] (fun v D => ∃ B d, v = .slice B t.length d ∧ D = [Ch.row FlE 49 B d (t ++ [spF, spF])]) w := by
  refine calls_of_Wp (vs := [_]) Tryz.func7 ?_
  refine Wp.seq (Wp.reads (is := [0]) (Keep.refl _) (Rn.s rfl Yv.as (Rn.nil)) ?_)
  refine Wp.seq (Wp.regionL (l := [0, 1, 2, 3, 4, 5, 6]) (WO.rd (is := [0]) (js := [1, 2, 3, 4, 5, 6]) (Keep.refl _) (Rn.s rfl Yv.mv (Rn.nil)) (WO.act (hc := rfl) (he := Ef.cx (copyF_cx A c t w hr hc (by omega)) (St.init w) (FnOk.of Tryz.func10) ?_))))
  rintro v D w1 ⟨B, d, rfl, rfl⟩ hs1
  have hs1 : St w [] w1 [Ch.row FlE 49 B d t] := hs1
  refine WO.rd (is := [2, 3]) (js := [4, 5, 6]) (Keep.refl _) (Rn.s rfl (Yv.bd (cs := spF.cs)) (Rn.s rfl (Yv.bd (cs := spF.cs)) (Rn.nil))) ?_
  refine WO.app FlE [spF, spF] rfl (fun _ => rfl) hs1 0 (fitF (by simp only [List.length_cons, List.length_nil]; omega)) (fun b A' c' w' hs' => WO.rd (is := [6]) (js := []) (Keep.refl _) (Rn.s rfl Yv.as (Rn.nil)) (WO.done ?_))
  have hs' : St w [] w' [Ch.row FlE 49 A' c' (t ++ [spF, spF])] := hs'
  have hcap := hs'.cap 0
  simp only [List.length_append, List.length_cons, List.length_nil] at hcap
  refine Wp.seq (Wp.reads (is := [0, 1, 2, 3, 4]) (Keep.refl _) (Rn.s rfl Yv.mv (Rn.s rfl Yv.mv (Rn.s rfl (Yv.len_v (e := 49) (m := 2)) (Rn.s rfl (Yv.sl_t (n := 2) (e := 49) (by omega) (by omega)) (Rn.s rfl Yv.as (Rn.nil)))))) ?_)
  exact Wp.ret (Fin.ret (Res.one rfl rfl) ⟨_, _, rfl, ⟨A', c', by simp, rfl⟩, hs'⟩)
theorem keptF_calls {M : List Nat} (B : Option Addr) (d : Nat) (A : Option Addr) (c : Nat) (t : List Fl) (w : World) (hr : Rd FlE w A t) (hst : St w M w [Ch.row FlE 49 B d (t ++ [spF, spF])]) (hl : t.length ≤ 4398046511000) :
    Calls Tryz.prog 9 #[.slice B t.length d, .slice A t.length c] w fun e w' => e = .returned (.bool true) ∧ St w M w' [] := by
  have hcap := hst.cap 0
  simp only [List.length_append, List.length_cons, List.length_nil] at hcap
  have hrB := hst.rd 0
  have hrt := rd_pre hrB
  refine calls_of_Wp (vs := [_, _]) Tryz.func9 ?_
  refine Wp.seq (Wp.reads (is := [0]) (Keep.refl _) (Rn.s rfl Yv.as (Rn.nil)) ?_)
  refine Wp.seq (Wp.reads (is := [0, 1, 2, 3, 4, 5]) (Keep.refl _) (Rn.s rfl Yv.mv (Rn.s rfl Yv.mv (Rn.s rfl (Yv.len_v (e := 49) (m := 2)) (Rn.s rfl (Yv.add (by unfold inI; omega)) (Rn.s rfl (Yv.sl_t (n := 2) (e := 49) (by omega) (by omega)) (Rn.s rfl Yv.as (Rn.nil))))))) ?_)
  have e1 : ((t.length : Int) + 2).toNat = (t ++ [spF, spF]).length := by simp only [List.length_append, List.length_cons, List.length_nil]; omega
  rw [e1]
  have hs1 := sameF_cv B d t A c t w hrt hr (by omega)
  rw [decide_eq_true rfl] at hs1
  have hcut : Rd FlE w (cutA B d t.length FlE.n) [spF, spF] := by
    have := hrB.cut (l := t.length) (h := (t ++ [spF, spF]).length) (c := d) (by simp only [List.length_append, List.length_cons, List.length_nil]; omega) (Nat.le_refl _)
    rw [List.take_of_length_le (Nat.le_refl _), List.drop_left] at this
    exact this
  have hs2 : ∀ (b : Nat) {W : World}, Keep w W → Rd FlE W (some ⟨b, 0, none⟩) [spF, spF] → Cv Tryz.prog 27 [.slice (cutA B d (t.length : Int).toNat 2) ((t ++ [spF, spF]).length - (t.length : Int).toNat) (d - (t.length : Int).toNat), .slice (some ⟨b, 0, none⟩) 2 2] (.bool true) W := by
    intro b W kW h
    have := sameF_cv (cutA B d t.length FlE.n) (d - t.length) [spF, spF] (some ⟨b, 0, none⟩) 2 [spF, spF] W (hcut.keep kW) h (by simp)
    rw [decide_eq_true rfl] at this
    have e2 : (t ++ [spF, spF]).length - (t.length : Int).toNat = 2 := by rw [Int.toNat_natCast]; simp
    rw [e2]
    exact this
  refine Wp.seq (Wp.regionL (l := [0, 1, 2, 3, 4, 5, 6, 7, 8, 9, 10, 11, 12, 13]) (WO.rd (is := [0, 1]) (js := [2, 3, 4, 5, 6, 7, 8, 9, 10, 11, 12, 13]) (Keep.refl _) (Rn.s rfl Yv.mv (Rn.s rfl Yv.mv (Rn.nil))) (WO.cv rfl hs1 (Keep.refl _) (FnOk.of Tryz.func27) (fun wx1 kx1 => WO.rd (is := [3]) (js := [4, 5, 6, 7, 8, 9, 10, 11, 12, 13]) ((Keep.refl _).trans kx1) (Rn.s rfl Yv.mv (Rn.nil)) (WO.and (js := [13]) 16 25 (hg := rfl) (ht := fun h3 qx2 => WO.rd (is := [4, 5, 6, 7, 8, 9]) (js := [10, 11, 12, 13]) ((Keep.refl _).trans kx1) (Rn.s rfl Yv.mv (Rn.s rfl Yv.mv (Rn.s rfl (Yv.len_v (e := 49) (m := 2)) (Rn.s rfl (Yv.sl_f (n := 2) (e := 49) (by omega) (by simp only [List.length_append, List.length_cons, List.length_nil]; omega)) (Rn.s rfl (Yv.bd (cs := spF.cs)) (Rn.s rfl (Yv.bd (cs := spF.cs)) (Rn.nil))))))) (WO.act (hc := rfl) (he := Ef.bsl (T := 49) FlE [spF, spF] (hst.quiet kx1) (fun bx3 wx3 kx3 hsx3 => WO.cv rfl (hs2 bx3 (kx1.trans kx3) (hsx3.rd 0)) (Keep.refl _) (FnOk.of Tryz.func27) (fun wx4 kx4 => WO.rd (is := [12]) (js := [13]) ((((Keep.refl _).trans kx1).trans kx3).trans kx4) (Rn.s rfl Yv.pick_t (Rn.nil)) (WO.e 9 (qx2 _ (((Keep.refl _).trans kx3).trans kx4)))))))) (hf := fun _ qx2 => WO.rd (is := [4, 5, 6, 7, 8, 9, 10, 11, 12]) (js := [13]) ((Keep.refl _).trans kx1) (Rn.no rfl (Rn.no rfl (Rn.no rfl (Rn.no rfl (Rn.no rfl (Rn.no rfl (Rn.no rfl (Rn.no rfl (Rn.s rfl Yv.pick_f Rn.nil))))))))) (WO.e 9 (qx2 _ (Keep.refl _)))) (k := fun wx2 kx2 => WO.rd (is := [13]) (js := []) (((Keep.refl _).trans kx1).trans kx2) (Rn.s rfl Yv.as (Rn.nil)) (WO.done ?_)))))))
  have hst := hst.quiet (kx1.trans kx2)
  refine Wp.seq (Wp.seq (Wp.reads (is := [0]) (Keep.refl _) (Rn.s rfl Yv.as (Rn.nil)) ?_))
  refine Wp.block ?_
  obtain ⟨m, hm⟩ : ∃ m, m = (t ++ [spF, spF]).length := ⟨_, rfl⟩
  rw [← hm]
  have hml : m ≤ 4398046511002 := by rw [hm]; simp only [List.length_append, List.length_cons, List.length_nil]; omega
  refine Wp.loop (α := Nat) (fun i ρ ds w' => ds = [] ∧ i ≤ m ∧ (∃ xs : List Fl, xs.length = m ∧ St w M w' [Ch.row FlE 49 B d xs]) ∧ Sub [(5, .slice B m d), (6, .bool true), (7, .int .i64 (i : Int))] ρ) (fun i => m - i) 0
    ⟨rfl, Nat.zero_le _, ⟨_, hm.symm, hst⟩, rfl, rfl, rfl, trivial⟩ ?_
  clear hst
  rintro i ρ ds w' ⟨rfl, hi, ⟨xs, hxl, hst⟩, hs⟩
  refine Wp.forget _ ?_ hs
  refine Wp.seq (Wp.seq (Wp.reads (is := [0, 1, 2, 3]) (Keep.refl _) (Rn.s rfl Yv.mv (Rn.s rfl Yv.mv (Rn.s rfl (Yv.len_v (e := 49) (m := 2)) (Rn.s rfl (Yv.cmp _ rfl) (Rn.nil))))) ?_))
  refine Wp.cond rfl (fun h => ?_) (fun h => ?_)
  · have h := of_decide_eq_true h
    have hrx := hst.rd 0
    subst hxl
    refine Wp.skip (Wp.seq (Wp.block ?_))
    refine Wp.regionL (l := [0, 1, 2, 3, 4]) (WO.rd (is := [0, 1, 2, 3]) (js := [4]) (Keep.refl _) (Rn.s rfl Yv.mv (Rn.s rfl Yv.mv (Rn.s rfl (Yv.bd (cs := spF.cs)) (Rn.s rfl (Yv.ia (e := 49) hrx (by omega) (by omega)) (Rn.nil))))) (WO.act (hc := rfl) (he := Ef.setEl (E := FlE) (xs := xs) hst 0 spF rfl rfl (by omega) (by omega) (fun wy1 hsy1 => WO.done ?_))))
    refine Wp.reads (is := [0, 1, 2]) (Keep.refl _) (Rn.s rfl Yv.mv (Rn.s rfl (Yv.add (by unfold inI; omega)) (Rn.s rfl Yv.as (Rn.nil)))) ?_
    exact ⟨i + 1, ⟨rfl, by omega, ⟨_, by simp, hsy1⟩, rfl, rfl, rfl, trivial⟩, by omega⟩
  · refine Wp.exit ?_
    refine Wp.seq (Wp.reads (is := [0, 1]) (Keep.refl _) (Rn.s rfl Yv.mv (Rn.s rfl Yv.as (Rn.nil))) ?_)
    exact Wp.ret (Fin.ret (Res.one rfl rfl) ⟨rfl, hst.sub (List.nil_sublist _)⟩)
theorem spoilT_calls {M : List Nat} (A : Option Addr) (c : Nat) (xs : List Bs) (w : World) (hst : St w M w [Ch.row StE 9 A c xs]) (hl : xs.length ≤ 8796093022200) :
    Calls Tryz.prog 13 #[.slice A xs.length c] w fun e w' => e = .returned (.tuple #[]) ∧ St w M w' [] := by
  refine calls_of_Wp (vs := [_]) Tryz.func13 ?_
  obtain ⟨n, hn⟩ : ∃ n, n = xs.length := ⟨_, rfl⟩
  refine Wp.seq ?_
  refine Wp.mid (fun ρ ds w' => ds = [] ∧ ∃ A2 c2 D2, St w M w' (Ch.row StE 9 A2 c2 (xs ++ [spS]) :: D2) ∧ ((A2 = A ∧ c2 = c) ∨ ∃ D3, D2 = Ch.row StE 9 A c xs :: D3) ∧ Sub [(0, .slice A xs.length c), (2, .slice A2 (xs ++ [spS]).length c2)] ρ) ?_ ?_
  · refine Wp.regionL (l := [0, 1, 2, 3]) ?_
    refine WO.rd (is := [0]) (js := [1, 2, 3]) (Keep.refl _) (Rn.s rfl Yv.mv (Rn.nil)) ?_
    refine WO.act (hc := rfl) (he := Ef.bsl (T := 9) StE [spS] hst (fun b w1 k1 hs1 => ?_))
    refine WO.act (hc := rfl) (he := Ef.append2 (ys := [spS]) hs1 1 (hs1.rd 0) (fun h => by cases h) (fitT (by simp only [List.length_cons, List.length_nil]; omega)) ?_ ?_)
    · intro w2 hs2
      refine WO.rd (is := [3]) (js := []) (Keep.refl _) (Rn.s rfl Yv.as (Rn.nil)) (WO.done ?_)
      exact ⟨rfl, A, c, _, hs2, .inl ⟨rfl, rfl⟩, rfl, rfl, trivial⟩
    · intro A2 c2 w2 hs2
      refine WO.rd (is := [3]) (js := []) (Keep.refl _) (Rn.s rfl Yv.as (Rn.nil)) (WO.done ?_)
      exact ⟨rfl, A2, c2, _, hs2.pick [0, 2], .inr ⟨[], rfl⟩, rfl, rfl, trivial⟩
  rintro ρ ds w1 ⟨rfl, A2, c2, D2, hst, hA, hs⟩
  refine Wp.forget _ ?_ hs
  have hlx : (xs ++ [spS]).length = n + 1 := by rw [hn]; simp
  rw [hlx]
  refine Wp.seq (Wp.seq (Wp.reads (is := [0]) (Keep.refl _) (Rn.s rfl Yv.as (Rn.nil)) ?_))
  refine Wp.block ?_
  refine Wp.loop (α := Nat) (fun i ρ ds w' => ds = [] ∧ i ≤ n + 1 ∧ (∃ ys : List Bs, ys.length = n + 1 ∧ St w M w' (Ch.row StE 9 A2 c2 ys :: D2)) ∧ Sub [(0, .slice A xs.length c), (2, .slice A2 (n + 1) c2), (3, .int .i64 (i : Int))] ρ) (fun i => n + 1 - i) 0
    ⟨rfl, Nat.zero_le _, ⟨_, hlx, hst⟩, rfl, rfl, rfl, trivial⟩ ?_
  clear hst
  rintro i ρ ds w' ⟨rfl, hi, ⟨ys, hyl, hst⟩, hs⟩
  refine Wp.forget _ ?_ hs
  refine Wp.seq (Wp.seq (Wp.reads (is := [0, 1, 2, 3]) (Keep.refl _) (Rn.s rfl Yv.mv (Rn.s rfl Yv.mv (Rn.s rfl (Yv.len_v (e := 9) (m := 1)) (Rn.s rfl (Yv.cmp _ rfl) (Rn.nil))))) ?_))
  refine Wp.cond rfl (fun h => ?_) (fun h => ?_)
  · have h := of_decide_eq_true h
    have hrx := hst.rd 0
    refine Wp.skip (Wp.seq (Wp.block ?_))
    refine Wp.regionL (l := [0, 1, 2, 3]) (WO.rd (is := [0, 1, 2]) (js := [3]) (Keep.refl _) (Rn.s rfl Yv.mv (Rn.s rfl Yv.mv (Rn.s rfl (Yv.ia (e := 9) hrx (by omega) (by omega) hyl.symm) (Rn.nil)))) (WO.act (hc := rfl) (he := Ef.setFld (E := StE) (xs := ys) (j := (i : Int)) (f := 0) hst 0 spS rfl rfl (by omega) (by omega) (fun wy1 hsy1 => WO.done ?_))))
    refine Wp.reads (is := [0, 1, 2]) (Keep.refl _) (Rn.s rfl Yv.mv (Rn.s rfl (Yv.add (by unfold inI; omega)) (Rn.s rfl Yv.as (Rn.nil)))) ?_
    exact ⟨i + 1, ⟨rfl, by omega, ⟨_, by simp [hyl], hsy1⟩, rfl, rfl, rfl, trivial⟩, by omega⟩
  refine Wp.exit ?_
  have hstY := hst
  clear hst
  obtain ⟨zs, D4, hzl, hst⟩ : ∃ zs D4, n ≤ zs.length ∧ St w M w' (Ch.row StE 9 A c zs :: D4) := by
    rcases hA with ⟨hA1, hA2⟩ | ⟨D3, hD⟩
    · rw [hA1, hA2] at hstY
      exact ⟨ys, D2, by omega, hstY⟩
    · rw [hD] at hstY
      exact ⟨xs, D3, by omega, hstY.drop⟩
  rw [← hn]
  refine Wp.seq (Wp.reads (is := [0]) (Keep.refl _) (Rn.s rfl Yv.as (Rn.nil)) ?_)
  refine Wp.block ?_
  refine Wp.loop (α := Nat) (fun i ρ ds w' => ds = [] ∧ i ≤ n ∧ (∃ zs : List Bs, n ≤ zs.length ∧ St w M w' (Ch.row StE 9 A c zs :: D4)) ∧ Sub [(0, .slice A n c), (4, .int .i64 (i : Int))] ρ) (fun i => n - i) 0
    ⟨rfl, Nat.zero_le _, ⟨zs, hzl, hst⟩, rfl, rfl, trivial⟩ ?_
  clear hst hzl hstY
  rintro i ρ ds w2 ⟨rfl, hi, ⟨zs, hzl, hst⟩, hs⟩
  refine Wp.forget _ ?_ hs
  refine Wp.seq (Wp.seq (Wp.reads (is := [0, 1, 2, 3]) (Keep.refl _) (Rn.s rfl Yv.mv (Rn.s rfl Yv.mv (Rn.s rfl (Yv.len_v (e := 9) (m := 1)) (Rn.s rfl (Yv.cmp _ rfl) (Rn.nil))))) ?_))
  refine Wp.cond rfl (fun h => ?_) (fun h => ?_)
  · have h := of_decide_eq_true h
    have hrx := rd_take (hst.rd 0) n
    have hzn : (zs.take n).length = n := by simp; omega
    refine Wp.skip (Wp.seq (Wp.block ?_))
    refine Wp.regionL (l := [0, 1, 2, 3]) (WO.rd (is := [0, 1, 2]) (js := [3]) (Keep.refl _) (Rn.s rfl Yv.mv (Rn.s rfl Yv.mv (Rn.s rfl (Yv.ia (e := 9) hrx (by omega) (by omega) hzn.symm) (Rn.nil)))) (WO.act (hc := rfl) (he := Ef.setFld (E := StE) (xs := zs) (j := (i : Int)) (f := 0) hst 0 spS rfl rfl (by omega) (by omega) (fun wy1 hsy1 => WO.done ?_))))
    refine Wp.reads (is := [0, 1, 2]) (Keep.refl _) (Rn.s rfl Yv.mv (Rn.s rfl (Yv.add (by unfold inI; omega)) (Rn.s rfl Yv.as (Rn.nil)))) ?_
    exact ⟨i + 1, ⟨rfl, by omega, ⟨_, by simp; omega, hsy1⟩, rfl, rfl, trivial⟩, by omega⟩
  · refine Wp.exit ?_
    exact Fin.normal (Res.none rfl) ⟨rfl, hst.sub (List.nil_sublist _)⟩
end Go.Proofs.YtgjhbapbomdpbaaGreatDoor.C
