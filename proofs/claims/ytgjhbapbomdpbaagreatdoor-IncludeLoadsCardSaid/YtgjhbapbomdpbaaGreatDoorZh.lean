/- IncludeLoads, walked. -/
import Derived.Test.YtgjhbapbomdpbaaGreatDoorJF
set_option linter.unusedVariables false
set_option linter.unusedSimpArgs false
set_option maxRecDepth 10000
namespace Go.Proofs.YtgjhbapbomdpbaaGreatDoor.C
open Go.RowKit Go.Proofs.YtgjhbapbomdpbaaGreatDoor.Sh
theorem trees_same {w : World} {TA TB : Option Addr} {tc td : Nat} {ts us : List Tr} {TT : List (List Nd)} (h1 : Rd TsE w TA ts) (h2 : Rd TsE w TB us) (r1 : ∀ x ∈ ts, Rd NdE w x.1 x.2.2) (r2 : ∀ x ∈ us, Rd NdE w x.1 x.2.2) (e1 : ts.map ts1 = TT) (e2 : us.map ts1 = TT) (hl : TT.length ≤ 64) (hm : ∀ t ∈ TT, t.length ≤ 16384) :
    Cv Tryz.prog 12 [.slice TA TT.length tc, .slice TB TT.length td] (.bool true) w := by
  have g1 : ts.length = TT.length := by rw [← e1, List.length_map]
  have g2 : us.length = TT.length := by rw [← e2, List.length_map]
  have := sameTr_cv TA tc ts TB td us w h1 h2 r1 r2 (by omega) (fun x hx => by
    have := hm x.2.2 (by rw [← e1]; exact List.mem_map_of_mem hx)
    omega)
  rw [e1, e2, decide_eq_true rfl, g1, g2] at this
  exact this
theorem texts_same {w : World} {NA NB : Option Addr} {nc nd : Nat} {N : List Bs} (h1 : Rd StE w NA N) (h2 : Rd StE w NB N) (hl : N.length ≤ 64) : Cv Tryz.prog 11 [.slice NA N.length nc, .slice NB N.length nd] (.bool true) w := by
  have := sameT_cv NA nc N NB nd N w h1 h2 (by omega)
  rw [decide_eq_true rfl] at this
  exact this
theorem four_perm {α : Type} {X U Y V : List α} : (X ++ (U ++ (Y ++ V))).Perm (Y ++ (V ++ (X ++ U))) := by
  rw [← List.append_assoc X U, ← List.append_assoc Y V (X ++ U)]
  exact List.perm_append_comm
set_option maxHeartbeats 3200000 in
theorem loads_calls (A : Option Addr) (c : Nat) (files : List Fl) (root : Bs) (w : World) (hg : Gm w) (hr : Rd FlE w A files) (hA : A = none → c = 0) (hcap : files.length ≤ c) (hl : files.length ≤ 4398046511000) :
    Calls Tryz.prog 3 #[.slice A files.length c, S root] w fun e w' => e = .returned (.bool true) ∧ Keep w w' := by
  refine calls_of_Wp (vs := [_, _]) Tryz.func3 ?_
  refine Wp.seq (Wp.reads (is := [0]) (Keep.refl _) (Rn.s rfl Yv.as (Rn.nil)) ?_)
  -- the document's answer
  refine Wp.seq (Wp.regionL (l := [0, 1, 2, 3, 4, 5, 6, 7, 8, 9, 10, 11, 12]) (WO.rd (is := [0, 1]) (js := [2, 3, 4, 5, 6, 7, 8, 9, 10, 11, 12]) (Keep.refl _) (Rn.s rfl Yv.mv (Rn.s rfl Yv.mv (Rn.nil))) (WO.act (hc := rfl) (he := Ef.cx (rload_cx A c files root w hr hcap (by omega)) (St.init w) (FnOk.of Tryz.func6) ?_))))
  rintro v D w1 ⟨CA, cc, RN, rn, RT, rt, rs, rfl, hrs, rfl⟩ hs1
  refine WO.rd (is := [3, 4, 5, 6, 7]) (js := [8, 9, 10, 11, 12]) (Keep.refl _) (Rn.s rfl Yv.mv (Rn.s rfl Yv.ex (Rn.s rfl Yv.ex (Rn.s rfl Yv.ex (Rn.s rfl Yv.ex (Rn.nil)))))) (WO.act (he := Ef.allocL (vs := ft0.cs) hs1 (fun b8 w2 k2 hs2 => WO.rd (is := [9, 10, 11]) (js := [12]) (Keep.refl _) (Rn.s rfl Yv.as (Rn.s rfl Yv.as (Rn.s rfl Yv.as (Rn.nil)))) (WO.act (he := Ef.stores hs2 0 (fun w3 hs3 => WO.done ?_))))))
  obtain ⟨hN64, hTN⟩ := outN_len files root
  have hT16 := outT_len files root
  obtain ⟨N, hN⟩ : ∃ N, N = outN files root := ⟨_, rfl⟩
  obtain ⟨TT, hTT⟩ : ∃ TT, TT = outT files root := ⟨_, rfl⟩
  obtain ⟨F, hF⟩ : ∃ F, F = outF files root := ⟨_, rfl⟩
  rw [← hN, ← hF] at hs3
  rw [← hTT] at hrs hTN hT16
  rw [← hN] at hN64 hTN
  rw [← hN, ← hTT]
  have c8 : Cells w3 b8 F.cs := hs3.cells 0
  have rN : Rd StE w3 RN N := hs3.rd 2
  have rT : Rd TsE w3 RT rs := hs3.rd 3
  have rR : ∀ x ∈ rs, Rd NdE w3 x.1 x.2.2 := st_trows (D := [_, _, _, _]) (E := []) hs3
  have k3 : Keep w w3 := hs3.keep
  clear hs1 hs2 hs3
  have hg3 := hg.keep k3
  have hr3 := hr.keep k3
  have hT64 : TT.length ≤ 64 := by omega
  -- lent
  refine Wp.seq (Wp.regionL (l := [0, 1, 2]) (WO.rd (is := [0]) (js := [1, 2]) (Keep.refl _) (Rn.s rfl Yv.mv (Rn.nil)) (WO.act (hc := rfl) (he := Ef.cx (lendF_cx A c files w3 hr3 hA hl) (St.init w3) (FnOk.of Tryz.func7) ?_))))
  rintro v D w4 ⟨B, d, rfl, rfl⟩ hs4
  refine WO.rd (is := [2]) (js := []) (Keep.refl _) (Rn.s rfl Yv.as (Rn.nil)) (WO.done ?_)
  have hst : St w3 [] w4 [Ch.row FlE 49 B d (files ++ [spF, spF])] := hs4
  clear hs4
  have hld := load_cx B d files root w4 (hg3.keep hst.keep) (rd_pre (hst.rd 0)) (by omega)
  rw [← hN, ← hTT, ← hF] at hld
  refine Wp.seq (Wp.regionL (l := [0, 1, 2, 3, 4, 5, 6, 7, 8, 9, 10]) (WO.rd (is := [0, 1]) (js := [2, 3, 4, 5, 6, 7, 8, 9, 10]) (Keep.refl _) (Rn.s rfl Yv.mv (Rn.s rfl Yv.mv (Rn.nil))) (WO.act (hc := rfl) (he := Ef.cx hld hst (FnOk.of Tryz.func8) ?_))))
  rintro v D w5 ⟨NA, nc, TA, tc, ts, rfl, hts, rfl⟩ hs5
  refine WO.rd (is := [3, 4, 5, 6]) (js := [7, 8, 9, 10]) (Keep.refl _) (Rn.s rfl Yv.mv (Rn.s rfl Yv.ex (Rn.s rfl Yv.ex (Rn.s rfl Yv.ex (Rn.nil))))) (WO.act (he := Ef.allocL (vs := ft0.cs) hs5 (fun b12 w6 k6 hs6 => WO.rd (is := [8, 9]) (js := [10]) (Keep.refl _) (Rn.s rfl Yv.as (Rn.s rfl Yv.as (Rn.nil))) (WO.act (he := Ef.stores hs6 0 (fun w7 hs7 => WO.done ?_))))))
  have hst : St w3 [] w7 ((Ch.cells b12 27 F.cs :: Ch.row StE 9 NA nc N :: Ch.row TsE 38 TA tc ts :: trows ts) ++ [Ch.row FlE 49 B d (files ++ [spF, spF])]) := hs7
  have hst := hst.perm List.perm_append_comm
  clear hs5 hs6 hs7 hld
  have hen := St.enter (A := [Ch.row FlE 49 B d (files ++ [spF, spF])]) hst
  refine Wp.seq (Wp.seq (Wp.regionL (l := [0, 1, 2, 3]) (WO.rd (is := [0, 1]) (js := [2, 3]) (Keep.refl _) (Rn.s rfl Yv.mv (Rn.s rfl Yv.mv (Rn.nil))) (WO.act (hc := rfl) (he := Ef.callv Tryz.func9 (Calls.mono (keptF_calls B d A c files w7 (hr3.keep hst.keep) hen hl) ?_))))))
  rintro e w8 ⟨rfl, hs8⟩
  refine WO.rd (is := [3]) (js := []) (Keep.refl _) (Rn.s rfl Yv.not (Rn.nil)) (WO.done ?_)
  have hst : St w3 [] w8 (Ch.cells b12 27 F.cs :: Ch.row StE 9 NA nc N :: Ch.row TsE 38 TA tc ts :: trows ts) := St.call (A := [Ch.row FlE 49 B d (files ++ [spF, spF])]) hst hs8
  clear hs8 hen
  refine Wp.cond_f rfl (Wp.skip ?_)
  -- once more
  refine Wp.seq (Wp.regionL (l := [0, 1, 2, 3, 4, 5, 6, 7, 8, 9, 10, 11]) (WO.rd (is := [0]) (js := [1, 2, 3, 4, 5, 6, 7, 8, 9, 10, 11]) (Keep.refl _) (Rn.s rfl Yv.mv (Rn.nil)) (WO.act (hc := rfl) (he := Ef.cx (copyF_cx A c files w8 (hr3.keep hst.keep) hA (by omega)) hst (FnOk.of Tryz.func10) ?_))))
  rintro v D w9 ⟨B2, d2, rfl, rfl⟩ hs9
  have hrB : Rd FlE w9 B2 files := hs9.rd 0
  have hld := load_cx B2 d2 files root w9 (hg3.keep hs9.keep) hrB (by omega)
  rw [← hN, ← hTT, ← hF] at hld
  refine WO.rd (is := [2]) (js := [3, 4, 5, 6, 7, 8, 9, 10, 11]) (Keep.refl _) (Rn.s rfl Yv.mv (Rn.nil)) (WO.act (hc := rfl) (he := Ef.cx hld hs9 (FnOk.of Tryz.func8) ?_))
  rintro v D w10 ⟨MA, mc, UA, uc, us, rfl, hus, rfl⟩ hs10
  refine WO.rd (is := [4, 5, 6, 7]) (js := [8, 9, 10, 11]) (Keep.refl _) (Rn.s rfl Yv.mv (Rn.s rfl Yv.ex (Rn.s rfl Yv.ex (Rn.s rfl Yv.ex (Rn.nil))))) (WO.act (he := Ef.allocL (vs := ft0.cs) hs10 (fun b15 w11 k11 hs11 => WO.rd (is := [9, 10]) (js := [11]) (Keep.refl _) (Rn.s rfl Yv.as (Rn.s rfl Yv.as (Rn.nil))) (WO.act (he := Ef.stores hs11 0 (fun w12 hs12 => WO.done ?_))))))
  have hst : St w3 [] w12 ([Ch.cells b15 27 F.cs, Ch.row StE 9 MA mc N, Ch.row TsE 38 UA uc us] ++ (trows us ++ ([Ch.row FlE 49 B2 d2 files, Ch.cells b12 27 F.cs, Ch.row StE 9 NA nc N, Ch.row TsE 38 TA tc ts] ++ trows ts))) := hs12
  clear hs9 hs10 hs11 hs12 hld hrB
  have c15 := hst.cells 0
  have rU := st_trows (D := [_, _, _]) hst
  have hst := hst.perm four_perm
  have c12 := hst.cells 1
  have rV := st_trows (D := [_, _, _, _]) hst
  have hNr : Rd StE w12 NA N := hst.rd 2
  have hTr : Rd TsE w12 TA ts := hst.rd 3
  have hk := hst.keep
  have hsN := texts_same (nc := nc) (nd := rn) hNr (rN.keep hk) hN64
  have hsT := trees_same (tc := tc) (td := rt) hTr (rT.keep hk) rV (fun x hx => (rR x hx).keep hk) hts hrs hT64 hT16
  have c8' := c8.keep hk
  refine Wp.seq (Wp.seq (Wp.regionL (l := [0, 1, 2, 3, 4, 5, 6, 7, 8, 9, 10, 11, 12, 13, 14, 15, 16, 17, 18, 19]) (WO.rd (is := [0, 1, 2, 3, 4, 5, 6, 7, 8]) (js := [9, 10, 11, 12, 13, 14, 15, 16, 17, 18, 19]) (Keep.refl _) (Rn.s rfl (Yv.ldb c12) (Rn.s rfl (Yv.ldb c8') (Rn.s rfl (Yv.nes (ftEq F F)) (Rn.s rfl Yv.mv (Rn.or (is := [4, 5, 6, 7]) (js := [8]) (t := 49) (d := 53) (hg := rfl) (hf := fun h3 => Rn.s rfl (Yv.ldb c15) (Rn.s rfl (Yv.ldb c8') (Rn.s rfl (Yv.nes (ftEq F F)) (Rn.s rfl Yv.pick_f ((Rn.e 4 rfl rfl)))))) (ht := fun _ => Rn.no rfl (Rn.no rfl (Rn.no rfl (Rn.s rfl Yv.pick_t (Rn.e 4 rfl rfl))))) (k := Rn.s rfl Yv.mv (Rn.nil))))))) (WO.or (js := [14, 15, 16, 17, 18, 19]) 54 59 (hg := rfl) (hf := fun h8 qx1 => WO.rd (is := [9, 10]) (js := [11, 12, 13, 14, 15, 16, 17, 18, 19]) (Keep.refl _) (Rn.s rfl Yv.mv (Rn.s rfl Yv.mv (Rn.nil))) (WO.cv rfl hsN (Keep.refl _) (FnOk.of Tryz.func11) (fun wx2 kx2 => WO.rd (is := [12, 13]) (js := [14, 15, 16, 17, 18, 19]) ((Keep.refl _).trans kx2) (Rn.s rfl Yv.not (Rn.s rfl Yv.pick_f (Rn.nil))) (WO.e 5 (qx1 _ ((Keep.refl _).trans kx2)))))) (ht := fun _ qx1 => WO.rd (is := [9, 10, 11, 12, 13]) (js := [14, 15, 16, 17, 18, 19]) (Keep.refl _) (Rn.no rfl (Rn.no rfl (Rn.no rfl (Rn.no rfl (Rn.s rfl Yv.pick_t Rn.nil))))) (WO.e 5 (qx1 _ (Keep.refl _)))) (k := fun wx1 kx1 => WO.rd (is := [14]) (js := [15, 16, 17, 18, 19]) ((Keep.refl _).trans kx1) (Rn.s rfl Yv.mv (Rn.nil)) (WO.or (js := []) 60 65 (hg := rfl) (hf := fun h14 qx3 => WO.rd (is := [15, 16]) (js := [17, 18, 19]) ((Keep.refl _).trans kx1) (Rn.s rfl Yv.mv (Rn.s rfl Yv.mv (Rn.nil))) (WO.cv rfl hsT ((Keep.refl _).trans kx1) (FnOk.of Tryz.func12) (fun wx4 kx4 => WO.rd (is := [18, 19]) (js := []) (((Keep.refl _).trans kx1).trans kx4) (Rn.s rfl Yv.not (Rn.s rfl Yv.pick_f (Rn.nil))) (WO.e 5 (qx3 _ ((Keep.refl _).trans kx4)))))) (ht := fun _ qx3 => WO.rd (is := [15, 16, 17, 18, 19]) (js := []) ((Keep.refl _).trans kx1) (Rn.no rfl (Rn.no rfl (Rn.no rfl (Rn.no rfl (Rn.s rfl Yv.pick_t Rn.nil))))) (WO.e 5 (qx3 _ (Keep.refl _)))) (k := fun wx3 kx3 => WO.done ?_)))))))
  refine Wp.cond rfl (fun h => ?_) (fun h => ?_)
  · simp at h
  clear h hsN hsT c8' c12 c15
  refine Wp.skip ?_
  have hst := hst.quiet (kx1.trans kx3)
  have hst : St w3 [] wx3 ([Ch.row StE 9 NA nc N] ++ (Ch.row TsE 38 TA tc ts :: (trows ts ++ ([Ch.cells b15 27 F.cs, Ch.row StE 9 MA mc N, Ch.row TsE 38 UA uc us] ++ trows us)))) := hst.pickT (P := [_, _, _, _]) (T := _) [2, 3]
  have hen := St.enter (A := [Ch.row StE 9 NA nc N]) hst
  refine Wp.seq (Wp.regionL (l := [0, 1]) (WO.rd (is := [0]) (js := [1]) (Keep.refl _) (Rn.s rfl Yv.mv (Rn.nil)) (WO.act (hc := rfl) (he := Ef.callv Tryz.func13 (Calls.mono (spoilT_calls NA nc N wx3 hen (by omega)) ?_)))))
  rintro e w13 ⟨rfl, hs13⟩
  refine WO.done ?_
  have hst : St w3 [] w13 (Ch.row TsE 38 TA tc ts :: (trows ts ++ ([Ch.cells b15 27 F.cs, Ch.row StE 9 MA mc N, Ch.row TsE 38 UA uc us] ++ trows us))) := St.call (A := [Ch.row StE 9 NA nc N]) hst hs13
  clear hs13 hen hNr hTr rU rV hk
  have hlt : ts.length = TT.length := by rw [← hts, List.length_map]
  have hlr : rs.length = TT.length := by rw [← hrs, List.length_map]
  have hmt : ∀ x ∈ ts, x.2.2.length ≤ 16384 := fun x hx => hT16 x.2.2 (by rw [← hts]; exact List.mem_map_of_mem hx)
  refine Wp.seq (Wp.seq (Wp.reads (is := [0]) (Keep.refl _) (Rn.s rfl Yv.as (Rn.nil)) ?_))
  refine Wp.block ?_
  refine Wp.loop (α := Nat) (fun i ρ ds w' => ds = [] ∧ i ≤ TT.length ∧ St w3 [] w' (Ch.row TsE 38 TA tc ts :: (trows (ts.drop i) ++ ([Ch.cells b15 27 F.cs, Ch.row StE 9 MA mc N, Ch.row TsE 38 UA uc us] ++ trows us))) ∧
    Sub [(0, .slice A files.length c), (5, .slice RN N.length rn), (6, .slice RT TT.length rt), (11, .slice TA TT.length tc), (13, .slice MA N.length mc), (14, .slice UA TT.length uc), (16, .int .i64 (i : Int))] ρ) (fun i => TT.length - i) 0
    ⟨rfl, Nat.zero_le _, hst, rfl, rfl, rfl, rfl, rfl, rfl, rfl, trivial⟩ ?_
  clear hst
  rintro i ρ ds w14 ⟨rfl, hi, hst, hs⟩
  refine Wp.forget _ ?_ hs
  clear hs ρ
  refine Wp.seq (Wp.seq (Wp.reads (is := [0, 1, 2, 3]) (Keep.refl _) (Rn.s rfl Yv.mv (Rn.s rfl Yv.mv (Rn.s rfl (Yv.len_v (e := 38) (m := 1)) (Rn.s rfl (Yv.cmp _ rfl) (Rn.nil))))) ?_))
  refine Wp.cond rfl (fun h1 => ?_) (fun h1 => ?_)
  · have h1 := of_decide_eq_true h1
    have hil : i < ts.length := by omega
    have hget : nth ts (i : Int) = ts[i] := nth_of (List.getElem?_eq_getElem hil)
    obtain ⟨x, hx⟩ : ∃ x, x = nth ts (i : Int) := ⟨_, rfl⟩
    have hxm : x ∈ ts := by rw [hx, hget]; exact List.getElem_mem hil
    have hxl := hmt x hxm
    have hTr : Rd TsE w14 TA ts := hst.rd 0
    have e1 : trows (ts.drop i) = trow x :: trows (ts.drop (i + 1)) := by rw [List.drop_eq_getElem_cons hil, ← hget, ← hx]; rfl
    rw [e1] at hst
    have hst : St w3 [] w14 ([trow x] ++ (Ch.row TsE 38 TA tc ts :: (trows (ts.drop (i + 1)) ++ ([Ch.cells b15 27 F.cs, Ch.row StE 9 MA mc N, Ch.row TsE 38 UA uc us] ++ trows us)))) := hst.pickT (P := [_, _]) (T := _) [1, 0]
    have hen := St.enter (A := [trow x]) hst
    refine Wp.skip (Wp.seq (Wp.block ?_))
    refine Wp.seq (Wp.regionL (l := [0, 1, 2, 3, 4]) (WO.rd (is := [0, 1, 2, 3]) (js := [4]) (Keep.refl _) (Rn.s rfl Yv.mv (Rn.s rfl Yv.mv (Rn.s rfl (Yv.ia (e := 38) hTr (by omega) (by omega) (hm := hlt.symm)) (Rn.s rfl (Yv.ld (hTr.ld 0 (by omega) (by omega))) (Rn.nil))))) ?_))
    rw [← hx]
    refine WO.act (hc := rfl) (he := Ef.callv Tryz.func14 (Calls.mono (spoil_calls x.1 x.2.1 x.2.2 w14 hen (by omega)) ?_))
    rintro e w15 ⟨rfl, hs15⟩
    refine WO.done ?_
    have hst : St w3 [] w15 (Ch.row TsE 38 TA tc ts :: (trows (ts.drop (i + 1)) ++ ([Ch.cells b15 27 F.cs, Ch.row StE 9 MA mc N, Ch.row TsE 38 UA uc us] ++ trows us))) := St.call (A := [trow x]) hst hs15
    clear hs15 hen hTr
    have hTr : Rd TsE w15 TA ts := hst.rd 0
    have rV := st_trows (D := [_]) hst
    have hk := hst.keep
    have rT15 := rT.keep hk
    have rR15 := fun x hx => (rR x hx).keep hk
    have hcmp : (i : Int) + 1 < TT.length → Cv Tryz.prog 15 [.slice (nth ts ((i : Int) + 1)).1 (nth ts ((i : Int) + 1)).2.2.length (nth ts ((i : Int) + 1)).2.1, .slice (nth rs ((i : Int) + 1)).1 (nth rs ((i : Int) + 1)).2.2.length (nth rs ((i : Int) + 1)).2.1] (.bool true) w15 := by
      intro q
      have q1 : i + 1 < ts.length := by omega
      have q2 : i + 1 < rs.length := by omega
      have e2 : (i : Int) + 1 = ((i + 1 : Nat) : Int) := rfl
      rw [e2]
      have g1 : nth ts ((i + 1 : Nat) : Int) = ts[i + 1] := nth_of (List.getElem?_eq_getElem q1)
      have g2 : nth rs ((i + 1 : Nat) : Int) = rs[i + 1] := nth_of (List.getElem?_eq_getElem q2)
      have m1 : ts[i + 1] ∈ ts.drop (i + 1) := by rw [List.drop_eq_getElem_cons q1]; exact List.mem_cons_self ..
      have m2 : rs[i + 1] ∈ rs := List.getElem_mem q2
      have e3 : ts[i + 1].2.2 = rs[i + 1].2.2 := by
        have := congrArg (fun l => l[i + 1]?) (hts.trans hrs.symm)
        simp only [List.getElem?_map, List.getElem?_eq_getElem q1, List.getElem?_eq_getElem q2, Option.map_some, Option.some.injEq] at this
        exact this
      rw [g1, g2]
      have := same_cv ts[i + 1].1 ts[i + 1].2.1 ts[i + 1].2.2 rs[i + 1].1 rs[i + 1].2.1 rs[i + 1].2.2 w15 (rV _ m1) (rR15 _ m2) (by have := hmt _ (List.getElem_mem q1); omega)
      rw [decide_eq_true e3] at this
      exact this
    refine Wp.seq (Wp.draws [] mixed (WD.rd (is := [0, 1, 2, 3, 4, 5]) (fun _ _ _ _ _ h => h) (Keep.drew _) (Rn.s rfl Yv.mv (Rn.s rfl (Yv.add (by unfold inI; omega)) (Rn.s rfl Yv.mv (Rn.s rfl (Yv.len_v (e := 38) (m := 1)) (Rn.s rfl (Yv.cmp _ rfl) (Rn.s rfl Yv.mv (Rn.nil))))))) (WD.and [6, 7, 8, 9, 10, 11, 12, 13, 14, 15, 16, 17, 18] 84 97 (hg := rfl) (ht := fun h5 qy1 => have h5 := of_decide_eq_true h5; WD.rd (is := [6, 7, 8, 9, 10, 11, 12, 13, 14, 15]) (fun _ _ _ _ _ h => h) (Keep.drew _) (Rn.s rfl Yv.mv (Rn.s rfl Yv.mv (Rn.s rfl (Yv.add (by unfold inI; omega)) (Rn.s rfl (Yv.ia (e := 38) hTr (j := (i : Int) + 1) (by omega) (by omega) (hm := hlt.symm)) (Rn.s rfl (Yv.ld (hTr.ld (i := (i : Int) + 1) 0 (by omega) (by omega))) (Rn.s rfl Yv.mv (Rn.s rfl Yv.mv (Rn.s rfl (Yv.add (by unfold inI; omega)) (Rn.s rfl (Yv.ia (e := 38) rT15 (j := (i : Int) + 1) (by omega) (by omega) (hm := hlr.symm)) (Rn.s rfl (Yv.ld (rT15.ld (i := (i : Int) + 1) 0 (by omega) (by omega))) (Rn.nil))))))))))) (WD.cv 16 rfl (hcmp h5) (Keep.drew _) (FnOk.of Tryz.func15) (fun wy2 ky2 => WD.rd (is := [17, 18]) (fun _ _ _ _ _ h => h) ((Keep.drew _).trans ky2) (Rn.s rfl Yv.not (Rn.s rfl Yv.pick_t (Rn.nil))) (WD.e 13 (qy1 _ ((Keep.refl _).trans ky2)))))) (hf := fun _ qy1 => WD.rd (is := [6, 7, 8, 9, 10, 11, 12, 13, 14, 15, 16, 17, 18]) (fun _ _ _ _ _ h => h) (Keep.drew _) (Rn.no rfl (Rn.no rfl (Rn.no rfl (Rn.no rfl (Rn.no rfl (Rn.no rfl (Rn.no rfl (Rn.no rfl (Rn.no rfl (Rn.no rfl (Rn.no rfl (Rn.no rfl (Rn.s rfl Yv.pick_f Rn.nil))))))))))))) (WD.e 13 (qy1 _ (Keep.refl _)))) (k := fun wy1 ky1 => WD.done ?_))))
    refine Wp.cond rfl (fun h2 => ?_) (fun h2 => ?_)
    · simp at h2
    refine Wp.skip (Wp.reads (is := [0, 1, 2]) (Keep.refl _) (Rn.s rfl Yv.mv (Rn.s rfl (Yv.add (by unfold inI; omega)) (Rn.s rfl Yv.as (Rn.nil)))) ?_)
    exact ⟨i + 1, ⟨rfl, by omega, hst.quiet ((Keep.drew _).trans ky1), rfl, rfl, rfl, rfl, rfl, rfl, rfl, trivial⟩, by omega⟩
  have h1 := of_decide_eq_false h1
  refine Wp.exit ?_
  rw [List.drop_eq_nil_of_le (by omega)] at hst
  have hst : St w3 [] w14 (Ch.row TsE 38 TA tc ts :: Ch.cells b15 27 F.cs :: Ch.row StE 9 MA mc N :: Ch.row TsE 38 UA uc us :: trows us) := hst
  have rU := st_trows (D := [_, _, _, _]) (E := []) (by rw [List.append_nil]; exact hst)
  have hk := hst.keep
  have hsN := texts_same (nc := mc) (nd := rn) (hst.rd 2) (rN.keep hk) hN64
  have hsT := trees_same (tc := uc) (td := rt) (hst.rd 3) (rT.keep hk) rU (fun x hx => (rR x hx).keep hk) hus hrs hT64 hT16
  refine Wp.seq (Wp.regionL (l := [0, 1, 2, 3, 4, 5, 6, 7, 8, 9, 10, 11]) (WO.rd (is := [0, 1]) (js := [2, 3, 4, 5, 6, 7, 8, 9, 10, 11]) (Keep.refl _) (Rn.s rfl Yv.mv (Rn.s rfl Yv.mv (Rn.nil))) (WO.cv rfl hsN (Keep.refl _) (FnOk.of Tryz.func11) (fun wz1 kz1 => WO.rd (is := [3]) (js := [4, 5, 6, 7, 8, 9, 10, 11]) ((Keep.refl _).trans kz1) (Rn.s rfl Yv.mv (Rn.nil)) (WO.and (js := [8, 9, 10, 11]) 101 105 (hg := rfl) (ht := fun h3 qz2 => WO.rd (is := [4, 5]) (js := [6, 7, 8, 9, 10, 11]) ((Keep.refl _).trans kz1) (Rn.s rfl Yv.mv (Rn.s rfl Yv.mv (Rn.nil))) (WO.cv rfl hsT ((Keep.refl _).trans kz1) (FnOk.of Tryz.func12) (fun wz3 kz3 => WO.rd (is := [7]) (js := [8, 9, 10, 11]) (((Keep.refl _).trans kz1).trans kz3) (Rn.s rfl Yv.pick_t (Rn.nil)) (WO.e 4 (qz2 _ ((Keep.refl _).trans kz3)))))) (hf := fun _ qz2 => WO.rd (is := [4, 5, 6, 7]) (js := [8, 9, 10, 11]) ((Keep.refl _).trans kz1) (Rn.no rfl (Rn.no rfl (Rn.no rfl (Rn.s rfl Yv.pick_f Rn.nil)))) (WO.e 4 (qz2 _ (Keep.refl _)))) (k := fun wz2 kz2 => WO.rd (is := [8]) (js := [9, 10, 11]) (((Keep.refl _).trans kz1).trans kz2) (Rn.s rfl Yv.mv (Rn.nil)) (WO.and (js := [11]) 106 108 (hg := rfl) (ht := fun h8 qz4 => WO.cv rfl (awake7_cv w14 (hg3.keep hk)) (((Keep.refl _).trans kz1).trans kz2) (FnOk.of Tryz.func16) (fun wz5 kz5 => WO.rd (is := [10]) (js := [11]) ((((Keep.refl _).trans kz1).trans kz2).trans kz5) (Rn.s rfl Yv.pick_t (Rn.nil)) (WO.e 2 (qz4 _ ((Keep.refl _).trans kz5))))) (hf := fun _ qz4 => WO.rd (is := [9, 10]) (js := [11]) (((Keep.refl _).trans kz1).trans kz2) (Rn.no rfl (Rn.s rfl Yv.pick_f Rn.nil)) (WO.e 2 (qz4 _ (Keep.refl _)))) (k := fun wz4 kz4 => WO.rd (is := [11]) (js := []) ((((Keep.refl _).trans kz1).trans kz2).trans kz4) (Rn.s rfl Yv.as (Rn.nil)) (WO.done ?_)))))))))
  refine Wp.ret (Fin.ret (Res.one rfl rfl) ⟨?_, ?_⟩)
  · simp
  · exact k3.trans (hk.trans (kz1.trans (kz2.trans kz4)))
end Go.Proofs.YtgjhbapbomdpbaaGreatDoor.C
