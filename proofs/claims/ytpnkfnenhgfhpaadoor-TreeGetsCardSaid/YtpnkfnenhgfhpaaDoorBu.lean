/- TreeGets, walked. -/
import Derived.Test.YtpnkfnenhgfhpaaDoorBt
set_option linter.unusedVariables false
set_option linter.unusedSimpArgs false
set_option maxRecDepth 10000
namespace Go.Proofs.YtpnkfnenhgfhpaaDoor.C
open Go.RowKit Go.Proofs.YtpnkfnenhgfhpaaDoor.Sh
theorem treeGets_calls (A : Option Addr) (c : Nat) (t : List Nd) (B : Option Addr) (d : Nat) (path : List Bs) (w : World) (hg : Gl w) (hr : Rd NdE w A t) (hp : Rd StE w B path) (hcA : A = none → c = 0) (hcB : B = none → d = 0) (hl : t.length ≤ 1599289640390) (hlp : path.length ≤ 8796093022200) (hkl : ∀ s ∈ path, s.length ≤ 9223372036854775807) :
    Calls Tryd.prog 11 #[.slice A t.length c, .slice B path.length d] w fun e w' => e = .returned (.bool true) ∧ Keep w w' := by
  refine calls_of_Wp (vs := [_, _]) Tryd.func11 ?_
  refine Wp.seq (Wp.reads (is := [0]) (Keep.refl _) (Rn.s rfl Yv.as (Rn.nil)) ?_)
  refine Wp.seq (Wp.regionL (l := [0, 1, 2, 3, 4, 5]) (WO.rd (is := [0]) (js := [1, 2, 3, 4, 5]) (Keep.refl _) (Rn.s rfl Yv.mv (Rn.nil)) (WO.act (hc := rfl) (he := Ef.cx (lend_cx A c t w hr hcA hl) (St.init w) (FnOk.of Tryd.func26) ?_))))
  rintro v D w1 ⟨B1, d1, rfl, rfl⟩ hs1
  have hs1 : St w [] w1 [Ch.row NdE 32 B1 d1 (t ++ [spN, spN])] := hs1
  refine WO.rd (is := [2]) (js := [3, 4, 5]) (Keep.refl _) (Rn.s rfl Yv.mv (Rn.nil)) (WO.act (hc := rfl) (he := Ef.cx (lendT_cx B d path w1 (hp.keep hs1.keep) hcB hlp) hs1 (FnOk.of Tryd.func50) ?_))
  rintro v D w2 ⟨B2, d2, rfl, rfl⟩ hs2
  refine WO.rd (is := [4, 5]) (js := []) (Keep.refl _) (Rn.s rfl Yv.as (Rn.s rfl Yv.as (Rn.nil))) (WO.done ?_)
  have hst : St w [] w2 [Ch.row StE 9 B2 d2 (path ++ [spS, spS]), Ch.row NdE 32 B1 d1 (t ++ [spN, spN])] := hs2
  refine Wp.seq (Wp.regionL (l := [0, 1, 2, 3]) (WO.rd (is := [0, 1]) (js := [2, 3]) (Keep.refl _) (Rn.s rfl Yv.mv (Rn.s rfl Yv.mv (Rn.nil))) (WO.cv rfl (get_cv B1 d1 t B2 d2 path w2 (hg.keep hst.keep) (rd_pre (hst.rd 1)) (rd_pre (hst.rd 0)) (by omega)) (Keep.refl _) (FnOk.of Tryd.func51) (fun wx1 kx1 => WO.rd (is := [3]) (js := []) ((Keep.refl _).trans kx1) (Rn.s rfl Yv.as (Rn.nil)) (WO.done ?_)))))
  have hst := (hst.quiet kx1).pick [1, 0]
  have hst : St w [] wx1 [Ch.row NdE 32 B1 d1 (t ++ [spN, spN]), Ch.row StE 9 B2 d2 (path ++ [spS, spS])] := hst
  have hr1 := hr.keep hst.keep
  have hen := St.enter (A := [Ch.row NdE 32 B1 d1 (t ++ [spN, spN])]) (D := [Ch.row StE 9 B2 d2 (path ++ [spS, spS])]) hst
  refine Wp.seq (Wp.seq (Wp.regionL (l := [0, 1, 2, 3, 4, 5, 6, 7, 8, 9, 10, 11, 12, 13, 14, 15, 16]) (WO.rd (is := [0, 1]) (js := [2, 3, 4, 5, 6, 7, 8, 9, 10, 11, 12, 13, 14, 15, 16]) (Keep.refl _) (Rn.s rfl Yv.mv (Rn.s rfl Yv.mv (Rn.nil))) (WO.act (hc := rfl) (he := Ef.callv Tryd.func28 (Calls.mono (kept_calls B1 d1 A c t wx1 hr1 hen hl) ?_))))))
  rintro e w3 ⟨rfl, hs3⟩
  have hst3 : St w [] w3 [Ch.row StE 9 B2 d2 (path ++ [spS, spS])] := St.call (A := [Ch.row NdE 32 B1 d1 (t ++ [spN, spN])]) hst hs3
  have hp3 := hp.keep hst3.keep
  have hen3 := St.enter (A := [Ch.row StE 9 B2 d2 (path ++ [spS, spS])]) (D := []) hst3
  refine WO.rd (is := [3, 4, 5, 6]) (js := [7, 8, 9, 10, 11, 12, 13, 14, 15, 16]) (Keep.refl _) (Rn.s rfl Yv.not (Rn.s rfl Yv.mv (Rn.s rfl Yv.mv (Rn.s rfl Yv.mv Rn.nil)))) (WO.act (hc := rfl) (he := Ef.callv Tryd.func52 (Calls.mono (keptT_calls B2 d2 B d path w3 hp3 hen3 hlp) ?_)))
  rintro e w4 ⟨rfl, hs4⟩
  have hst4 : St w [] w4 [] := St.call (A := [Ch.row StE 9 B2 d2 (path ++ [spS, spS])]) (D := []) hst3 hs4
  have hk4 := hst4.keep
  refine WO.rd (is := [8, 9, 10, 11, 12, 13]) (js := [14, 15, 16]) (Keep.refl _) (Rn.s rfl Yv.not (Rn.s rfl Yv.pick_f (Rn.s rfl Yv.mv (Rn.s rfl Yv.mv (Rn.s rfl Yv.mv (Rn.s rfl Yv.mv Rn.nil)))))) (WO.cv rfl (rget_cv A c t B d path w4 (hr.keep hk4) (hp.keep hk4) (by omega) hkl) (Keep.refl _) (FnOk.of Tryd.func53) (fun w5 k5 => WO.rd (is := [15, 16]) (js := []) (Keep.refl _) (Rn.s rfl (Yv.cmp _ rfl) (Rn.s rfl Yv.pick_f Rn.nil)) (WO.done ?_)))
  have hk5 := hk4.trans k5
  refine Wp.cond_f ?_ (Wp.skip ?_)
  · have : (getS t path != rgetS t path) = false := by rw [get_eq]; simp
    exact congrArg (fun b => some (Value.bool b)) this
  refine Wp.seq (Wp.reads (is := [0]) (Keep.refl _) (Rn.s rfl Yv.as (Rn.nil)) ?_)
  refine Wp.seq (Wp.seq (Wp.regionL (l := [0, 1]) (WO.rd (is := [0]) (js := [1]) (Keep.refl _) (Rn.s rfl Yv.mv (Rn.nil)) (WO.cv rfl (ris_cv A c t w5 (hr.keep hk5)) (Keep.refl _) (FnOk.of Tryd.func33) (fun wy1 ky1 => WO.done ?_)))))
  refine Wp.mid (fun ρ ds w' => ds = [] ∧ Keep w w' ∧ Sub [(0, .slice A t.length c), (8, .int .i64 (getS t []))] ρ) ?_ ?_
  · have hgs : getS t [] = if refIsS t = true then 0 else -1 := by rw [getS, is_ref]; rfl
    rw [hgs]
    refine Wp.cond rfl (fun h => ?_) (fun h => ?_)
    · rw [if_pos h]
      refine Wp.reads (is := [0]) (Keep.refl _) (Rn.s rfl Yv.as (Rn.nil)) ?_
      exact ⟨rfl, hk5.trans ky1, rfl, rfl, trivial⟩
    · rw [if_neg (by rw [h]; decide)]
      exact Wp.skip ⟨rfl, hk5.trans ky1, rfl, rfl, trivial⟩
  rintro ρ ds w6 ⟨rfl, hk6, hs⟩
  refine Wp.forget _ ?_ hs
  obtain ⟨rt, hrt⟩ : ∃ rt, rt = getS t [] := ⟨_, rfl⟩
  have hr01 : rt = 0 ∨ rt = -1 := by
    rw [hrt, getS]
    split
    · exact .inl rfl
    · exact .inr rfl
  refine Wp.seq (Wp.regionL (l := [0, 1, 2, 3, 4, 5, 6, 7, 8]) (WO.rd (is := [0]) (js := [1, 2, 3, 4, 5, 6, 7, 8]) (Keep.refl _) (Rn.s rfl Yv.mv (Rn.nil)) (WO.act (hc := rfl) (he := Ef.cx (copyL_cx A c t w6 (hr.keep hk6) hcA hl) (St.init w6) (FnOk.of Tryd.func29) ?_))))
  rintro v D w7 ⟨B3, d3, rfl, rfl⟩ hs7
  have hs7 : St w6 [] w7 [Ch.row NdE 32 B3 d3 t] := hs7
  have hk7 := hk6.trans hs7.keep
  have hget : Cv Tryd.prog 51 [.slice B3 t.length d3, .slice none 0 0] (.int .i64 rt) w7 := by
    rw [hrt]
    exact get_cv B3 d3 t none 0 [] w7 (hg.keep hk7) (hs7.rd 0) ⟨fun h => absurd h (by simp), fun j x h => by simp at h⟩ (by simp)
  rw [← hrt]
  refine WO.cv rfl hget (Keep.refl _) (FnOk.of Tryd.func51) (fun w8 k8 => ?_)
  have hk8 := hk7.trans k8
  rcases hr01 with rfl | rfl
  all_goals
    refine WO.rd (is := [3, 4, 5]) (js := [6, 7, 8]) (Keep.refl _) (Rn.s rfl Yv.mv (Rn.s rfl (Yv.cmp true rfl) (Rn.s rfl Yv.mv Rn.nil))) (WO.cv rfl (awake4_cv w8 (hg.keep hk8)) (Keep.refl _) (FnOk.of Tryd.func49) (fun w9 k9 => WO.rd (is := [7, 8]) (js := []) (Keep.refl _) (Rn.s rfl Yv.pick_t (Rn.s rfl Yv.as Rn.nil)) (WO.done ?_)))
    exact Wp.ret (Fin.ret (Res.one rfl rfl) ⟨rfl, hk8.trans k9⟩)
end Go.Proofs.YtpnkfnenhgfhpaaDoor.C
