/- IncludeDeep, walked. -/
import Derived.Test.YtgjhbapbomdpbaaDoorIg
set_option linter.unusedVariables false
set_option linter.unusedSimpArgs false
set_option maxRecDepth 100000
namespace Go.Proofs.YtgjhbapbomdpbaaDoor.C
open Go.RowKit Go.Proofs.YtgjhbapbomdpbaaDoor.Sh
def abc : Bs := [97, 98, 99, 100, 101, 102, 103, 104, 105, 106, 107, 108, 109, 110, 111, 112, 113, 114, 115, 116, 117, 118, 119, 120, 121, 122]
def nmI (a b : Int) : Bs := (abc.take b.toNat).drop a.toNat
def txI : Bs := [105, 110, 99, 108, 117, 100, 101, 58, 32]
def txL : Bs := [105, 110, 99, 108, 117, 100, 101, 58, 10, 32, 32, 45, 32]
def flD (k : Nat) (list : Bool) (i : Nat) : Fl := ⟨nmI i ((i : Int) + 1), if (i : Int) + 1 < k then (if list then txL else txI) ++ nmI ((i : Int) + 1) ((i : Int) + 2) else []⟩
def deepF (k : Nat) (list : Bool) : List Fl := (List.range k).map (flD k list)
theorem deep1 (list : Bool) (k : Nat) (h : 14 ≤ k) (h2 : k ≤ 16) : outF (deepF k list) [97] = ft0 ∧ (outN (deepF k list) [97]).length = k := by
  obtain rfl | rfl | rfl : k = 14 ∨ k = 15 ∨ k = 16 := by omega
  all_goals cases list <;> decide +kernel
theorem deep2 (list : Bool) : outF (deepF 17 list) [97] = ⟨75, nmI 15 16, if list then 2 else 1, if list then 5 else 10⟩ ∧ (outN (deepF 17 list) [97]).length = 0 := by
  cases list <;> decide +kernel
theorem abc_len : abc.length = 26 := rfl
theorem deep_calls (more : Int) (list : Bool) (w0 : World) (hg : Gm w0) (w : World) (hk : Keep w0 w) : Calls Tryd.prog 4 #[.int .i64 more, .bool list] w fun e w' => e = .returned (.bool true) ∧ Keep w w' := by
  have hg := hg.keep hk
  refine calls_of_Wp (vs := [_, _]) Tryd.func4 ?_
  refine Wp.seq (Wp.reads (is := [0]) (Keep.refl _) (Rn.s rfl Yv.as (Rn.nil)) ?_)
  obtain ⟨lb0, lb1⟩ := lowI_bd more
  refine Wp.seq (Wp.regionL (l := [0, 1, 2, 3, 4, 5]) (WO.rd (is := [0]) (js := [1, 2, 3, 4, 5]) (Keep.refl _) (Rn.s rfl Yv.mv (Rn.nil)) (WO.cv rfl (low_cv more w) (Keep.refl _) (FnOk.of Tryd.func17) (fun wa1 ka1 => WO.rd (is := [2, 3, 4, 5]) (js := []) ((Keep.refl _).trans ka1) (Rn.s rfl (Yv.rem (by omega) (by omega) (by omega)) (Rn.s rfl (Yv.add (by unfold inI; omega)) (Rn.s rfl (Yv.sub (by unfold inI; omega)) (Rn.s rfl Yv.as (Rn.nil))))) (WO.done ?_)))))
  obtain ⟨k, hkd⟩ : ∃ k : Nat, lowI more % 4 + 16 - 2 = k := ⟨(lowI more % 4 + 16 - 2).toNat, by omega⟩
  have hk14 : 14 ≤ k := by omega
  have hk17 : k ≤ 17 := by omega
  rw [hkd]
  have hla := abc_len
  refine Wp.seq (Wp.reads (is := [0]) (Keep.refl _) (Rn.s rfl Yv.as (Rn.nil)) ?_)
  refine Wp.seq (Wp.reads (is := [0]) (Keep.refl _) (Rn.s rfl Yv.as (Rn.nil)) ?_)
  refine Wp.seq (Wp.seq (Wp.reads (is := [0]) (Keep.refl _) (Rn.s rfl Yv.as (Rn.nil)) ?_))
  refine Wp.block ?_
  refine Wp.loop (α := Nat) (fun i ρ ds w' => ds = [] ∧ i ≤ k ∧ (∃ A c, St w [] w' [Ch.row FlE 33 A c ((List.range i).map (flD k list))] ∧
    Sub [(1, .bool list), (5, .int .i64 (k : Int)), (6, S abc), (7, .slice A ((List.range i).map (flD k list)).length c), (8, .int .i64 (i : Int))] ρ)) (fun i => k - i) 0
    ⟨rfl, Nat.zero_le _, ⟨none, 0, ((St.init w).quiet ka1).nilrow FlE _, rfl, rfl, rfl, rfl, rfl, trivial⟩⟩ ?_
  rintro i ρ ds w1 ⟨rfl, hi, A, c, hst, hsub⟩
  refine Wp.forget _ ?_ hsub
  clear hsub ρ
  refine Wp.seq (Wp.seq (Wp.reads (is := [0, 1, 2]) (Keep.refl _) (Rn.s rfl Yv.mv (Rn.s rfl Yv.mv (Rn.s rfl (Yv.cmp _ rfl) (Rn.nil)))) ?_))
  refine Wp.cond rfl (fun h1 => ?_) (fun h1 => ?_)
  · have h1 := of_decide_eq_true h1
    refine Wp.skip (Wp.seq (Wp.block ?_))
    refine Wp.seq (Wp.regionL (l := [0, 1, 2, 3, 4, 5, 6, 7]) (WO.rd (is := [0, 1, 2, 3, 4, 5]) (js := [6, 7]) (Keep.refl _) (Rn.s rfl Yv.mv (Rn.s rfl Yv.mv (Rn.s rfl Yv.mv (Rn.s rfl (Yv.add (by unfold inI; omega)) (Rn.s rfl (Yv.ss_ft (l := abc) (by omega) (by omega) (by rw [hla]; omega)) (Rn.s rfl (Yv.bd (cs := Fl.cs ⟨nmI i ((i : Int) + 1), []⟩)) (Rn.nil))))))) (WO.act (hc := rfl) (he := Ef.allocL (vs := [S [], S []]) hst (fun bx1 wx1 kx1 hsx1 => WO.act (hc := rfl) (he := Ef.stores hsx1 0 (fun wx2 hsx2 => WO.done ?_)))))))
    have hst : St w [] wx2 [Ch.cells bx1 33 (Fl.cs ⟨nmI i ((i : Int) + 1), []⟩), Ch.row FlE 33 A c ((List.range i).map (flD k list))] := hsx2
    clear hsx1 hsx2
    refine Wp.seq (Wp.mid (fun ρ ds w' => ds = [] ∧ St w [] w' [Ch.cells bx1 33 (flD k list i).cs, Ch.row FlE 33 A c ((List.range i).map (flD k list))] ∧
      Sub [(1, .bool list), (5, .int .i64 (k : Int)), (6, S abc), (7, .slice A ((List.range i).map (flD k list)).length c), (8, .int .i64 (i : Int)), (9, PB bx1)] ρ) ?_ ?_)
    · refine Wp.seq (Wp.reads (is := [0, 1, 2, 3]) (Keep.refl _) (Rn.s rfl Yv.mv (Rn.s rfl (Yv.add (by unfold inI; omega)) (Rn.s rfl Yv.mv (Rn.s rfl (Yv.cmp _ rfl) (Rn.nil))))) ?_)
      refine Wp.cond rfl (fun h2 => ?_) (fun h2 => ?_)
      · have h2 := of_decide_eq_true h2
        refine Wp.seq (Wp.regionL (l := [0, 1, 2, 3, 4, 5, 6, 7, 8]) (WO.rd (is := [0, 1, 2, 3, 4, 5, 6, 7]) (js := [8]) (Keep.refl _) (Rn.s rfl Yv.mv (Rn.s rfl Yv.mv (Rn.s rfl (Yv.add (by unfold inI; omega)) (Rn.s rfl Yv.mv (Rn.s rfl (Yv.add (by unfold inI; omega)) (Rn.s rfl (Yv.ss_ft (l := abc) (by omega) (by omega) (by rw [hla]; omega)) (Rn.s rfl (Yv.cat (a := txI) (by show _ + ((abc.take _).drop _).length ≤ _; simp only [List.length_drop, List.length_take, hla, txI, List.length_cons, List.length_nil]; omega)) (Rn.s rfl (Yv.fa (off := 1)) (Rn.nil))))))))) (WO.act (hc := rfl) (he := Ef.store hst 0 (fun wy1 hsy1 => WO.done ?_)))))
        have hst : St w [] wy1 [Ch.cells bx1 33 (Fl.cs ⟨nmI i ((i : Int) + 1), txI ++ nmI ((i : Int) + 1) ((i : Int) + 2)⟩), Ch.row FlE 33 A c ((List.range i).map (flD k list))] := hsy1
        clear hsy1
        refine Wp.seq (Wp.reads (is := [0]) (Keep.refl _) (Rn.s rfl Yv.mv (Rn.nil)) ?_)
        cases list with
        | true =>
          refine Wp.cond_t rfl ?_
          refine Wp.regionL (l := [0, 1, 2, 3, 4, 5, 6, 7, 8]) (WO.rd (is := [0, 1, 2, 3, 4, 5, 6, 7]) (js := [8]) (Keep.refl _) (Rn.s rfl Yv.mv (Rn.s rfl Yv.mv (Rn.s rfl (Yv.add (by unfold inI; omega)) (Rn.s rfl Yv.mv (Rn.s rfl (Yv.add (by unfold inI; omega)) (Rn.s rfl (Yv.ss_ft (l := abc) (by omega) (by omega) (by rw [hla]; omega)) (Rn.s rfl (Yv.cat (a := txL) (by show _ + ((abc.take _).drop _).length ≤ _; simp only [List.length_drop, List.length_take, hla, txL, List.length_cons, List.length_nil]; omega)) (Rn.s rfl (Yv.fa (off := 1)) (Rn.nil))))))))) (WO.act (hc := rfl) (he := Ef.store hst 0 (fun wz1 hsz1 => WO.done ?_))))
          refine ⟨rfl, ?_, rfl, rfl, rfl, rfl, rfl, rfl, trivial⟩
          have e : flD k true i = ⟨nmI i ((i : Int) + 1), txL ++ nmI ((i : Int) + 1) ((i : Int) + 2)⟩ := by unfold flD; rw [if_pos h2]; rfl
          rw [e]
          exact hsz1
        | false =>
          refine Wp.cond_f rfl (Wp.skip ?_)
          refine ⟨rfl, ?_, rfl, rfl, rfl, rfl, rfl, rfl, trivial⟩
          have e : flD k false i = ⟨nmI i ((i : Int) + 1), txI ++ nmI ((i : Int) + 1) ((i : Int) + 2)⟩ := by unfold flD; rw [if_pos h2]; rfl
          rw [e]
          exact hst
      · have h2 := of_decide_eq_false h2
        refine Wp.skip ?_
        refine ⟨rfl, ?_, rfl, rfl, rfl, rfl, rfl, rfl, trivial⟩
        have e : flD k list i = ⟨nmI i ((i : Int) + 1), []⟩ := by unfold flD; rw [if_neg h2]
        rw [e]
        exact hst
    clear hst
    rintro ρ ds w2 ⟨rfl, hst, hsub⟩
    refine Wp.forget _ ?_ hsub
    clear hsub ρ
    have c9 := hst.cells 0
    refine Wp.regionL (l := [0, 1, 2, 3, 4]) (WO.rd (is := [0, 1]) (js := [2, 3, 4]) (Keep.refl _) (Rn.s rfl Yv.mv (Rn.s rfl (Yv.ldb c9) (Rn.nil))) (WO.app FlE [flD k list i] rfl (fun _ => rfl) hst 1 (fitF (by simp; omega)) (fun bz1 Az1 cz1 wz1 hsz1 => WO.rd (is := [4]) (js := []) (Keep.refl _) (Rn.s rfl Yv.as (Rn.nil)) (WO.done ?_))))
    refine Wp.reads (is := [0, 1, 2]) (Keep.refl _) (Rn.s rfl Yv.mv (Rn.s rfl (Yv.add (by unfold inI; omega)) (Rn.s rfl Yv.as (Rn.nil)))) ?_
    have e : (List.range (i + 1)).map (flD k list) = (List.range i).map (flD k list) ++ [flD k list i] := by rw [List.range_succ, List.map_append]; rfl
    refine ⟨i + 1, ⟨rfl, by omega, ⟨Az1, cz1, ?_, rfl, rfl, rfl, ?_, rfl, trivial⟩⟩, by omega⟩
    · rw [e]; exact hsz1.pick [0]
    · rw [e]; rfl
  have h1 := of_decide_eq_false h1
  have e : i = k := by omega
  subst e
  refine Wp.exit ?_
  have hrF := hst.rd 0
  have hgc := hg.keep hst.keep
  have hl1 := load_cx A c (deepF i list) [97] w1 hgc hrF (by unfold deepF; simp; omega)
  refine Wp.seq (Wp.regionL (l := [0, 1, 2, 3, 4, 5, 6, 7, 8, 9]) (WO.rd (is := [0]) (js := [1, 2, 3, 4, 5, 6, 7, 8, 9]) (Keep.refl _) (Rn.s rfl Yv.mv (Rn.nil)) (WO.act (hc := rfl) (he := Ef.cx hl1 hst (FnOk.of Tryd.func11) ?_))))
  rintro v D w2 ⟨NA, nc, TA, tc, ts, rfl, hts, rfl⟩ hs2
  refine WO.rd (is := [2, 3, 4, 5]) (js := [6, 7, 8, 9]) (Keep.refl _) (Rn.s rfl Yv.mv (Rn.s rfl Yv.ex (Rn.s rfl Yv.ex (Rn.s rfl Yv.ex (Rn.nil))))) (WO.act (he := Ef.allocL (vs := ft0.cs) hs2 (fun b4 w3 k3 hs3 => WO.rd (is := [7, 8]) (js := [9]) (Keep.refl _) (Rn.s rfl Yv.as (Rn.s rfl Yv.as (Rn.nil))) (WO.act (he := Ef.stores hs3 0 (fun w4 hs4 => WO.done ?_))))))
  have hst : St w [] w4 [Ch.cells b4 27 (outF (deepF i list) [97]).cs] := hs4.sub (by simp)
  clear hs2 hs3 hs4 hl1 hrF
  have c12 := hst.cells 0
  have hgc := hg.keep hst.keep
  refine Wp.seq (Wp.seq (Wp.reads (is := [0, 1]) (Keep.refl _) (Rn.s rfl Yv.mv (Rn.s rfl (Yv.cmp _ rfl) (Rn.nil))) ?_))
  refine Wp.cond rfl (fun h2 => ?_) (fun h2 => ?_)
  · have h2 := of_decide_eq_true h2
    obtain ⟨d1, d2⟩ := deep1 list i hk14 (by omega)
    refine Wp.seq (Wp.regionL (l := [0, 1, 2, 3, 4, 5, 6, 7, 8, 9, 10, 11, 12]) (WO.rd (is := [0, 1, 2, 3, 4, 5, 6, 7, 8, 9]) (js := [10, 11, 12]) (Keep.refl _) (Rn.s rfl (Yv.ldb c12) (Rn.s rfl (Yv.bd (cs := ft0.cs)) (Rn.s rfl (Yv.eqs (ftEq (outF (deepF i list) [97]) ft0)) (Rn.s rfl Yv.mv (Rn.and (is := [4, 5, 6, 7, 8]) (js := [9]) (t := 66) (d := 71) (hg := rfl) (ht := fun h3 => Rn.s rfl Yv.mv (Rn.s rfl (Yv.len_v (e := 9) (m := 1)) (Rn.s rfl Yv.mv (Rn.s rfl (Yv.cmp _ rfl) (Rn.s rfl Yv.pick_t ((Rn.e 5 rfl rfl))))))) (hf := fun _ => Rn.no rfl (Rn.no rfl (Rn.no rfl (Rn.no rfl (Rn.s rfl Yv.pick_f (Rn.e 5 rfl rfl)))))) (k := Rn.s rfl Yv.mv (Rn.nil))))))) (WO.and (js := [12]) 72 74 (hg := rfl) (ht := fun h9 qx1 => WO.cv rfl (awake7_cv w4 hgc) (Keep.refl _) (FnOk.of Tryd.func13) (fun wx2 kx2 => WO.rd (is := [11]) (js := [12]) ((Keep.refl _).trans kx2) (Rn.s rfl Yv.pick_t (Rn.nil)) (WO.e 2 (qx1 _ ((Keep.refl _).trans kx2))))) (hf := fun _ qx1 => WO.rd (is := [10, 11]) (js := [12]) (Keep.refl _) (Rn.no rfl (Rn.s rfl Yv.pick_f Rn.nil)) (WO.e 2 (qx1 _ (Keep.refl _)))) (k := fun wx1 kx1 => WO.rd (is := [12]) (js := []) ((Keep.refl _).trans kx1) (Rn.s rfl Yv.as (Rn.nil)) (WO.done ?_)))))
    refine Wp.ret (Fin.ret (Res.one rfl rfl) ⟨?_, ?_⟩)
    · rw [d1, d2]; simp
    · exact hst.keep.trans kx1
  · have h2 := of_decide_eq_false h2
    have e : i = 17 := by omega
    subst e
    obtain ⟨d1, d2⟩ := deep2 list
    refine Wp.skip (Wp.seq (Wp.regionL (l := [0, 1, 2, 3, 4]) (WO.rd (is := [0, 1, 2]) (js := [3, 4]) (Keep.refl _) (Rn.s rfl Yv.mv (Rn.s rfl (Yv.ss_ft (l := abc) (by omega) (by omega) (by rw [hla]; omega)) (Rn.s rfl (Yv.bd (cs := Ft.cs ⟨75, nmI 15 16, 1, 10⟩)) (Rn.nil)))) (WO.act (hc := rfl) (he := Ef.allocL (vs := [.int .i64 0, S [], .int .i64 0, .int .i64 0]) hst (fun bx1 wx1 kx1 hsx1 => WO.act (hc := rfl) (he := Ef.stores hsx1 0 (fun wx2 hsx2 => WO.done ?_))))))))
    have hst : St w [] wx2 [Ch.cells bx1 27 (Ft.cs ⟨75, nmI 15 16, 1, 10⟩), Ch.cells b4 27 (outF (deepF 17 list) [97]).cs] := hsx2
    clear hsx1 hsx2
    refine Wp.seq (Wp.mid (fun ρ ds w' => ds = [] ∧ St w [] w' [Ch.cells bx1 27 (Ft.cs ⟨75, nmI 15 16, if list then 2 else 1, if list then 5 else 10⟩), Ch.cells b4 27 (outF (deepF 17 list) [97]).cs] ∧
      Sub [(10, .slice NA (outN (deepF 17 list) [97]).length nc), (12, PB b4), (13, PB bx1)] ρ) ?_ ?_)
    · refine Wp.seq (Wp.reads (is := [0]) (Keep.refl _) (Rn.s rfl Yv.mv (Rn.nil)) ?_)
      cases list with
      | true =>
        refine Wp.cond_t rfl ?_
        refine Wp.seq (Wp.regionL (l := [0, 1]) (WO.rd (is := [0]) (js := [1]) (Keep.refl _) (Rn.s rfl (Yv.fa (off := 2)) (Rn.nil)) (WO.act (hc := rfl) (he := Ef.store hst 0 (fun wy1 hsy1 => WO.done ?_)))))
        refine Wp.regionL (l := [0, 1]) (WO.rd (is := [0]) (js := [1]) (Keep.refl _) (Rn.s rfl (Yv.fa (off := 3)) (Rn.nil)) (WO.act (hc := rfl) (he := Ef.store hsy1 0 (fun wz1 hsz1 => WO.done ?_))))
        exact ⟨rfl, hsz1, rfl, rfl, rfl, trivial⟩
      | false =>
        refine Wp.cond_f rfl (Wp.skip ?_)
        exact ⟨rfl, hst, rfl, rfl, rfl, trivial⟩
    clear hst c12
    rintro ρ ds w5 ⟨rfl, hst, hsub⟩
    refine Wp.forget _ ?_ hsub
    clear hsub ρ
    have c12 := hst.cells 1
    have c13 := hst.cells 0
    have hgc := hg.keep hst.keep
    refine Wp.seq (Wp.regionL (l := [0, 1, 2, 3, 4, 5, 6, 7, 8, 9, 10, 11]) (WO.rd (is := [0, 1, 2, 3, 4, 5, 6, 7, 8]) (js := [9, 10, 11]) (Keep.refl _) (Rn.s rfl (Yv.ldb c12) (Rn.s rfl (Yv.ldb c13) (Rn.s rfl (Yv.eqs (ftEq (outF (deepF 17 list) [97]) ⟨75, nmI 15 16, if list then 2 else 1, if list then 5 else 10⟩)) (Rn.s rfl Yv.mv (Rn.and (is := [4, 5, 6, 7]) (js := [8]) (t := 84) (d := 88) (hg := rfl) (ht := fun h3 => Rn.s rfl Yv.mv (Rn.s rfl (Yv.len_v (e := 9) (m := 1)) (Rn.s rfl (Yv.cmp _ rfl) (Rn.s rfl Yv.pick_t ((Rn.e 4 rfl rfl)))))) (hf := fun _ => Rn.no rfl (Rn.no rfl (Rn.no rfl (Rn.s rfl Yv.pick_f (Rn.e 4 rfl rfl))))) (k := Rn.s rfl Yv.mv (Rn.nil))))))) (WO.and (js := [11]) 89 91 (hg := rfl) (ht := fun h8 qx1 => WO.cv rfl (awake7_cv w5 hgc) (Keep.refl _) (FnOk.of Tryd.func13) (fun wx2 kx2 => WO.rd (is := [10]) (js := [11]) ((Keep.refl _).trans kx2) (Rn.s rfl Yv.pick_t (Rn.nil)) (WO.e 2 (qx1 _ ((Keep.refl _).trans kx2))))) (hf := fun _ qx1 => WO.rd (is := [9, 10]) (js := [11]) (Keep.refl _) (Rn.no rfl (Rn.s rfl Yv.pick_f Rn.nil)) (WO.e 2 (qx1 _ (Keep.refl _)))) (k := fun wx1 kx1 => WO.rd (is := [11]) (js := []) ((Keep.refl _).trans kx1) (Rn.s rfl Yv.as (Rn.nil)) (WO.done ?_)))))
    refine Wp.ret (Fin.ret (Res.one rfl rfl) ⟨?_, ?_⟩)
    · rw [d1, d2]; simp
    · exact hst.keep.trans kx1
end Go.Proofs.YtgjhbapbomdpbaaDoor.C
