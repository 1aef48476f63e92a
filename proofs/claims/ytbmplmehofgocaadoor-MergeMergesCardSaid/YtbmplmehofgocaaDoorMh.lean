/- The document's part of a tree, and a tree without a part (shuttleref8). -/
import Derived.Test.YtbmplmehofgocaaDoorMa
import Derived.Test.YtbmplmehofgocaaDoorBr
import Derived.Test.YtbmplmehofgocaaDoorBo
import Derived.Test.YtbmplmehofgocaaDoorBn
import Derived.Test.YtbmplmehofgocaaDoorBw
set_option linter.unusedVariables false
set_option linter.unusedSimpArgs false
set_option maxRecDepth 10000
/-! The document's part of a tree, and a tree without a part (shuttleref8). -/
namespace Go.Proofs.YtbmplmehofgocaaDoor.C
open Go.RowKit Go.Proofs.YtbmplmehofgocaaDoor.Sh
def addD (by_ : Int) (n : Nd) : Nd := ⟨n.kind, n.depth + by_, n.key, n.text, n.file, n.line, n.col, n.val⟩
theorem moved_cx (A : Option Addr) (c : Nat) (t : List Nd) (i : Nat) (k : Int) (w : World) (hr : Rd NdE w A t) (hi : i < t.length) (hl : t.length ≤ 1000000) (hd : Deep t) (hk : 0 ≤ k ∧ k ≤ 1000) :
    Cx Tryd.prog 49 [.slice A t.length c, .int .i64 i, .int .i64 k] [] (fun v D => ∃ O co, v = .slice O (subS t i).length co ∧ D = [Ch.row NdE 32 O co ((subS t i).map (addD (k - (nth t (i : Int)).depth)))]) w := by
  obtain ⟨e1, e2⟩ := endS_bd hi
  have hss := subS_siz hi
  have hsz : sizS t i = endS t i - i := rfl
  refine calls_of_Wp (vs := [_, _, _]) Tryd.func49 ?_
  refine Wp.seq (Wp.reads (is := [0]) (Keep.refl _) (Rn.s rfl Yv.as (Rn.nil)) ?_)
  refine Wp.seq (Wp.reads (is := [0]) (Keep.refl _) (Rn.s rfl Yv.as (Rn.nil)) ?_)
  obtain ⟨d, hdd⟩ : ∃ d, d = (nth t (i : Int)).depth := ⟨_, rfl⟩
  obtain ⟨d0, d1⟩ := hd _ (nth_mem hi)
  rw [← hdd] at d0 d1
  refine Wp.seq (Wp.reads (is := [0, 1, 2, 3, 4, 5, 6, 7]) (Keep.refl _) (Rn.s rfl Yv.mv (Rn.s rfl Yv.mv (Rn.s rfl Yv.mv (Rn.s rfl (Yv.ia (e := 32) hr (by omega) (by omega)) (Rn.s rfl (Yv.fa (off := 1)) (Rn.s rfl (Yv.ld (hr.ld 1 (by omega) (by omega))) (Rn.s rfl (Yv.sub (by unfold inI; omega)) (Rn.s rfl Yv.as (Rn.nil))))))))) ?_)
  rw [← hdd]
  refine Wp.seq (Wp.seq (Wp.reads (is := [0, 1]) (Keep.refl _) (Rn.s rfl Yv.mv (Rn.s rfl Yv.as (Rn.nil))) ?_))
  refine Wp.block ?_
  refine Wp.loop (α := Nat × (Option Addr × Nat)) (fun q ρ ds w' => ds = [] ∧ q.1 ≤ (subS t i).length ∧ St w [] w' [Ch.row NdE 32 q.2.1 q.2.2 (((subS t i).take q.1).map (addD (k - d)))] ∧
    Sub [(0, .slice A t.length c), (1, .int .i64 i), (7, .slice q.2.1 q.1 q.2.2), (8, .int .i64 (k - d)), (9, .int .i64 ((i + q.1 : Nat) : Int))] ρ) (fun q => (subS t i).length - q.1) (0, (none, 0))
    ⟨rfl, Nat.zero_le _, by simpa using (St.init w).nilrow NdE 32, rfl, rfl, rfl, rfl, rfl, trivial⟩ ?_
  rintro ⟨q, O, co⟩ ρ ds w' ⟨rfl, hq, hst, hs⟩
  simp only at hq hst hs
  refine Wp.forget _ ?_ hs
  have hr1 := hr.keep hst.keep
  refine Wp.seq (Wp.seq (Wp.regionL (l := [0, 1, 2, 3, 4]) (WO.rd (is := [0, 1, 2]) (js := [3, 4]) (Keep.refl _) (Rn.s rfl Yv.mv (Rn.s rfl Yv.mv (Rn.s rfl Yv.mv (Rn.nil)))) (WO.cv rfl (rend_cv A c t i w' hr1 hi (by omega)) (Keep.refl _) (FnOk.of Tryd.func51) (fun wx1 kx1 => WO.rd (is := [4]) (js := []) ((Keep.refl _).trans kx1) (Rn.s rfl (Yv.cmp _ rfl) (Rn.nil)) (WO.done ?_))))))
  have hst := hst.quiet kx1
  have hr2 := hr.keep hst.keep
  refine Wp.cond rfl (fun h => ?_) (fun h => ?_)
  · have h := of_decide_eq_true h
    have hql : q < (subS t i).length := by omega
    have hgq : nth t ((i + q : Nat) : Int) = (subS t i)[q] := by
      refine nth_of ?_
      have : (subS t i)[q]? = some (subS t i)[q] := List.getElem?_eq_getElem hql
      rw [← this]
      unfold subS
      rw [List.getElem?_drop, List.getElem?_take_of_lt (by omega)]
    obtain ⟨x, hx⟩ : ∃ x, x = nth t ((i + q : Nat) : Int) := ⟨_, rfl⟩
    obtain ⟨x0, x1⟩ := hd x (by rw [hx]; exact nth_mem (by omega))
    refine Wp.skip (Wp.seq (Wp.block ?_))
    refine Wp.seq (Wp.regionL (l := [0, 1, 2, 3, 4, 5]) (WO.rd (is := [0, 1, 2, 3]) (js := [4, 5]) (Keep.refl _) (Rn.s rfl Yv.mv (Rn.s rfl Yv.mv (Rn.s rfl (Yv.ia (e := 32) hr2 (by omega) (by omega)) (Rn.s rfl (Yv.ldel hr2 rfl rfl (by omega) (by omega)) (Rn.nil))))) (WO.act (hc := rfl) (he := Ef.allocL (vs := (default : Nd).cs) hst (fun ba1 wa1 ka1 hsa1 => WO.act (hc := rfl) (he := Ef.stores hsa1 0 (fun wa2 hsa2 => WO.done ?_)))))))
    rw [← hx]
    have hsa : St w [] wa2 [Ch.cells ba1 32 x.cs, Ch.row NdE 32 O co (((subS t i).take q).map (addD (k - d)))] := by rw [hx]; exact hsa2
    refine Wp.seq (Wp.regionL (l := [0, 1, 2, 3, 4, 5]) (WO.rd (is := [0, 1, 2, 3, 4]) (js := [5]) (Keep.refl _) (Rn.s rfl (Yv.fa (off := 1)) (Rn.s rfl (Yv.ld ((hsa.cells 0).at_ 1)) (Rn.s rfl Yv.mv (Rn.s rfl (Yv.add (by unfold inI; omega)) (Rn.s rfl (Yv.fa (off := 1)) (Rn.nil)))))) (WO.act (hc := rfl) (he := Ef.store hsa 0 (fun wb1 hsb1 => WO.done ?_)))))
    have hsb : St w [] wb1 [Ch.cells ba1 32 (addD (k - d) x).cs, Ch.row NdE 32 O co (((subS t i).take q).map (addD (k - d)))] := hsb1
    have cx := hsb.cells 0
    have hlq : (((subS t i).take q).map (addD (k - d))).length = q := by simp; omega
    have hap : x :: (subS t i).drop (q + 1) = (subS t i).drop q := by rw [List.drop_eq_getElem_cons hql, hx, hgq]
    have htk : ((subS t i).take (q + 1)).map (addD (k - d)) = ((subS t i).take q).map (addD (k - d)) ++ [addD (k - d) x] := by
      rw [List.take_add_one, List.getElem?_eq_getElem hql, List.map_append, hx, hgq]
      rfl
    have hrow : (Value.slice O q co) = .slice O (((subS t i).take q).map (addD (k - d))).length co := by rw [hlq]
    rw [hrow]
    refine Wp.regionL (l := [0, 1, 2, 3, 4]) (WO.rd (is := [0, 1]) (js := [2, 3, 4]) (Keep.refl _) (Rn.s rfl Yv.mv (Rn.s rfl (Yv.ldb cx) (Rn.nil))) ?_)
    refine WO.app (xs := ((subS t i).take q).map (addD (k - d))) NdE [addD (k - d) x] rfl (fun _ => rfl) hsb 1 (fitN (by rw [hlq]; simp; omega)) (fun b2 O2 co2 w4 hs4 => ?_)
    have hs4 : St w [] w4 [Ch.row NdE 32 O2 co2 (((subS t i).take (q + 1)).map (addD (k - d)))] := by rw [htk]; exact hs4.pick [0]
    refine WO.rd (is := [4]) (js := []) (Keep.refl _) (Rn.s rfl Yv.as (Rn.nil)) (WO.done ?_)
    refine Wp.reads (is := [0, 1, 2]) (Keep.refl _) (Rn.s rfl Yv.mv (Rn.s rfl (Yv.add (by unfold inI; omega)) (Rn.s rfl Yv.as (Rn.nil)))) ?_
    have hl4 : (((subS t i).take q).map (addD (k - d)) ++ [addD (k - d) x]).length = q + 1 := by rw [List.length_append, hlq]; rfl
    rw [hl4]
    exact ⟨(q + 1, (O2, co2)), ⟨rfl, by simp only; omega, hs4, rfl, rfl, rfl, rfl, rfl, trivial⟩, by simp only; omega⟩
  · have h := of_decide_eq_false h
    have hq2 : q = (subS t i).length := by omega
    rw [List.take_of_length_le (by omega)] at hst
    refine Wp.exit ?_
    refine Wp.seq (Wp.reads (is := [0, 1]) (Keep.refl _) (Rn.s rfl Yv.mv (Rn.s rfl Yv.as (Rn.nil))) ?_)
    rw [hq2]
    exact Wp.ret (Fin.ret (Res.one rfl rfl) ⟨_, _, rfl, ⟨O, co, rfl, rfl⟩, hst⟩)
theorem addD_subD (d : Int) : addD (0 - d) = subD d := by
  funext n
  unfold addD subD
  congr 1
  omega
theorem rpart_cx (A : Option Addr) (c : Nat) (t : List Nd) (m : Nat) (w : World) (hr : Rd NdE w A t) (hm : m < t.length) (hl : t.length ≤ 1000000) (hd : Deep t) :
    Cx Tryd.prog 28 [.slice A t.length c, .int .i64 m] [] (fun v D => ∃ O co, v = .slice O (partL t m).length co ∧ D = [Ch.row NdE 32 O co (partL t m)]) w := by
  have hss := subS_siz hm
  have hsp := siz_pos hm
  refine calls_of_Wp (vs := [_, _]) Tryd.func28 ?_
  refine Wp.seq (Wp.reads (is := [0]) (Keep.refl _) (Rn.s rfl Yv.as (Rn.nil)) ?_)
  refine Wp.seq (Wp.regionL (l := [0, 1, 2, 3]) (WO.rd (is := [0, 1]) (js := [2, 3]) (Keep.refl _) (Rn.s rfl Yv.mv (Rn.s rfl Yv.mv (Rn.nil))) (WO.act (hc := rfl) (he := Ef.cx (moved_cx A c t m 0 w hr hm hl hd (by omega)) (St.init w) (FnOk.of Tryd.func49) ?_))))
  rintro v D w1 ⟨O, co, rfl, rfl⟩ hs1
  refine WO.rd (is := [3]) (js := []) (Keep.refl _) (Rn.s rfl Yv.as (Rn.nil)) (WO.done ?_)
  obtain ⟨d, hdd⟩ : ∃ d, d = (nth t (m : Int)).depth := ⟨_, rfl⟩
  have hst : St w [] w1 [Ch.row NdE 32 O co ((subS t m).map (subD d))] := by rw [← addD_subD, hdd]; exact hs1
  have hrx := hst.rd 0
  have hml : ((subS t m).map (subD d)).length = (subS t m).length := by simp
  refine Wp.seq (Wp.regionL (l := [0, 1, 2, 3]) (WO.rd (is := [0, 1, 2]) (js := [3]) (Keep.refl _) (Rn.s rfl Yv.mv (Rn.s rfl (Yv.ia (e := 32) hrx (j := 0) (by omega) (by omega) hml.symm) (Rn.s rfl (Yv.fa (off := 2)) (Rn.nil)))) (WO.act (hc := rfl) (he := Ef.setFld (E := NdE) (xs := (subS t m).map (subD d)) (f := 2) hst 0 (noKey (nth ((subS t m).map (subD d)) 0)) rfl rfl (by omega) (by omega) (fun wz1 hsz1 => WO.done ?_)))))
  refine Wp.seq (Wp.reads (is := [0, 1]) (Keep.refl _) (Rn.s rfl Yv.mv (Rn.s rfl Yv.as (Rn.nil))) ?_)
  refine Wp.ret (Fin.ret (Res.one rfl rfl) ⟨_, _, rfl, ⟨O, co, ?_, rfl⟩, ?_⟩)
  · have : (partL t m).length = (subS t m).length := by unfold partL; simp
    rw [this]
  · have : partL t m = ((subS t m).map (subD d)).set (0 : Int).toNat (noKey (nth ((subS t m).map (subD d)) 0)) := by unfold partL; rw [hdd]; rfl
    rw [this]
    exact hsz1
theorem rwithout_cx (A : Option Addr) (c : Nat) (t : List Nd) (key : Bs) (w : World) (hr : Rd NdE w A t) (hIs : isS t = true) (hcap : t.length ≤ c) :
    Cx Tryd.prog 29 [.slice A t.length c, S key] [] (fun v D => ∃ O co, v = .slice O (withoutL t key).length co ∧ D = [Ch.row NdE 32 O co (withoutL t key)]) w := by
  refine calls_of_Wp (vs := [_, _]) Tryd.func29 ?_
  refine Wp.seq (Wp.reads (is := [0]) (Keep.refl _) (Rn.s rfl Yv.as (Rn.nil)) ?_)
  have hdp := (isS_Deep hIs).dep
  obtain ⟨h0, h1, -⟩ := isS_depth hIs
  have hwf := (ris_wf2 (by rw [← is_ref]; exact hIs)).2.2 0 h0
  obtain ⟨F, hF⟩ : ∃ F, F = findS t 0 key := ⟨_, rfl⟩
  obtain ⟨f0, f1, -⟩ := findS_bd h0 key
  have hfc : Cv Tryd.prog 50 [.slice A t.length c, .int .i64 0, S key] (.int .i64 F) w := by
    rw [hF]
    exact rfind_cv A c t 0 key w hr h0 (by omega) (hdp 0 h0) hwf.2
  rw [← hF] at f0 f1
  have hA : A ≠ none := rd_some hr h0
  refine Wp.seq (Wp.regionL (l := [0, 1, 2, 3]) (WO.rd (is := [0, 1]) (js := [2, 3]) (Keep.refl _) (Rn.s rfl Yv.mv (Rn.s rfl Yv.mv (Rn.nil))) (WO.cv rfl hfc (Keep.refl _) (FnOk.of Tryd.func50) (fun wy1 ky1 => WO.rd (is := [3]) (js := []) ((Keep.refl _).trans ky1) (Rn.s rfl Yv.as (Rn.nil)) (WO.done ?_)))))
  refine Wp.seq (Wp.regionL (l := [0, 1, 2, 3]) (WO.act (hc := rfl) (he := Ef.bsl (T := 32) NdE ([] : List Nd) ((St.init w).quiet ky1) (fun b w2 k2 hs2 => ?_))))
  refine WO.rd (is := [1]) (js := [2, 3]) (Keep.refl _) (Rn.s rfl Yv.mv (Rn.nil)) (WO.act (hc := rfl) (he := Ef.append (ys := t) hs2 0 ((hr.keep ky1).keep k2) (fun h => (hA h).elim) (fitN (by simp only [List.length_nil]; omega)) ?_))
  intro O co w3 hs3
  refine WO.rd (is := [3]) (js := []) (Keep.refl _) (Rn.s rfl Yv.as (Rn.nil)) (WO.done ?_)
  have hst : St w [] w3 [Ch.row NdE 32 O co t] := hs3
  refine Wp.seq (Wp.seq (Wp.reads (is := [0, 1]) (Keep.refl _) (Rn.s rfl Yv.mv (Rn.s rfl (Yv.cmp _ rfl) (Rn.nil))) ?_))
  refine Wp.cond rfl (fun h => ?_) (fun h => ?_)
  · have h := of_decide_eq_true h
    have e2 : withoutL t key = t := by unfold withoutL; rw [← hF, if_pos h]
    rw [e2]
    refine Wp.seq (Wp.reads (is := [0, 1]) (Keep.refl _) (Rn.s rfl Yv.mv (Rn.s rfl Yv.as (Rn.nil))) ?_)
    exact Wp.ret (Fin.ret (Res.one rfl rfl) ⟨_, _, rfl, ⟨O, co, rfl, rfl⟩, hst⟩)
  · have h := of_decide_eq_false h
    obtain ⟨m, hm⟩ : ∃ m : Nat, F = m := ⟨F.toNat, by omega⟩
    have e2 : withoutL t key = cutL t m := by unfold withoutL; rw [← hF, if_neg h, hm, Int.toNat_natCast]
    rw [e2, hm]
    have hml : m < t.length := by omega
    obtain ⟨e1, e3⟩ := endS_bd hml
    refine Wp.skip ?_
    refine Wp.seq (Wp.regionL (l := [0, 1, 2, 3, 4, 5, 6, 7, 8, 9, 10, 11]) (WO.act (hc := rfl) (he := Ef.bsl (T := 32) NdE ([] : List Nd) hst (fun b w4 k4 hs4 => ?_))))
    have hr4 := hr.keep hs4.keep
    have htk : Rd NdE w4 A (t.take m) := by
      have : Rd NdE w4 A (t.take m ++ t.drop m) := by rw [List.take_append_drop]; exact hr4
      exact rd_pre this
    refine WO.rd (is := [1, 2, 3]) (js := [4, 5, 6, 7, 8, 9, 10, 11]) (Keep.refl _) (Rn.s rfl Yv.mv (Rn.s rfl Yv.mv (Rn.s rfl (Yv.sl_t (n := 8) (e := 32) (k := (t.take m).length) (by omega) (by omega) (by simp; omega)) (Rn.nil)))) (WO.act (hc := rfl) (he := Ef.append (ys := t.take m) hs4 0 htk (fun h => (hA h).elim) (fitN (by simp only [List.length_nil, List.length_take]; omega)) ?_))
    intro O1 co1 w5 hs5
    have hs5 : St w [] w5 [Ch.row NdE 32 O1 co1 (t.take m)] := hs5.pick [0]
    have hr5 := hr.keep hs5.keep
    refine WO.rd (is := [5, 6, 7]) (js := [8, 9, 10, 11]) (Keep.refl _) (Rn.s rfl Yv.mv (Rn.s rfl Yv.mv (Rn.s rfl Yv.mv (Rn.nil)))) (WO.cv rfl (rend_cv A c t m w5 hr5 hml (by omega)) (Keep.refl _) (FnOk.of Tryd.func51) (fun w6 k6 => ?_))
    have hs6 := hs5.quiet k6
    have hr6 := hr5.keep k6
    have hcut : Rd NdE w6 (cutA A c (endS t m) 8) (t.drop (endS t m)) := by
      have := hr6.cut (l := endS t m) hcap (Nat.le_refl _)
      rwa [List.take_length] at this
    have hcn : cutA A c (endS t m) 8 = none → c - endS t m = 0 := by
      intro h
      unfold cutA at h
      split at h
      · omega
      · simp only [Option.map_eq_none_iff] at h
        exact (hA h).elim
    have hk5 : (t.drop (endS t m)).length = t.length - (endS t m : Int).toNat := by rw [Int.toNat_natCast]; simp
    refine WO.rd (is := [9]) (js := [10, 11]) (Keep.refl _) (Rn.s rfl (Yv.sl_f (n := 8) (e := 32) (k := (t.drop (endS t m)).length) (by omega) (by omega) hk5) (Rn.nil)) (WO.act (hc := rfl) (he := Ef.append (ys := t.drop (endS t m)) hs6 0 hcut hcn (fitN (by simp only [List.nil_append, List.length_drop, List.length_take]; omega)) ?_))
    intro O2 co2 w7 hs7
    refine WO.rd (is := [11]) (js := []) (Keep.refl _) (Rn.s rfl Yv.as (Rn.nil)) (WO.done ?_)
    exact Wp.ret (Fin.ret (Res.one rfl rfl) ⟨_, _, rfl, ⟨O2, co2, rfl, rfl⟩, hs7⟩)
end Go.Proofs.YtbmplmehofgocaaDoor.C
/-! MergeParts is walked: its answer is true. (Printed by tools/mparts.py.) -/
namespace Go.Proofs.YtbmplmehofgocaaDoor.C
open Go.RowKit Go.Proofs.YtbmplmehofgocaaDoor.Sh
theorem mparts_calls (A : Option Addr) (c : Nat) (t : List Nd) (i : Int) (key : Bs) (w : World) (hg : Gm w) (hr : Rd NdE w A t) (hc : A = none → c = 0) (hcap : t.length ≤ c) (hl : t.length ≤ 1599289640380) :
    Calls Tryd.prog 4 #[.slice A t.length c, .int .i64 i, S key] w fun e w' => e = .returned (.bool true) ∧ Keep w w' := by
  refine calls_of_Wp (vs := [_, _, _]) Tryd.func4 ?_
  refine Wp.seq (Wp.reads (is := [0]) (Keep.refl _) (Rn.s rfl Yv.as (Rn.nil)) ?_)
  have hI := ris_cv A c t w hr
  rw [← is_ref] at hI
  refine Wp.seq (Wp.regionL (l := [0, 1, 2]) (WO.rd (is := [0]) (js := [1, 2]) (Keep.refl _) (Rn.s rfl Yv.mv (Rn.nil)) (WO.cv rfl hI (Keep.refl _) (FnOk.of Tryd.func25) (fun wx1 kx1 => WO.rd (is := [2]) (js := []) ((Keep.refl _).trans kx1) (Rn.s rfl Yv.as (Rn.nil)) (WO.done ?_)))))
  have hr1 := hr.keep kx1
  refine Wp.seq ?_
  refine Wp.mid (fun ρ ds w' => ds = [] ∧ w' = wx1 ∧ Sub [(0, .slice A t.length c), (1, .int .i64 i), (2, S key), (7, .bool (isS t)), (8, .bool (partOk t i))] ρ) ?_ ?_
  · cases hIs : isS t with
    | false =>
      have e : partOk t i = false := by unfold partOk; rw [hIs]; rfl
      rw [e]
      refine Wp.reads (is := [0, 1, 2, 3, 4, 5, 6, 7, 8, 9, 10, 11, 12, 13, 14, 15, 16, 17, 18, 19]) (Keep.refl _) (Rn.s rfl Yv.mv (Rn.s rfl Yv.mv (Rn.no rfl (Rn.no rfl (Rn.s rfl Yv.pick_f (Rn.s rfl Yv.mv (Rn.no rfl (Rn.no rfl (Rn.no rfl (Rn.no rfl (Rn.s rfl Yv.pick_f (Rn.s rfl Yv.mv (Rn.no rfl (Rn.no rfl (Rn.no rfl (Rn.no rfl (Rn.no rfl (Rn.no rfl (Rn.s rfl Yv.pick_f (Rn.s rfl Yv.as (Rn.nil))))))))))))))))))))) ?_
      exact ⟨rfl, rfl, rfl, rfl, rfl, rfl, rfl, trivial⟩
    | true =>
      by_cases h1 : 0 ≤ i
      · by_cases h2 : i < t.length
        · have e : partOk t i = ((nth t i).kind == 1) := by unfold partOk; rw [hIs]; simp [h1, h2]
          rw [e]
          refine Wp.reads (is := [0, 1, 2, 3, 4, 5, 6, 7, 8, 9, 10, 11, 12, 13, 14, 15, 16, 17, 18, 19]) (Keep.refl _) (Rn.s rfl Yv.mv (Rn.s rfl Yv.mv (Rn.s rfl Yv.mv (Rn.s rfl (Yv.cmp true (by simp only [icmp, Option.some.injEq, decide_eq_true_eq, decide_eq_false_iff_not]; omega)) (Rn.s rfl Yv.pick_t (Rn.s rfl Yv.mv (Rn.s rfl Yv.mv (Rn.s rfl Yv.mv (Rn.s rfl (Yv.len_v (e := 32) (m := 8)) (Rn.s rfl (Yv.cmp true (by simp only [icmp, Option.some.injEq, decide_eq_true_eq, decide_eq_false_iff_not]; omega)) (Rn.s rfl Yv.pick_t (Rn.s rfl Yv.mv (Rn.s rfl Yv.mv (Rn.s rfl Yv.mv (Rn.s rfl (Yv.ia (e := 32) hr1 h1 h2) (Rn.s rfl (Yv.fa (off := 0)) (Rn.s rfl (Yv.ld (hr1.ld 0 h1 h2)) (Rn.s rfl (Yv.cmp _ rfl) (Rn.s rfl Yv.pick_t (Rn.s rfl Yv.as (Rn.nil))))))))))))))))))))) ?_
          exact ⟨rfl, rfl, rfl, rfl, rfl, rfl, rfl, trivial⟩
        · have e : partOk t i = false := by unfold partOk; simp [h2]
          rw [e]
          refine Wp.reads (is := [0, 1, 2, 3, 4, 5, 6, 7, 8, 9, 10, 11, 12, 13, 14, 15, 16, 17, 18, 19]) (Keep.refl _) (Rn.s rfl Yv.mv (Rn.s rfl Yv.mv (Rn.s rfl Yv.mv (Rn.s rfl (Yv.cmp true (by simp only [icmp, Option.some.injEq, decide_eq_true_eq, decide_eq_false_iff_not]; omega)) (Rn.s rfl Yv.pick_t (Rn.s rfl Yv.mv (Rn.s rfl Yv.mv (Rn.s rfl Yv.mv (Rn.s rfl (Yv.len_v (e := 32) (m := 8)) (Rn.s rfl (Yv.cmp false (by simp only [icmp, Option.some.injEq, decide_eq_true_eq, decide_eq_false_iff_not]; omega)) (Rn.s rfl Yv.pick_t (Rn.s rfl Yv.mv (Rn.no rfl (Rn.no rfl (Rn.no rfl (Rn.no rfl (Rn.no rfl (Rn.no rfl (Rn.s rfl Yv.pick_f (Rn.s rfl Yv.as (Rn.nil))))))))))))))))))))) ?_
          exact ⟨rfl, rfl, rfl, rfl, rfl, rfl, rfl, trivial⟩
      · have e : partOk t i = false := by unfold partOk; simp [h1]
        rw [e]
        refine Wp.reads (is := [0, 1, 2, 3, 4, 5, 6, 7, 8, 9, 10, 11, 12, 13, 14, 15, 16, 17, 18, 19]) (Keep.refl _) (Rn.s rfl Yv.mv (Rn.s rfl Yv.mv (Rn.s rfl Yv.mv (Rn.s rfl (Yv.cmp false (by simp only [icmp, Option.some.injEq, decide_eq_true_eq, decide_eq_false_iff_not]; omega)) (Rn.s rfl Yv.pick_t (Rn.s rfl Yv.mv (Rn.no rfl (Rn.no rfl (Rn.no rfl (Rn.no rfl (Rn.s rfl Yv.pick_f (Rn.s rfl Yv.mv (Rn.no rfl (Rn.no rfl (Rn.no rfl (Rn.no rfl (Rn.no rfl (Rn.no rfl (Rn.s rfl Yv.pick_f (Rn.s rfl Yv.as (Rn.nil))))))))))))))))))))) ?_
        exact ⟨rfl, rfl, rfl, rfl, rfl, rfl, rfl, trivial⟩
  rintro ρ ds w1 ⟨rfl, rfl, hs⟩
  refine Wp.forget _ ?_ hs
  have hg1 := hg.keep kx1
  refine Wp.seq (Wp.regionL (l := [0, 1, 2]) (WO.rd (is := [0]) (js := [1, 2]) (Keep.refl _) (Rn.s rfl Yv.mv (Rn.nil)) (WO.act (hc := rfl) (he := Ef.cx (lend_cx A c t w1 hr1 hc (by omega)) (St.init w1) (FnOk.of Tryd.func18) ?_))))
  rintro v D w2 ⟨B, d, rfl, rfl⟩ hs2
  refine WO.rd (is := [2]) (js := []) (Keep.refl _) (Rn.s rfl Yv.as (Rn.nil)) (WO.done ?_)
  have hst : St w1 [] w2 [Ch.row NdE 32 B d (t ++ [spN, spN])] := hs2
  have hcd := hst.cap 0
  simp only [List.length_append, List.length_cons, List.length_nil] at hcd
  refine Wp.seq (Wp.regionL (l := [0, 1, 2, 3, 4, 5, 6, 7]) (WO.rd (is := [0, 1]) (js := [2, 3, 4, 5, 6, 7]) (Keep.refl _) (Rn.s rfl Yv.mv (Rn.s rfl Yv.mv (Rn.nil))) (WO.act (hc := rfl) (he := Ef.cx (part_cx B d t i w2 (rd_pre (hst.rd 0)) (by omega) (by omega)) hst (FnOk.of Tryd.func26) ?_))))
  rintro v D w3 ⟨PA, pc, rfl, rfl⟩ hs3
  refine WO.rd (is := [3, 4, 5, 6, 7]) (js := []) (Keep.refl _) (Rn.s rfl Yv.mv (Rn.s rfl Yv.ex (Rn.s rfl Yv.ex (Rn.s rfl Yv.as (Rn.s rfl Yv.as (Rn.nil)))))) (WO.done ?_)
  have hst : St w1 [] w3 [Ch.row NdE 32 PA pc (partS t i).1, Ch.row NdE 32 B d (t ++ [spN, spN])] := hs3
  refine Wp.seq (Wp.regionL (l := [0, 1, 2, 3, 4, 5, 6, 7]) (WO.rd (is := [0, 1]) (js := [2, 3, 4, 5, 6, 7]) (Keep.refl _) (Rn.s rfl Yv.mv (Rn.s rfl Yv.mv (Rn.nil))) (WO.act (hc := rfl) (he := Ef.cx (without_cx B d t key w3 (rd_pre (hst.rd 1)) (by omega) (by omega)) hst (FnOk.of Tryd.func27) ?_))))
  rintro v D w4 ⟨WA, wc, rfl, rfl⟩ hs4
  refine WO.rd (is := [3, 4, 5, 6, 7]) (js := []) (Keep.refl _) (Rn.s rfl Yv.mv (Rn.s rfl Yv.ex (Rn.s rfl Yv.ex (Rn.s rfl Yv.as (Rn.s rfl Yv.as (Rn.nil)))))) (WO.done ?_)
  have hst : St w1 [] w4 ([Ch.row NdE 32 B d (t ++ [spN, spN])] ++ [Ch.row NdE 32 WA wc (withoutS t key).1, Ch.row NdE 32 PA pc (partS t i).1]) := hs4.pick [2, 0, 1]
  have hr4 := hr1.keep hst.keep
  have hen := St.enter (A := [Ch.row NdE 32 B d (t ++ [spN, spN])]) (D := [Ch.row NdE 32 WA wc (withoutS t key).1, Ch.row NdE 32 PA pc (partS t i).1]) hst
  refine Wp.seq (Wp.seq (Wp.regionL (l := [0, 1, 2, 3, 4, 5, 6, 7, 8, 9, 10, 11, 12, 13, 14, 15, 16, 17, 18, 19, 20, 21, 22, 23, 24, 25, 26, 27, 28, 29, 30, 31]) (WO.rd (is := [0, 1]) (js := [2, 3, 4, 5, 6, 7, 8, 9, 10, 11, 12, 13, 14, 15, 16, 17, 18, 19, 20, 21, 22, 23, 24, 25, 26, 27, 28, 29, 30, 31]) (Keep.refl _) (Rn.s rfl Yv.mv (Rn.s rfl Yv.mv (Rn.nil))) (WO.act (hc := rfl) (he := Ef.callv Tryd.func20 (Calls.mono (kept_calls B d A c t w4 hr4 hen (by omega)) ?_))))))
  rintro e w5 ⟨rfl, hs5⟩
  have hst : St w1 [] w5 [Ch.row NdE 32 WA wc (withoutS t key).1, Ch.row NdE 32 PA pc (partS t i).1] := St.call (A := [Ch.row NdE 32 B d (t ++ [spN, spN])]) hst hs5
  have hr5 := hr1.keep hst.keep
  have hg5 := hg1.keep hst.keep
  have hbig : (isS t = true → t.length ≤ 16384) := fun h => (isS_depth h).2.1
  have spl : ∀ {k : Nat}, (subS t k).length ≤ t.length := by intro k; unfold subS; simp; omega
  cases hi : isS t with
  | false =>
    have hp : partOk t i = false := by unfold partOk; rw [hi]; rfl
    have hP : partS t i = (([] : List Nd), 80) := by unfold partS; rw [if_neg (by rw [hp]; decide)]
    have hW : withoutS t key = (([] : List Nd), 80) := by unfold withoutS; rw [if_neg (by rw [hi]; decide)]
    rw [hP, hW] at hst
    simp only at hst
    rw [hP, hW, hp]
    refine WO.rd (is := [3, 4, 5, 6, 7, 8, 9, 10, 11, 12, 13, 14, 15, 16, 17, 18, 19, 20, 21, 22, 23, 24, 25, 26, 27, 28, 29, 30, 31]) (js := []) (Keep.refl _) (Rn.s rfl Yv.not (Rn.s rfl Yv.mv (Rn.s rfl Yv.mv (Rn.s rfl (Yv.cmp false (by rfl)) (Rn.s rfl Yv.mv (Rn.s rfl (Yv.bcm false (by rfl)) (Rn.s rfl Yv.pick_f (Rn.s rfl Yv.mv (Rn.s rfl Yv.mv (Rn.s rfl (Yv.cmp false (by rfl)) (Rn.s rfl Yv.mv (Rn.s rfl (Yv.bcm false (by rfl)) (Rn.s rfl Yv.pick_f (Rn.s rfl Yv.mv (Rn.s rfl Yv.mv (Rn.s rfl Yv.not (Rn.s rfl Yv.mv (Rn.s rfl Yv.mv (Rn.s rfl (Yv.cmp false (by rfl)) (Rn.s rfl Yv.pick_t (Rn.s rfl Yv.pick_f (Rn.s rfl Yv.mv (Rn.s rfl Yv.mv (Rn.s rfl Yv.not (Rn.s rfl Yv.mv (Rn.s rfl Yv.mv (Rn.s rfl (Yv.cmp false (by rfl)) (Rn.s rfl Yv.pick_t (Rn.s rfl Yv.pick_f (Rn.nil)))))))))))))))))))))))))))))) (WO.done ?_)
    refine Wp.cond_f rfl (Wp.skip ?_)
    refine Wp.seq (Wp.seq (Wp.reads (is := [0, 1, 2, 3, 4, 5, 6, 7, 8, 9, 10, 11, 12, 13, 14, 15, 16, 17, 18, 19]) (Keep.refl _) (Rn.s rfl Yv.mv (Rn.s rfl Yv.mv (Rn.no rfl (Rn.no rfl (Rn.no rfl (Rn.no rfl (Rn.no rfl (Rn.no rfl (Rn.s rfl Yv.pick_f (Rn.s rfl Yv.mv (Rn.s rfl Yv.mv (Rn.s rfl Yv.mv (Rn.no rfl (Rn.no rfl (Rn.no rfl (Rn.no rfl (Rn.no rfl (Rn.no rfl (Rn.s rfl Yv.pick_f (Rn.s rfl Yv.pick_f (Rn.nil))))))))))))))))))))) ?_))
    refine Wp.cond_f rfl (Wp.skip ?_)
    have hst : St w1 [] w5 ([Ch.row NdE 32 PA pc (([] : List Nd))] ++ [Ch.row NdE 32 WA wc (([] : List Nd))]) := hst.pick [1, 0]
    refine Wp.seq (Wp.regionL (l := [0, 1]) (WO.rd (is := [0]) (js := [1]) (Keep.refl _) (Rn.s rfl Yv.mv (Rn.nil)) (WO.act (hc := rfl) (he := Ef.callv Tryd.func23 (Calls.mono (spoil_calls PA pc (([] : List Nd)) w5 (St.enter (A := [Ch.row NdE 32 PA pc (([] : List Nd))]) hst) (by simp)) ?_)))))
    rintro e w10 ⟨rfl, hs10⟩
    refine WO.done ?_
    have hst : St w1 [] w10 [Ch.row NdE 32 WA wc (([] : List Nd))] := St.call (A := [Ch.row NdE 32 PA pc (([] : List Nd))]) (D := [Ch.row NdE 32 WA wc (([] : List Nd))]) hst hs10
    refine Wp.seq (Wp.regionL (l := [0, 1]) (WO.rd (is := [0]) (js := [1]) (Keep.refl _) (Rn.s rfl Yv.mv (Rn.nil)) (WO.act (hc := rfl) (he := Ef.callv Tryd.func23 (Calls.mono (spoil_calls WA wc (([] : List Nd)) w10 (St.enter (A := [Ch.row NdE 32 WA wc (([] : List Nd))]) (D := []) hst) (by simp)) ?_)))))
    rintro e w11 ⟨rfl, hs11⟩
    refine WO.done ?_
    have hst : St w1 [] w11 [] := St.call (A := [Ch.row NdE 32 WA wc (([] : List Nd))]) (D := []) hst hs11
    refine Wp.seq (Wp.regionL (l := [0, 1, 2, 3, 4, 5, 6, 7, 8]) (WO.rd (is := [0]) (js := [1, 2, 3, 4, 5, 6, 7, 8]) (Keep.refl _) (Rn.s rfl Yv.mv (Rn.nil)) (WO.act (hc := rfl) (he := Ef.cx (copyL_cx A c t w11 (hr1.keep hst.keep) hc (by omega)) hst (FnOk.of Tryd.func21) ?_))))
    rintro v D w12 ⟨CA, cc, rfl, rfl⟩ hs12
    have hst : St w1 [] w12 [Ch.row NdE 32 CA cc t] := hs12
    have hw12 := without_cx CA cc t key w12 (hst.rd 0) (hst.cap 0) (by omega)
    rw [hW] at hw12
    simp only at hw12
    refine WO.rd (is := [2]) (js := [3, 4, 5, 6, 7, 8]) (Keep.refl _) (Rn.s rfl Yv.mv (Rn.nil)) (WO.act (hc := rfl) (he := Ef.cx hw12 hst (FnOk.of Tryd.func27) ?_))
    rintro v D w13 ⟨VA, vc, rfl, rfl⟩ hs13
    have hst : St w1 [] w13 [Ch.row NdE 32 VA vc (([] : List Nd))] := hs13.pick [0]
    refine WO.rd (is := [4, 5, 6, 7, 8]) (js := []) (Keep.refl _) (Rn.s rfl Yv.mv (Rn.s rfl Yv.ex (Rn.s rfl Yv.ex (Rn.s rfl Yv.as (Rn.s rfl Yv.as (Rn.nil)))))) (WO.done ?_)
    refine Wp.seq (Wp.regionL (l := [0, 1, 2, 3, 4, 5, 6, 7, 8, 9, 10, 11, 12, 13, 14, 15, 16, 17, 18, 19, 20, 21, 22, 23, 24, 25, 26, 27, 28]) (WO.rd (is := [0, 1, 2, 3, 4, 5, 6, 7, 8, 9, 10, 11, 12, 13, 14, 15, 16, 17, 18, 19, 20, 21, 22, 23, 24, 25]) (js := [26, 27, 28]) (Keep.refl _) (Rn.s rfl Yv.mv (Rn.s rfl Yv.not (Rn.s rfl Yv.mv (Rn.no rfl (Rn.no rfl (Rn.no rfl (Rn.no rfl (Rn.no rfl (Rn.s rfl Yv.pick_t (Rn.s rfl Yv.mv (Rn.s rfl Yv.mv (Rn.s rfl Yv.mv (Rn.s rfl Yv.mv (Rn.s rfl (Yv.len_v (e := 32) (m := 8)) (Rn.s rfl (Yv.cmp true (by rfl)) (Rn.s rfl Yv.pick_f (Rn.s rfl Yv.pick_t (Rn.s rfl Yv.mv (Rn.s rfl Yv.mv (Rn.s rfl Yv.mv (Rn.s rfl Yv.mv (Rn.s rfl (Yv.len_v (e := 32) (m := 8)) (Rn.s rfl (Yv.cmp true (by rfl)) (Rn.s rfl Yv.pick_f (Rn.s rfl Yv.pick_t (Rn.s rfl Yv.mv (Rn.nil))))))))))))))))))))))))))) ?_))
    refine WO.cv rfl (awake8_cv w13 (hg1.keep hst.keep)) (Keep.refl _) (FnOk.of Tryd.func24) (fun w16 k16 => ?_)
    refine WO.rd (is := [27, 28]) (js := []) (Keep.refl _) (Rn.s rfl Yv.pick_t (Rn.s rfl Yv.as (Rn.nil))) (WO.done ?_)
    exact Wp.ret (Fin.ret (Res.one rfl rfl) ⟨rfl, (kx1.trans hst.keep).trans k16⟩)
  | true =>
    cases hp : partOk t i with
    | false =>
      have hP : partS t i = (([] : List Nd), 80) := by unfold partS; rw [if_neg (by rw [hp]; decide)]
      have hW : withoutS t key = (withoutL t key, 0) := by unfold withoutS; rw [if_pos hi]
      rw [hP, hW] at hst
      simp only at hst
      rw [hP, hW]
      refine WO.rd (is := [3, 4, 5, 6, 7, 8, 9, 10, 11, 12, 13, 14, 15, 16, 17, 18, 19, 20, 21, 22, 23, 24, 25, 26, 27, 28, 29, 30, 31]) (js := []) (Keep.refl _) (Rn.s rfl Yv.not (Rn.s rfl Yv.mv (Rn.s rfl Yv.mv (Rn.s rfl (Yv.cmp false (by rfl)) (Rn.s rfl Yv.mv (Rn.s rfl (Yv.bcm false (by rfl)) (Rn.s rfl Yv.pick_f (Rn.s rfl Yv.mv (Rn.s rfl Yv.mv (Rn.s rfl (Yv.cmp true (by rfl)) (Rn.s rfl Yv.mv (Rn.s rfl (Yv.bcm false (by rfl)) (Rn.s rfl Yv.pick_f (Rn.s rfl Yv.mv (Rn.s rfl Yv.mv (Rn.s rfl Yv.not (Rn.s rfl Yv.mv (Rn.s rfl Yv.mv (Rn.s rfl (Yv.cmp false (by rfl)) (Rn.s rfl Yv.pick_t (Rn.s rfl Yv.pick_f (Rn.s rfl Yv.mv (Rn.s rfl Yv.mv (Rn.s rfl Yv.not (Rn.s rfl Yv.mv (Rn.no rfl (Rn.no rfl (Rn.s rfl Yv.pick_f (Rn.s rfl Yv.pick_f (Rn.nil)))))))))))))))))))))))))))))) (WO.done ?_)
      refine Wp.cond_f rfl (Wp.skip ?_)
      have ht16 := hbig hi
      refine Wp.seq (Wp.seq (Wp.regionL (l := [0, 1, 2, 3, 4, 5, 6, 7, 8, 9, 10, 11, 12, 13, 14, 15, 16, 17, 18, 19]) (WO.rd (is := [0, 1, 2, 3, 4, 5, 6, 7, 8, 9, 10, 11, 12, 13, 14]) (js := [15, 16, 17, 18, 19]) (Keep.refl _) (Rn.s rfl Yv.mv (Rn.s rfl Yv.mv (Rn.no rfl (Rn.no rfl (Rn.no rfl (Rn.no rfl (Rn.no rfl (Rn.no rfl (Rn.s rfl Yv.pick_f (Rn.s rfl Yv.mv (Rn.s rfl Yv.mv (Rn.s rfl Yv.mv (Rn.s rfl Yv.mv (Rn.s rfl Yv.mv (Rn.s rfl Yv.mv (Rn.nil)))))))))))))))) ?_)))
      refine WO.act (hc := rfl) (he := Ef.cx (rwithout_cx A c t key w5 (hr1.keep hst.keep) hi hcap) hst (FnOk.of Tryd.func29) ?_)
      rintro v D w8 ⟨SA, sc, rfl, rfl⟩ hs8
      have hlw : (withoutL t key).length ≤ 40000 := by
        unfold withoutL
        split
        · omega
        · unfold cutL; simp; omega
      have hst : St w1 [] w8 [Ch.row NdE 32 SA sc (withoutL t key), Ch.row NdE 32 WA wc (withoutL t key), Ch.row NdE 32 PA pc []] := hs8
      have hsm := same_cv WA wc (withoutL t key) SA sc (withoutL t key) w8 (hst.rd 1) (hst.rd 0) (by omega)
      rw [decide_eq_true rfl] at hsm
      refine WO.cv rfl hsm (Keep.refl _) (FnOk.of Tryd.func22) (fun w9 k9 => ?_)
      have hst : St w1 [] w9 [Ch.row NdE 32 WA wc (withoutL t key), Ch.row NdE 32 PA pc (([] : List Nd))] := (hst.quiet k9).pick [1, 2]
      refine WO.rd (is := [17, 18, 19]) (js := []) (Keep.refl _) (Rn.s rfl Yv.not (Rn.s rfl Yv.pick_t (Rn.s rfl Yv.pick_f (Rn.nil)))) (WO.done ?_)
      refine Wp.cond_f rfl (Wp.skip ?_)
      have hst : St w1 [] w9 ([Ch.row NdE 32 PA pc (([] : List Nd))] ++ [Ch.row NdE 32 WA wc (withoutL t key)]) := hst.pick [1, 0]
      refine Wp.seq (Wp.regionL (l := [0, 1]) (WO.rd (is := [0]) (js := [1]) (Keep.refl _) (Rn.s rfl Yv.mv (Rn.nil)) (WO.act (hc := rfl) (he := Ef.callv Tryd.func23 (Calls.mono (spoil_calls PA pc (([] : List Nd)) w9 (St.enter (A := [Ch.row NdE 32 PA pc (([] : List Nd))]) hst) (by simp)) ?_)))))
      rintro e w10 ⟨rfl, hs10⟩
      refine WO.done ?_
      have hst : St w1 [] w10 [Ch.row NdE 32 WA wc (withoutL t key)] := St.call (A := [Ch.row NdE 32 PA pc (([] : List Nd))]) (D := [Ch.row NdE 32 WA wc (withoutL t key)]) hst hs10
      refine Wp.seq (Wp.regionL (l := [0, 1]) (WO.rd (is := [0]) (js := [1]) (Keep.refl _) (Rn.s rfl Yv.mv (Rn.nil)) (WO.act (hc := rfl) (he := Ef.callv Tryd.func23 (Calls.mono (spoil_calls WA wc (withoutL t key) w10 (St.enter (A := [Ch.row NdE 32 WA wc (withoutL t key)]) (D := []) hst) (by omega)) ?_)))))
      rintro e w11 ⟨rfl, hs11⟩
      refine WO.done ?_
      have hst : St w1 [] w11 [] := St.call (A := [Ch.row NdE 32 WA wc (withoutL t key)]) (D := []) hst hs11
      refine Wp.seq (Wp.regionL (l := [0, 1, 2, 3, 4, 5, 6, 7, 8]) (WO.rd (is := [0]) (js := [1, 2, 3, 4, 5, 6, 7, 8]) (Keep.refl _) (Rn.s rfl Yv.mv (Rn.nil)) (WO.act (hc := rfl) (he := Ef.cx (copyL_cx A c t w11 (hr1.keep hst.keep) hc (by omega)) hst (FnOk.of Tryd.func21) ?_))))
      rintro v D w12 ⟨CA, cc, rfl, rfl⟩ hs12
      have hst : St w1 [] w12 [Ch.row NdE 32 CA cc t] := hs12
      have hw12 := without_cx CA cc t key w12 (hst.rd 0) (hst.cap 0) (by omega)
      rw [hW] at hw12
      simp only at hw12
      refine WO.rd (is := [2]) (js := [3, 4, 5, 6, 7, 8]) (Keep.refl _) (Rn.s rfl Yv.mv (Rn.nil)) (WO.act (hc := rfl) (he := Ef.cx hw12 hst (FnOk.of Tryd.func27) ?_))
      rintro v D w13 ⟨VA, vc, rfl, rfl⟩ hs13
      have hst : St w1 [] w13 [Ch.row NdE 32 VA vc (withoutL t key)] := hs13.pick [0]
      refine WO.rd (is := [4, 5, 6, 7, 8]) (js := []) (Keep.refl _) (Rn.s rfl Yv.mv (Rn.s rfl Yv.ex (Rn.s rfl Yv.ex (Rn.s rfl Yv.as (Rn.s rfl Yv.as (Rn.nil)))))) (WO.done ?_)
      refine Wp.seq (Wp.regionL (l := [0, 1, 2, 3, 4, 5, 6, 7, 8, 9, 10, 11, 12, 13, 14, 15, 16, 17, 18, 19, 20, 21, 22, 23, 24, 25, 26, 27, 28]) (WO.rd (is := [0, 1, 2, 3, 4, 5]) (js := [6, 7, 8, 9, 10, 11, 12, 13, 14, 15, 16, 17, 18, 19, 20, 21, 22, 23, 24, 25, 26, 27, 28]) (Keep.refl _) (Rn.s rfl Yv.mv (Rn.s rfl Yv.not (Rn.s rfl Yv.mv (Rn.s rfl Yv.mv (Rn.s rfl Yv.mv (Rn.s rfl Yv.mv (Rn.nil))))))) (WO.act (hc := rfl) (he := Ef.cx (rwithout_cx A c t key w13 (hr1.keep hst.keep) hi hcap) hst (FnOk.of Tryd.func29) ?_))))
      rintro v D w14 ⟨SA2, sc2, rfl, rfl⟩ hs14
      have hst : St w1 [] w14 [Ch.row NdE 32 SA2 sc2 (withoutL t key), Ch.row NdE 32 VA vc (withoutL t key)] := hs14
      have hsm := same_cv VA vc (withoutL t key) SA2 sc2 (withoutL t key) w14 (hst.rd 1) (hst.rd 0) (by omega)
      rw [decide_eq_true rfl] at hsm
      refine WO.cv rfl hsm (Keep.refl _) (FnOk.of Tryd.func22) (fun w15 k15 => ?_)
      have hst := hst.quiet k15
      refine WO.rd (is := [8, 9, 10, 11, 12, 13, 14, 15, 16, 17, 18, 19, 20, 21, 22, 23, 24, 25]) (js := [26, 27, 28]) (Keep.refl _) (Rn.s rfl Yv.pick_f (Rn.s rfl Yv.mv (Rn.s rfl Yv.mv (Rn.s rfl Yv.mv (Rn.s rfl Yv.mv (Rn.s rfl (Yv.len_v (e := 32) (m := 8)) (Rn.s rfl (Yv.cmp true (by rfl)) (Rn.s rfl Yv.pick_f (Rn.s rfl Yv.pick_t (Rn.s rfl Yv.mv (Rn.s rfl Yv.mv (Rn.s rfl Yv.mv (Rn.no rfl (Rn.no rfl (Rn.no rfl (Rn.s rfl Yv.pick_t (Rn.s rfl Yv.pick_t (Rn.s rfl Yv.mv (Rn.nil))))))))))))))))))) ?_
      refine WO.cv rfl (awake8_cv w15 (hg1.keep hst.keep)) (Keep.refl _) (FnOk.of Tryd.func24) (fun w16 k16 => ?_)
      refine WO.rd (is := [27, 28]) (js := []) (Keep.refl _) (Rn.s rfl Yv.pick_t (Rn.s rfl Yv.as (Rn.nil))) (WO.done ?_)
      exact Wp.ret (Fin.ret (Res.one rfl rfl) ⟨rfl, (kx1.trans hst.keep).trans k16⟩)
    | true =>
      have hP : partS t i = (partL t i.toNat, 0) := by unfold partS; rw [if_pos hp]
      have hW : withoutS t key = (withoutL t key, 0) := by unfold withoutS; rw [if_pos hi]
      rw [hP, hW] at hst
      simp only at hst
      rw [hP, hW]
      refine WO.rd (is := [3, 4, 5, 6, 7, 8, 9, 10, 11, 12, 13, 14, 15, 16, 17, 18, 19, 20, 21, 22, 23, 24, 25, 26, 27, 28, 29, 30, 31]) (js := []) (Keep.refl _) (Rn.s rfl Yv.not (Rn.s rfl Yv.mv (Rn.s rfl Yv.mv (Rn.s rfl (Yv.cmp true (by rfl)) (Rn.s rfl Yv.mv (Rn.s rfl (Yv.bcm false (by rfl)) (Rn.s rfl Yv.pick_f (Rn.s rfl Yv.mv (Rn.s rfl Yv.mv (Rn.s rfl (Yv.cmp true (by rfl)) (Rn.s rfl Yv.mv (Rn.s rfl (Yv.bcm false (by rfl)) (Rn.s rfl Yv.pick_f (Rn.s rfl Yv.mv (Rn.s rfl Yv.mv (Rn.s rfl Yv.not (Rn.s rfl Yv.mv (Rn.no rfl (Rn.no rfl (Rn.s rfl Yv.pick_f (Rn.s rfl Yv.pick_f (Rn.s rfl Yv.mv (Rn.s rfl Yv.mv (Rn.s rfl Yv.not (Rn.s rfl Yv.mv (Rn.no rfl (Rn.no rfl (Rn.s rfl Yv.pick_f (Rn.s rfl Yv.pick_f (Rn.nil)))))))))))))))))))))))))))))) (WO.done ?_)
      refine Wp.cond_f rfl (Wp.skip ?_)
      obtain ⟨hm, hk⟩ : 0 ≤ i ∧ i < t.length := by
        have := hp
        unfold partOk at this
        simp only [Bool.and_eq_true, decide_eq_true_eq] at this
        exact ⟨this.2.1, this.2.2.1⟩
      obtain ⟨m, rfl⟩ : ∃ m : Nat, i = m := ⟨i.toNat, by omega⟩
      have ht16 := hbig hi
      simp only [Int.toNat_natCast] at hst ⊢
      refine Wp.seq (Wp.seq (Wp.regionL (l := [0, 1, 2, 3, 4, 5, 6, 7, 8, 9, 10, 11, 12, 13, 14, 15, 16, 17, 18, 19]) (WO.rd (is := [0, 1, 2, 3, 4]) (js := [5, 6, 7, 8, 9, 10, 11, 12, 13, 14, 15, 16, 17, 18, 19]) (Keep.refl _) (Rn.s rfl Yv.mv (Rn.s rfl Yv.mv (Rn.s rfl Yv.mv (Rn.s rfl Yv.mv (Rn.s rfl Yv.mv (Rn.nil)))))) (WO.act (hc := rfl) (he := Ef.cx (rpart_cx A c t m w5 hr5 (by omega) (by omega) (isS_Deep hi)) hst (FnOk.of Tryd.func28) ?_)))))
      rintro v D w6 ⟨RA, rc, rfl, rfl⟩ hs6
      have hst : St w1 [] w6 [Ch.row NdE 32 RA rc (partL t m), Ch.row NdE 32 WA wc (withoutL t key), Ch.row NdE 32 PA pc (partL t m)] := hs6
      have hsm := same_cv PA pc (partL t m) RA rc (partL t m) w6 (hst.rd 2) (hst.rd 0) (by unfold partL; simp; have := @spl m; omega)
      rw [decide_eq_true rfl] at hsm
      refine WO.cv rfl hsm (Keep.refl _) (FnOk.of Tryd.func22) (fun w7 k7 => ?_)
      have hst := hst.quiet k7
      refine WO.rd (is := [7, 8, 9, 10, 11, 12, 13, 14]) (js := [15, 16, 17, 18, 19]) (Keep.refl _) (Rn.s rfl Yv.not (Rn.s rfl Yv.pick_t (Rn.s rfl Yv.mv (Rn.s rfl Yv.mv (Rn.s rfl Yv.mv (Rn.s rfl Yv.mv (Rn.s rfl Yv.mv (Rn.s rfl Yv.mv (Rn.nil))))))))) ?_
      refine WO.act (hc := rfl) (he := Ef.cx (rwithout_cx A c t key w7 (hr1.keep hst.keep) hi hcap) hst (FnOk.of Tryd.func29) ?_)
      rintro v D w8 ⟨SA, sc, rfl, rfl⟩ hs8
      have hlw : (withoutL t key).length ≤ 40000 := by
        unfold withoutL
        split
        · omega
        · unfold cutL; simp; omega
      have hst : St w1 [] w8 [Ch.row NdE 32 SA sc (withoutL t key), Ch.row NdE 32 WA wc (withoutL t key), Ch.row NdE 32 PA pc (partL t m)] := hs8.pick [0, 2, 3]
      have hsm := same_cv WA wc (withoutL t key) SA sc (withoutL t key) w8 (hst.rd 1) (hst.rd 0) (by omega)
      rw [decide_eq_true rfl] at hsm
      refine WO.cv rfl hsm (Keep.refl _) (FnOk.of Tryd.func22) (fun w9 k9 => ?_)
      have hst : St w1 [] w9 [Ch.row NdE 32 WA wc (withoutL t key), Ch.row NdE 32 PA pc (partL t m)] := (hst.quiet k9).pick [1, 2]
      refine WO.rd (is := [17, 18, 19]) (js := []) (Keep.refl _) (Rn.s rfl Yv.not (Rn.s rfl Yv.pick_t (Rn.s rfl Yv.pick_f (Rn.nil)))) (WO.done ?_)
      refine Wp.cond_f rfl (Wp.skip ?_)
      have hst : St w1 [] w9 ([Ch.row NdE 32 PA pc (partL t m)] ++ [Ch.row NdE 32 WA wc (withoutL t key)]) := hst.pick [1, 0]
      refine Wp.seq (Wp.regionL (l := [0, 1]) (WO.rd (is := [0]) (js := [1]) (Keep.refl _) (Rn.s rfl Yv.mv (Rn.nil)) (WO.act (hc := rfl) (he := Ef.callv Tryd.func23 (Calls.mono (spoil_calls PA pc (partL t m) w9 (St.enter (A := [Ch.row NdE 32 PA pc (partL t m)]) hst) (by unfold partL; simp; have := @spl m; omega)) ?_)))))
      rintro e w10 ⟨rfl, hs10⟩
      refine WO.done ?_
      have hst : St w1 [] w10 [Ch.row NdE 32 WA wc (withoutL t key)] := St.call (A := [Ch.row NdE 32 PA pc (partL t m)]) (D := [Ch.row NdE 32 WA wc (withoutL t key)]) hst hs10
      refine Wp.seq (Wp.regionL (l := [0, 1]) (WO.rd (is := [0]) (js := [1]) (Keep.refl _) (Rn.s rfl Yv.mv (Rn.nil)) (WO.act (hc := rfl) (he := Ef.callv Tryd.func23 (Calls.mono (spoil_calls WA wc (withoutL t key) w10 (St.enter (A := [Ch.row NdE 32 WA wc (withoutL t key)]) (D := []) hst) (by omega)) ?_)))))
      rintro e w11 ⟨rfl, hs11⟩
      refine WO.done ?_
      have hst : St w1 [] w11 [] := St.call (A := [Ch.row NdE 32 WA wc (withoutL t key)]) (D := []) hst hs11
      refine Wp.seq (Wp.regionL (l := [0, 1, 2, 3, 4, 5, 6, 7, 8]) (WO.rd (is := [0]) (js := [1, 2, 3, 4, 5, 6, 7, 8]) (Keep.refl _) (Rn.s rfl Yv.mv (Rn.nil)) (WO.act (hc := rfl) (he := Ef.cx (copyL_cx A c t w11 (hr1.keep hst.keep) hc (by omega)) hst (FnOk.of Tryd.func21) ?_))))
      rintro v D w12 ⟨CA, cc, rfl, rfl⟩ hs12
      have hst : St w1 [] w12 [Ch.row NdE 32 CA cc t] := hs12
      have hw12 := without_cx CA cc t key w12 (hst.rd 0) (hst.cap 0) (by omega)
      rw [hW] at hw12
      simp only at hw12
      refine WO.rd (is := [2]) (js := [3, 4, 5, 6, 7, 8]) (Keep.refl _) (Rn.s rfl Yv.mv (Rn.nil)) (WO.act (hc := rfl) (he := Ef.cx hw12 hst (FnOk.of Tryd.func27) ?_))
      rintro v D w13 ⟨VA, vc, rfl, rfl⟩ hs13
      have hst : St w1 [] w13 [Ch.row NdE 32 VA vc (withoutL t key)] := hs13.pick [0]
      refine WO.rd (is := [4, 5, 6, 7, 8]) (js := []) (Keep.refl _) (Rn.s rfl Yv.mv (Rn.s rfl Yv.ex (Rn.s rfl Yv.ex (Rn.s rfl Yv.as (Rn.s rfl Yv.as (Rn.nil)))))) (WO.done ?_)
      refine Wp.seq (Wp.regionL (l := [0, 1, 2, 3, 4, 5, 6, 7, 8, 9, 10, 11, 12, 13, 14, 15, 16, 17, 18, 19, 20, 21, 22, 23, 24, 25, 26, 27, 28]) (WO.rd (is := [0, 1, 2, 3, 4, 5]) (js := [6, 7, 8, 9, 10, 11, 12, 13, 14, 15, 16, 17, 18, 19, 20, 21, 22, 23, 24, 25, 26, 27, 28]) (Keep.refl _) (Rn.s rfl Yv.mv (Rn.s rfl Yv.not (Rn.s rfl Yv.mv (Rn.s rfl Yv.mv (Rn.s rfl Yv.mv (Rn.s rfl Yv.mv (Rn.nil))))))) (WO.act (hc := rfl) (he := Ef.cx (rwithout_cx A c t key w13 (hr1.keep hst.keep) hi hcap) hst (FnOk.of Tryd.func29) ?_))))
      rintro v D w14 ⟨SA2, sc2, rfl, rfl⟩ hs14
      have hst : St w1 [] w14 [Ch.row NdE 32 SA2 sc2 (withoutL t key), Ch.row NdE 32 VA vc (withoutL t key)] := hs14
      have hsm := same_cv VA vc (withoutL t key) SA2 sc2 (withoutL t key) w14 (hst.rd 1) (hst.rd 0) (by omega)
      rw [decide_eq_true rfl] at hsm
      refine WO.cv rfl hsm (Keep.refl _) (FnOk.of Tryd.func22) (fun w15 k15 => ?_)
      have hst := hst.quiet k15
      refine WO.rd (is := [8, 9, 10, 11, 12, 13, 14, 15, 16, 17, 18, 19, 20, 21, 22, 23, 24, 25]) (js := [26, 27, 28]) (Keep.refl _) (Rn.s rfl Yv.pick_f (Rn.s rfl Yv.mv (Rn.s rfl Yv.mv (Rn.s rfl Yv.mv (Rn.no rfl (Rn.no rfl (Rn.no rfl (Rn.s rfl Yv.pick_t (Rn.s rfl Yv.pick_t (Rn.s rfl Yv.mv (Rn.s rfl Yv.mv (Rn.s rfl Yv.mv (Rn.no rfl (Rn.no rfl (Rn.no rfl (Rn.s rfl Yv.pick_t (Rn.s rfl Yv.pick_t (Rn.s rfl Yv.mv (Rn.nil))))))))))))))))))) ?_
      refine WO.cv rfl (awake8_cv w15 (hg1.keep hst.keep)) (Keep.refl _) (FnOk.of Tryd.func24) (fun w16 k16 => ?_)
      refine WO.rd (is := [27, 28]) (js := []) (Keep.refl _) (Rn.s rfl Yv.pick_t (Rn.s rfl Yv.as (Rn.nil))) (WO.done ?_)
      exact Wp.ret (Fin.ret (Res.one rfl rfl) ⟨rfl, (kx1.trans hst.keep).trans k16⟩)
end Go.Proofs.YtbmplmehofgocaaDoor.C
