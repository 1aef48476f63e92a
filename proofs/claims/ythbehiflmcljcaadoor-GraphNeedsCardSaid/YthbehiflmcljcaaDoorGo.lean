/- graph.needed walked: the instances that an instance's needs mean, or the first fault. -/
import Derived.Test.YthbehiflmcljcaaDoorGn
set_option linter.unusedVariables false
set_option linter.unusedSimpArgs false
set_option maxRecDepth 10000
namespace Go.Proofs.YthbehiflmcljcaaDoor.C
open Go.RowKit Go.Proofs.YthbehiflmcljcaaDoor.Sh
theorem resTA {P : Program} {fn : Func} {N n : Nat} {ρ : Env} {w : World} {t u b : Nat} {ty : TypeId} {vs : List Value} {x : Value} (h : fn.results = #[.tmp u, .cell t ty]) (hx : lk ρ u = some x) (hp : lk ρ t = some (PB b)) (hc : Cells w b vs) (hn : vs.length = n := by rfl) (ht : agB P ty n = true := by kernel_rfl) : Res P fn N ρ w (.tuple #[x, .agg vs.toArray]) := fun a ds ha => by
  have h1 := ha.val u _ hx
  have h3 := ha.val t _ hp
  have h2 : (loadVar ty ⟨b, 0, none⟩).run P w = .ok (.agg vs.toArray) w := run_loadVar_ag (agB_of ht) ⟨b, 0, none⟩ vs hn (fun j v hj => by rw [add_off, Nat.zero_add]; exact hc j v hj)
  simp only [results, h]
  simp at h1 h3
  simp [h1, h2, h3, asAddr]
theorem lds_sub {w : World} {b : Nat} {vs us : List Value} (h : Cells w b vs) (q : Nat) (hu : ∀ j, j < us.length → us[j]? = vs[q + j]? := by intro j hj; rfl) : ∀ j v, us[j]? = some v → w.cell? ⟨b, q + j, none⟩ = some v := fun j v hj => by
  refine h _ v ?_
  rw [← hu j (List.getElem?_eq_some_iff.1 hj).1]
  exact hj
theorem ne_at {w : World} {b : Nat} {x : Ne} (h : Cells w b (NeE.cells x)) : ∀ j v, (x.at_.cs)[j]? = some v → w.cell? ⟨b, 0 + 1 + j, none⟩ = some v := fun j v hj => by
  refine h _ v ?_
  rw [Nat.zero_add, Nat.add_comm]
  exact hj
/-- what one need means, or its fault's number -/
def needE (is : List Ist) (t : Bs) : Int × Is := match readG t with
  | none => (160, [])
  | some (job, ps) => if allK is.length (fun i => ofB job (nth is (i : Int)).name) = [] then (161, [])
    else if allK is.length (fun i => meansB job ps (nth is (i : Int))) = [] then (162, [])
    else (0, allK is.length (fun i => meansB job ps (nth is (i : Int))))
def neededF (is : List Ist) : List Ne → Is → Is × Ft
  | [], out => (Lib.compact (sortI out), ft0)
  | x :: xs, out => if (needE is x.text).1 ≠ 0 then ([], { x.at_ with code := (needE is x.text).1 }) else neededF is xs (out ++ (needE is x.text).2)
theorem neededF_drop (is : List Ist) {ns : List Ne} {k : Nat} (hk : k < ns.length) (out : Is) : neededF is (ns.drop k) out = if (needE is (nth ns (k : Int)).text).1 ≠ 0 then ([], { (nth ns (k : Int)).at_ with code := (needE is (nth ns (k : Int)).text).1 }) else neededF is (ns.drop (k + 1)) (out ++ (needE is (nth ns (k : Int)).text).2) := by
  rw [List.drop_eq_getElem_cons hk, nth_getElem hk, neededF]
theorem needE_len (is : List Ist) (t : Bs) : (needE is t).2.length ≤ is.length := by
  unfold needE
  split
  · simp
  · split
    · simp
    · split
      · simp
      · exact allK_len _ _
abbrev zNe : List Value := [S [], .int .i64 0, S [], .int .i64 0, .int .i64 0]
structure TxOk (t : Bs) : Prop where
  len : t.length ≤ 4611686018427387904
  commas : t.count 44 ≤ 4398046511103
theorem readG_job {s : Bs} {job : Bs} {l : List Va} (h : readG s = some (job, l)) : job.length ≤ 64 := by
  unfold readG at h
  split at h
  · cases h
  · rename_i h1
    have h1 : nameB (cutC 91 s).1 = true := by simpa using h1
    have h2 := nameB_len h1
    split at h
    · injection h with h; injection h with h3; rw [← h3]; exact h2
    · split at h
      · cases h
      · obtain ⟨l', _, h4⟩ := Option.map_eq_some_iff.1 h
        injection h4 with h3
        rw [← h3]
        exact h2
theorem pairsG_len : ∀ {ps : List Bs} {l : List Va}, pairsG ps = some l → l.length = ps.length
  | [], l, h => by simp [pairsG] at h; subst h; rfl
  | p :: ps, l, h => by
    unfold pairsG at h
    split at h
    · obtain ⟨l', h1, rfl⟩ := Option.map_eq_some_iff.1 h
      simp [pairsG_len h1]
    · cases h
theorem needed_cx (A : Option Addr) (c : Nat) (is : List Ist) (x : Ist) (w : World) (h : IsB w A is) (hx : Rd NeE w x.needs.1 x.needs.2.2) (hl : is.length ≤ 5864062014805) (hv : ∀ y ∈ is, y.vars.2.2.length ≤ 9223372036854775807) (hpr : x.needs.2.2.length * is.length ≤ 17592186044416) (hnl : x.needs.2.2.length ≤ 17592186044416) (htx : ∀ y ∈ x.needs.2.2, TxOk y.text) :
    Cx Tryd.prog 37 [.slice A is.length c, .agg (IsE.cells x).toArray] [] (fun v D => ∃ L cl, v = .tuple #[.slice L (neededF is x.needs.2.2 []).1.length cl, .agg (neededF is x.needs.2.2 []).2.cs.toArray] ∧ D = [Ch.row InE 3 L cl (neededF is x.needs.2.2 []).1]) w := by
  refine calls_of_Wp (vs := [_, _]) Tryd.func37 ?_
  refine Wp.seq (Wp.regionL (l := [0, 1, 2]) (WO.act (hc := rfl) (he := Ef.boxL (IsE.cells x) (St.init w) (fun ba1 wa1 ka1 hsa1 => WO.rd (is := [1]) (js := [2]) ((Keep.refl _).trans ka1) (Rn.s rfl Yv.as (Rn.nil)) (WO.act (hc := rfl) (he := Ef.allocL (vs := ft0.cs) hsa1 (fun ba2 wa2 ka2 hsa2 => WO.done ?_)))))))
  refine Wp.seq (Wp.reads (is := [0]) (Keep.refl _) (Rn.s rfl Yv.as (Rn.nil)) ?_)
  have hst : St w [] wa2 [Ch.cells ba2 44 ft0.cs, Ch.cells ba1 46 (IsE.cells x)] := hsa2
  have c3 := hst.cells 1
  refine Wp.seq (Wp.seq (Wp.reads (is := [0, 1, 2, 3]) (Keep.refl _) (Rn.s rfl (Yv.fa (off := 5)) (Rn.s rfl (Yv.ld (c3.at_ 5)) (Rn.s rfl (Yv.len_v (e := 53) (m := 5)) (Rn.s rfl Yv.mv (Rn.nil))))) ?_))
  refine Wp.mid (fun ρ ds w' => ds = [] ∧ ∃ O co out, neededF is x.needs.2.2 [] = (Lib.compact (sortI out), ft0) ∧ out.length ≤ 17592186044416 ∧ St w [] w' [Ch.row InE 3 O co out, Ch.cells ba2 44 ft0.cs] ∧ Sub [(5, PB ba2), (6, .slice O out.length co)] ρ) (Wp.block ?_) ?_
  · refine Wp.loop (α := Nat) (fun k ρ ds w' => ds = [] ∧ k ≤ x.needs.2.2.length ∧ ∃ O co out, neededF is x.needs.2.2 [] = neededF is (x.needs.2.2.drop k) out ∧ out.length ≤ k * is.length ∧ St w [] w' [Ch.row InE 3 O co out, Ch.cells ba2 44 ft0.cs] ∧
      Sub [(0, .slice A is.length c), (5, PB ba2), (6, .slice O out.length co), (13, sv x.needs), (14, .int .i64 (x.needs.2.2.length : Int)), (15, .int .i64 (k : Int))] ρ) (fun k => x.needs.2.2.length - k) 0
      ⟨rfl, by omega, none, 0, [], rfl, by simp, (hst.pick [0]).nilrow InE 3, rfl, rfl, rfl, rfl, rfl, rfl, trivial⟩ ?_
    clear hst c3
    rintro k ρ ds w1 ⟨rfl, hk, O, co, out, hF, hol, hst, hs⟩
    refine Wp.forget _ ?_ hs
    clear hs ρ
    refine Wp.seq (Wp.reads (is := [0]) (Keep.refl _) (Rn.s rfl (Yv.cmp _ rfl) (Rn.nil)) ?_)
    refine Wp.seq (Wp.cond rfl (fun hlt => ?_) (fun hlt => ?_))
    · have hlt : k < x.needs.2.2.length := by have := of_decide_eq_true hlt; omega
      rw [neededF_drop is hlt] at hF
      have hx1 := hx.keep hst.keep
      have htk := htx _ (nth_mem' hlt)
      have hmul : (k + 1) * is.length ≤ x.needs.2.2.length * is.length := Nat.mul_le_mul_right _ (by omega)
      have hsucc : (k + 1) * is.length = k * is.length + is.length := Nat.succ_mul _ _
      refine Wp.skip ?_
      refine Wp.seq (Wp.block ?_)
      refine Wp.seq (Wp.regionL (l := [0, 1, 2, 3]) (WO.rd (is := [0, 1]) (js := [2, 3]) (Keep.refl _) (Rn.s rfl (Yv.ia (e := 53) hx1 (by omega) (by omega)) (Rn.s rfl (Yv.ldel hx1 rfl rfl (by omega) (by omega)) (Rn.nil))) (WO.act (hc := rfl) (he := Ef.allocL (vs := zNe) hst (fun bb1 wb1 kb1 hsb1 => WO.act (hc := rfl) (he := Ef.stores hsb1 0 (fun wb2 hsb2 => WO.done ?_)))))))
      generalize nth x.needs.2.2 (k : Int) = y at hF htk hsb2 ⊢
      have hst2 : St w [] wb2 [Ch.cells bb1 53 (NeE.cells y), Ch.row InE 3 O co out, Ch.cells ba2 44 ft0.cs] := hsb2
      clear hsb2 hst
      have c8 := hst2.cells 0
      refine Wp.seq (Wp.regionL (l := [0, 1, 2, 3, 4, 5, 6, 7, 8]) (WO.rd (is := [0, 1]) (js := [2, 3, 4, 5, 6, 7, 8]) (Keep.refl _) (Rn.s rfl (Yv.fa (off := 0)) (Rn.s rfl (Yv.ld (c8.at_ 0)) (Rn.nil))) (WO.act (hc := rfl) (he := Ef.cx (caps := []) (A := []) (read_cx y.text htk.len htk.commas wb2) hst2 (FnOk.of Tryd.func47) ?_))))
      rintro v D w3 hR hs3
      cases hrd : readG y.text with
      | none =>
        rw [hrd] at hR
        obtain ⟨rfl, rfl⟩ := hR
        have hE : needE is y.text = (160, []) := by unfold needE; rw [hrd]
        rw [hE, if_pos (by decide)] at hF
        refine WO.rd (is := [3, 4, 5]) (js := [6, 7, 8]) (Keep.refl _) (Rn.s rfl Yv.mv (Rn.s rfl Yv.ex (Rn.s rfl Yv.ex (Rn.nil)))) (WO.act (hc := rfl) (he := Ef.allocL (vs := nds [] (none, 0, [])) hs3 (fun b9 w4 k4 hs4 => ?_)))
        refine WO.act (hc := rfl) (he := Ef.stores hs4 0 (fun w5 hs5 => ?_))
        refine WO.rd (is := [8]) (js := []) (Keep.refl _) (Rn.s rfl Yv.as (Rn.nil)) (WO.done ?_)
        have hst5 : St w [] w5 [Ch.cells bb1 53 (NeE.cells y), Ch.cells ba2 44 ft0.cs] := hs5.pick [1, 3]
        have c8 := hst5.cells 0
        refine Wp.seq (Wp.seq (Wp.reads (is := [0, 1]) (Keep.refl _) (Rn.s rfl Yv.mv (Rn.s rfl Yv.not (Rn.nil))) ?_))
        refine Wp.cond_t rfl ?_
        refine Wp.seq (Wp.regionL (l := [0, 1, 2, 3, 4]) (WO.rd (is := [0, 1]) (js := [2, 3, 4]) (Keep.refl _) (Rn.s rfl (Yv.fa (off := 1)) (Rn.s rfl (Yv.lds rfl (ne_at c8)) (Rn.nil))) (WO.cv rfl (at_cv 160 y.at_ w5) (Keep.refl _) (FnOk.of Tryd.func41) (fun wd1 kd1 => WO.rd (is := [3]) (js := [4]) ((Keep.refl _).trans kd1) (Rn.s rfl Yv.as (Rn.nil)) (WO.act (hc := rfl) (he := Ef.stores (hst5.quiet kd1) 1 (fun wd2 hsd2 => WO.done ?_)))))))
        refine Wp.ret (Fin.ret (resTA rfl rfl rfl (hsd2.cells 0)) ⟨_, [Ch.row InE 3 none 0 []], rfl, ?_, (hsd2.pick []).nilrow _ _⟩)
        rw [hF]
        exact ⟨none, 0, rfl, rfl⟩
      | some r =>
        obtain ⟨job, l⟩ := r
        rw [hrd] at hR
        obtain ⟨B, d, rfl, rfl⟩ := hR
        have hjl := readG_job hrd
        have hE : needE is y.text = if allK is.length (fun i => ofB job (nth is (i : Int)).name) = [] then (161, []) else if allK is.length (fun i => meansB job l (nth is (i : Int))) = [] then (162, []) else (0, allK is.length (fun i => meansB job l (nth is (i : Int)))) := by unfold needE; rw [hrd]
        refine WO.rd (is := [3, 4, 5]) (js := [6, 7, 8]) (Keep.refl _) (Rn.s rfl Yv.mv (Rn.s rfl Yv.ex (Rn.s rfl Yv.ex (Rn.nil)))) (WO.act (hc := rfl) (he := Ef.allocL (vs := nds [] (none, 0, [])) hs3 (fun b9 w4 k4 hs4 => ?_)))
        refine WO.act (hc := rfl) (he := Ef.stores hs4 0 (fun w5 hs5 => ?_))
        refine WO.rd (is := [8]) (js := []) (Keep.refl _) (Rn.s rfl Yv.as (Rn.nil)) (WO.done ?_)
        have hst5 : St w [] w5 [Ch.cells b9 91 (nds job (B, d, l)), Ch.row VaE 51 B d l, Ch.cells bb1 53 (NeE.cells y), Ch.row InE 3 O co out, Ch.cells ba2 44 ft0.cs] := hs5
        clear hs5 hs4 hs3 c8
        have c9 := hst5.cells 0
        have h5 := h.keep hst5.keep
        refine Wp.seq (Wp.seq (Wp.reads (is := [0, 1]) (Keep.refl _) (Rn.s rfl Yv.mv (Rn.s rfl Yv.not (Rn.nil))) ?_))
        refine Wp.cond_f rfl ?_
        refine Wp.skip ?_
        have hp1 : PredC 48 [.agg (nds job (B, d, l)).toArray] [] is (fun i => ofB job (nth is (i : Int)).name) w5 := ⟨FnOk.of Tryd.func48, fun i hi => of_cv job (B, d, l) (nth is (i : Int)) (by omega) w5⟩
        refine Wp.seq (Wp.seq (Wp.regionL (l := [0, 1, 2, 3, 4, 5]) (WO.rd (is := [0, 1, 2]) (js := [3, 4, 5]) (Keep.refl _) (Rn.s rfl Yv.mv (Rn.s rfl (Yv.ldb c9) (Rn.s rfl Yv.mf1 (Rn.nil)))) (WO.act (hc := rfl) (he := Ef.cx (caps := []) (A := []) (all_cx A c is _ [.agg (nds job (B, d, l)).toArray] [] _ w5 h5.rd (by omega) hp1) hst5 (FnOk.of Tryd.func38) ?_)))))
        rintro v D w6 ⟨L1, cl1, rfl, rfl⟩ hs6
        refine WO.rd (is := [4, 5]) (js := []) (Keep.refl _) (Rn.s rfl (Yv.len_v (e := 3) (m := 1)) (Rn.s rfl (Yv.cmp _ rfl) (Rn.nil))) (WO.done ?_)
        have hst6 : St w [] w6 [Ch.cells b9 91 (nds job (B, d, l)), Ch.row VaE 51 B d l, Ch.cells bb1 53 (NeE.cells y), Ch.row InE 3 O co out, Ch.cells ba2 44 ft0.cs] := hs6.pick [1, 2, 3, 4, 5]
        refine Wp.cond rfl (fun h1 => ?_) (fun h1 => ?_)
        · have h1 : allK is.length (fun i => ofB job (nth is (i : Int)).name) = [] := by
            have := eq_of_beq h1
            exact List.eq_nil_of_length_eq_zero (by omega)
          rw [if_pos h1] at hE
          rw [hE, if_pos (by decide)] at hF
          have c8 := hst6.cells 2
          refine Wp.seq (Wp.regionL (l := [0, 1, 2, 3, 4]) (WO.rd (is := [0, 1]) (js := [2, 3, 4]) (Keep.refl _) (Rn.s rfl (Yv.fa (off := 1)) (Rn.s rfl (Yv.lds rfl (ne_at c8)) (Rn.nil))) (WO.cv rfl (at_cv 161 y.at_ w6) (Keep.refl _) (FnOk.of Tryd.func41) (fun wd1 kd1 => WO.rd (is := [3]) (js := [4]) ((Keep.refl _).trans kd1) (Rn.s rfl Yv.as (Rn.nil)) (WO.act (hc := rfl) (he := Ef.stores (hst6.quiet kd1) 4 (fun wd2 hsd2 => WO.done ?_)))))))
          refine Wp.ret (Fin.ret (resTA rfl rfl rfl (hsd2.cells 0)) ⟨_, [Ch.row InE 3 none 0 []], rfl, ?_, (hsd2.pick []).nilrow _ _⟩)
          rw [hF]
          exact ⟨none, 0, rfl, rfl⟩
        have h1 : allK is.length (fun i => ofB job (nth is (i : Int)).name) ≠ [] := by
          intro q
          rw [q] at h1
          simp at h1
        rw [if_neg h1] at hE
        refine Wp.skip ?_
        have c9 := hst6.cells 0
        have h6 := h.keep hst6.keep
        have hlr := hst6.rd 1
        have hll : l.length ≤ 9223372036854775807 := by
          have hcap := hst6.cap 1
          have ho : w6.ownsRow 0 51 VaE.n (.slice B l.length d) l.length (l.flatMap VaE.cells) := hst6.at_ 1
          cases B with
          | none => obtain ⟨q, -, -⟩ := ownsRow_nil_inv ho; omega
          | some a => obtain ⟨_, _, _, _, q1, q2, _⟩ := ownsRow_some_inv ho; unfold maxLen at q2; omega
        have hp2 : PredC 49 [.agg (nds job (B, d, l)).toArray] [] is (fun i => meansB job l (nth is (i : Int))) w6 := ⟨FnOk.of Tryd.func49, fun i hi => means_cv job (B, d, l) (nth is (i : Int)) (by omega) w6 hlr (h6.vars _ (nth_mem' hi)) hll (hv _ (nth_mem' hi))⟩
        refine Wp.seq (Wp.regionL (l := [0, 1, 2, 3, 4]) (WO.rd (is := [0, 1, 2]) (js := [3, 4]) (Keep.refl _) (Rn.s rfl Yv.mv (Rn.s rfl (Yv.ldb c9) (Rn.s rfl Yv.mf1 (Rn.nil)))) (WO.act (hc := rfl) (he := Ef.cx (caps := []) (A := []) (all_cx A c is _ [.agg (nds job (B, d, l)).toArray] [] _ w6 h6.rd (by omega) hp2) hst6 (FnOk.of Tryd.func38) ?_))))
        rintro v D w7 ⟨L2, cl2, rfl, rfl⟩ hs7
        refine WO.rd (is := [4]) (js := []) (Keep.refl _) (Rn.s rfl Yv.as (Rn.nil)) (WO.done ?_)
        have hlen2 := allK_len is.length (fun i => meansB job l (nth is (i : Int)))
        generalize hM : allK is.length (fun i => meansB job l (nth is (i : Int))) = M2 at hE hs7 hlen2 ⊢
        have hst7 : St w [] w7 [Ch.row InE 3 L2 cl2 M2, Ch.cells bb1 53 (NeE.cells y), Ch.row InE 3 O co out, Ch.cells ba2 44 ft0.cs] := hs7.pick [0, 3, 4, 5]
        refine Wp.seq (Wp.seq (Wp.reads (is := [0, 1, 2]) (Keep.refl _) (Rn.s rfl Yv.mv (Rn.s rfl (Yv.len_v (e := 3) (m := 1)) (Rn.s rfl (Yv.cmp _ rfl) (Rn.nil)))) ?_))
        refine Wp.cond rfl (fun h2 => ?_) (fun h2 => ?_)
        · have h2 : M2 = [] := by
            have := eq_of_beq h2
            exact List.eq_nil_of_length_eq_zero (by omega)
          rw [if_pos h2] at hE
          rw [hE, if_pos (by decide)] at hF
          have c8 := hst7.cells 1
          refine Wp.seq (Wp.regionL (l := [0, 1, 2, 3, 4]) (WO.rd (is := [0, 1]) (js := [2, 3, 4]) (Keep.refl _) (Rn.s rfl (Yv.fa (off := 1)) (Rn.s rfl (Yv.lds rfl (ne_at c8)) (Rn.nil))) (WO.cv rfl (at_cv 162 y.at_ w7) (Keep.refl _) (FnOk.of Tryd.func41) (fun wd1 kd1 => WO.rd (is := [3]) (js := [4]) ((Keep.refl _).trans kd1) (Rn.s rfl Yv.as (Rn.nil)) (WO.act (hc := rfl) (he := Ef.stores (hst7.quiet kd1) 3 (fun wd2 hsd2 => WO.done ?_)))))))
          refine Wp.ret (Fin.ret (resTA rfl rfl rfl (hsd2.cells 0)) ⟨_, [Ch.row InE 3 none 0 []], rfl, ?_, (hsd2.pick []).nilrow _ _⟩)
          rw [hF]
          exact ⟨none, 0, rfl, rfl⟩
        have h2 : M2 ≠ [] := by
          intro q
          rw [q] at h2
          simp at h2
        rw [if_neg h2] at hE
        rw [hE, if_neg (fun q => q rfl)] at hF
        refine Wp.skip ?_
        refine Wp.regionL (l := [0, 1, 2, 3]) (WO.rd (is := [0, 1]) (js := [2, 3]) (Keep.refl _) (Rn.s rfl Yv.mv (Rn.s rfl Yv.mv (Rn.nil))) (WO.act (hc := rfl) (he := Ef.append (E := InE) (xs := out) (ys := M2) hst7 2 (hst7.rd 0) (fun e => absurd e (rd_some (hst7.rd 0) (List.length_pos_iff.2 h2))) (fitInt (by omega)) ?_)))
        intro A8 c8 w8 hs8
        refine WO.rd (is := [3]) (js := []) (Keep.refl _) (Rn.s rfl Yv.as (Rn.nil)) (WO.done ?_)
        refine Wp.reads (is := [0, 1]) (Keep.refl _) (Rn.s rfl (Yv.add (by unfold inI; omega)) (Rn.s rfl Yv.mv (Rn.nil))) ?_
        have hst8 : St w [] w8 [Ch.row InE 3 A8 c8 (out ++ M2), Ch.cells ba2 44 ft0.cs] := hs8.pick [0, 3]
        exact ⟨k + 1, ⟨rfl, by omega, A8, c8, out ++ M2, hF, by rw [List.length_append]; omega, hst8, rfl, rfl, rfl, rfl, rfl, rfl, trivial⟩, by omega⟩
    · have hlt : k = x.needs.2.2.length := by have := of_decide_eq_false hlt; omega
      subst hlt
      rw [List.drop_length] at hF
      exact Wp.exit ⟨rfl, O, co, out, hF, by omega, hst, rfl, rfl, trivial⟩
  · rintro ρ ds w1 ⟨rfl, O, co, out, hF, hol, hst, hs⟩
    refine Wp.forget _ ?_ hs
    clear hs ρ
    have hsl : (sortI out).length = out.length := List.length_mergeSort out
    refine Wp.seq (Wp.regionL (l := [0, 1]) (WO.rd (is := [0]) (js := [1]) (Keep.refl _) (Rn.s rfl Yv.mv (Rn.nil)) (WO.act (hc := rfl) (he := Ef.callv (caps := #[]) Tryd.func50 (Calls.mono (sort_calls hst (by omega)) ?_)))))
    rintro e w2 ⟨rfl, hs2⟩
    refine WO.done ?_
    rw [← hsl]
    refine Wp.seq (Wp.regionL (l := [0, 1, 2, 3, 4]) (WO.rd (is := [0]) (js := [1, 2, 3, 4]) (Keep.refl _) (Rn.s rfl Yv.mv (Rn.nil)) (WO.act (hc := rfl) (he := Ef.callv (caps := #[]) Tryd.func51 (Calls.mono (compact_calls hs2 (by omega)) ?_)))))
    rintro e w3 ⟨rfl, hs3⟩
    refine WO.rd (is := [2, 3]) (js := [4]) (Keep.refl _) (Rn.s rfl (Yv.bd (cs := ft0.cs)) (Rn.s rfl Yv.as (Rn.nil))) (WO.act (hc := rfl) (he := Ef.stores hs3 1 (fun w4 hs4 => WO.done ?_)))
    refine Wp.ret (Fin.ret (resTA rfl rfl rfl (hs4.cells 0)) ⟨_, _, rfl, ?_, hs4.pick [1]⟩)
    rw [hF]
    exact ⟨O, co, rfl, rfl⟩
end Go.Proofs.YthbehiflmcljcaaDoor.C
