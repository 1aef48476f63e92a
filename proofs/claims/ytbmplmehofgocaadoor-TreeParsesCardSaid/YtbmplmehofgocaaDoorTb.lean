/- The document's reader of a line's text: value and Read: what they say is what scalar.Read says. -/
import Derived.Test.YtbmplmehofgocaaDoorTa
import Derived.Test.YtbmplmehofgocaaDoorR1
import Derived.Test.YtbmplmehofgocaaDoorB6
set_option linter.unusedVariables false
set_option linter.unusedSimpArgs false
set_option maxRecDepth 10000
namespace Go.Proofs.YtbmplmehofgocaaDoor.C
open Go.RowKit Go.Proofs.YtbmplmehofgocaaDoor.Sh
/-! ### 1. where a bare value ends -/
def cutN (s : Bs) (a : Nat) : Nat := a + (Lib.cut (s.drop a) [32, 35]).1.length
theorem cut2_cons (x : UInt8) (r : Bs) : (Lib.cut (x :: r) [32, 35]).1 = if x = 32 ∧ r.head? = some 35 then [] else x :: (Lib.cut r [32, 35]).1 := by
  have hg := Lib.index_ge r [32, 35]
  by_cases h : x = 32 ∧ r.head? = some 35
  · rw [if_pos h]
    obtain ⟨rfl, h2⟩ := h
    cases r with
    | nil => cases h2
    | cons y r =>
      simp at h2
      subst h2
      have e : Lib.index (32 :: 35 :: r) [32, 35] = 0 := by
        unfold Lib.index
        rw [if_pos (by simp [List.isPrefixOf])]
      unfold Lib.cut
      rw [e]
      rfl
  · rw [if_neg h]
    have hp : ([32, 35] : Bs).isPrefixOf (x :: r) = false := by
      cases r with
      | nil => simp [List.isPrefixOf]
      | cons y r =>
        simp only [List.head?_cons, Option.some.injEq, not_and] at h
        by_cases hx : x = 32
        · subst hx
          have hy := h rfl
          simp [List.isPrefixOf]
          exact fun e => hy e.symm
        · simp [List.isPrefixOf]
          intro e
          exact (hx e.symm).elim
    have e : Lib.index (x :: r) [32, 35] = if Lib.index r [32, 35] == -1 then -1 else Lib.index r [32, 35] + 1 := by
      rw [Lib.index, hp]; rfl
    unfold Lib.cut
    rw [e]
    by_cases h1 : Lib.index r [32, 35] = -1
    · rw [h1]; rfl
    · have h2 : (Lib.index r [32, 35] == -1) = false := by simpa using h1
      rw [h2]
      simp only [Bool.false_eq_true, if_false]
      rw [if_pos (by omega), if_pos (by omega)]
      have : (Lib.index r [32, 35] + 1).toNat = (Lib.index r [32, 35]).toNat + 1 := by omega
      rw [this, List.take_succ_cons]
theorem cutN_step {s : Bs} {a : Nat} (h : a < s.length) : cutN s a = if s[a] = 32 ∧ s[a + 1]? = some 35 then a else cutN s (a + 1) := by
  unfold cutN
  rw [List.drop_eq_getElem_cons h, cut2_cons]
  have : (s.drop (a + 1)).head? = s[a + 1]? := by simp [List.head?_drop]
  rw [this]
  split
  · rfl
  · rw [List.length_cons]; omega
theorem cutN_end {s : Bs} {a : Nat} (h : s.length ≤ a) : cutN s a = a := by
  unfold cutN
  rw [List.drop_eq_nil_of_le h]
  rfl
theorem cutN_bd {s : Bs} {a : Nat} (h : a ≤ s.length) : a ≤ cutN s a ∧ cutN s a ≤ s.length := by
  have := cut_fst_le (s.drop a) [32, 35]
  simp only [List.length_drop] at this
  unfold cutN
  omega
theorem cutN_text {s : Bs} {a : Nat} (h : a ≤ s.length) : (s.take (cutN s a)).drop a = (Lib.cut (s.drop a) [32, 35]).1 := by
  have e : (Lib.cut (s.drop a) [32, 35]).1 = (s.drop a).take (Lib.cut (s.drop a) [32, 35]).1.length := by
    have hp : (Lib.cut (s.drop a) [32, 35]).1 <+: s.drop a := by
      unfold Lib.cut
      split
      · exact List.take_prefix _ _
      · exact List.prefix_refl _
    exact (List.prefix_iff_eq_take.1 hp)
  rw [List.drop_take, e]
  congr 1
  unfold cutN
  have : (Lib.cut (s.drop a) [32, 35]).1.length = ((s.drop a).take (Lib.cut (s.drop a) [32, 35]).1.length).length := by rw [← e]
  omega
theorem bare_text {s : Bs} {a : Nat} (h : a ≤ s.length) : (s.take (tEnd s a (cutN s a))).drop a = Lib.trimRightB (Lib.cut (s.drop a) [32, 35]).1 32 := by
  have hb := cutN_bd h
  rw [tEnd_trim s a _ hb.1 hb.2, cutN_text h]
theorem readQ_shift (d : Int) : ∀ (k : Nat) (t : Bs) (n : Int) (acc : Bs), t.length ≤ k → readQ t (n + d) acc = ((readQ t n acc).1, (readQ t n acc).2.1 + d, (readQ t n acc).2.2)
  | k, [], n, acc, _ => by rw [readQ_nil, readQ_nil]
  | 0, b :: t, n, acc, h => by simp at h
  | k + 1, b :: t, n, acc, h => by
    rw [readQ_cons, readQ_cons]
    have e1 : n + d + 1 = n + 1 + d := by omega
    have e2 : n + d + 1 + (escS t).2 = n + 1 + (escS t).2 + d := by omega
    simp only [List.length_cons] at h
    split
    · rw [e1]
    split
    · split
      · rfl
      · rw [e2, readQ_shift d k _ _ _ (by simp; omega)]
    · rw [e1, readQ_shift d k _ _ _ (by omega)]
theorem readQ_at {s : Bs} {g : Nat} (h : g < s.length) : readQ (s.drop (g + 1)) (g + 1) [] = ((quoteR (s.drop g)).1, (quoteR (s.drop g)).2.1 + g, (quoteR (s.drop g)).2.2) := by
  have e : quoteR (s.drop g) = readQ (s.drop (g + 1)) 1 [] := by
    unfold quoteR
    rw [if_neg, List.drop_drop]
    intro q
    have := congrArg List.length q
    simp at this
    omega
  have e2 : ((g : Int) + 1) = 1 + (g : Int) := by omega
  rw [e, e2, readQ_shift g _ _ 1 [] (Nat.le_refl _)]
theorem resATT {P : Program} {fn : Func} {N n : Nat} {ρ : Env} {w : World} {t u v b : Nat} {ty : TypeId} {vs : List Value} {x y : Value} (h : fn.results = #[.cell t ty, .tmp u, .tmp v]) (hp : lk ρ t = some (PB b)) (hx : lk ρ u = some x) (hy : lk ρ v = some y) (hc : Cells w b vs) (hn : vs.length = n := by rfl) (ht : agB P ty n = true := by kernel_rfl) : Res P fn N ρ w (.tuple #[.agg vs.toArray, x, y]) := fun a ds ha => by
  have h1 := ha.val t _ hp
  have h3 := ha.val u _ hx
  have h4 := ha.val v _ hy
  have h2 : (loadVar ty ⟨b, 0, none⟩).run P w = .ok (.agg vs.toArray) w := run_loadVar_ag (agB_of ht) ⟨b, 0, none⟩ vs hn (fun j v hj => by rw [add_off, Nat.zero_add]; exact hc j v hj)
  simp only [results, h]
  simp at h1 h3 h4
  simp [h1, h2, h3, h4, asAddr]
/-! ### 2. value -/
def valC : Oc → Ct × Int × Int
  | .err why col => (ct0, col, why)
  | .ok _ o => (o, 0, 0)
set_option maxHeartbeats 1600000 in
theorem rvalue_cv (s : Bs) (a : Nat) (o : Ct) (ho : o.value = []) (ha : a ≤ s.length) (hl : s.length ≤ 1000000) (w0 : World) :
    Cv Tryd.prog 93 [S s, .int .i64 a, .agg o.cs.toArray] (.tuple #[.agg (valC (valueS s (gapN s a) o)).1.cs.toArray, .int .i64 (valC (valueS s (gapN s a) o)).2.1, .int .i64 (valC (valueS s (gapN s a) o)).2.2]) w0 := by
  intro w hk
  refine calls_of_Wp (vs := [_, _, _]) Tryd.func93 ?_
  refine Wp.seq (Wp.regionL (l := [0, 1, 2, 3]) (WO.act (hc := rfl) (he := Ef.boxL (o.cs) (St.init w) (fun ba1 wa1 ka1 hsa1 => WO.act (hc := rfl) (he := Ef.allocL (vs := [.int .i64 0, S [], .bool false, S [], .int .i64 0, .int .i64 0, .int .i64 0]) hsa1 (fun ba2 wa2 ka2 hsa2 => WO.rd (is := [2, 3]) (js := []) (((Keep.refl _).trans ka1).trans ka2) (Rn.s rfl Yv.as (Rn.s rfl Yv.as (Rn.nil))) (WO.done ?_)))))))
  have hst : St w [] wa2 [Ch.cells ba1 93 o.cs, Ch.cells ba2 93 ct0.cs] := hsa2.pick [1, 0]
  have hg := gapN_le s a ha
  refine Wp.seq (Wp.regionL (l := [0, 1, 2, 3]) (WO.rd (is := [0, 1]) (js := [2, 3]) (Keep.refl _) (Rn.s rfl Yv.mv (Rn.s rfl Yv.mv (Rn.nil))) (WO.cv rfl (rskip_cv s a hl ha _) (Keep.refl _) (FnOk.of Tryd.func115) (fun wx1 kx1 => WO.rd (is := [3]) (js := []) ((Keep.refl _).trans kx1) (Rn.s rfl Yv.as (Rn.nil)) (WO.done ?_)))))
  obtain ⟨g, hge⟩ : ∃ g, g = gapN s a := ⟨_, rfl⟩
  rw [← hge] at hg ⊢
  clear hge
  have hst := hst.quiet kx1
  obtain ⟨-, hgl⟩ := hg
  refine Wp.seq (Wp.seq (Wp.reads (is := [0, 1, 2, 3, 4, 5, 6, 7, 8, 9]) (Keep.refl _) (Rn.s rfl Yv.mv (Rn.s rfl Yv.mv (Rn.s rfl Yv.len_s (Rn.s rfl (Yv.cmp _ rfl) (Rn.s rfl Yv.mv (Rn.or (is := [5, 6, 7, 8, 9]) (js := []) (t := 21) (d := 26) (hg := rfl) (hf := fun h4 => have h4 := ne_of_beq_false h4; Rn.s rfl Yv.mv (Rn.s rfl Yv.mv (Rn.s rfl (Yv.ix (by omega) (by omega)) (Rn.s rfl (Yv.cmp _ rfl) (Rn.s rfl Yv.pick_f ((Rn.e 5 rfl rfl))))))) (ht := fun _ => Rn.no rfl (Rn.no rfl (Rn.no rfl (Rn.no rfl (Rn.s rfl Yv.pick_t (Rn.e 5 rfl rfl)))))) (k := Rn.nil))))))) ?_))
  refine Wp.cond rfl (fun h => ?_) (fun h => ?_)
  · have h : s.length ≤ g ∨ byt s g = 35 := by
      simp only [Bool.or_eq_true, beq_iff_eq] at h
      omega
    rw [valueS, if_pos h]
    have c5 := hst.cells 0
    refine Wp.seq (Wp.regionL (l := [0, 1, 2, 3]) (WO.rd (is := [0]) (js := [1, 2, 3]) (Keep.refl _) (Rn.s rfl (Yv.ldb c5) (Rn.nil)) (WO.act (hc := rfl) (he := Ef.stores hst 1 (fun wy1 hsy1 => WO.rd (is := [2, 3]) (js := []) (Keep.refl _) (Rn.s rfl Yv.as (Rn.s rfl Yv.as (Rn.nil))) (WO.done ?_))))))
    exact Wp.ret (Fin.ret (resATT rfl rfl rfl rfl (hsy1.cells 0)) ⟨rfl, hsy1.keep⟩)
  have h : ¬ (s.length ≤ g ∨ byt s g = 35) := by
    simp only [Bool.or_eq_false_iff, beq_eq_false_iff_ne] at h
    omega
  have hgl2 : g < s.length := by omega
  refine Wp.skip (Wp.seq (Wp.regionL (l := [0, 1]) (WO.rd (is := [0]) (js := [1]) (Keep.refl _) (Rn.s rfl (Yv.fa (off := 2)) (Rn.nil)) (WO.act (hc := rfl) (he := Ef.store hst 0 (fun wb1 hsb1 => WO.done ?_))))))
  refine Wp.seq (Wp.regionL (l := [0, 1, 2, 3]) (WO.rd (is := [0, 1, 2]) (js := [3]) (Keep.refl _) (Rn.s rfl Yv.mv (Rn.s rfl (Yv.add (by unfold inI; omega)) (Rn.s rfl (Yv.fa (off := 6)) (Rn.nil)))) (WO.act (hc := rfl) (he := Ef.store hsb1 0 (fun wc1 hsc1 => WO.done ?_)))))
  obtain ⟨o2, ho2⟩ : ∃ o2 : Ct, o2 = { o with has := true, val := (g : Int) + 1 } := ⟨_, rfl⟩
  have hst : St w [] wc1 [Ch.cells ba1 93 o2.cs, Ch.cells ba2 93 ct0.cs] := by rw [ho2]; exact hsc1
  refine Wp.seq (Wp.seq (Wp.reads (is := [0, 1, 2, 3]) (Keep.refl _) (Rn.s rfl Yv.mv (Rn.s rfl Yv.mv (Rn.s rfl (Yv.ix (by omega) (by omega)) (Rn.s rfl (Yv.cmp _ rfl) (Rn.nil))))) ?_))
  refine Wp.cond rfl (fun h2 => ?_) (fun h2 => ?_)
  · have h2 : byt s g = 34 := eq_of_beq h2
    have hq := quoteR_bd (s.drop g)
    simp only [List.length_drop] at hq
    have e0 : valueS s g o = if (quoteR (s.drop g)).2.2 then
      if gapN s (g + (quoteR (s.drop g)).2.1.toNat) < s.length ∧ (byt s (gapN s (g + (quoteR (s.drop g)).2.1.toNat)) ≠ 35 ∨ gapN s (g + (quoteR (s.drop g)).2.1.toNat) = g + (quoteR (s.drop g)).2.1.toNat) then .err 22 ((gapN s (g + (quoteR (s.drop g)).2.1.toNat) : Nat) + 1)
      else .ok (gapN s (g + (quoteR (s.drop g)).2.1.toNat)) { o with has := true, val := (g : Int) + 1, value := (quoteR (s.drop g)).1 }
      else .err 21 ((g : Int) + (quoteR (s.drop g)).2.1 + 1) := by rw [valueS, if_neg h, if_neg (by simp [h2])]
    have hqc := rquoted_cv s g g rfl hgl2 (by omega) wc1
    rw [readQ_at hgl2] at hqc
    obtain ⟨v, n, ok, hQ⟩ : ∃ v n ok, quoteR (s.drop g) = (v, n, ok) := ⟨_, _, _, rfl⟩
    rw [hQ] at hq e0 hqc
    simp only at hq e0 hqc
    refine Wp.seq (Wp.regionL (l := [0, 1, 2, 3, 4, 5, 6, 7, 8, 9]) (WO.rd (is := [0, 1]) (js := [2, 3, 4, 5, 6, 7, 8, 9]) (Keep.refl _) (Rn.s rfl Yv.mv (Rn.s rfl Yv.mv (Rn.nil))) (WO.cv rfl hqc (Keep.refl _) (FnOk.of Tryd.func94) (fun wy1 ky1 => WO.rd (is := [3, 4, 5, 6, 7, 8, 9]) (js := []) ((Keep.refl _).trans ky1) (Rn.s rfl Yv.mv (Rn.s rfl Yv.ex (Rn.s rfl Yv.ex (Rn.s rfl Yv.ex (Rn.s rfl Yv.as (Rn.s rfl Yv.as (Rn.s rfl Yv.as (Rn.nil)))))))) (WO.done ?_)))))
    have hst := hst.quiet ky1
    refine Wp.seq (Wp.seq (Wp.reads (is := [0, 1]) (Keep.refl _) (Rn.s rfl Yv.mv (Rn.s rfl Yv.not (Rn.nil))) ?_))
    cases ok with
    | false =>
      refine Wp.cond_t rfl ?_
      refine Wp.seq (Wp.regionL (l := [0, 1, 2, 3, 4, 5]) (WO.rd (is := [0, 1, 2]) (js := [3, 4, 5]) (Keep.refl _) (Rn.s rfl (Yv.bd (cs := ct0.cs)) (Rn.s rfl Yv.mv (Rn.s rfl (Yv.add (by unfold inI; omega)) (Rn.nil)))) (WO.act (hc := rfl) (he := Ef.stores hst 1 (fun wz1 hsz1 => WO.rd (is := [4, 5]) (js := []) (Keep.refl _) (Rn.s rfl Yv.as (Rn.s rfl Yv.as (Rn.nil))) (WO.done ?_))))))
      refine Wp.ret (Fin.ret (resATT rfl rfl rfl rfl (hsz1.cells 0)) ⟨?_, hsz1.keep⟩)
      rw [e0]
      have : n + (g : Int) + 1 = (g : Int) + n + 1 := by omega
      rw [this]
      rfl
    | true =>
      refine Wp.cond_f rfl (Wp.skip ?_)
      rw [if_pos rfl] at e0
      obtain ⟨m, hm⟩ : ∃ m : Nat, m = g + n.toNat := ⟨_, rfl⟩
      rw [← hm] at e0
      have e1 : n + (g : Int) = (m : Int) := by omega
      rw [e1]
      have hml : m ≤ s.length := by omega
      have hgm := gapN_le s m hml
      refine Wp.seq (Wp.regionL (l := [0, 1, 2, 3]) (WO.rd (is := [0, 1]) (js := [2, 3]) (Keep.refl _) (Rn.s rfl Yv.mv (Rn.s rfl Yv.mv (Rn.nil))) (WO.cv rfl (rskip_cv s m hl hml _) (Keep.refl _) (FnOk.of Tryd.func115) (fun wz1 kz1 => WO.rd (is := [3]) (js := []) ((Keep.refl _).trans kz1) (Rn.s rfl Yv.as (Rn.nil)) (WO.done ?_)))))
      have hst := hst.quiet kz1
      obtain ⟨E, hE⟩ : ∃ E, E = gapN s m := ⟨_, rfl⟩
      rw [← hE] at e0 hgm ⊢
      refine Wp.seq (Wp.seq (Wp.reads (is := [0, 1, 2, 3, 4, 5, 6, 7, 8, 9, 10, 11, 12, 13, 14]) (Keep.refl _) (Rn.s rfl Yv.mv (Rn.s rfl Yv.mv (Rn.s rfl Yv.len_s (Rn.s rfl (Yv.cmp _ rfl) (Rn.s rfl Yv.mv (Rn.and (is := [5, 6, 7, 8, 9, 10, 11, 12, 13, 14]) (js := []) (t := 55) (d := 65) (hg := rfl) (ht := fun h4 => have h4 := of_decide_eq_true h4; Rn.s rfl Yv.mv (Rn.s rfl Yv.mv (Rn.s rfl (Yv.ix (by omega) (by omega)) (Rn.s rfl (Yv.cmp _ rfl) (Rn.s rfl Yv.mv (Rn.or (is := [10, 11, 12, 13]) (js := [14]) (t := 60) (d := 64) (hg := rfl) (hf := fun h9 => have h9 := bne_eq_false_iff_eq.1 h9; Rn.s rfl Yv.mv (Rn.s rfl Yv.mv (Rn.s rfl (Yv.cmp _ rfl) (Rn.s rfl Yv.pick_f ((Rn.e 4 rfl rfl)))))) (ht := fun _ => Rn.no rfl (Rn.no rfl (Rn.no rfl (Rn.s rfl Yv.pick_t (Rn.e 4 rfl rfl))))) (k := Rn.s rfl Yv.pick_t ((Rn.e 7 rfl rfl))))))))) (hf := fun _ => Rn.no rfl (Rn.no rfl (Rn.no rfl (Rn.no rfl (Rn.no rfl (Rn.no rfl (Rn.no rfl (Rn.no rfl (Rn.no rfl (Rn.s rfl Yv.pick_f (Rn.e 10 rfl rfl))))))))))) (k := Rn.nil))))))) ?_))
      refine Wp.cond rfl (fun h3 => ?_) (fun h3 => ?_)
      · have h3 : E < s.length ∧ (byt s E ≠ 35 ∨ E = m) := by
          simp only [Bool.and_eq_true, Bool.or_eq_true, decide_eq_true_eq, bne_iff_ne, beq_iff_eq] at h3
          omega
        rw [if_pos h3] at e0
        refine Wp.seq (Wp.regionL (l := [0, 1, 2, 3, 4, 5]) (WO.rd (is := [0, 1, 2]) (js := [3, 4, 5]) (Keep.refl _) (Rn.s rfl (Yv.bd (cs := ct0.cs)) (Rn.s rfl Yv.mv (Rn.s rfl (Yv.add (by unfold inI; omega)) (Rn.nil)))) (WO.act (hc := rfl) (he := Ef.stores hst 1 (fun wz1 hsz1 => WO.rd (is := [4, 5]) (js := []) (Keep.refl _) (Rn.s rfl Yv.as (Rn.s rfl Yv.as (Rn.nil))) (WO.done ?_))))))
        refine Wp.ret (Fin.ret (resATT rfl rfl rfl rfl (hsz1.cells 0)) ⟨?_, hsz1.keep⟩)
        rw [e0]
        rfl
      · have h3 : ¬ (E < s.length ∧ (byt s E ≠ 35 ∨ E = m)) := by
          simp only [Bool.and_eq_false_iff, Bool.or_eq_false_iff, decide_eq_false_iff_not, bne_eq_false_iff_eq, beq_eq_false_iff_ne] at h3
          omega
        rw [if_neg h3] at e0
        refine Wp.skip (Wp.seq (Wp.regionL (l := [0, 1, 2]) (WO.rd (is := [0, 1]) (js := [2]) (Keep.refl _) (Rn.s rfl Yv.mv (Rn.s rfl (Yv.fa (off := 3)) (Rn.nil))) (WO.act (hc := rfl) (he := Ef.store hst 0 (fun wz1 hsz1 => WO.done ?_))))))
        have hst : St w [] wz1 [Ch.cells ba1 93 (Ct.cs { o with has := true, val := (g : Int) + 1, value := v }), Ch.cells ba2 93 ct0.cs] := by rw [ho2] at hsz1; exact hsz1
        have c5 := hst.cells 0
        refine Wp.seq (Wp.regionL (l := [0, 1, 2, 3]) (WO.rd (is := [0]) (js := [1, 2, 3]) (Keep.refl _) (Rn.s rfl (Yv.ldb c5) (Rn.nil)) (WO.act (hc := rfl) (he := Ef.stores hst 1 (fun wu1 hsu1 => WO.rd (is := [2, 3]) (js := []) (Keep.refl _) (Rn.s rfl Yv.as (Rn.s rfl Yv.as (Rn.nil))) (WO.done ?_))))))
        refine Wp.ret (Fin.ret (resATT rfl rfl rfl rfl (hsu1.cells 0)) ⟨?_, hsu1.keep⟩)
        rw [e0]
        rfl
  have h2 : byt s g ≠ 34 := ne_of_beq_false h2
  have e0 : valueS s g o = .ok g (bareS s g o2) := by rw [valueS, if_neg h, if_pos h2, ho2]
  rw [e0]
  refine Wp.skip (Wp.seq (Wp.reads (is := [0, 1]) (Keep.refl _) (Rn.s rfl Yv.mv (Rn.s rfl Yv.as (Rn.nil))) ?_))
  refine Wp.seq (Wp.block ?_)
  refine Wp.loop (α := Nat) (fun k ρ ds w' => ds = [] ∧ wc1 = w' ∧ g ≤ k ∧ k ≤ s.length ∧ cutN s k = cutN s g ∧ Sub [(0, S s), (1, .int .i64 (g : Int)), (5, PB ba1), (6, PB ba2), (13, .int .i64 (k : Int))] ρ) (fun k => s.length - k) g
    ⟨rfl, rfl, Nat.le_refl _, hgl, rfl, rfl, rfl, rfl, rfl, rfl, trivial⟩ ?_
  rintro k ρ ds w' ⟨rfl, rfl, hk0, hk1, hcn, hs⟩
  refine Wp.forget _ ?_ hs
  refine Wp.seq (Wp.seq (Wp.reads (is := [0, 1, 2, 3, 4, 5, 6, 7, 8, 9, 10, 11, 12, 13, 14, 15, 16, 17, 18, 19, 20, 21, 22, 23, 24]) (Keep.refl _) (Rn.s rfl Yv.mv (Rn.s rfl Yv.mv (Rn.s rfl Yv.len_s (Rn.s rfl (Yv.cmp _ rfl) (Rn.s rfl Yv.mv (Rn.and (is := [5, 6, 7, 8, 9, 10, 11, 12, 13, 14, 15, 16, 17, 18, 19, 20, 21, 22, 23, 24]) (js := []) (t := 77) (d := 97) (hg := rfl) (ht := fun h4 => have h4 := of_decide_eq_true h4; Rn.s rfl Yv.mv (Rn.s rfl Yv.mv (Rn.s rfl (Yv.ix (by omega) (by omega)) (Rn.s rfl (Yv.cmp _ rfl) (Rn.s rfl Yv.mv (Rn.and (is := [10, 11, 12, 13, 14, 15]) (js := [16, 17, 18, 19, 20, 21, 22, 23, 24]) (t := 82) (d := 88) (hg := rfl) (ht := fun h9 => have h9 := eq_of_beq h9; Rn.s rfl Yv.mv (Rn.s rfl (Yv.add (by unfold inI; omega)) (Rn.s rfl Yv.mv (Rn.s rfl Yv.len_s (Rn.s rfl (Yv.cmp _ rfl) (Rn.s rfl Yv.pick_t ((Rn.e 6 rfl rfl)))))))) (hf := fun _ => Rn.no rfl (Rn.no rfl (Rn.no rfl (Rn.no rfl (Rn.no rfl (Rn.s rfl Yv.pick_f (Rn.e 6 rfl rfl))))))) (k := Rn.s rfl Yv.mv (Rn.and (is := [17, 18, 19, 20, 21, 22]) (js := [23, 24]) (t := 89) (d := 95) (hg := rfl) (ht := fun h16 => have h16 : (k : Int) + 1 < (s.length : Int) := (by simp only [Bool.and_eq_true, decide_eq_true_eq] at h16; exact h16.2); Rn.s rfl Yv.mv (Rn.s rfl Yv.mv (Rn.s rfl (Yv.add (by unfold inI; omega)) (Rn.s rfl (Yv.ix (by omega) (by omega)) (Rn.s rfl (Yv.cmp _ rfl) (Rn.s rfl Yv.pick_t ((Rn.e 6 rfl rfl)))))))) (hf := fun _ => Rn.no rfl (Rn.no rfl (Rn.no rfl (Rn.no rfl (Rn.no rfl (Rn.s rfl Yv.pick_f (Rn.e 6 rfl rfl))))))) (k := Rn.s rfl Yv.not (Rn.s rfl Yv.pick_t ((Rn.e 10 rfl rfl)))))))))))) (hf := fun _ => Rn.no rfl (Rn.no rfl (Rn.no rfl (Rn.no rfl (Rn.no rfl (Rn.no rfl (Rn.no rfl (Rn.no rfl (Rn.no rfl (Rn.no rfl (Rn.no rfl (Rn.no rfl (Rn.no rfl (Rn.no rfl (Rn.no rfl (Rn.no rfl (Rn.no rfl (Rn.no rfl (Rn.no rfl (Rn.s rfl Yv.pick_f (Rn.e 20 rfl rfl))))))))))))))))))))) (k := Rn.nil))))))) ?_))
  refine Wp.cond rfl (fun h3 => ?_) (fun h3 => ?_)
  · simp only [Bool.and_eq_true, decide_eq_true_eq, Bool.not_eq_true', Bool.and_eq_false_iff, beq_eq_false_iff_ne, decide_eq_false_iff_not] at h3
    have hkl : k < s.length := by omega
    rw [cutN_step hkl, if_neg] at hcn
    · refine Wp.skip (Wp.block (Wp.reads (is := [0, 1, 2]) (Keep.refl _) (Rn.s rfl Yv.mv (Rn.s rfl (Yv.add (by unfold inI; omega)) (Rn.s rfl Yv.as (Rn.nil)))) ?_))
      exact ⟨k + 1, ⟨rfl, rfl, by omega, hkl, hcn, rfl, rfl, rfl, rfl, rfl, trivial⟩, by omega⟩
    · rintro ⟨q1, q2⟩
      have hk1l : k + 1 < s.length := (List.getElem?_eq_some_iff.1 q2).1
      have b1 := (byt_eq_iff hkl 32).2 q1
      have b2 : byt s ((k : Int) + 1) = 35 := by
        have := byt_of q2
        simpa using this
      rcases h3.2 with (h4 | h4) | h4
      · exact h4 b1
      · omega
      · exact h4 b2
  have hke : k = cutN s g := by
    rw [← hcn]
    by_cases hkl : k < s.length
    · have h4 : byt s k = 32 ∧ (k : Int) + 1 < s.length ∧ byt s ((k : Int) + 1) = 35 := by
        have : decide ((k : Int) < (s.length : Int)) = true := by simpa using hkl
        rw [this, Bool.true_and] at h3
        simp only [Bool.not_eq_false', Bool.and_eq_true, beq_iff_eq, decide_eq_true_eq] at h3
        exact ⟨h3.1.1, h3.1.2, h3.2⟩
      have hk1l : k + 1 < s.length := by omega
      rw [cutN_step hkl, if_pos]
      refine ⟨(byt_eq_iff hkl 32).1 h4.1, ?_⟩
      rw [List.getElem?_eq_getElem hk1l]
      have := (byt_eq_iff hk1l 35).1 (by have := h4.2.2; simpa using this)
      rw [this]
    · exact (cutN_end (by omega)).symm
  subst hke
  clear h3 hcn hs ρ hk0 hk1
  have hcb := cutN_bd hgl
  refine Wp.exit ?_
  refine Wp.seq (Wp.block ?_)
  refine Wp.loop (α := Nat) (fun b ρ ds w' => ds = [] ∧ wc1 = w' ∧ g ≤ b ∧ b ≤ s.length ∧ tEnd s g b = tEnd s g (cutN s g) ∧ Sub [(0, S s), (1, .int .i64 (g : Int)), (5, PB ba1), (6, PB ba2), (13, .int .i64 (b : Int))] ρ) (fun b => b) (cutN s g)
    ⟨rfl, rfl, hcb.1, hcb.2, rfl, rfl, rfl, rfl, rfl, rfl, trivial⟩ ?_
  rintro b ρ ds w' ⟨rfl, rfl, hb0, hb1, hte, hs⟩
  refine Wp.forget _ ?_ hs
  refine Wp.seq (Wp.seq (Wp.reads (is := [0, 1, 2, 3, 4, 5, 6, 7, 8, 9]) (Keep.refl _) (Rn.s rfl Yv.mv (Rn.s rfl Yv.mv (Rn.s rfl (Yv.cmp _ rfl) (Rn.s rfl Yv.mv (Rn.and (is := [4, 5, 6, 7, 8, 9]) (js := []) (t := 103) (d := 109) (hg := rfl) (ht := fun h3 => have h3 := of_decide_eq_true h3; Rn.s rfl Yv.mv (Rn.s rfl Yv.mv (Rn.s rfl (Yv.sub ⟨by omega, by omega⟩) (Rn.s rfl (Yv.ix (by omega) (by omega)) (Rn.s rfl (Yv.cmp _ rfl) (Rn.s rfl Yv.pick_t ((Rn.e 6 rfl rfl)))))))) (hf := fun _ => Rn.no rfl (Rn.no rfl (Rn.no rfl (Rn.no rfl (Rn.no rfl (Rn.s rfl Yv.pick_f (Rn.e 6 rfl rfl))))))) (k := Rn.nil)))))) ?_))
  refine Wp.cond rfl (fun h3 => ?_) (fun h3 => ?_)
  · simp only [Bool.and_eq_true, decide_eq_true_eq, beq_iff_eq] at h3
    obtain ⟨b', rfl⟩ : ∃ b', b = b' + 1 := ⟨b - 1, by omega⟩
    have e1 : ((b' + 1 : Nat) : Int) - 1 = (b' : Int) := by omega
    rw [e1] at h3
    rw [tEnd, if_pos ⟨by omega, h3.2⟩] at hte
    refine Wp.skip (Wp.block (Wp.reads (is := [0, 1, 2]) (Keep.refl _) (Rn.s rfl Yv.mv (Rn.s rfl (Yv.sub (by unfold inI; omega)) (Rn.s rfl Yv.as (Rn.nil)))) ?_))
    exact ⟨b', ⟨rfl, rfl, by omega, by omega, hte, rfl, rfl, rfl, rfl, by rw [← e1]; rfl, trivial⟩, by omega⟩
  have e2 : tEnd s g b = b := by
    cases b with
    | zero => rfl
    | succ b' =>
      rw [tEnd, if_neg]
      rintro ⟨q1, q2⟩
      have e1 : ((b' + 1 : Nat) : Int) - 1 = (b' : Int) := by omega
      rw [e1] at h3
      simp only [Bool.and_eq_false_iff, decide_eq_false_iff_not, beq_eq_false_iff_ne] at h3
      rcases h3 with h3 | h3
      · omega
      · exact h3 q2
  rw [e2] at hte
  have htx : (s.take b).drop g = Lib.trimRightB (Lib.cut (s.drop g) [32, 35]).1 32 := by rw [hte]; exact bare_text hgl
  refine Wp.exit ?_
  refine Wp.seq (Wp.regionL (l := [0, 1, 2, 3, 4, 5]) (WO.rd (is := [0, 1, 2, 3, 4]) (js := [5]) (Keep.refl _) (Rn.s rfl Yv.mv (Rn.s rfl Yv.mv (Rn.s rfl Yv.mv (Rn.s rfl (Yv.ss_ft (by omega) (by omega) (by omega)) (Rn.s rfl (Yv.fa (off := 3)) (Rn.nil)))))) (WO.act (hc := rfl) (he := Ef.store hst 0 (fun wy1 hsy1 => WO.done ?_)))))
  rw [Int.toNat_natCast, Int.toNat_natCast, htx] at hsy1
  unfold bareS
  obtain ⟨T, hT⟩ : ∃ T, T = Lib.trimRightB (Lib.cut (s.drop g) [32, 35]).1 32 := ⟨_, rfl⟩
  simp only [← hT] at hsy1 ⊢
  have hst : St w [] wy1 [Ch.cells ba1 93 (Ct.cs { o2 with value := T }), Ch.cells ba2 93 ct0.cs] := hsy1
  have c5 := hst.cells 0
  have hv2 : o2.value = [] := by rw [ho2]; exact ho
  refine Wp.seq (Wp.seq (Wp.reads (is := [0, 1, 2]) (Keep.refl _) (Rn.s rfl (Yv.fa (off := 3)) (Rn.s rfl (Yv.ld (c5.at_ 3)) (Rn.s rfl (Yv.scm _ rfl) (Rn.nil)))) ?_))
  refine Wp.cond rfl (fun h3 => ?_) (fun h3 => ?_)
  · have h3 : T = [91, 93] := by simpa using h3
    rw [if_pos h3]
    refine Wp.seq (Wp.regionL (l := [0, 1]) (WO.rd (is := [0]) (js := [1]) (Keep.refl _) (Rn.s rfl (Yv.fa (off := 3)) (Rn.nil)) (WO.act (hc := rfl) (he := Ef.store hst 0 (fun wz1 hsz1 => WO.done ?_)))))
    refine Wp.regionL (l := [0, 1]) (WO.rd (is := [0]) (js := [1]) (Keep.refl _) (Rn.s rfl (Yv.fa (off := 4)) (Rn.nil)) (WO.act (hc := rfl) (he := Ef.store hsz1 0 (fun wu1 hsu1 => WO.done ?_))))
    have hst : St w [] wu1 [Ch.cells ba1 93 (Ct.cs { o2 with value := [], empty := 1 }), Ch.cells ba2 93 ct0.cs] := hsu1
    have c5 := hst.cells 0
    refine Wp.seq (Wp.seq (Wp.reads (is := [0, 1, 2]) (Keep.refl _) (Rn.s rfl (Yv.fa (off := 3)) (Rn.s rfl (Yv.ld (c5.at_ 3)) (Rn.s rfl (Yv.scm _ rfl) (Rn.nil)))) ?_))
    refine Wp.cond_f rfl (Wp.skip ?_)
    refine Wp.seq (Wp.regionL (l := [0, 1, 2, 3]) (WO.rd (is := [0]) (js := [1, 2, 3]) (Keep.refl _) (Rn.s rfl (Yv.ldb c5) (Rn.nil)) (WO.act (hc := rfl) (he := Ef.stores hst 1 (fun wv1 hsv1 => WO.rd (is := [2, 3]) (js := []) (Keep.refl _) (Rn.s rfl Yv.as (Rn.s rfl Yv.as (Rn.nil))) (WO.done ?_))))))
    refine Wp.ret (Fin.ret (resATT rfl rfl rfl rfl (hsv1.cells 0)) ⟨?_, hsv1.keep⟩)
    have : ({ o2 with value := [], empty := 1 } : Ct) = { o2 with empty := 1 } := by rw [← hv2]
    rw [this]; rfl
  have h3 : T ≠ [91, 93] := by simpa using h3
  rw [if_neg h3]
  refine Wp.skip (Wp.seq (Wp.seq (Wp.reads (is := [0, 1, 2]) (Keep.refl _) (Rn.s rfl (Yv.fa (off := 3)) (Rn.s rfl (Yv.ld (c5.at_ 3)) (Rn.s rfl (Yv.scm _ rfl) (Rn.nil)))) ?_)))
  refine Wp.cond rfl (fun h4 => ?_) (fun h4 => ?_)
  · have h4 : T = [123, 125] := by simpa using h4
    rw [if_pos h4]
    refine Wp.seq (Wp.regionL (l := [0, 1]) (WO.rd (is := [0]) (js := [1]) (Keep.refl _) (Rn.s rfl (Yv.fa (off := 3)) (Rn.nil)) (WO.act (hc := rfl) (he := Ef.store hst 0 (fun wz1 hsz1 => WO.done ?_)))))
    refine Wp.regionL (l := [0, 1]) (WO.rd (is := [0]) (js := [1]) (Keep.refl _) (Rn.s rfl (Yv.fa (off := 4)) (Rn.nil)) (WO.act (hc := rfl) (he := Ef.store hsz1 0 (fun wu1 hsu1 => WO.done ?_))))
    have hst : St w [] wu1 [Ch.cells ba1 93 (Ct.cs { o2 with value := [], empty := 2 }), Ch.cells ba2 93 ct0.cs] := hsu1
    have c5 := hst.cells 0
    refine Wp.seq (Wp.regionL (l := [0, 1, 2, 3]) (WO.rd (is := [0]) (js := [1, 2, 3]) (Keep.refl _) (Rn.s rfl (Yv.ldb c5) (Rn.nil)) (WO.act (hc := rfl) (he := Ef.stores hst 1 (fun wv1 hsv1 => WO.rd (is := [2, 3]) (js := []) (Keep.refl _) (Rn.s rfl Yv.as (Rn.s rfl Yv.as (Rn.nil))) (WO.done ?_))))))
    refine Wp.ret (Fin.ret (resATT rfl rfl rfl rfl (hsv1.cells 0)) ⟨?_, hsv1.keep⟩)
    have : ({ o2 with value := [], empty := 2 } : Ct) = { o2 with empty := 2 } := by rw [← hv2]
    rw [this]; rfl
  have h4 : T ≠ [123, 125] := by simpa using h4
  rw [if_neg h4]
  refine Wp.skip (Wp.seq (Wp.regionL (l := [0, 1, 2, 3]) (WO.rd (is := [0]) (js := [1, 2, 3]) (Keep.refl _) (Rn.s rfl (Yv.ldb c5) (Rn.nil)) (WO.act (hc := rfl) (he := Ef.stores hst 1 (fun wv1 hsv1 => WO.rd (is := [2, 3]) (js := []) (Keep.refl _) (Rn.s rfl Yv.as (Rn.s rfl Yv.as (Rn.nil))) (WO.done ?_)))))))
  exact Wp.ret (Fin.ret (resATT rfl rfl rfl rfl (hsv1.cells 0)) ⟨rfl, hsv1.keep⟩)
end Go.Proofs.YtbmplmehofgocaaDoor.C
