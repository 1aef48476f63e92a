/- GraphCycles walked. What an order's steps are. -/
import Derived.Test.YthbehiflmcljcaaDoorGs
set_option linter.unusedVariables false
set_option linter.unusedSimpArgs false
set_option maxRecDepth 10000
namespace Go.Proofs.YthbehiflmcljcaaDoor.C
open Go.RowKit Go.Proofs.YthbehiflmcljcaaDoor.Sh
theorem has_cv (A : Option Addr) (n c : Nat) (xs : Is) (x : Int) (w0 : World) (hr : Rd InE w0 A xs) (hn : n = xs.length) (hl : xs.length ≤ 9223372036854775806) : Cv Tryd.prog 21 [.slice A n c, .int .i64 x] (.bool (decide (x ∈ xs))) w0 := by
  subst hn
  intro w hk
  have hr := hr.keep hk
  refine calls_of_Wp (vs := [_, _]) Tryd.func21 ?_
  refine Wp.seq (Wp.reads (is := [0]) (Keep.refl _) (Rn.s rfl Yv.as (Rn.nil)) ?_)
  refine Wp.seq (Wp.seq (Wp.reads (is := [0]) (Keep.refl _) (Rn.s rfl Yv.as (Rn.nil)) ?_))
  refine Wp.block ?_
  refine Wp.loop (α := Nat) (fun k ρ ds w' => ds = [] ∧ Keep w w' ∧ k ≤ xs.length ∧ x ∉ xs.take k ∧ Sub [(0, .slice A xs.length c), (1, .int .i64 x), (5, .int .i64 (k : Int))] ρ) (fun k => xs.length - k) 0
    ⟨rfl, Keep.refl _, by omega, by simp, rfl, rfl, rfl, trivial⟩ ?_
  rintro k ρ ds w1 ⟨rfl, hk1, hkl, hno, hs⟩
  refine Wp.forget _ ?_ hs
  have hr1 := hr.keep hk1
  refine Wp.seq (Wp.seq (Wp.reads (is := [0, 1, 2, 3]) (Keep.refl _) (Rn.s rfl Yv.mv (Rn.s rfl Yv.mv (Rn.s rfl (Yv.len_v (e := 3) (m := 1)) (Rn.s rfl (Yv.cmp _ rfl) (Rn.nil))))) ?_))
  refine Wp.cond rfl (fun h => ?_) (fun h => ?_)
  · have h : k < xs.length := by have := of_decide_eq_true h; omega
    refine Wp.skip (Wp.seq (Wp.block ?_))
    refine Wp.seq (Wp.reads (is := [0, 1, 2, 3, 4, 5]) (Keep.refl _) (Rn.s rfl Yv.mv (Rn.s rfl Yv.mv (Rn.s rfl (Yv.ia (e := 3) hr1 (by omega) (by omega)) (Rn.s rfl (Yv.ld (hr1.ld 0 (by omega) (by omega))) (Rn.s rfl Yv.mv (Rn.s rfl (Yv.cmp _ rfl) (Rn.nil))))))) ?_)
    refine Wp.cond rfl (fun h2 => ?_) (fun h2 => ?_)
    · have h2 := eq_of_beq h2
      refine Wp.seq (Wp.reads (is := [0]) (Keep.refl _) (Rn.s rfl Yv.as (Rn.nil)) ?_)
      refine Wp.ret (Fin.ret (Res.one rfl rfl) ⟨?_, hk1⟩)
      rw [decide_eq_true]
      rw [← h2]
      exact nth_mem' h
    · have h2 := ne_of_beq_false h2
      refine Wp.skip (Wp.reads (is := [0, 1, 2]) (Keep.refl _) (Rn.s rfl Yv.mv (Rn.s rfl (Yv.add (by unfold inI; omega)) (Rn.s rfl Yv.as (Rn.nil)))) ?_)
      refine ⟨k + 1, ⟨rfl, hk1, by omega, ?_, rfl, rfl, rfl, trivial⟩, by omega⟩
      rw [mem_take_succ h]
      rintro (q | q)
      · exact hno q
      · exact h2 q.symm
  · have h : k = xs.length := by have := of_decide_eq_false h; omega
    subst h
    rw [List.take_length] at hno
    refine Wp.exit (Wp.seq (Wp.reads (is := [0]) (Keep.refl _) (Rn.s rfl Yv.as (Rn.nil)) ?_))
    refine Wp.ret (Fin.ret (Res.one rfl rfl) ⟨?_, hk1⟩)
    rw [decide_eq_false hno]
theorem ls_of {w0 w : World} {M : List Nat} {D : List Chunk} {O : Option Addr} {co : Nat} {rr : List Sl} (h : St w0 M w D) (h1 : Ch.row ShE 23 O co rr ∈ D) (h2 : ∀ C ∈ RsD rr, C ∈ D) : LsAt w O rr :=
  ⟨row_rd (h.ok _ h1), fun y hy => row_rd (h.ok (RsC y) (h2 _ (List.mem_map.2 ⟨y, hy, rfl⟩)))⟩
theorem pl_len {rr ls : List Sl} (h : pl rr = pl ls) : rr.length = ls.length := by
  have := congrArg List.length h
  simpa using this
theorem pl_bound {rr ls : List Sl} {b : Nat} (h : pl rr = pl ls) (hb : ∀ x ∈ ls, x.2.2.length ≤ b) : ∀ x ∈ rr, x.2.2.length ≤ b := fun x hx => by
  have h1 : x.2.2 ∈ pl rr := List.mem_map.2 ⟨x, hx, rfl⟩
  rw [h] at h1
  obtain ⟨y, hy, e⟩ := List.mem_map.1 h1
  rw [← e]
  exact hb y hy
theorem nodup_notin {c : Is} (h : c.Nodup) {i : Nat} (hi : i < c.length) : nth c (i : Int) ∉ c.take i := by
  intro hm
  rw [nth_getElem hi] at hm
  obtain ⟨m, hm, e⟩ := List.mem_iff_getElem.1 hm
  rw [List.length_take] at hm
  rw [List.getElem_take] at e
  exact List.pairwise_iff_getElem.1 h m i (by omega) hi (by omega) e
theorem cycles_calls (A : Option Addr) (c : Nat) (ls : List Sl) (w : World) (h : LsAt w A ls) (hcap : CapOk ls) (hl : ls.length ≤ 5864062014804) (hb : ∀ x ∈ ls, x.2.2.length ≤ 17592186044416) :
    Calls Tryd.prog 6 #[.slice A ls.length c] w fun e w' => e = .returned (.bool true) ∧ Keep w w' := by
  have hpl : (pl ls).length = ls.length := List.length_map ..
  refine calls_of_Wp (vs := [_]) Tryd.func6 ?_
  refine Wp.seq (Wp.reads (is := [0]) (Keep.refl _) (Rn.s rfl Yv.as (Rn.nil)) ?_)
  refine Wp.seq (Wp.regionL (l := [0, 1, 2]) (WO.rd (is := [0]) (js := [1, 2]) (Keep.refl _) (Rn.s rfl Yv.mv (Rn.nil)) (WO.act (hc := rfl) (he := Ef.cx (caps := []) (A := []) (copyl_cx A c ls w h hcap hl hb) (St.init w) (FnOk.of Tryd.func11) ?_))))
  rintro v D w1 ⟨O, co, rr, hrr, rfl, rfl⟩ hs1
  refine WO.rd (is := [2]) (js := []) (Keep.refl _) (Rn.s rfl Yv.as (Rn.nil)) (WO.done ?_)
  have hs1 : St w [] w1 (Ch.row ShE 23 O co rr :: RsD rr) := by simpa using hs1
  have hrl := pl_len hrr
  have hrb := pl_bound hrr hb
  have hl1 : LsAt w1 O rr := ls_of hs1 (List.mem_cons_self ..) (fun C hC => List.mem_cons_of_mem _ hC)
  refine Wp.seq (Wp.regionL (l := [0, 1, 2]) (WO.rd (is := [0]) (js := [1, 2]) (Keep.refl _) (Rn.s rfl Yv.mv (Rn.nil)) (WO.act (hc := rfl) (he := Ef.cx (caps := []) (A := []) (cycle_cx O co rr w1 hl1 (by omega) hrb) hs1 (FnOk.of Tryd.func20) ?_))))
  rintro v D w2 ⟨L, cl, cyc, rfl, rfl, hcy, hcn⟩ hs2
  refine WO.rd (is := [2]) (js := []) (Keep.refl _) (Rn.s rfl Yv.as (Rn.nil)) (WO.done ?_)
  rw [hrr, hrl] at hcy hcn
  refine Wp.seq (Wp.regionL (l := [0, 1, 2, 3]) (WO.rd (is := [0, 1]) (js := [2, 3]) (Keep.refl _) (Rn.s rfl Yv.mv (Rn.s rfl (Yv.len_v (e := 23) (m := 1)) (Rn.nil))) (WO.act (hc := rfl) (he := Ef.mks (T := 3) (bytes := 8) InE (0 : Int) (.int .i64 0) (by omega) (by omega) hs2 (fun ba1 wa1 ka1 hsa1 => WO.rd (is := [3]) (js := []) ((Keep.refl _).trans ka1) (Rn.s rfl Yv.as (Rn.nil)) (WO.done ?_))))))
  have h3 := h.keep hsa1.keep
  refine Wp.seq (Wp.regionL (l := [0, 1, 2, 3, 4, 5, 6, 7, 8]) (WO.rd (is := [0]) (js := [1, 2, 3, 4, 5, 6, 7, 8]) (Keep.refl _) (Rn.s rfl Yv.mv (Rn.nil)) (WO.act (hc := rfl) (he := Ef.cx (caps := []) (A := []) (copyl_cx A c ls wa1 h3 hcap hl hb) hsa1 (FnOk.of Tryd.func11) ?_))))
  rintro v D w4 ⟨O2, co2, rr2, hrr2, rfl, rfl⟩ hs4
  have hrl2 := pl_len hrr2
  have hl4 : LsAt w4 O2 rr2 := ls_of (co := co2) hs4 (List.mem_append.2 (.inl (List.mem_cons_self ..))) (fun C hC => List.mem_append.2 (.inl (List.mem_cons_of_mem _ hC)))
  have hz : Rd InE w4 (some ⟨ba1, 0, none⟩) (List.replicate ls.length 0) := row_rd (hs4.ok (Ch.row InE 3 (some ⟨ba1, 0, none⟩) ls.length (List.replicate ls.length 0)) (by simp))
  have hzl : (List.replicate ls.length (0 : Int)).length = ls.length := List.length_replicate
  have hO := order_cx O2 co2 rr2 (some ⟨ba1, 0, none⟩) ls.length (List.replicate ls.length 0) w4 hl4 hz (by omega) (pl_bound hrr2 hb) (by omega)
  rw [hrr2, hzl] at hO
  refine WO.rd (is := [2]) (js := [3, 4, 5, 6, 7, 8]) (Keep.refl _) (Rn.s rfl Yv.mv (Rn.nil)) (WO.act (hc := rfl) (he := Ef.cx (caps := []) (A := []) hO hs4 (FnOk.of Tryd.func13) ?_))
  rintro v D w5 ⟨Oo, coo, rfl, rfl⟩ hs5
  refine WO.rd (is := [4, 5, 6, 7, 8]) (js := []) (Keep.refl _) (Rn.s rfl Yv.mv (Rn.s rfl Yv.ex (Rn.s rfl Yv.ex (Rn.s rfl Yv.as (Rn.s rfl Yv.as (Rn.nil)))))) (WO.done ?_)
  have hl5 : LsAt w5 O rr := ls_of (co := co) hs5 (by simp) (fun C hC => List.mem_cons_of_mem _ (List.mem_append.2 (.inr (by simp [hC]))))
  have hrc : Rd InE w5 L cyc := row_rd (hs5.ok (Ch.row InE 3 L cl cyc) (by simp))
  have hccap : cyc.length ≤ 9223372036854775806 := by
    by_cases q : orderC (pl ls) (List.replicate ls.length 0) = 163
    · obtain ⟨-, q2⟩ := hcy q
      have q3 : cyc ⊆ (List.range ls.length).map (fun i : Nat => (i : Int)) := fun x hx => by
        obtain ⟨i, hi, rfl⟩ := q2.mem x hx
        exact List.mem_map.2 ⟨i, List.mem_range.2 (by omega), rfl⟩
      have := q2.nodup.length_le_of_subset q3
      simp at this
      omega
    · rw [hcn q]; simp
  have h5 := h.keep hs5.keep
  generalize hC : orderC (pl ls) (List.replicate ls.length 0) = code at hcy hcn ⊢
  have hsm := samel_cv O co rr A c ls w5 hl5 h5 (by omega) (fun x hx => by have := hrb x hx; omega)
  rw [decide_eq_true hrr] at hsm
  refine Wp.seq (Wp.seq (Wp.regionL (l := [0, 1, 2, 3, 4, 5, 6, 7, 8, 9, 10, 11]) (WO.rd (is := [0, 1]) (js := [2, 3, 4, 5, 6, 7, 8, 9, 10, 11]) (Keep.refl _) (Rn.s rfl Yv.mv (Rn.s rfl Yv.mv (Rn.nil))) (WO.cv rfl hsm (Keep.refl _) (FnOk.of Tryd.func14) (fun wb1 kb1 => WO.rd (is := [3, 4, 5, 6, 7, 8, 9, 10, 11]) (js := []) ((Keep.refl _).trans kb1) (Rn.s rfl Yv.not (Rn.s rfl Yv.mv (Rn.or (is := [5, 6, 7, 8, 9, 10, 11]) (js := []) (t := 28) (d := 35) (hg := rfl) (hf := fun h4 => Rn.s rfl Yv.mv (Rn.s rfl (Yv.cmp _ rfl) (Rn.s rfl Yv.mv (Rn.s rfl (Yv.len_v (e := 3) (m := 1)) (Rn.s rfl (Yv.cmp _ rfl) (Rn.s rfl (Yv.bcm _ rfl) (Rn.s rfl Yv.pick_f ((Rn.e 7 rfl rfl))))))))) (ht := fun _ => Rn.no rfl (Rn.no rfl (Rn.no rfl (Rn.no rfl (Rn.no rfl (Rn.no rfl (Rn.s rfl Yv.pick_t (Rn.e 7 rfl rfl)))))))) (k := Rn.nil)))) (WO.done ?_))))))
  have hk5 := hs5.keep.trans kb1
  have hrc := hrc.keep kb1
  have h5 := h5.keep kb1
  have hiff : ((code == 163) != (decide (0 < (cyc.length : Int)))) = false := by
    by_cases q : code = 163
    · have := List.length_pos_iff.2 (hcy q).1
      have e : decide (0 < (cyc.length : Int)) = true := decide_eq_true (by omega)
      rw [e, q]; rfl
    · rw [hcn q]
      simp [q]
  rw [hiff]
  refine Wp.cond_f rfl ?_
  refine Wp.skip ?_
  have hC2 : cyc ≠ [] → CycOk (pl ls) cyc := fun q => (hcy (Classical.byContradiction fun r => q (hcn r))).2
  refine Wp.seq (Wp.seq (Wp.reads (is := [0]) (Keep.refl _) (Rn.s rfl Yv.as (Rn.nil)) ?_))
  refine Wp.block ?_
  refine Wp.loop (α := Nat) (fun i ρ ds w' => ds = [] ∧ Keep wb1 w' ∧ i ≤ cyc.length ∧ Sub [(0, .slice A ls.length c), (4, .slice L cyc.length cl), (8, .int .i64 (i : Int))] ρ) (fun i => cyc.length - i) 0
    ⟨rfl, Keep.refl _, by omega, rfl, rfl, rfl, trivial⟩ ?_
  rintro i ρ ds w6 ⟨rfl, hk6, hi, hs⟩
  refine Wp.forget _ ?_ hs
  clear hs ρ
  refine Wp.seq (Wp.seq (Wp.reads (is := [0, 1, 2, 3]) (Keep.refl _) (Rn.s rfl Yv.mv (Rn.s rfl Yv.mv (Rn.s rfl (Yv.len_v (e := 3) (m := 1)) (Rn.s rfl (Yv.cmp _ rfl) (Rn.nil))))) ?_))
  refine Wp.cond rfl (fun hlt => ?_) (fun hlt => ?_)
  · have hlt : i < cyc.length := by have := of_decide_eq_true hlt; omega
    have hok := hC2 (by intro q; rw [q] at hlt; simp at hlt)
    have hr6 := hrc.keep hk6
    have h6 := h5.keep hk6
    refine Wp.skip (Wp.seq (Wp.block ?_))
    have hmod : ((i : Int) + 1) % (cyc.length : Int) = (((i + 1) % cyc.length : Nat) : Int) := by
      rw [Int.natCast_emod]
      rfl
    have hml : (i + 1) % cyc.length < cyc.length := Nat.mod_lt _ (by omega)
    obtain ⟨a, ha, hae⟩ := hok.mem _ (nth_mem' hlt)
    obtain ⟨b, hbn, hbe⟩ := hok.mem _ (nth_mem' hml)
    have hnx := hok.next i hlt
    have hnt := nodup_notin hok.nodup hlt
    rw [hbe, nth_pl] at hnx
    refine Wp.seq (Wp.reads (is := [0, 1, 2, 3, 4, 5, 6, 7, 8]) (Keep.refl _) (Rn.s rfl Yv.mv (Rn.s rfl Yv.mv (Rn.s rfl (Yv.add ⟨by omega, by omega⟩) (Rn.s rfl Yv.mv (Rn.s rfl (Yv.len_v (e := 3) (m := 1)) (Rn.s rfl (Yv.rem (by omega) (by omega) (by omega)) (Rn.s rfl (Yv.ia (e := 3) hr6 (by rw [hmod]; omega) (by rw [hmod]; omega)) (Rn.s rfl (Yv.ld (hr6.ld 0 (by rw [hmod]; omega) (by rw [hmod]; omega))) (Rn.s rfl Yv.as (Rn.nil)))))))))) ?_)
    rw [hmod, hbe]
    have hbl : b < ls.length := by omega
    have hal : a < ls.length := by omega
    have hlb := h6.rd
    have hat := h6.at_ hbl
    have hatl := hb _ (nth_mem' hbl)
    have htk := rd_take hr6 i
    have htl : i = (cyc.take i).length := by rw [List.length_take]; omega
    have hcapL : i ≤ cl := by
      have hcapr := row_cap (h := hs5.ok (Ch.row InE 3 L cl cyc) (by simp))
      omega
    refine Wp.seq (Wp.draws [] mixed (WD.rd (is := [0, 1, 2, 3, 4, 5, 6, 7, 8, 9, 10, 11, 12, 13, 14, 15, 16, 17, 18, 19, 20, 21, 22, 23, 24]) (fun _ _ _ _ _ h => h) (Keep.drew _) (Rn.s rfl Yv.mv (Rn.s rfl Yv.mv (Rn.s rfl (Yv.ia (e := 3) hr6 (by omega) (by omega)) (Rn.s rfl (Yv.ld (hr6.ld 0 (by omega) (by omega))) (Rn.s rfl (Yv.cmp _ rfl) (Rn.s rfl Yv.mv (Rn.or (is := [6, 7, 8, 9, 10, 11, 12, 13]) (js := [14, 15, 16, 17, 18, 19, 20, 21, 22, 23, 24]) (t := 55) (d := 63) (hg := rfl) (hf := fun h5 => have h5 := of_decide_eq_false h5; Rn.s rfl Yv.mv (Rn.s rfl Yv.mv (Rn.s rfl (Yv.ia (e := 3) hr6 (by omega) (by omega)) (Rn.s rfl (Yv.ld (hr6.ld 0 (by omega) (by omega))) (Rn.s rfl Yv.mv (Rn.s rfl (Yv.len_v (e := 23) (m := 1)) (Rn.s rfl (Yv.cmp _ rfl) (Rn.s rfl Yv.pick_f ((Rn.e 8 rfl rfl)))))))))) (ht := fun _ => Rn.no rfl (Rn.no rfl (Rn.no rfl (Rn.no rfl (Rn.no rfl (Rn.no rfl (Rn.no rfl (Rn.s rfl Yv.pick_t (Rn.e 8 rfl rfl))))))))) (k := Rn.s rfl Yv.mv (Rn.or (is := [15, 16, 17]) (js := [18, 19, 20, 21, 22, 23, 24]) (t := 64) (d := 67) (hg := rfl) (hf := fun h14 => Rn.s rfl Yv.mv (Rn.s rfl (Yv.cmp _ rfl) (Rn.s rfl Yv.pick_f ((Rn.e 3 rfl rfl))))) (ht := fun _ => Rn.no rfl (Rn.no rfl (Rn.s rfl Yv.pick_t (Rn.e 3 rfl rfl)))) (k := Rn.s rfl Yv.mv (Rn.or (is := [19, 20, 21, 22, 23]) (js := [24]) (t := 68) (d := 73) (hg := rfl) (hf := fun h18 => Rn.s rfl Yv.mv (Rn.s rfl Yv.mv (Rn.s rfl (Yv.len_v (e := 23) (m := 1)) (Rn.s rfl (Yv.cmp _ rfl) (Rn.s rfl Yv.pick_f ((Rn.e 5 rfl rfl))))))) (ht := fun _ => Rn.no rfl (Rn.no rfl (Rn.no rfl (Rn.no rfl (Rn.s rfl Yv.pick_t (Rn.e 5 rfl rfl)))))) (k := Rn.s rfl Yv.mv (Rn.nil))))))))))))) (WD.or [25, 26, 27, 28, 29, 30, 31, 32, 33, 34, 35] 74 85 (b := (!decide (nth cyc (i : Int) ∈ (nth ls (b : Int)).2.2))) (hg := rfl) (hf := fun h24 qd1 => WD.rd (is := [25, 26, 27, 28, 29, 30, 31, 32]) (fun _ _ _ _ _ h => h) (Keep.drew _) (Rn.s rfl Yv.mv (Rn.s rfl Yv.mv (Rn.s rfl (Yv.ia (e := 23) hlb (by omega) (by omega)) (Rn.s rfl (Yv.ld (hlb.ld 0 (by omega) (by omega))) (Rn.s rfl Yv.mv (Rn.s rfl Yv.mv (Rn.s rfl (Yv.ia (e := 3) hr6 (by omega) (by omega)) (Rn.s rfl (Yv.ld (hr6.ld 0 (by omega) (by omega))) (Rn.nil))))))))) (WD.cv 33 rfl (has_cv _ _ _ _ (nth cyc (i : Int)) w6 hat rfl (by omega)) (Keep.drew _) (FnOk.of Tryd.func21) (fun wd2 kd2 => WD.rd (is := [34, 35]) (fun _ _ _ _ _ h => h) ((Keep.drew _).trans kd2) (Rn.s rfl Yv.not (Rn.s rfl Yv.pick_f (Rn.nil))) (WD.e 11 (qd1 _ ((Keep.refl _).trans kd2)))))) (ht := fun _ qd1 => WD.rd (is := [25, 26, 27, 28, 29, 30, 31, 32, 33, 34, 35]) (fun _ _ _ _ _ h => h) (Keep.drew _) (Rn.no rfl (Rn.no rfl (Rn.no rfl (Rn.no rfl (Rn.no rfl (Rn.no rfl (Rn.no rfl (Rn.no rfl (Rn.no rfl (Rn.no rfl (Rn.s rfl Yv.pick_t Rn.nil))))))))))) (WD.e 11 (qd1 _ (Keep.refl _)))) (k := fun wd1 kd1 => WD.rd (is := [36]) (fun _ _ _ _ _ h => h) ((Keep.drew _).trans kd1) (Rn.s rfl Yv.mv (Rn.nil)) (WD.or [37, 38, 39, 40, 41, 42, 43, 44, 45] 86 95 (b := decide (nth cyc (i : Int) ∈ cyc.take i)) (hg := rfl) (hf := fun h36 qd3 => WD.rd (is := [37, 38, 39, 40, 41, 42, 43]) (fun _ _ _ _ _ h => h) ((Keep.drew _).trans kd1) (Rn.s rfl Yv.mv (Rn.s rfl Yv.mv (Rn.s rfl (Yv.sl_t (n := 1) (e := 3) (k := i) (by omega) (by omega) (by omega)) (Rn.s rfl Yv.mv (Rn.s rfl Yv.mv (Rn.s rfl (Yv.ia (e := 3) hr6 (by omega) (by omega)) (Rn.s rfl (Yv.ld (hr6.ld 0 (by omega) (by omega))) (Rn.nil)))))))) (WD.cv 44 rfl (has_cv _ i _ (cyc.take i) (nth cyc (i : Int)) w6 htk htl (by omega)) ((Keep.drew _).trans kd1) (FnOk.of Tryd.func21) (fun wd4 kd4 => WD.rd (is := [45]) (fun _ _ _ _ _ h => h) (((Keep.drew _).trans kd1).trans kd4) (Rn.s rfl Yv.pick_f (Rn.nil)) (WD.e 9 (qd3 _ ((Keep.refl _).trans kd4)))))) (ht := fun _ qd3 => WD.rd (is := [37, 38, 39, 40, 41, 42, 43, 44, 45]) (fun _ _ _ _ _ h => h) ((Keep.drew _).trans kd1) (Rn.no rfl (Rn.no rfl (Rn.no rfl (Rn.no rfl (Rn.no rfl (Rn.no rfl (Rn.no rfl (Rn.no rfl (Rn.s rfl Yv.pick_t Rn.nil))))))))) (WD.e 9 (qd3 _ (Keep.refl _)))) (k := fun wd3 kd3 => WD.done ?_))))))
    have e1 : decide (nth cyc (i : Int) < 0) = false := decide_eq_false (by omega)
    have e2 : decide ((ls.length : Int) ≤ nth cyc (i : Int)) = false := decide_eq_false (by omega)
    have e3 : decide ((b : Int) < 0) = false := decide_eq_false (by omega)
    have e4 : decide ((ls.length : Int) ≤ (b : Int)) = false := decide_eq_false (by omega)
    have e5 : decide (nth cyc (i : Int) ∈ (nth ls (b : Int)).2.2) = true := decide_eq_true hnx
    have e6 : decide (nth cyc (i : Int) ∈ cyc.take i) = false := decide_eq_false hnt
    rw [e1, e2, e3, e4, e5, e6]
    refine Wp.cond_f rfl ?_
    refine Wp.skip (Wp.reads (is := [0, 1, 2]) (Keep.refl _) (Rn.s rfl Yv.mv (Rn.s rfl (Yv.add (by unfold inI; omega)) (Rn.s rfl Yv.as (Rn.nil)))) ?_)
    exact ⟨i + 1, ⟨rfl, (hk6.trans (Keep.drew _)).trans (kd1.trans kd3), by omega, rfl, rfl, rfl, trivial⟩, by omega⟩
  · refine Wp.exit ?_
    refine Wp.seq (Wp.regionL (l := [0, 1]) (WO.cv rfl (awake_cv w6) (Keep.refl _) (FnOk.of Tryd.func19) (fun we1 ke1 => WO.rd (is := [1]) (js := []) ((Keep.refl _).trans ke1) (Rn.s rfl Yv.as (Rn.nil)) (WO.done ?_))))
    exact Wp.ret (Fin.ret (Res.one rfl rfl) ⟨rfl, (hk5.trans hk6).trans ke1⟩)
end Go.Proofs.YthbehiflmcljcaaDoor.C
