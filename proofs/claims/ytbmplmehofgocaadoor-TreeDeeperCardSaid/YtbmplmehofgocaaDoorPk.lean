/- TreeDeeper is walked: its answer is true. -/
import Derived.Test.YtbmplmehofgocaaDoorPf
import Derived.Test.YtbmplmehofgocaaDoorPh
import Derived.Test.YtbmplmehofgocaaDoorBi
import Derived.Test.YtbmplmehofgocaaDoorShO
set_option linter.unusedVariables false
set_option linter.unusedSimpArgs false
set_option maxRecDepth 10000
namespace Go.Proofs.YtbmplmehofgocaaDoor.C
open Go.RowKit Go.Proofs.YtbmplmehofgocaaDoor.Sh
theorem deepT_snoc (k : Nat) (ls : List Ln) (l : Ln) : deepT k (ls ++ [l]) = deepT k ls ++ (spc k ++ (spc l.indent.toNat ++ (l.text ++ [10]))) := by
  unfold deepT
  rw [List.flatMap_append]
  simp
theorem spc_succ (j : Nat) : spc (j + 1) = spc j ++ [32] := by unfold spc; rw [List.replicate_succ']
theorem parse_col {file s : Bs} (h : (parseS file s).2.code = 0) : ∀ n ∈ (parseS file s).1, 0 ≤ n.col ∧ n.col ≤ 65537 := by
  have he := parse_lines h
  have hm := ((parseS_law file s).2.2 he h).2.2
  intro n hn
  have : pl n ∈ (parseS file s).1.map pl := List.mem_map_of_mem hn
  rw [hm] at this
  rcases List.mem_cons.1 this with e | e
  · have : n.col = 0 := congrArg (·.2.2.1) e
    omega
  · obtain ⟨l, hl1, hl2⟩ := List.mem_map.1 e
    have e : l.indent + 1 = n.col := congrArg (·.2.2.1) hl2
    obtain ⟨-, q1, q2⟩ := (linesS_ok s).1 l hl1
    rw [← e]; omega
theorem nl_eq {a b : Nd} (h : nl a = nl b) : a.depth = b.depth ∧ a.kind = b.kind ∧ a.key = b.key ∧ a.text = b.text ∧ a.col = b.col := by
  cases a
  cases b
  simp only [nl, Nd.mk.injEq] at h
  simp [h]
theorem deeper_calls (s key : Bs) (deep : Int) (w0 : World) (hg : Gl w0) (w : World) (hk : Keep w0 w) : Calls Tryd.prog 11 #[S s, .int .i64 deep, S key] w fun e w' => e = .returned (.bool true) ∧ Keep w w' := by
  have hg := hg.keep hk
  have hpc := parse_cx [102] s w hg
  have hlaw := fun k : Nat => deeper_law (s := s) (key := key) (k := k)
  have hlenT : (parseS [102] s).2.code = 0 → (parseS [102] s).1.length ≤ 16384 ∧ 0 < (parseS [102] s).1.length ∧ ∀ n ∈ (parseS [102] s).1, 0 ≤ n.depth ∧ n.depth ≤ 32 := by
    intro h
    have h3 := isS_depth (parse_is h)
    refine ⟨h3.2.1, h3.1, fun n hn => ?_⟩
    obtain ⟨j, hj⟩ := List.mem_iff_getElem?.1 hn
    have := h3.2.2 j (List.getElem?_eq_some_iff.1 hj).1
    rw [nth_of hj] at this
    exact this
  obtain ⟨N, F, hNF⟩ : ∃ N F, parseS [102] s = (N, F) := ⟨_, _, rfl⟩
  rw [hNF] at hpc hlaw hlenT
  simp only at hpc hlaw hlenT
  refine calls_of_Wp (vs := [_, _, _]) Tryd.func11 ?_
  refine Wp.seq (Wp.reads (is := [0]) (Keep.refl _) (Rn.s rfl Yv.as (Rn.nil)) ?_)
  refine Wp.seq (Wp.regionL (l := [0, 1, 2, 3, 4, 5, 6, 7]) (WO.rd (is := [0]) (js := [1, 2, 3, 4, 5, 6, 7]) (Keep.refl _) (Rn.s rfl Yv.mv (Rn.nil)) (WO.act (hc := rfl) (he := Ef.cx hpc (St.init w) (FnOk.of Tryd.func33) ?_))))
  rintro v D w1 ⟨A, c, rfl, rfl⟩ hs1
  refine WO.rd (is := [2, 3, 4]) (js := [5, 6, 7]) (Keep.refl _) (Rn.s rfl Yv.mv (Rn.s rfl Yv.ex (Rn.s rfl Yv.ex (Rn.nil)))) (WO.act (he := Ef.allocL (vs := ft0.cs) hs1 (fun b2 w2 k2 hs2 => WO.rd (is := [6]) (js := [7]) (Keep.refl _) (Rn.s rfl Yv.as (Rn.nil)) (WO.act (he := Ef.stores hs2 0 (fun w3 hs3 => WO.done ?_))))))
  have hst : St w [] w3 [Ch.cells b2 42 F.cs, Ch.row NdE 32 A c N] := hs3
  have hlc := lines_cx s w3 (hg.keep hst.keep)
  obtain ⟨hlo, -⟩ := linesS_ok s
  have hlf := linesS_few s
  have hgd := linesS_good s
  obtain ⟨X, hX⟩ : ∃ X, X = (linesS s).ls := ⟨_, rfl⟩
  rw [← hX] at hlo hlf hgd hlc hlaw
  refine Wp.seq (Wp.regionL (l := [0, 1, 2, 3, 4, 5, 6, 7, 8, 9, 10]) (WO.rd (is := [0]) (js := [1, 2, 3, 4, 5, 6, 7, 8, 9, 10]) (Keep.refl _) (Rn.s rfl Yv.mv (Rn.nil)) (WO.act (hc := rfl) (he := Ef.cx hlc hst (FnOk.of Tryd.func39) ?_))))
  rintro v D w4 ⟨B, d, rfl, rfl⟩ hs4
  refine WO.rd (is := [2, 3, 4, 5, 6, 7, 8, 9, 10]) (js := []) (Keep.refl _) (Rn.s rfl Yv.mv (Rn.s rfl Yv.ex (Rn.s rfl Yv.ex (Rn.s rfl Yv.ex (Rn.s rfl Yv.ex (Rn.s rfl Yv.as (Rn.s rfl Yv.as (Rn.s rfl Yv.as (Rn.s rfl Yv.as (Rn.nil)))))))))) (WO.done ?_)
  have hst : St w [] w4 [Ch.row LnE 56 B d X, Ch.cells b2 42 F.cs, Ch.row NdE 32 A c N] := hs4
  obtain ⟨lb0, lb1⟩ := lowI_bd deep
  refine Wp.seq (Wp.regionL (l := [0, 1, 2, 3, 4]) (WO.rd (is := [0]) (js := [1, 2, 3, 4]) (Keep.refl _) (Rn.s rfl Yv.mv (Rn.nil)) (WO.cv rfl (low_cv deep w4) (Keep.refl _) (FnOk.of Tryd.func40) (fun wx1 kx1 => WO.rd (is := [2, 3, 4]) (js := []) ((Keep.refl _).trans kx1) (Rn.s rfl (Yv.rem (by omega) (by omega) (by omega)) (Rn.s rfl (Yv.add (by unfold inI; omega)) (Rn.s rfl Yv.as (Rn.nil)))) (WO.done ?_)))))
  obtain ⟨k, hkd⟩ : ∃ k : Nat, (1 : Int) + lowI deep % 5 = k := ⟨((1 : Int) + lowI deep % 5).toNat, by omega⟩
  have hk1 : 1 ≤ k := by omega
  have hk5 : k ≤ 5 := by omega
  rw [hkd]
  have hst : St w [] wx1 [Ch.row LnE 56 B d X, Ch.cells b2 42 F.cs, Ch.row NdE 32 A c N] := hst.quiet kx1
  have hg3 := hg.keep hst.keep
  have c8 := hst.cells 1
  have hrx := hst.rd 0
  have hrn := hst.rd 2
  refine Wp.seq (Wp.seq (Wp.reads (is := [0, 1, 2, 3, 4, 5, 6, 7, 8, 9, 10, 11, 12, 13, 14, 15, 16, 17, 18, 19, 20, 21]) (Keep.refl _) (Rn.s rfl (Yv.fa (off := 0)) (Rn.s rfl (Yv.ld (c8.at_ 0)) (Rn.s rfl (Yv.cmp _ rfl) (Rn.s rfl Yv.mv (Rn.or (is := [4, 5, 6, 7]) (js := [8, 9, 10, 11, 12, 13, 14, 15, 16, 17, 18, 19, 20, 21]) (t := 44) (d := 48) (hg := rfl) (hf := fun h3 => have h3 := bne_eq_false_iff_eq.1 h3; Rn.s rfl Yv.mv (Rn.s rfl (Yv.len_v (e := 56) (m := 3)) (Rn.s rfl (Yv.cmp _ rfl) (Rn.s rfl Yv.pick_f ((Rn.e 4 rfl rfl)))))) (ht := fun _ => Rn.no rfl (Rn.no rfl (Rn.no rfl (Rn.s rfl Yv.pick_t (Rn.e 4 rfl rfl))))) (k := Rn.s rfl Yv.mv (Rn.or (is := [9, 10, 11, 12]) (js := [13, 14, 15, 16, 17, 18, 19, 20, 21]) (t := 49) (d := 53) (hg := rfl) (hf := fun h8 => Rn.s rfl Yv.mv (Rn.s rfl Yv.len_s (Rn.s rfl (Yv.cmp _ rfl) (Rn.s rfl Yv.pick_f ((Rn.e 4 rfl rfl)))))) (ht := fun _ => Rn.no rfl (Rn.no rfl (Rn.no rfl (Rn.s rfl Yv.pick_t (Rn.e 4 rfl rfl))))) (k := Rn.s rfl Yv.mv (Rn.or (is := [14, 15, 16]) (js := [17, 18, 19, 20, 21]) (t := 54) (d := 57) (hg := rfl) (hf := fun h13 => Rn.s rfl Yv.mv (Rn.s rfl (Yv.scm _ rfl) (Rn.s rfl Yv.pick_f ((Rn.e 3 rfl rfl))))) (ht := fun _ => Rn.no rfl (Rn.no rfl (Rn.s rfl Yv.pick_t (Rn.e 3 rfl rfl)))) (k := Rn.s rfl Yv.mv (Rn.or (is := [18, 19, 20, 21]) (js := []) (t := 58) (d := 62) (hg := rfl) (hf := fun h17 => Rn.s rfl Yv.mv (Rn.s rfl Yv.len_s (Rn.s rfl (Yv.cmp _ rfl) (Rn.s rfl Yv.pick_f ((Rn.e 4 rfl rfl)))))) (ht := fun _ => Rn.no rfl (Rn.no rfl (Rn.no rfl (Rn.s rfl Yv.pick_t (Rn.e 4 rfl rfl))))) (k := Rn.nil)))))))))))) ?_))
  refine Wp.cond rfl (fun h => ?_) (fun h => ?_)
  · refine Wp.seq (Wp.regionL (l := [0, 1]) (WO.cv rfl (awake4_cv wx1 hg3) (Keep.refl _) (FnOk.of Tryd.func34) (fun wz1 kz1 => WO.rd (is := [1]) (js := []) ((Keep.refl _).trans kz1) (Rn.s rfl Yv.as (Rn.nil)) (WO.done ?_))))
    exact Wp.ret (Fin.ret (Res.one rfl rfl) ⟨rfl, hst.keep.trans (by assumption)⟩)
  simp only [Bool.or_eq_false_iff, bne_eq_false_iff_eq, decide_eq_false_iff_not, beq_eq_false_iff_ne] at h
  obtain ⟨⟨⟨⟨hF, hXl⟩, hsl⟩, hk0⟩, hkl⟩ := h
  have hsl : s.length ≤ 3000 := by omega
  have hkl : key.length ≤ 20 := by omega
  obtain ⟨hN1, hN0, hNd⟩ := hlenT hF
  refine Wp.skip (Wp.seq (Wp.seq (Wp.reads (is := [0]) (Keep.refl _) (Rn.s rfl Yv.as (Rn.nil)) ?_)))
  refine Wp.block ?_
  refine Wp.loop (α := Nat) (fun i ρ ds w' => ds = [] ∧ i ≤ key.length ∧ Keep wx1 w' ∧ (key.take i).all lowB = true ∧ Sub [(0, S s), (2, S key), (7, .slice A N.length c), (9, .slice B X.length d), (13, .int .i64 (k : Int)), (14, .int .i64 (i : Int))] ρ) (fun i => key.length - i) 0
    ⟨rfl, Nat.zero_le _, Keep.refl _, rfl, rfl, rfl, rfl, rfl, rfl, rfl, trivial⟩ ?_
  rintro i ρ ds w' ⟨rfl, hi, hkw, hall, hs⟩
  refine Wp.forget _ ?_ hs
  refine Wp.seq (Wp.seq (Wp.reads (is := [0, 1, 2, 3]) (Keep.refl _) (Rn.s rfl Yv.mv (Rn.s rfl Yv.mv (Rn.s rfl Yv.len_s (Rn.s rfl (Yv.cmp _ rfl) (Rn.nil))))) ?_))
  refine Wp.cond rfl (fun h3 => ?_) (fun h3 => ?_)
  · have h3 := of_decide_eq_true h3
    have hil : i < key.length := by omega
    refine Wp.skip (Wp.seq (Wp.block ?_))
    refine Wp.seq (Wp.reads (is := [0, 1, 2, 3, 4, 5, 6, 7, 8, 9]) (Keep.refl _) (Rn.s rfl Yv.mv (Rn.s rfl Yv.mv (Rn.s rfl (Yv.ix (by omega) (by omega)) (Rn.s rfl (Yv.cmp _ rfl) (Rn.s rfl Yv.mv (Rn.or (is := [5, 6, 7, 8, 9]) (js := []) (t := 74) (d := 79) (hg := rfl) (hf := fun h4 => have h4 := of_decide_eq_false h4; Rn.s rfl Yv.mv (Rn.s rfl Yv.mv (Rn.s rfl (Yv.ix (by omega) (by omega)) (Rn.s rfl (Yv.cmp _ rfl) (Rn.s rfl Yv.pick_f ((Rn.e 5 rfl rfl))))))) (ht := fun _ => Rn.no rfl (Rn.no rfl (Rn.no rfl (Rn.no rfl (Rn.s rfl Yv.pick_t (Rn.e 5 rfl rfl)))))) (k := Rn.nil))))))) ?_)
    refine Wp.cond rfl (fun h4 => ?_) (fun h4 => ?_)
    · refine Wp.seq (Wp.regionL (l := [0, 1]) (WO.cv rfl (awake4_cv w' (hg3.keep hkw)) (Keep.refl _) (FnOk.of Tryd.func34) (fun wx1 kx1 => WO.rd (is := [1]) (js := []) ((Keep.refl _).trans kx1) (Rn.s rfl Yv.as (Rn.nil)) (WO.done ?_))))
      exact Wp.ret (Fin.ret (Res.one rfl rfl) ⟨rfl, (hst.keep.trans hkw).trans (by assumption)⟩)
    simp only [Bool.or_eq_false_iff, decide_eq_false_iff_not] at h4
    refine Wp.skip (Wp.reads (is := [0, 1, 2]) (Keep.refl _) (Rn.s rfl Yv.mv (Rn.s rfl (Yv.add (by unfold inI; omega)) (Rn.s rfl Yv.as (Rn.nil)))) ?_)
    refine ⟨i + 1, ⟨rfl, hil, hkw, ?_, rfl, rfl, rfl, rfl, rfl, rfl, trivial⟩, by omega⟩
    have hb : byt key (i : Int) = key[i].toNat := byt_of (List.getElem?_eq_getElem hil)
    rw [List.take_add_one, List.getElem?_eq_getElem hil, List.all_append, hall]
    rw [hb] at h4
    simp [lowB]
    omega
  have h3 := of_decide_eq_false h3
  rw [List.take_of_length_le (by omega)] at hall
  have hlow : lowKey key := ⟨by simpa using hk0, hkl, hall⟩
  refine Wp.exit ?_
  have hst := hst.quiet hkw
  have hg5 := hg.keep hst.keep
  have hrx := hrx.keep hkw
  have hrn := hrn.keep hkw
  refine Wp.seq (Wp.seq (Wp.reads (is := [0]) (Keep.refl _) (Rn.s rfl Yv.as (Rn.nil)) ?_))
  refine Wp.block ?_
  refine Wp.loop (α := Nat) (fun i ρ ds w2 => ds = [] ∧ w2 = w' ∧ i ≤ N.length ∧ (∀ n ∈ N.take i, n.depth < 32) ∧ Sub [(0, S s), (2, S key), (7, .slice A N.length c), (9, .slice B X.length d), (13, .int .i64 (k : Int)), (15, .int .i64 (i : Int))] ρ) (fun i => N.length - i) 0
    ⟨rfl, rfl, Nat.zero_le _, by simp, rfl, rfl, rfl, rfl, rfl, rfl, trivial⟩ ?_
  rintro i ρ ds w2 ⟨rfl, rfl, hi, hdep, hs⟩
  refine Wp.forget _ ?_ hs
  refine Wp.seq (Wp.seq (Wp.reads (is := [0, 1, 2, 3]) (Keep.refl _) (Rn.s rfl Yv.mv (Rn.s rfl Yv.mv (Rn.s rfl (Yv.len_v (e := 32) (m := 8)) (Rn.s rfl (Yv.cmp _ rfl) (Rn.nil))))) ?_))
  refine Wp.cond rfl (fun h3 => ?_) (fun h3 => ?_)
  · have h3 := of_decide_eq_true h3
    have hil : i < N.length := by omega
    refine Wp.skip (Wp.seq (Wp.block ?_))
    refine Wp.seq (Wp.reads (is := [0, 1, 2, 3, 4, 5]) (Keep.refl _) (Rn.s rfl Yv.mv (Rn.s rfl Yv.mv (Rn.s rfl (Yv.ia (e := 32) hrn (by omega) (by omega)) (Rn.s rfl (Yv.fa (off := 1)) (Rn.s rfl (Yv.ld (hrn.ld 1 (by omega) (by omega))) (Rn.s rfl (Yv.cmp _ rfl) (Rn.nil))))))) ?_)
    refine Wp.cond rfl (fun h4 => ?_) (fun h4 => ?_)
    · refine Wp.seq (Wp.regionL (l := [0, 1]) (WO.cv rfl (awake4_cv w2 hg5) (Keep.refl _) (FnOk.of Tryd.func34) (fun wx1 kx1 => WO.rd (is := [1]) (js := []) ((Keep.refl _).trans kx1) (Rn.s rfl Yv.as (Rn.nil)) (WO.done ?_))))
      exact Wp.ret (Fin.ret (Res.one rfl rfl) ⟨rfl, hst.keep.trans (by assumption)⟩)
    have h4 := of_decide_eq_false h4
    refine Wp.skip (Wp.reads (is := [0, 1, 2]) (Keep.refl _) (Rn.s rfl Yv.mv (Rn.s rfl (Yv.add (by unfold inI; omega)) (Rn.s rfl Yv.as (Rn.nil)))) ?_)
    refine ⟨i + 1, ⟨rfl, rfl, hil, fun n hn => ?_, rfl, rfl, rfl, rfl, rfl, rfl, trivial⟩, by omega⟩
    rw [List.take_add_one, List.getElem?_eq_getElem hil] at hn
    rcases List.mem_append.1 hn with hn | hn
    · exact hdep n hn
    · have hn : n = N[i] := by simpa using hn
      have e : nth N (i : Int) = N[i] := by rw [nth_nat]; simp [hil]
      rw [hn, ← e]; omega
  have h3 := of_decide_eq_false h3
  rw [List.take_of_length_le (by omega)] at hdep
  refine Wp.exit ?_
  refine Wp.seq (Wp.reads (is := [0, 1, 2]) (Keep.refl _) (Rn.s rfl Yv.mv (Rn.s rfl (Yv.ss_t (by omega) (by simp; omega)) (Rn.s rfl Yv.as (Rn.nil)))) ?_)
  have hpad : List.take (k : Int).toNat ([32, 32, 32, 32, 32] : Bs) = spc k := by
    rw [Int.toNat_natCast]
    have : k = 1 ∨ k = 2 ∨ k = 3 ∨ k = 4 ∨ k = 5 := by omega
    rcases this with rfl | rfl | rfl | rfl | rfl <;> rfl
  rw [hpad]
  have hpl : ∀ j, (spc j).length = j := by intro j; unfold spc; simp
  refine Wp.seq (Wp.reads (is := [0, 1, 2]) (Keep.refl _) (Rn.s rfl Yv.mv (Rn.s rfl (Yv.cat (by simp; omega)) (Rn.s rfl Yv.as (Rn.nil)))) ?_)
  refine Wp.seq (Wp.seq (Wp.reads (is := [0]) (Keep.refl _) (Rn.s rfl Yv.as (Rn.nil)) ?_))
  refine Wp.block ?_
  refine Wp.loop (α := Nat) (fun i ρ ds w' => ds = [] ∧ w' = w2 ∧ i ≤ X.length ∧ (deepT k (X.take i)).length ≤ i * 131080 ∧ Sub [(0, S s), (2, S key), (7, .slice A N.length c), (9, .slice B X.length d), (13, .int .i64 (k : Int)), (16, S (spc k)), (17, S (key ++ [58, 10] ++ deepT k (X.take i))), (18, .int .i64 (i : Int))] ρ) (fun i => X.length - i) 0
    ⟨rfl, rfl, Nat.zero_le _, by simp [deepT], rfl, rfl, rfl, rfl, rfl, rfl, by rw [List.take_zero]; unfold deepT; rw [List.flatMap_nil, List.append_nil]; rfl, rfl, trivial⟩ ?_
  rintro i ρ ds w3' ⟨rfl, rfl, hi, hdl, hs⟩
  refine Wp.forget _ ?_ hs
  refine Wp.seq (Wp.seq (Wp.reads (is := [0, 1, 2, 3]) (Keep.refl _) (Rn.s rfl Yv.mv (Rn.s rfl Yv.mv (Rn.s rfl (Yv.len_v (e := 56) (m := 3)) (Rn.s rfl (Yv.cmp _ rfl) (Rn.nil))))) ?_))
  refine Wp.cond rfl (fun h3 => ?_) (fun h3 => ?_)
  · have h3 := of_decide_eq_true h3
    have hil : i < X.length := by omega
    have hget : nth X (i : Int) = X[i] := by rw [nth_nat]; simp [hil]
    obtain ⟨lt, li0, li1⟩ := hlo (nth X (i : Int)) (by rw [hget]; exact List.getElem_mem hil)
    have lg0 := (hgd (nth X (i : Int)) (by rw [hget]; exact List.getElem_mem hil)).ind
    have hsn : deepT k (X.take (i + 1)) = deepT k (X.take i) ++ (spc k ++ (spc (nth X (i : Int)).indent.toNat ++ ((nth X (i : Int)).text ++ [10]))) := by
      rw [List.take_add_one, List.getElem?_eq_getElem hil, hget]
      exact deepT_snoc k _ _
    obtain ⟨B0, hB0⟩ : ∃ B0 : Bs, B0 = key ++ [58, 10] ++ deepT k (X.take i) ++ spc k := ⟨_, rfl⟩
    have hB0l : B0.length ≤ 30 + i * 131080 := by rw [hB0]; simp [hpl]; omega
    refine Wp.skip (Wp.seq (Wp.block ?_))
    refine Wp.seq (Wp.reads (is := [0, 1, 2, 3]) (Keep.refl _) (Rn.s rfl Yv.mv (Rn.s rfl Yv.mv (Rn.s rfl (Yv.cat (by simp [hpl]; omega)) (Rn.s rfl Yv.as (Rn.nil))))) ?_)
    rw [← hB0]
    refine Wp.seq (Wp.seq (Wp.reads (is := [0]) (Keep.refl _) (Rn.s rfl Yv.as (Rn.nil)) ?_))
    refine Wp.block ?_
    refine Wp.loop (α := Nat) (fun j ρ ds w' => ds = [] ∧ w' = w3' ∧ (j : Int) ≤ (nth X (i : Int)).indent ∧ Sub [(0, S s), (2, S key), (7, .slice A N.length c), (9, .slice B X.length d), (13, .int .i64 (k : Int)), (16, S (spc k)), (17, S (B0 ++ spc j)), (18, .int .i64 (i : Int)), (19, .int .i64 (j : Int))] ρ) (fun j => (nth X (i : Int)).indent.toNat - j) 0
      ⟨rfl, rfl, lg0, rfl, rfl, rfl, rfl, rfl, rfl, by unfold spc; rw [List.replicate_zero, List.append_nil]; rfl, rfl, rfl, trivial⟩ ?_
    rintro j ρ ds w4' ⟨rfl, rfl, hj, hs⟩
    refine Wp.forget _ ?_ hs
    refine Wp.seq (Wp.seq (Wp.reads (is := [0, 1, 2, 3, 4, 5, 6]) (Keep.refl _) (Rn.s rfl Yv.mv (Rn.s rfl Yv.mv (Rn.s rfl Yv.mv (Rn.s rfl (Yv.ia (e := 56) hrx (by omega) (by omega)) (Rn.s rfl (Yv.fa (off := 1)) (Rn.s rfl (Yv.ld (hrx.ld 1 (by omega) (by omega))) (Rn.s rfl (Yv.cmp _ rfl) (Rn.nil)))))))) ?_))
    refine Wp.cond rfl (fun h5 => ?_) (fun h5 => ?_)
    · have h5 := of_decide_eq_true h5
      refine Wp.skip (Wp.seq (Wp.block ?_))
      refine Wp.reads (is := [0, 1, 2]) (Keep.refl _) (Rn.s rfl Yv.mv (Rn.s rfl (Yv.cat (by simp [hpl]; omega)) (Rn.s rfl Yv.as (Rn.nil)))) ?_
      refine Wp.reads (is := [0, 1, 2]) (Keep.refl _) (Rn.s rfl Yv.mv (Rn.s rfl (Yv.add (by unfold inI; omega)) (Rn.s rfl Yv.as (Rn.nil)))) ?_
      refine ⟨j + 1, ⟨rfl, rfl, by omega, rfl, rfl, rfl, rfl, rfl, rfl, ?_, rfl, rfl, trivial⟩, by omega⟩
      rw [spc_succ, ← List.append_assoc]
      rfl
    have h5 := of_decide_eq_false h5
    refine Wp.exit ?_
    refine Wp.reads (is := [0, 1, 2, 3, 4, 5, 6, 7, 8]) (Keep.refl _) (Rn.s rfl Yv.mv (Rn.s rfl Yv.mv (Rn.s rfl Yv.mv (Rn.s rfl (Yv.ia (e := 56) hrx (by omega) (by omega)) (Rn.s rfl (Yv.fa (off := 2)) (Rn.s rfl (Yv.ld (hrx.ld 2 (by omega) (by omega))) (Rn.s rfl (Yv.cat (by simp [hpl]; omega)) (Rn.s rfl (Yv.cat (by simp [hpl]; omega)) (Rn.s rfl Yv.as (Rn.nil)))))))))) ?_
    refine Wp.reads (is := [0, 1, 2]) (Keep.refl _) (Rn.s rfl Yv.mv (Rn.s rfl (Yv.add (by unfold inI; omega)) (Rn.s rfl Yv.as (Rn.nil)))) ?_
    have hji : j = (nth X (i : Int)).indent.toNat := by omega
    refine ⟨i + 1, ⟨rfl, rfl, hil, ?_, rfl, rfl, rfl, rfl, rfl, rfl, ?_, rfl, trivial⟩, by omega⟩
    · rw [hsn]
      simp [hpl]
      omega
    · have : B0 ++ spc j ++ (nth X (i : Int)).text ++ [10] = key ++ [58, 10] ++ deepT k (X.take (i + 1)) := by
        rw [hsn, hB0, hji]
        simp
      rw [← this]
      rfl
  have h3 := of_decide_eq_false h3
  rw [List.take_of_length_le (by omega)] at hdl
  rw [List.take_of_length_le (by omega)]
  refine Wp.exit ?_
  have eU : key ++ [58, 10] ++ deepT k X = key ++ 58 :: 10 :: deepT k X := by simp
  rw [eU]
  have hUl : (key ++ 58 :: 10 :: deepT k X).length = key.length + 2 + (deepT k X).length := by simp; omega
  have hlaw := hlaw k hlow hk1 hsl hF (by intro e; rw [e] at hXl; simp at hXl) (fun n hn => hdep n hn)
  obtain ⟨V, G, hVG⟩ : ∃ V G, parseS [102] (key ++ 58 :: 10 :: deepT k X) = (V, G) := ⟨_, _, rfl⟩
  have hp2 := parse_cx [102] (key ++ 58 :: 10 :: deepT k X) w3' hg5
  rw [hVG] at hp2 hlaw
  simp only at hp2 hlaw
  refine Wp.seq (Wp.regionL (l := [0, 1, 2, 3, 4, 5, 6, 7]) (WO.rd (is := [0]) (js := [1, 2, 3, 4, 5, 6, 7]) (Keep.refl _) (Rn.s rfl Yv.mv (Rn.nil)) (WO.act (hc := rfl) (he := Ef.cx hp2 hst (FnOk.of Tryd.func33) ?_))))
  rintro v D w5 ⟨C, e, rfl, rfl⟩ hs5
  refine WO.rd (is := [2, 3, 4]) (js := [5, 6, 7]) (Keep.refl _) (Rn.s rfl Yv.mv (Rn.s rfl Yv.ex (Rn.s rfl Yv.ex (Rn.nil)))) (WO.act (he := Ef.allocL (vs := ft0.cs) hs5 (fun b6 w6 k6 hs6 => WO.rd (is := [6]) (js := [7]) (Keep.refl _) (Rn.s rfl Yv.as (Rn.nil)) (WO.act (he := Ef.stores hs6 0 (fun w7 hs7 => WO.done ?_))))))
  have hst : St w [] w7 [Ch.cells b6 42 G.cs, Ch.row NdE 32 C e V, Ch.row LnE 56 B d X, Ch.cells b2 42 F.cs, Ch.row NdE 32 A c N] := hs7
  have hg7 := hg.keep hst.keep
  have c21 := hst.cells 0
  have hrv := hst.rd 1
  have hrn := hst.rd 4
  refine Wp.seq (Wp.seq (Wp.reads (is := [0, 1, 2]) (Keep.refl _) (Rn.s rfl Yv.mv (Rn.s rfl Yv.len_s (Rn.s rfl (Yv.cmp _ rfl) (Rn.nil)))) ?_))
  refine Wp.cond rfl (fun h4 => ?_) (fun h4 => ?_)
  · refine Wp.seq (Wp.regionL (l := [0, 1]) (WO.cv rfl (awake4_cv w7 hg7) (Keep.refl _) (FnOk.of Tryd.func34) (fun wx1 kx1 => WO.rd (is := [1]) (js := []) ((Keep.refl _).trans kx1) (Rn.s rfl Yv.as (Rn.nil)) (WO.done ?_))))
    exact Wp.ret (Fin.ret (Res.one rfl rfl) ⟨rfl, hst.keep.trans (by assumption)⟩)
  have h4 := of_decide_eq_false h4
  obtain ⟨hG, nk, hnk1, hnk2, hV⟩ := hlaw (by omega)
  have hVl : V.length = N.length + 1 := by
    have := congrArg List.length hV
    simp only [List.length_map, List.length_cons, List.length_drop] at this
    omega
  have hVn : ∀ (j : Nat) (n : Nd), (nd0 [102] :: nk :: (N.drop 1).map (fN id k 1))[j]? = some n → nl (nth V (j : Int)) = nl n := by
    intro j n hj
    have hjl : j < V.length := by
      have := (List.getElem?_eq_some_iff.1 hj).1
      simp only [List.length_map, List.length_cons, List.length_drop] at this
      omega
    have e1 := congrArg (fun l => l[j]?) hV
    simp only [List.getElem?_map, hj, List.getElem?_eq_getElem hjl, Option.map_some] at e1
    rw [nth_of (List.getElem?_eq_getElem hjl)]
    injection e1
  have hV1 : nl (nth V 1) = nl nk := hVn 1 nk rfl
  have hv1 : (nth V 1).key = key := (nl_eq hV1).2.2.1.trans hnk1
  have hv2 : (nth V 1).kind = 1 := (nl_eq hV1).2.1.trans hnk2
  refine Wp.skip (Wp.seq (Wp.seq (Wp.reads (is := [0, 1, 2, 3, 4, 5, 6, 7, 8, 9, 10, 11, 12, 13, 14, 15, 16, 17, 18, 19, 20, 21, 22, 23, 24, 25]) (Keep.refl _) (Rn.s rfl (Yv.fa (off := 0)) (Rn.s rfl (Yv.ld (c21.at_ 0)) (Rn.s rfl (Yv.cmp _ rfl) (Rn.s rfl Yv.mv (Rn.or (is := [4, 5, 6, 7, 8, 9, 10]) (js := [11, 12, 13, 14, 15, 16, 17, 18, 19, 20, 21, 22, 23, 24, 25]) (t := 138) (d := 145) (hg := rfl) (hf := fun h3 => have h3 := bne_eq_false_iff_eq.1 h3; Rn.s rfl Yv.mv (Rn.s rfl (Yv.len_v (e := 32) (m := 8)) (Rn.s rfl Yv.mv (Rn.s rfl (Yv.len_v (e := 32) (m := 8)) (Rn.s rfl (Yv.add (by unfold inI; omega)) (Rn.s rfl (Yv.cmp _ rfl) (Rn.s rfl Yv.pick_f ((Rn.e 7 rfl rfl))))))))) (ht := fun _ => Rn.no rfl (Rn.no rfl (Rn.no rfl (Rn.no rfl (Rn.no rfl (Rn.no rfl (Rn.s rfl Yv.pick_t (Rn.e 7 rfl rfl)))))))) (k := Rn.s rfl Yv.mv (Rn.or (is := [12, 13, 14, 15, 16, 17, 18]) (js := [19, 20, 21, 22, 23, 24, 25]) (t := 146) (d := 153) (hg := rfl) (hf := fun h11 => Rn.s rfl Yv.mv (Rn.s rfl (Yv.ia (e := 32) hrv (by omega) (by omega)) (Rn.s rfl (Yv.fa (off := 2)) (Rn.s rfl (Yv.ld (hrv.ld (i := 1) 2 (by omega) (by omega))) (Rn.s rfl Yv.mv (Rn.s rfl (Yv.scm _ rfl) (Rn.s rfl Yv.pick_f ((Rn.e 7 rfl rfl))))))))) (ht := fun _ => Rn.no rfl (Rn.no rfl (Rn.no rfl (Rn.no rfl (Rn.no rfl (Rn.no rfl (Rn.s rfl Yv.pick_t (Rn.e 7 rfl rfl)))))))) (k := Rn.s rfl Yv.mv (Rn.or (is := [20, 21, 22, 23, 24, 25]) (js := []) (t := 154) (d := 160) (hg := rfl) (hf := fun h19 => Rn.s rfl Yv.mv (Rn.s rfl (Yv.ia (e := 32) hrv (by omega) (by omega)) (Rn.s rfl (Yv.fa (off := 0)) (Rn.s rfl (Yv.ld (hrv.ld (i := 1) 0 (by omega) (by omega))) (Rn.s rfl (Yv.cmp _ rfl) (Rn.s rfl Yv.pick_f ((Rn.e 6 rfl rfl)))))))) (ht := fun _ => Rn.no rfl (Rn.no rfl (Rn.no rfl (Rn.no rfl (Rn.no rfl (Rn.s rfl Yv.pick_t (Rn.e 6 rfl rfl))))))) (k := Rn.nil)))))))))) ?_)))
  refine Wp.cond_f ?_ (Wp.skip ?_)
  · refine congrArg (fun b => some (Value.bool b)) ?_
    rw [hG, hVl, hv1, hv2]
    simp
  refine Wp.seq (Wp.seq (Wp.reads (is := [0]) (Keep.refl _) (Rn.s rfl Yv.as (Rn.nil)) ?_))
  refine Wp.block ?_
  refine Wp.loop (α := Nat) (fun i ρ ds w' => ds = [] ∧ 1 ≤ i ∧ i ≤ N.length ∧ Keep w7 w' ∧ Sub [(7, .slice A N.length c), (13, .int .i64 (k : Int)), (20, .slice C V.length e), (22, .int .i64 (i : Int))] ρ) (fun i => N.length - i) 1
    ⟨rfl, Nat.le_refl _, by omega, Keep.refl _, rfl, rfl, rfl, rfl, trivial⟩ ?_
  rintro i ρ ds w8 ⟨rfl, hi1, hi, hk8, hs⟩
  refine Wp.forget _ ?_ hs
  have hrn8 := hrn.keep hk8
  have hrv8 := hrv.keep hk8
  refine Wp.seq (Wp.seq (Wp.reads (is := [0, 1, 2, 3]) (Keep.refl _) (Rn.s rfl Yv.mv (Rn.s rfl Yv.mv (Rn.s rfl (Yv.len_v (e := 32) (m := 8)) (Rn.s rfl (Yv.cmp _ rfl) (Rn.nil))))) ?_))
  refine Wp.cond rfl (fun h3 => ?_) (fun h3 => ?_)
  · have h3 := of_decide_eq_true h3
    have hil : i < N.length := by omega
    refine Wp.skip (Wp.seq (Wp.block ?_))
    refine Wp.seq ?_
    refine Wp.mid (fun ρ ds w' => ds = [] ∧ Keep w8 w' ∧ ∃ b23 b24, Cells w' b23 (nth N (i : Int)).cs ∧ Cells w' b24 (nth V ((i : Int) + 1)).cs ∧ Sub [(7, .slice A N.length c), (13, .int .i64 (k : Int)), (20, .slice C V.length e), (22, .int .i64 (i : Int)), (23, PB b23), (24, PB b24)] ρ) ?_ ?_
    · refine Wp.drawsB [12] mixed (WDB.rd (is := [0, 1, 2, 3, 4, 5, 6, 7, 8]) (fun _ _ _ _ _ h => h) (Keep.refl _) (Keep.drew _) (Rn.s rfl Yv.mv (Rn.s rfl Yv.mv (Rn.s rfl (Yv.ia (e := 32) hrn8 (by omega) (by omega)) (Rn.s rfl (Yv.ldel hrn8 rfl rfl (by omega) (by omega)) (Rn.s rfl Yv.mv (Rn.s rfl Yv.mv (Rn.s rfl (Yv.add (by unfold inI; omega)) (Rn.s rfl (Yv.ia (e := 32) hrv8 (by omega) (by omega)) (Rn.s rfl (Yv.ldel hrv8 rfl rfl (by omega) (by omega)) (Rn.nil)))))))))) ?_)
      refine WDB.act2 9 10 (hi := Ef.allocL (vs := (default : Nd).cs) (St.init _) (fun b1 w1 k1 hs1 => ⟨fun _ _ => hs1.keep, WDB.act 10 (he := Ef.allocL (vs := (default : Nd).cs) hs1 (fun b2 w2 k2 hs2 => ⟨fun _ _ => hs2.keep, ?_⟩))⟩)) (hj := Ef.allocL (vs := (default : Nd).cs) (St.init _) (fun b1 w1 k1 hs1 => ⟨fun _ _ => hs1.keep, WDB.act 9 (he := Ef.allocL (vs := (default : Nd).cs) hs1 (fun b2 w2 k2 hs2 => ⟨fun _ _ => hs2.keep, ?_⟩))⟩))
      · refine WDB.act 11 (he := Ef.stores hs2 1 (fun w3 hs3 => ⟨fun _ _ => hs3.keep, WDB.act 12 (he := Ef.stores hs3 1 (fun w4 hs4 => ⟨fun _ _ => hs4.keep, WDB.done ?_⟩))⟩))
        exact ⟨rfl, (Keep.drew _).trans hs4.keep, b1, b2, hs4.cells 1, hs4.cells 0, rfl, rfl, rfl, rfl, rfl, rfl, trivial⟩
      · refine WDB.act 11 (he := Ef.stores hs2 0 (fun w3 hs3 => ⟨fun _ _ => hs3.keep, WDB.act 12 (he := Ef.stores hs3 1 (fun w4 hs4 => ⟨fun _ _ => hs4.keep, WDB.done ?_⟩))⟩))
        exact ⟨rfl, (Keep.drew _).trans hs4.keep, b2, b1, hs4.cells 1, hs4.cells 0, rfl, rfl, rfl, rfl, rfl, rfl, trivial⟩
    rintro ρ ds w9 ⟨rfl, hk9, b23, b24, ca, cb, hs⟩
    refine Wp.forget _ ?_ hs
    have hget : nth N (i : Int) = N[i] := by rw [nth_nat]; simp [hil]
    have hvi : nl (nth V ((i : Int) + 1)) = nl (fN id k 1 (nth N (i : Int))) := by
      have e1 : ((i : Int) + 1) = ((i + 1 : Nat) : Int) := by omega
      rw [e1, hget]
      refine hVn (i + 1) _ ?_
      obtain ⟨m, rfl⟩ : ∃ m, i = m + 1 := ⟨i - 1, by omega⟩
      simp only [List.getElem?_cons_succ, List.getElem?_map, List.getElem?_drop]
      have e2 : 1 + m = m + 1 := by omega
      rw [e2, List.getElem?_eq_getElem hil]
      rfl
    have hcol := parse_col (file := [102]) (s := s) (by rw [hNF]; exact hF)
    rw [hNF] at hcol
    obtain ⟨hc0, hc1⟩ := hcol (nth N (i : Int)) (by rw [hget]; exact List.getElem_mem hil)
    obtain ⟨hd0, hd1⟩ := hNd (nth N (i : Int)) (by rw [hget]; exact List.getElem_mem hil)
    obtain ⟨v1, v2, v3, v4, v5⟩ := nl_eq hvi
    have v1 : (nth V ((i : Int) + 1)).depth = (nth N (i : Int)).depth + 1 := v1
    have v2 : (nth V ((i : Int) + 1)).kind = (nth N (i : Int)).kind := v2
    have v3 : (nth V ((i : Int) + 1)).key = (nth N (i : Int)).key := v3
    have v4 : (nth V ((i : Int) + 1)).text = (nth N (i : Int)).text := v4
    have v5 : (nth V ((i : Int) + 1)).col = (nth N (i : Int)).col + k := v5
    refine Wp.seq (Wp.reads (is := [0, 1, 2, 3, 4, 5, 6, 7, 8, 9, 10, 11, 12, 13, 14, 15, 16, 17, 18, 19, 20, 21, 22, 23, 24, 25, 26, 27, 28, 29, 30, 31, 32, 33, 34, 35]) (Keep.refl _) (Rn.s rfl (Yv.fa (off := 1)) (Rn.s rfl (Yv.ld (cb.at_ 1)) (Rn.s rfl (Yv.fa (off := 1)) (Rn.s rfl (Yv.ld (ca.at_ 1)) (Rn.s rfl (Yv.add (by unfold inI; omega)) (Rn.s rfl (Yv.cmp _ rfl) (Rn.s rfl Yv.mv (Rn.or (is := [7, 8, 9, 10, 11, 12]) (js := [13, 14, 15, 16, 17, 18, 19, 20, 21, 22, 23, 24, 25, 26, 27, 28, 29, 30, 31, 32, 33, 34, 35]) (t := 182) (d := 188) (hg := rfl) (hf := fun h6 => have h6 := bne_eq_false_iff_eq.1 h6; Rn.s rfl (Yv.fa (off := 0)) (Rn.s rfl (Yv.ld (cb.at_ 0)) (Rn.s rfl (Yv.fa (off := 0)) (Rn.s rfl (Yv.ld (ca.at_ 0)) (Rn.s rfl (Yv.cmp _ rfl) (Rn.s rfl Yv.pick_f ((Rn.e 6 rfl rfl)))))))) (ht := fun _ => Rn.no rfl (Rn.no rfl (Rn.no rfl (Rn.no rfl (Rn.no rfl (Rn.s rfl Yv.pick_t (Rn.e 6 rfl rfl))))))) (k := Rn.s rfl Yv.mv (Rn.or (is := [14, 15, 16, 17, 18, 19]) (js := [20, 21, 22, 23, 24, 25, 26, 27, 28, 29, 30, 31, 32, 33, 34, 35]) (t := 189) (d := 195) (hg := rfl) (hf := fun h13 => Rn.s rfl (Yv.fa (off := 2)) (Rn.s rfl (Yv.ld (cb.at_ 2)) (Rn.s rfl (Yv.fa (off := 2)) (Rn.s rfl (Yv.ld (ca.at_ 2)) (Rn.s rfl (Yv.scm _ rfl) (Rn.s rfl Yv.pick_f ((Rn.e 6 rfl rfl)))))))) (ht := fun _ => Rn.no rfl (Rn.no rfl (Rn.no rfl (Rn.no rfl (Rn.no rfl (Rn.s rfl Yv.pick_t (Rn.e 6 rfl rfl))))))) (k := Rn.s rfl Yv.mv (Rn.or (is := [21, 22, 23, 24, 25, 26]) (js := [27, 28, 29, 30, 31, 32, 33, 34, 35]) (t := 196) (d := 202) (hg := rfl) (hf := fun h20 => Rn.s rfl (Yv.fa (off := 3)) (Rn.s rfl (Yv.ld (cb.at_ 3)) (Rn.s rfl (Yv.fa (off := 3)) (Rn.s rfl (Yv.ld (ca.at_ 3)) (Rn.s rfl (Yv.scm _ rfl) (Rn.s rfl Yv.pick_f ((Rn.e 6 rfl rfl)))))))) (ht := fun _ => Rn.no rfl (Rn.no rfl (Rn.no rfl (Rn.no rfl (Rn.no rfl (Rn.s rfl Yv.pick_t (Rn.e 6 rfl rfl))))))) (k := Rn.s rfl Yv.mv (Rn.or (is := [28, 29, 30, 31, 32, 33, 34, 35]) (js := []) (t := 203) (d := 211) (hg := rfl) (hf := fun h27 => Rn.s rfl (Yv.fa (off := 6)) (Rn.s rfl (Yv.ld (cb.at_ 6)) (Rn.s rfl (Yv.fa (off := 6)) (Rn.s rfl (Yv.ld (ca.at_ 6)) (Rn.s rfl Yv.mv (Rn.s rfl (Yv.add (by unfold inI; omega)) (Rn.s rfl (Yv.cmp _ rfl) (Rn.s rfl Yv.pick_f ((Rn.e 8 rfl rfl)))))))))) (ht := fun _ => Rn.no rfl (Rn.no rfl (Rn.no rfl (Rn.no rfl (Rn.no rfl (Rn.no rfl (Rn.no rfl (Rn.s rfl Yv.pick_t (Rn.e 8 rfl rfl))))))))) (k := Rn.nil))))))))))))))) ?_)
    refine Wp.cond_f ?_ (Wp.skip ?_)
    · refine congrArg (fun b => some (Value.bool b)) ?_
      rw [v1, v2, v3, v4, v5]
      simp
    refine Wp.reads (is := [0, 1, 2]) (Keep.refl _) (Rn.s rfl Yv.mv (Rn.s rfl (Yv.add (by unfold inI; omega)) (Rn.s rfl Yv.as (Rn.nil)))) ?_
    exact ⟨i + 1, ⟨rfl, by omega, hil, hk8.trans hk9, rfl, rfl, rfl, rfl, trivial⟩, by omega⟩
  have h3 := of_decide_eq_false h3
  refine Wp.exit ?_
  refine Wp.seq (Wp.regionL (l := [0, 1]) (WO.cv rfl (awake4_cv w8 (hg7.keep hk8)) (Keep.refl _) (FnOk.of Tryd.func34) (fun wx1 kx1 => WO.rd (is := [1]) (js := []) ((Keep.refl _).trans kx1) (Rn.s rfl Yv.as (Rn.nil)) (WO.done ?_))))
  exact Wp.ret (Fin.ret (Res.one rfl rfl) ⟨rfl, (hst.keep.trans hk8).trans (by assumption)⟩)
end Go.Proofs.YtbmplmehofgocaaDoor.C
