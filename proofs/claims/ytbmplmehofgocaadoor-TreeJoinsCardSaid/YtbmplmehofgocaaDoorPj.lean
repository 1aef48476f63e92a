/- TreeJoins is walked: its answer is true. -/
import Derived.Test.YtbmplmehofgocaaDoorPe
import Derived.Test.YtbmplmehofgocaaDoorPg
import Derived.Test.YtbmplmehofgocaaDoorBj
set_option linter.unusedVariables false
set_option linter.unusedSimpArgs false
set_option maxRecDepth 10000
namespace Go.Proofs.YtbmplmehofgocaaDoor.C
open Go.RowKit Go.Proofs.YtbmplmehofgocaaDoor.Sh
theorem joins_calls (s u : Bs) (hls : s.length ≤ 140737488355328) (hlu : u.length ≤ 140737488355328) (w0 : World) (hg : Gl w0) (w : World) (hk : Keep w0 w) : Calls Tryd.prog 14 #[S s, S u] w fun e w' => e = .returned (.bool true) ∧ Keep w w' := by
  have hg := hg.keep hk
  refine calls_of_Wp (vs := [_, _]) Tryd.func14 ?_
  refine Wp.seq (Wp.reads (is := [0]) (Keep.refl _) (Rn.s rfl Yv.as (Rn.nil)) ?_)
  refine Wp.seq (Wp.seq (Wp.reads (is := [0, 1, 2, 3, 4, 5]) (Keep.refl _) (Rn.s rfl Yv.mv (Rn.s rfl Yv.len_s (Rn.s rfl Yv.mv (Rn.s rfl Yv.len_s (Rn.s rfl (Yv.add (by unfold inI; omega)) (Rn.s rfl (Yv.cmp _ rfl) (Rn.nil))))))) ?_))
  refine Wp.cond rfl (fun h => ?_) (fun h => ?_)
  · refine Wp.seq (Wp.regionL (l := [0, 1]) (WO.cv rfl (awake4_cv w hg) (Keep.refl _) (FnOk.of Tryd.func34) (fun wx1 kx1 => WO.rd (is := [1]) (js := []) ((Keep.refl _).trans kx1) (Rn.s rfl Yv.as (Rn.nil)) (WO.done ?_))))
    exact Wp.ret (Fin.ret (Res.one rfl rfl) ⟨rfl, by assumption⟩)
  have hsl : s.length + u.length ≤ 20000 := by have := of_decide_eq_false h; omega
  refine Wp.skip (Wp.seq (Wp.seq (Wp.reads (is := [0, 1, 2, 3, 4, 5, 6, 7, 8, 9, 10]) (Keep.refl _) (Rn.s rfl Yv.mv (Rn.s rfl Yv.len_s (Rn.s rfl (Yv.cmp _ rfl) (Rn.s rfl Yv.mv (Rn.and (is := [4, 5, 6, 7, 8, 9, 10]) (js := []) (t := 26) (d := 33) (hg := rfl) (ht := fun h3 => have h3 := of_decide_eq_true h3; Rn.s rfl Yv.mv (Rn.s rfl Yv.mv (Rn.s rfl Yv.len_s (Rn.s rfl (Yv.sub (by unfold inI; omega)) (Rn.s rfl (Yv.ix (by omega) (by omega)) (Rn.s rfl (Yv.cmp _ rfl) (Rn.s rfl Yv.pick_t ((Rn.e 7 rfl rfl))))))))) (hf := fun _ => Rn.no rfl (Rn.no rfl (Rn.no rfl (Rn.no rfl (Rn.no rfl (Rn.no rfl (Rn.s rfl Yv.pick_f (Rn.e 7 rfl rfl)))))))) (k := Rn.nil)))))) ?_)))
  refine Wp.mid (fun ρ ds w' => ds = [] ∧ w' = w ∧ Sub [(0, S (endl s)), (1, S u)] ρ) ?_ ?_
  · refine Wp.cond rfl (fun h => ?_) (fun h => ?_)
    · refine Wp.reads (is := [0, 1, 2]) (Keep.refl _) (Rn.s rfl Yv.mv (Rn.s rfl (Yv.cat (by simp; omega)) (Rn.s rfl Yv.as (Rn.nil)))) ?_
      exact ⟨rfl, rfl, by rw [endl_t h]; rfl, rfl, trivial⟩
    · exact Wp.skip ⟨rfl, rfl, by rw [endl_f h]; rfl, rfl, trivial⟩
  rintro ρ ds w6 ⟨rfl, rfl, hs⟩
  refine Wp.forget _ ?_ hs
  have hel := endl_len s
  refine Wp.seq (Wp.reads (is := [0]) (Keep.refl _) (Rn.s rfl Yv.as (Rn.nil)) ?_)
  refine Wp.seq (Wp.seq (Wp.reads (is := [0]) (Keep.refl _) (Rn.s rfl Yv.as (Rn.nil)) ?_))
  refine Wp.block ?_
  refine Wp.loop (α := Nat) (fun i ρ ds w' => ds = [] ∧ i ≤ (endl s).length ∧ Keep w6 w' ∧ Sub [(0, S (endl s)), (1, S u), (5, .int .i64 (((endl s).take i).count 10 : Nat)), (6, .int .i64 (i : Int))] ρ) (fun i => (endl s).length - i) 0
    ⟨rfl, Nat.zero_le _, Keep.refl _, rfl, rfl, rfl, rfl, trivial⟩ ?_
  rintro i ρ ds w' ⟨rfl, hi, hkw, hs⟩
  refine Wp.forget _ ?_ hs
  have hcl : ((endl s).take i).count 10 ≤ i := Nat.le_trans List.count_le_length (by simp; omega)
  refine Wp.seq (Wp.seq (Wp.reads (is := [0, 1, 2, 3]) (Keep.refl _) (Rn.s rfl Yv.mv (Rn.s rfl Yv.mv (Rn.s rfl Yv.len_s (Rn.s rfl (Yv.cmp _ rfl) (Rn.nil))))) ?_))
  refine Wp.cond rfl (fun h3 => ?_) (fun h3 => ?_)
  · have h3 := of_decide_eq_true h3
    have hil : i < (endl s).length := by omega
    have hcs := count_step (endl s) i hil
    refine Wp.skip (Wp.seq (Wp.block ?_))
    refine Wp.seq (Wp.reads (is := [0, 1, 2, 3]) (Keep.refl _) (Rn.s rfl Yv.mv (Rn.s rfl Yv.mv (Rn.s rfl (Yv.ix (by omega) (by omega)) (Rn.s rfl (Yv.cmp _ rfl) (Rn.nil))))) ?_)
    refine Wp.mid (fun ρ ds w2 => ds = [] ∧ w2 = w' ∧ Sub [(0, S (endl s)), (1, S u), (5, .int .i64 (((endl s).take (i + 1)).count 10 : Nat)), (6, .int .i64 (i : Int))] ρ) ?_ ?_
    · refine Wp.cond rfl (fun h => ?_) (fun h => ?_)
      · have h := eq_of_beq h
        refine Wp.reads (is := [0, 1, 2]) (Keep.refl _) (Rn.s rfl Yv.mv (Rn.s rfl (Yv.add (by unfold inI; omega)) (Rn.s rfl Yv.as (Rn.nil)))) ?_
        refine ⟨rfl, rfl, rfl, rfl, ?_, rfl, trivial⟩
        rw [hcs, if_pos h]; rfl
      · have h := ne_of_beq_false h
        refine Wp.skip ⟨rfl, rfl, rfl, rfl, ?_, rfl, trivial⟩
        rw [hcs, if_neg h, Int.add_zero]; rfl
    rintro ρ ds w2 ⟨rfl, rfl, hs⟩
    refine Wp.forget _ ?_ hs
    refine Wp.reads (is := [0, 1, 2]) (Keep.refl _) (Rn.s rfl Yv.mv (Rn.s rfl (Yv.add (by unfold inI; omega)) (Rn.s rfl Yv.as (Rn.nil)))) ?_
    exact ⟨i + 1, ⟨rfl, hil, hkw, rfl, rfl, rfl, rfl, trivial⟩, by omega⟩
  have h3 := of_decide_eq_false h3
  rw [List.take_of_length_le (by omega)] at hcl
  rw [List.take_of_length_le (by omega)]
  refine Wp.exit ?_
  have hlaw := joins_law (s := s) (u := u) hsl
  obtain ⟨q, hq⟩ : ∃ q, q = (endl s).count 10 := ⟨_, rfl⟩
  rw [← hq] at hlaw hcl ⊢
  obtain ⟨T, F, hTF⟩ : ∃ T F, parseS [102] (endl s) = (T, F) := ⟨_, _, rfl⟩
  obtain ⟨U, G, hUG⟩ : ∃ U G, parseS [102] u = (U, G) := ⟨_, _, rfl⟩
  have hp1 := parse_cx [102] (endl s) w' (hg.keep hkw)
  rw [hTF] at hp1 hlaw
  rw [hUG] at hlaw
  simp only at hp1 hlaw
  have hil : ∀ {N : List Nd} {E : Ft} {file t : Bs}, parseS file t = (N, E) → E.code = 0 → N.length ≤ 16384 ∧ 0 < N.length ∧ E = ft0 := by
    intro N E file t h he
    have h0 : (parseS file t).2.code = 0 := by rw [h]; exact he
    have h1 := parse_is h0
    have h2 := ((parseS_law file t).2.2 (parse_lines h0) h0).1
    rw [h] at h1 h2
    have h3 := isS_depth h1
    exact ⟨h3.2.1, h3.1, h2⟩
  have hUno : G.code = 0 → ∀ n ∈ U, 0 ≤ n.line ∧ n.line ≤ 4096 := by
    intro h
    have := parse_line (file := [102]) (s := u) (by rw [hUG]; exact h)
    rw [hUG] at this
    exact this
  refine Wp.seq (Wp.regionL (l := [0, 1, 2, 3, 4, 5, 6, 7]) (WO.rd (is := [0]) (js := [1, 2, 3, 4, 5, 6, 7]) (Keep.refl _) (Rn.s rfl Yv.mv (Rn.nil)) (WO.act (hc := rfl) (he := Ef.cx hp1 (St.init w') (FnOk.of Tryd.func33) ?_))))
  rintro v D w1 ⟨A, c, rfl, rfl⟩ hs1
  refine WO.rd (is := [2, 3, 4]) (js := [5, 6, 7]) (Keep.refl _) (Rn.s rfl Yv.mv (Rn.s rfl Yv.ex (Rn.s rfl Yv.ex (Rn.nil)))) (WO.act (he := Ef.allocL (vs := ft0.cs) hs1 (fun b2 w2 k2 hs2 => WO.rd (is := [6]) (js := [7]) (Keep.refl _) (Rn.s rfl Yv.as (Rn.nil)) (WO.act (he := Ef.stores hs2 0 (fun w3 hs3 => WO.done ?_))))))
  have hst : St w' [] w3 [Ch.cells b2 42 F.cs, Ch.row NdE 32 A c T] := hs3
  have hp2 := parse_cx [102] u w3 ((hg.keep hkw).keep hst.keep)
  rw [hUG] at hp2
  simp only at hp2
  refine Wp.seq (Wp.regionL (l := [0, 1, 2, 3, 4, 5, 6, 7]) (WO.rd (is := [0]) (js := [1, 2, 3, 4, 5, 6, 7]) (Keep.refl _) (Rn.s rfl Yv.mv (Rn.nil)) (WO.act (hc := rfl) (he := Ef.cx hp2 hst (FnOk.of Tryd.func33) ?_))))
  rintro v D w4 ⟨B, d, rfl, rfl⟩ hs4
  refine WO.rd (is := [2, 3, 4]) (js := [5, 6, 7]) (Keep.refl _) (Rn.s rfl Yv.mv (Rn.s rfl Yv.ex (Rn.s rfl Yv.ex (Rn.nil)))) (WO.act (he := Ef.allocL (vs := ft0.cs) hs4 (fun b5 w5 k5 hs5 => WO.rd (is := [6]) (js := [7]) (Keep.refl _) (Rn.s rfl Yv.as (Rn.nil)) (WO.act (he := Ef.stores hs5 0 (fun w7 hs7 => WO.done ?_))))))
  have hst : St w' [] w7 [Ch.cells b5 42 G.cs, Ch.row NdE 32 B d U, Ch.cells b2 42 F.cs, Ch.row NdE 32 A c T] := hs7
  have hg7 := (hg.keep hkw).keep hst.keep
  have c8 := hst.cells 2
  have c10 := hst.cells 0
  refine Wp.seq (Wp.seq (Wp.reads (is := [0, 1, 2, 3, 4, 5, 6, 7, 8, 9, 10, 11, 12, 13, 14]) (Keep.refl _) (Rn.s rfl (Yv.fa (off := 0)) (Rn.s rfl (Yv.ld (c8.at_ 0)) (Rn.s rfl (Yv.cmp _ rfl) (Rn.s rfl Yv.mv (Rn.or (is := [4, 5, 6, 7]) (js := [8, 9, 10, 11, 12, 13, 14]) (t := 61) (d := 65) (hg := rfl) (hf := fun h3 => have h3 := bne_eq_false_iff_eq.1 h3; Rn.s rfl (Yv.fa (off := 0)) (Rn.s rfl (Yv.ld (c10.at_ 0)) (Rn.s rfl (Yv.cmp _ rfl) (Rn.s rfl Yv.pick_f ((Rn.e 4 rfl rfl)))))) (ht := fun _ => Rn.no rfl (Rn.no rfl (Rn.no rfl (Rn.s rfl Yv.pick_t (Rn.e 4 rfl rfl))))) (k := Rn.s rfl Yv.mv (Rn.or (is := [9, 10, 11, 12, 13, 14]) (js := []) (t := 66) (d := 72) (hg := rfl) (hf := fun h8 => Rn.s rfl Yv.mv (Rn.s rfl Yv.len_s (Rn.s rfl Yv.mv (Rn.s rfl (Yv.sub (by unfold inI; omega)) (Rn.s rfl (Yv.cmp _ rfl) (Rn.s rfl Yv.pick_f ((Rn.e 6 rfl rfl)))))))) (ht := fun _ => Rn.no rfl (Rn.no rfl (Rn.no rfl (Rn.no rfl (Rn.no rfl (Rn.s rfl Yv.pick_t (Rn.e 6 rfl rfl))))))) (k := Rn.nil)))))))) ?_))
  refine Wp.cond rfl (fun h => ?_) (fun h => ?_)
  · refine Wp.seq (Wp.regionL (l := [0, 1]) (WO.cv rfl (awake4_cv w7 hg7) (Keep.refl _) (FnOk.of Tryd.func34) (fun wx1 kx1 => WO.rd (is := [1]) (js := []) ((Keep.refl _).trans kx1) (Rn.s rfl Yv.as (Rn.nil)) (WO.done ?_))))
    exact Wp.ret (Fin.ret (Res.one rfl rfl) ⟨rfl, (hkw.trans hst.keep).trans (by assumption)⟩)
  simp only [Bool.or_eq_false_iff, bne_eq_false_iff_eq, decide_eq_false_iff_not] at h
  obtain ⟨⟨hF, hG⟩, hul⟩ := h
  obtain ⟨hTl, hT0, hFf⟩ := hil hTF hF
  obtain ⟨hUl, hU0, hGf⟩ := hil hUG hG
  have hlaw := hlaw (by omega) hF hG
  have hrb := hst.rd 1
  have hra := hst.rd 3
  refine Wp.skip (Wp.seq (Wp.seq (Wp.reads (is := [0]) (Keep.refl _) (Rn.s rfl Yv.as (Rn.nil)) ?_)))
  refine Wp.block ?_
  refine Wp.loop (α := Nat) (fun i ρ ds w' => ds = [] ∧ 1 ≤ i ∧ i ≤ U.length ∧ Keep w7 w' ∧ (∀ j : Nat, 1 ≤ j → j < i → (nth U (j : Int)).depth = 1 → ¬ 0 ≤ getS T [(nth U (j : Int)).key]) ∧ Sub [(0, S (endl s)), (1, S u), (5, .int .i64 (q : Nat)), (7, .slice A T.length c), (9, .slice B U.length d), (11, .int .i64 (i : Int))] ρ) (fun i => U.length - i) 1
    ⟨rfl, Nat.le_refl _, by omega, Keep.refl _, fun j h1 h2 => by omega, rfl, rfl, rfl, rfl, rfl, rfl, trivial⟩ ?_
  rintro i ρ ds w8 ⟨rfl, hi1, hi, hk8, hall, hs⟩
  refine Wp.forget _ ?_ hs
  have hst8 := hst.quiet hk8
  have hg8 := hg7.keep hk8
  have hrb8 := hrb.keep hk8
  have hra8 := hra.keep hk8
  refine Wp.seq (Wp.seq (Wp.reads (is := [0, 1, 2, 3]) (Keep.refl _) (Rn.s rfl Yv.mv (Rn.s rfl Yv.mv (Rn.s rfl (Yv.len_v (e := 32) (m := 8)) (Rn.s rfl (Yv.cmp _ rfl) (Rn.nil))))) ?_))
  refine Wp.cond rfl (fun h3 => ?_) (fun h3 => ?_)
  · have h3 := of_decide_eq_true h3
    have hil : i < U.length := by omega
    refine Wp.skip (Wp.seq (Wp.block ?_))
    refine Wp.seq (Wp.regionL (l := [0, 1, 2, 3, 4, 5, 6, 7, 8, 9, 10, 11, 12, 13, 14, 15, 16]) (WO.rd (is := [0, 1, 2, 3, 4, 5, 6]) (js := [7, 8, 9, 10, 11, 12, 13, 14, 15, 16]) (Keep.refl _) (Rn.s rfl Yv.mv (Rn.s rfl Yv.mv (Rn.s rfl (Yv.ia (e := 32) hrb8 (by omega) (by omega)) (Rn.s rfl (Yv.fa (off := 1)) (Rn.s rfl (Yv.ld (hrb8.ld 1 (by omega) (by omega))) (Rn.s rfl (Yv.cmp _ rfl) (Rn.s rfl Yv.mv (Rn.nil)))))))) (WO.and (js := []) 86 96 (hg := rfl) (ht := fun h6 qy1 => have h6 := eq_of_beq h6; WO.rd (is := [7, 8, 9, 10, 11, 12]) (js := [13, 14, 15, 16]) (Keep.refl _) (Rn.s rfl Yv.mv (Rn.s rfl Yv.mv (Rn.s rfl Yv.mv (Rn.s rfl (Yv.ia (e := 32) hrb8 (by omega) (by omega)) (Rn.s rfl (Yv.fa (off := 2)) (Rn.s rfl (Yv.ld (hrb8.ld 2 (by omega) (by omega))) (Rn.nil))))))) (WO.act (hc := rfl) (he := Ef.bsl (T := 9) StE [(nth U (i : Int)).key] hst8 (fun by2 wy2 ky2 hsy2 => WO.cv rfl (get_cv A c T _ _ [(nth U (i : Int)).key] wy2 (hg8.keep ky2) (hra8.keep ky2) (hsy2.rd 0) (by simp)) (Keep.refl _) (FnOk.of Tryd.func36) (fun wy3 ky3 => WO.rd (is := [15, 16]) (js := []) (((Keep.refl _).trans ky2).trans ky3) (Rn.s rfl (Yv.cmp _ rfl) (Rn.s rfl Yv.pick_t (Rn.nil))) (WO.e 10 (qy1 _ (((Keep.refl _).trans ky2).trans ky3)))))))) (hf := fun _ qy1 => WO.rd (is := [7, 8, 9, 10, 11, 12, 13, 14, 15, 16]) (js := []) (Keep.refl _) (Rn.no rfl (Rn.no rfl (Rn.no rfl (Rn.no rfl (Rn.no rfl (Rn.no rfl (Rn.no rfl (Rn.no rfl (Rn.no rfl (Rn.s rfl Yv.pick_f Rn.nil)))))))))) (WO.e 10 (qy1 _ (Keep.refl _)))) (k := fun wy1 ky1 => WO.done ?_))))
    refine Wp.cond rfl (fun h => ?_) (fun h => ?_)
    · refine Wp.seq (Wp.regionL (l := [0, 1]) (WO.cv rfl (awake4_cv wy1 (hg8.keep ky1)) (Keep.refl _) (FnOk.of Tryd.func34) (fun wx1 kx1 => WO.rd (is := [1]) (js := []) ((Keep.refl _).trans kx1) (Rn.s rfl Yv.as (Rn.nil)) (WO.done ?_))))
      exact Wp.ret (Fin.ret (Res.one rfl rfl) ⟨rfl, (((hkw.trans hst.keep).trans hk8).trans ky1).trans (by assumption)⟩)
    refine Wp.skip (Wp.reads (is := [0, 1, 2]) (Keep.refl _) (Rn.s rfl Yv.mv (Rn.s rfl (Yv.add (by unfold inI; omega)) (Rn.s rfl Yv.as (Rn.nil)))) ?_)
    refine ⟨i + 1, ⟨rfl, by omega, hil, hk8.trans ky1, fun j h1 h2 => ?_, rfl, rfl, rfl, rfl, rfl, rfl, trivial⟩, by omega⟩
    by_cases hj : j = i
    · subst hj
      intro hd hge
      simp [hd, hge] at h
    · exact hall j h1 (by omega)
  have h3 := of_decide_eq_false h3
  refine Wp.exit ?_
  have hno : ∀ n ∈ U.drop 1, n.depth = 1 → ¬ 0 ≤ getS T [n.key] := by
    intro n hn
    obtain ⟨j, hj⟩ := List.mem_iff_getElem?.1 hn
    rw [List.getElem?_drop] at hj
    have hjl := (List.getElem?_eq_some_iff.1 hj).1
    have e : nth U ((1 + j : Nat) : Int) = n := nth_of hj
    have := hall (1 + j) (by omega) (by omega)
    rw [e] at this
    exact this
  have hlaw := hlaw hno
  obtain ⟨V, hV⟩ : ∃ V, V = T ++ (U.drop 1).map fun x : Nd => ({ x with line := x.line + (q : Nat) } : Nd) := ⟨_, rfl⟩
  rw [← hV] at hlaw
  have hVl : V.length = T.length + (U.length - 1) := by rw [hV]; simp
  have hp3 := parse_cx [102] (endl s ++ u) w8 hg8
  rw [hlaw] at hp3
  simp only at hp3
  refine Wp.seq (Wp.regionL (l := [0, 1, 2, 3, 4, 5, 6, 7, 8, 9]) (WO.rd (is := [0, 1, 2]) (js := [3, 4, 5, 6, 7, 8, 9]) (Keep.refl _) (Rn.s rfl Yv.mv (Rn.s rfl Yv.mv (Rn.s rfl (Yv.cat (by omega)) (Rn.nil)))) (WO.act (hc := rfl) (he := Ef.cx hp3 hst8 (FnOk.of Tryd.func33) ?_))))
  rintro v D w9 ⟨C, e, rfl, rfl⟩ hs9
  refine WO.rd (is := [4, 5, 6]) (js := [7, 8, 9]) (Keep.refl _) (Rn.s rfl Yv.mv (Rn.s rfl Yv.ex (Rn.s rfl Yv.ex (Rn.nil)))) (WO.act (he := Ef.allocL (vs := ft0.cs) hs9 (fun b10 w10 k10 hs10 => WO.rd (is := [8]) (js := [9]) (Keep.refl _) (Rn.s rfl Yv.as (Rn.nil)) (WO.act (he := Ef.stores hs10 0 (fun w11 hs11 => WO.done ?_))))))
  have hst : St w' [] w11 [Ch.cells b10 42 ft0.cs, Ch.row NdE 32 C e V, Ch.row NdE 32 B d U, Ch.row NdE 32 A c T] := hs11.pick [0, 1, 3, 5]
  have hg11 := (hg.keep hkw).keep hst.keep
  have c13 := hst.cells 0
  have hrv := hst.rd 1
  have hrb := hst.rd 2
  have hra := hst.rd 3
  have hcap := hst.cap 1
  have hft : vEqs ft0.cs ft0.cs = some true := by rw [ftEq]; simp
  have hpre : Rd NdE w11 C T := rd_pre (by rw [hV] at hrv; exact hrv)
  have hsame : Cv Tryd.prog 22 [.slice C T.length e, .slice A T.length c] (.bool true) w11 := by
    have := same_cv C e T A c T w11 hpre hra (by omega)
    simpa using this
  refine Wp.seq (Wp.seq (Wp.regionL (l := [0, 1, 2, 3, 4, 5, 6, 7, 8, 9, 10, 11, 12, 13, 14, 15, 16, 17, 18, 19, 20, 21, 22]) (WO.rd (is := [0, 1, 2, 3, 4, 5, 6, 7, 8, 9, 10, 11, 12, 13, 14]) (js := [15, 16, 17, 18, 19, 20, 21, 22]) (Keep.refl _) (Rn.s rfl (Yv.ldb c13) (Rn.s rfl (Yv.bd (cs := ft0.cs)) (Rn.s rfl (Yv.nes hft) (Rn.s rfl Yv.mv (Rn.or (is := [4, 5, 6, 7, 8, 9, 10, 11, 12, 13]) (js := [14]) (t := 108) (d := 118) (hg := rfl) (hf := fun h3 => Rn.s rfl Yv.mv (Rn.s rfl (Yv.len_v (e := 32) (m := 8)) (Rn.s rfl Yv.mv (Rn.s rfl (Yv.len_v (e := 32) (m := 8)) (Rn.s rfl Yv.mv (Rn.s rfl (Yv.len_v (e := 32) (m := 8)) (Rn.s rfl (Yv.add (by unfold inI; omega)) (Rn.s rfl (Yv.sub (by unfold inI; omega)) (Rn.s rfl (Yv.cmp _ rfl) (Rn.s rfl Yv.pick_f ((Rn.e 10 rfl rfl)))))))))))) (ht := fun _ => Rn.no rfl (Rn.no rfl (Rn.no rfl (Rn.no rfl (Rn.no rfl (Rn.no rfl (Rn.no rfl (Rn.no rfl (Rn.no rfl (Rn.s rfl Yv.pick_t (Rn.e 10 rfl rfl))))))))))) (k := Rn.s rfl Yv.mv (Rn.nil))))))) (WO.or (js := []) 119 127 (hg := rfl) (hf := fun h14 qz1 => WO.rd (is := [15, 16, 17, 18, 19]) (js := [20, 21, 22]) (Keep.refl _) (Rn.s rfl Yv.mv (Rn.s rfl Yv.mv (Rn.s rfl (Yv.len_v (e := 32) (m := 8)) (Rn.s rfl (Yv.sl_t (n := 8) (e := 32) (by omega) (by omega)) (Rn.s rfl Yv.mv (Rn.nil)))))) (WO.cv rfl hsame (Keep.refl _) (FnOk.of Tryd.func22) (fun wz2 kz2 => WO.rd (is := [21, 22]) (js := []) ((Keep.refl _).trans kz2) (Rn.s rfl Yv.not (Rn.s rfl Yv.pick_f (Rn.nil))) (WO.e 8 (qz1 _ ((Keep.refl _).trans kz2)))))) (ht := fun _ qz1 => WO.rd (is := [15, 16, 17, 18, 19, 20, 21, 22]) (js := []) (Keep.refl _) (Rn.no rfl (Rn.no rfl (Rn.no rfl (Rn.no rfl (Rn.no rfl (Rn.no rfl (Rn.no rfl (Rn.s rfl Yv.pick_t Rn.nil)))))))) (WO.e 8 (qz1 _ (Keep.refl _)))) (k := fun wz1 kz1 => WO.done ?_)))))
  refine Wp.cond_f ?_ (Wp.skip ?_)
  · refine congrArg (fun b => some (Value.bool b)) ?_
    have : ((V.length : Int) != (T.length : Int) + U.length - 1) = false := by rw [bne_eq_false_iff_eq]; omega
    simp [this]
  have hst := hst.quiet kz1
  have hg12 := hg11.keep kz1
  have hrv := hrv.keep kz1
  have hrb := hrb.keep kz1
  refine Wp.seq (Wp.seq (Wp.reads (is := [0]) (Keep.refl _) (Rn.s rfl Yv.as (Rn.nil)) ?_))
  refine Wp.block ?_
  refine Wp.loop (α := Nat) (fun i ρ ds w' => ds = [] ∧ 1 ≤ i ∧ i ≤ U.length ∧ Keep wz1 w' ∧ Sub [(5, .int .i64 (q : Nat)), (7, .slice A T.length c), (9, .slice B U.length d), (12, .slice C V.length e), (14, .int .i64 (i : Int))] ρ) (fun i => U.length - i) 1
    ⟨rfl, Nat.le_refl _, by omega, Keep.refl _, rfl, rfl, rfl, rfl, rfl, trivial⟩ ?_
  rintro i ρ ds w12 ⟨rfl, hi1, hi, hk12, hs⟩
  refine Wp.forget _ ?_ hs
  have hrb12 := hrb.keep hk12
  have hrv12 := hrv.keep hk12
  refine Wp.seq (Wp.seq (Wp.reads (is := [0, 1, 2, 3]) (Keep.refl _) (Rn.s rfl Yv.mv (Rn.s rfl Yv.mv (Rn.s rfl (Yv.len_v (e := 32) (m := 8)) (Rn.s rfl (Yv.cmp _ rfl) (Rn.nil))))) ?_))
  refine Wp.cond rfl (fun h3 => ?_) (fun h3 => ?_)
  · have h3 := of_decide_eq_true h3
    have hil : i < U.length := by omega
    refine Wp.skip (Wp.seq (Wp.block ?_))
    refine Wp.seq (Wp.regionL (l := [0, 1, 2, 3, 4, 5]) (WO.rd (is := [0, 1, 2, 3]) (js := [4, 5]) (Keep.refl _) (Rn.s rfl Yv.mv (Rn.s rfl Yv.mv (Rn.s rfl (Yv.ia (e := 32) hrb12 (by omega) (by omega)) (Rn.s rfl (Yv.ldel hrb12 rfl rfl (by omega) (by omega)) (Rn.nil))))) (WO.act (hc := rfl) (he := Ef.allocL (vs := (default : Nd).cs) (St.init w12) (fun ba1 wa1 ka1 hsa1 => WO.act (hc := rfl) (he := Ef.stores hsa1 0 (fun wa2 hsa2 => WO.done ?_)))))))
    have hget : nth U (i : Int) = U[i] := by rw [nth_nat]; simp [hil]
    obtain ⟨ln0, ln1⟩ := hUno hG (nth U (i : Int)) (by rw [hget]; exact List.getElem_mem hil)
    refine Wp.seq (Wp.regionL (l := [0, 1, 2, 3, 4, 5]) (WO.rd (is := [0, 1, 2, 3, 4]) (js := [5]) (Keep.refl _) (Rn.s rfl (Yv.fa (off := 5)) (Rn.s rfl (Yv.ld ((hsa2.cells 0).at_ 5)) (Rn.s rfl Yv.mv (Rn.s rfl (Yv.add (by unfold inI; omega)) (Rn.s rfl (Yv.fa (off := 5)) (Rn.nil)))))) (WO.act (hc := rfl) (he := Ef.store hsa2 0 (fun wb1 hsb1 => WO.done ?_)))))
    have hx : Cells wb1 ba1 (Nd.cs { nth U (i : Int) with line := (nth U (i : Int)).line + (q : Nat) }) := hsb1.cells 0
    have hgv : nth V ((T.length : Int) + i - 1) = { nth U (i : Int) with line := (nth U (i : Int)).line + (q : Nat) } := by
      have e1 : (T.length : Int) + i - 1 = ((T.length + (i - 1) : Nat) : Int) := by omega
      rw [e1, hget]
      refine nth_of ?_
      rw [hV, List.getElem?_append_right (by omega)]
      simp only [Nat.add_sub_cancel_left, List.getElem?_map, List.getElem?_drop]
      have e2 : 1 + (i - 1) = i := by omega
      rw [e2, List.getElem?_eq_getElem hil]
      rfl
    have hkb := hsb1.keep
    have hrv13 := hrv12.keep hkb
    refine Wp.seq (Wp.readsD (is := [0, 1, 2, 3, 4, 5, 6, 7, 8, 9]) mixed (fun _ _ _ _ _ h => h) (Keep.refl _) (Rn.s rfl Yv.mv (Rn.s rfl Yv.mv (Rn.s rfl (Yv.len_v (e := 32) (m := 8)) (Rn.s rfl Yv.mv (Rn.s rfl (Yv.add (by unfold inI; omega)) (Rn.s rfl (Yv.sub (by unfold inI; omega)) (Rn.s rfl (Yv.ia (e := 32) hrv13 (by omega) (by omega)) (Rn.s rfl (Yv.ldel hrv13 rfl rfl (by omega) (by omega)) (Rn.s rfl (Yv.ldb hx) (Rn.s rfl (Yv.nes (ndEq (nth V ((T.length : Int) + i - 1)) { nth U (i : Int) with line := (nth U (i : Int)).line + (q : Nat) })) (Rn.nil))))))))))) ?_)
    refine Wp.cond_f ?_ (Wp.skip ?_)
    · refine congrArg (fun b => some (Value.bool b)) ?_
      rw [hgv]
      simp
    refine Wp.reads (is := [0, 1, 2]) (Keep.refl _) (Rn.s rfl Yv.mv (Rn.s rfl (Yv.add (by unfold inI; omega)) (Rn.s rfl Yv.as (Rn.nil)))) ?_
    exact ⟨i + 1, ⟨rfl, by omega, hil, (hk12.trans hkb).trans (Keep.drew _), rfl, rfl, rfl, rfl, rfl, trivial⟩, by omega⟩
  have h3 := of_decide_eq_false h3
  refine Wp.exit ?_
  refine Wp.seq (Wp.regionL (l := [0, 1]) (WO.cv rfl (awake4_cv w12 (hg12.keep hk12)) (Keep.refl _) (FnOk.of Tryd.func34) (fun wx1 kx1 => WO.rd (is := [1]) (js := []) ((Keep.refl _).trans kx1) (Rn.s rfl Yv.as (Rn.nil)) (WO.done ?_))))
  exact Wp.ret (Fin.ret (Res.one rfl rfl) ⟨rfl, ((hkw.trans hst.keep).trans hk12).trans (by assumption)⟩)
end Go.Proofs.YtbmplmehofgocaaDoor.C
