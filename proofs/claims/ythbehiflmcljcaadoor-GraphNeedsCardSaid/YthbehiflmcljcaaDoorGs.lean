/- graph is awake: its three functions at one small input each. -/
import Derived.Test.YthbehiflmcljcaaDoorGr
set_option linter.unusedVariables false
set_option linter.unusedSimpArgs false
set_option maxRecDepth 10000
namespace Go.Proofs.YthbehiflmcljcaaDoor.C
open Go.RowKit Go.Proofs.YthbehiflmcljcaaDoor.Sh
theorem ftEq (f g : Ft) : vEqs f.cs g.cs = some (decide (f = g)) := by
  refine (vEqs_cons (vEq_int _ _ _) (vEqs_cons (vEq_S _ _) (vEqs_cons (vEq_int _ _ _) (vEqs_cons (vEq_int _ _ _) rfl)))).trans ?_
  obtain ⟨a, b, c, d⟩ := f
  obtain ⟨a', b', c', d'⟩ := g
  simp [Bool.decide_and]
theorem rd_nil {α : Type} (E : Enc α) (w : World) : Rd E w none [] := ⟨fun h => absurd h (by simp), fun j x h => by simp at h⟩
abbrev n0 : Ne := ⟨[97], ft0⟩
abbrev i0 : Ist := ⟨[97], 0, (none, 0, []), (none, 0, []), [], (none, 0, []), 0, 0, false, 0, (none, 0, []), false, ft0⟩
abbrev i1 : Ist := ⟨[98], 0, (none, 0, []), (none, 0, []), [], (none, 0, []), 1, 0, false, 0, (none, 0, []), false, ft0⟩
abbrev i2 (b : Nat) : Ist := ⟨[99], 0, (none, 0, []), (none, 0, []), [], (some ⟨b, 0, none⟩, 1, [n0]), 0, 0, false, 0, (none, 0, []), true, ft0⟩
abbrev is3 (b : Nat) : List Ist := [i0, i1, i2 b]
theorem n0_read : readG [97] = some ([97], []) := by decide +kernel
theorem n0_e (b : Nat) : needE (is3 b) [97] = (0, [0]) := by
  unfold needE
  rw [n0_read]
  have h1 : allK (is3 b).length (fun i => ofB [97] (nth (is3 b) (i : Int)).name) = [0] := rfl
  have h2 : allK (is3 b).length (fun i => meansB [97] [] (nth (is3 b) (i : Int))) = [0] := rfl
  simp only [h1, h2]
  rfl
theorem comp_one (x : Int) : Lib.compact (sortI [x]) = [x] := by
  have : sortI [x] = [x] := by simp [sortI]
  rw [this]
  rfl
theorem aw_p2 (b : Nat) : predsS (is3 b) 2 = ([0], ft0) := by
  have h : predsS (is3 b) 2 = neededF (is3 b) [n0] [] := rfl
  rw [h, neededF, n0_e, if_neg (fun q => q rfl), neededF]
  rw [show ([] : Is) ++ ((0, [0]) : Int × Is).2 = [0] from rfl, comp_one]
theorem aw_p0 (b : Nat) : predsS (is3 b) 0 = ([], ft0) := rfl
theorem aw_p1 (b : Nat) : predsS (is3 b) 1 = ([0, 2], ft0) := rfl
theorem aw_edges (b : Nat) : edgesS (is3 b) = [[], [0, 2], [0]] := by
  show [(predsS (is3 b) 0).1, (predsS (is3 b) 1).1, (predsS (is3 b) 2).1] = _
  rw [aw_p0, aw_p1, aw_p2]
theorem aw_stages (b : Nat) : stagesS (is3 b) = [0, 1, 0] := rfl
theorem aw_code : orderC [[], [0, 2], [0]] [0, 1, 0] = 0 := by decide +kernel
theorem aw_build (b : Nat) : buildS (is3 b) = ([[], [0, 2], [0]], ft0) := by
  have hf : (List.range (is3 b).length).find? (badP (is3 b)) = none := find_none fun i hi => by
    have hi : i < 3 := hi
    obtain rfl | rfl | rfl : i = 0 ∨ i = 1 ∨ i = 2 := by omega
    · unfold badP; rw [aw_p0]; rfl
    · unfold badP; rw [aw_p1]; rfl
    · unfold badP; rw [aw_p2]; rfl
  unfold buildS
  rw [hf, aw_edges, aw_stages]
  simp only [aw_code, if_true]
theorem aw_bld (b : Nat) : BldOk (is3 b) := by
  refine ⟨by simp, fun x hx => ?_, fun x hx h => ?_, fun x hx h => ?_⟩
  all_goals
    simp only [is3, List.mem_cons, List.not_mem_nil, or_false] at hx
    rcases hx with rfl | rfl | rfl
  · simp
  · simp
  · simp
  · cases h
  · cases h
  · simp
  · cases h
  · cases h
  · intro y hy
    have : y = n0 := by simpa using hy
    subst this
    exact ⟨by decide, by decide⟩
theorem aw_order : orderS [[1], []] [0, 0] = [1, 0] ∧ orderC [[1], []] [0, 0] = 0 := by decide +kernel
theorem aw_cyc : orderC [[1], [0]] [0, 0] = 163 := by decide +kernel
theorem aw_len {c : Is} (h0 : c ≠ []) (h : CycOk [[1], [0]] c) : c.length = 2 := by
  have hm : ∀ x ∈ c, x = 0 ∨ x = 1 := fun x hx => by
    obtain ⟨i, hi, rfl⟩ := h.mem x hx
    have hi : i < 2 := hi
    omega
  match c, h0, h, hm with
  | [x], _, h, hm =>
    exfalso
    have h1 := h.next 0 (by simp)
    have h2 := hm x (by simp)
    have e : nth [x] ((0 : Nat) : Int) = x := rfl
    have e2 : nth [x] (((0 + 1) % [x].length : Nat) : Int) = x := by simp [nth]
    rw [e, e2] at h1
    rcases h2 with rfl | rfl
    · simp [nth] at h1
    · simp [nth] at h1
  | [x, y], _, _, _ => rfl
  | x :: y :: z :: r, _, h, hm =>
    exfalso
    have h1 := h.nodup
    simp only [List.nodup_cons, List.mem_cons, not_or] at h1
    have a := hm x (by simp)
    have b := hm y (by simp)
    have d := hm z (by simp)
    obtain ⟨⟨q1, q2, -⟩, ⟨q3, -⟩, -⟩ := h1
    omega
theorem awake_cv (w0 : World) : Cv Tryd.prog 19 [] (.bool true) w0 := by
  intro w hk
  refine calls_of_Wp (vs := []) Tryd.func19 ?_
  refine Wp.seq (Wp.reads (is := [0]) (Keep.refl _) (Rn.s rfl Yv.as (Rn.nil)) ?_)
  refine Wp.seq (Wp.regionL (l := [0, 1, 2, 3, 4, 5, 6]) (WO.rd (is := [0, 1, 2]) (js := [3, 4, 5, 6]) (Keep.refl _) (Rn.s rfl (Yv.bd (cs := IsE.cells i0)) (Rn.s rfl (Yv.bd (cs := IsE.cells i1)) (Rn.s rfl (Yv.bd (cs := NeE.cells n0)) (Rn.nil)))) (WO.act (hc := rfl) (he := Ef.bsl (T := 53) NeE [n0] (St.init w) (fun ba1 wa1 ka1 hsa1 => WO.rd (is := [4]) (js := [5, 6]) ((Keep.refl _).trans ka1) (Rn.s rfl (Yv.bd (cs := IsE.cells (i2 ba1))) (Rn.nil)) (WO.act (hc := rfl) (he := Ef.bsl (T := 46) IsE (is3 ba1) hsa1 (fun ba2 wa2 ka2 hsa2 => WO.rd (is := [6]) (js := []) (((Keep.refl _).trans ka1).trans ka2) (Rn.s rfl Yv.as (Rn.nil)) (WO.done ?_)))))))))
  have hIs : IsB wa2 (some ⟨ba2, 0, none⟩) (is3 ba1) := by
    refine ⟨hsa2.rd 0, fun x hx => ?_, fun x hx => ?_⟩
    all_goals
      simp only [is3, List.mem_cons, List.not_mem_nil, or_false] at hx
      rcases hx with rfl | rfl | rfl
    · exact rd_nil _ _
    · exact rd_nil _ _
    · exact rd_nil _ _
    · exact rd_nil _ _
    · exact rd_nil _ _
    · exact hsa2.rd 1
  have hB := build_cx (some ⟨ba2, 0, none⟩) 3 (is3 ba1) wa2 hIs (aw_bld ba1)
  rw [aw_build] at hB
  refine Wp.seq (Wp.regionL (l := [0, 1, 2, 3, 4, 5, 6, 7]) (WO.rd (is := [0]) (js := [1, 2, 3, 4, 5, 6, 7]) (Keep.refl _) (Rn.s rfl Yv.mv (Rn.nil)) (WO.act (hc := rfl) (he := Ef.cx (caps := []) (A := []) hB hsa2 (FnOk.of Tryd.func23) ?_))))
  rintro v D w1 ⟨O, co, rr, hrr, rfl, rfl⟩ hs1
  refine WO.rd (is := [2, 3, 4]) (js := [5, 6, 7]) (Keep.refl _) (Rn.s rfl Yv.mv (Rn.s rfl Yv.ex (Rn.s rfl Yv.ex (Rn.nil)))) (WO.act (hc := rfl) (he := Ef.allocL (vs := ft0.cs) hs1 (fun b3 w3 k3 hs3 => WO.rd (is := [6]) (js := [7]) (Keep.refl _) (Rn.s rfl Yv.as (Rn.nil)) (WO.act (hc := rfl) (he := Ef.stores hs3 0 (fun w4 hs4 => WO.done ?_))))))
  have hs4 : St w [] w4 ([Ch.cells b3 44 ft0.cs, Ch.row ShE 23 O co rr] ++ (RsD rr ++ [Ch.row IsE 46 (some ⟨ba2, 0, none⟩) 3 (is3 ba1), Ch.row NeE 53 (some ⟨ba1, 0, none⟩) 1 [n0]])) := by
    simpa using hs4
  have hst := hs4
  clear hs1 hs3 hs4
  refine Wp.seq (Wp.regionL (l := [0, 1, 2, 3, 4, 5, 6, 7, 8]) (WO.act (hc := rfl) (he := Ef.bsl (T := 3) InE [1] hst (fun b5 w5 k5 hs5 => WO.act (hc := rfl) (he := Ef.bsl (T := 23) ShE [(some ⟨b5, 0, none⟩, 1, [1]), (none, 0, [])] hs5 (fun b6 w6 k6 hs6 => WO.act (hc := rfl) (he := Ef.bsl (T := 3) InE [0, 0] hs6 (fun b7 w7 k7 hs7 => ?_))))))))
  have hl7 : LsAt w7 (some ⟨b6, 0, none⟩) [(some ⟨b5, 0, none⟩, 1, [1]), (none, 0, [])] := by
    refine ⟨hs7.rd 1, fun x hx => ?_⟩
    simp only [List.mem_cons, List.not_mem_nil, or_false] at hx
    rcases hx with rfl | rfl
    · exact hs7.rd 2
    · exact rd_nil _ _
  have hO := order_cx (some ⟨b6, 0, none⟩) 2 [(some ⟨b5, 0, none⟩, 1, [1]), (none, 0, [])] (some ⟨b7, 0, none⟩) 2 [0, 0] w7 hl7 (hs7.rd 0) (by simp) (fun x hx => by
    simp only [List.mem_cons, List.not_mem_nil, or_false] at hx
    rcases hx with rfl | rfl <;> simp) (by simp)
  have e1 : pl [((some ⟨b5, 0, none⟩, 1, [1]) : Sl), (none, 0, [])] = [[1], []] := rfl
  rw [e1, aw_order.1, aw_order.2] at hO
  refine WO.act (hc := rfl) (he := Ef.cx (caps := []) (A := []) hO hs7 (FnOk.of Tryd.func13) ?_)
  rintro v D w8 ⟨Oo, coo, rfl, rfl⟩ hs8
  refine WO.rd (is := [4, 5, 6, 7, 8]) (js := []) (Keep.refl _) (Rn.s rfl Yv.mv (Rn.s rfl Yv.ex (Rn.s rfl Yv.ex (Rn.s rfl Yv.as (Rn.s rfl Yv.as (Rn.nil)))))) (WO.done ?_)
  refine Wp.seq (Wp.regionL (l := [0, 1, 2, 3, 4]) (WO.act (hc := rfl) (he := Ef.bsl (T := 3) InE [1] hs8 (fun b9 w9 k9 hs9 => WO.act (hc := rfl) (he := Ef.bsl (T := 3) InE [0] hs9 (fun b10 w10 k10 hs10 => WO.act (hc := rfl) (he := Ef.bsl (T := 23) ShE [(some ⟨b9, 0, none⟩, 1, [1]), (some ⟨b10, 0, none⟩, 1, [0])] hs10 (fun b11 w11 k11 hs11 => ?_))))))))
  have hl11 : LsAt w11 (some ⟨b11, 0, none⟩) [(some ⟨b9, 0, none⟩, 1, [1]), (some ⟨b10, 0, none⟩, 1, [0])] := by
    refine ⟨hs11.rd 0, fun x hx => ?_⟩
    simp only [List.mem_cons, List.not_mem_nil, or_false] at hx
    rcases hx with rfl | rfl
    · exact hs11.rd 2
    · exact hs11.rd 1
  have hC := cycle_cx (some ⟨b11, 0, none⟩) 2 [(some ⟨b9, 0, none⟩, 1, [1]), (some ⟨b10, 0, none⟩, 1, [0])] w11 hl11 (by simp) (fun x hx => by
    simp only [List.mem_cons, List.not_mem_nil, or_false] at hx
    rcases hx with rfl | rfl <;> simp)
  have e2 : pl [((some ⟨b9, 0, none⟩, 1, [1]) : Sl), (some ⟨b10, 0, none⟩, 1, [0])] = [[1], [0]] := rfl
  rw [e2] at hC
  refine WO.act (hc := rfl) (he := Ef.cx (caps := []) (A := []) hC hs11 (FnOk.of Tryd.func20) ?_)
  rintro v D w12 ⟨L, cl, cyc, rfl, rfl, hcy, -⟩ hs12
  refine WO.rd (is := [4]) (js := []) (Keep.refl _) (Rn.s rfl Yv.as (Rn.nil)) (WO.done ?_)
  obtain ⟨hc0, hc1⟩ := hcy aw_cyc
  have hcl := aw_len hc0 hc1
  have hsL : St w [] w12 ([Ch.row InE 3 L cl cyc, Ch.row ShE 23 (some ⟨b11, 0, none⟩) 2 [(some ⟨b9, 0, none⟩, 1, [1]), (some ⟨b10, 0, none⟩, 1, [0])], Ch.row InE 3 (some ⟨b10, 0, none⟩) 1 [0], Ch.row InE 3 (some ⟨b9, 0, none⟩) 1 [1], Ch.row InE 3 Oo coo [1, 0],
    Ch.row InE 3 (some ⟨b7, 0, none⟩) 2 [0, 0], Ch.row ShE 23 (some ⟨b6, 0, none⟩) 2 [(some ⟨b5, 0, none⟩, 1, [1]), (none, 0, [])], Ch.row InE 3 (some ⟨b5, 0, none⟩) 1 [1], Ch.cells b3 44 ft0.cs, Ch.row ShE 23 O co rr] ++ (RsD rr ++ [Ch.row IsE 46 (some ⟨ba2, 0, none⟩) 3 (is3 ba1), Ch.row NeE 53 (some ⟨ba1, 0, none⟩) 1 [n0]])) := hs12
  clear hs12 hs11 hs10 hs9 hs8 hs7 hs6 hs5 hst
  have c3 := hsL.cells 8
  have hls : LsAt w12 O rr := ⟨hsL.rd 9, fun y hy => row_rd (hsL.ok (RsC y) (List.mem_append.2 (.inr (List.mem_append.2 (.inl (List.mem_map.2 ⟨y, hy, rfl⟩))))))⟩
  have hro := hsL.rd 4
  have hrrl : rr.length = 3 := by have := congrArg List.length hrr; simpa using this
  have hrb : ∀ y ∈ rr, y.2.2.length ≤ 9223372036854775806 := fun y hy => by
    have h1 : y.2.2 ∈ pl rr := List.mem_map.2 ⟨y, hy, rfl⟩
    rw [hrr] at h1
    simp only [List.mem_cons, List.not_mem_nil, or_false] at h1
    rcases h1 with h | h | h <;> rw [h] <;> simp
  have hSl : ∀ (b2 b1 b0 : Nat) {W : World}, Keep w12 W → LsAt W (some ⟨b2, 0, none⟩) [(none, 0, []), (some ⟨b0, 0, none⟩, 2, [0, 2]), (some ⟨b1, 0, none⟩, 1, [0])] → Cv Tryd.prog 14 [.slice O rr.length co, .slice (some ⟨b2, 0, none⟩) 3 3] (.bool true) W := fun b2 b1 b0 W kW hW => by
    have := samel_cv O co rr (some ⟨b2, 0, none⟩) 3 [(none, 0, []), (some ⟨b0, 0, none⟩, 2, [0, 2]), (some ⟨b1, 0, none⟩, 1, [0])] W (hls.keep kW) hW (by omega) hrb
    have e : pl rr = pl [((none, 0, []) : Sl), (some ⟨b0, 0, none⟩, 2, [0, 2]), (some ⟨b1, 0, none⟩, 1, [0])] := hrr
    rw [decide_eq_true e] at this
    exact this
  have hSi : ∀ (b : Nat) {W : World}, Keep w12 W → Rd InE W (some ⟨b, 0, none⟩) [1, 0] → Cv Tryd.prog 17 [.slice Oo 2 coo, .slice (some ⟨b, 0, none⟩) 2 2] (.bool true) W := fun b W kW hW => by
    have := same_cv Oo coo [1, 0] (some ⟨b, 0, none⟩) 2 [1, 0] W (hro.keep kW) hW (by simp)
    rw [decide_eq_true rfl] at this
    exact this
  have hL3 : ∀ {W : World} {b0 b1 b2 : Nat} {X : List Chunk}, St w [] W (Ch.row ShE 23 (some ⟨b2, 0, none⟩) 3 [(none, 0, []), (some ⟨b0, 0, none⟩, 2, [0, 2]), (some ⟨b1, 0, none⟩, 1, [0])] :: Ch.row InE 3 (some ⟨b1, 0, none⟩) 1 [0] :: Ch.row InE 3 (some ⟨b0, 0, none⟩) 2 [0, 2] :: X) → LsAt W (some ⟨b2, 0, none⟩) [(none, 0, []), (some ⟨b0, 0, none⟩, 2, [0, 2]), (some ⟨b1, 0, none⟩, 1, [0])] := fun h => by
    refine ⟨h.rd 0, fun x hx => ?_⟩
    simp only [List.mem_cons, List.not_mem_nil, or_false] at hx
    rcases hx with rfl | rfl | rfl
    · exact rd_nil _ _
    · exact h.rd 2
    · exact h.rd 1
  refine Wp.seq (Wp.regionL (l := [0, 1, 2, 3, 4, 5, 6, 7, 8, 9, 10, 11, 12, 13, 14, 15, 16, 17, 18, 19, 20, 21, 22, 23, 24]) (WO.rd (is := [0, 1, 2, 3]) (js := [4, 5, 6, 7, 8, 9, 10, 11, 12, 13, 14, 15, 16, 17, 18, 19, 20, 21, 22, 23, 24]) (Keep.refl _) (Rn.s rfl (Yv.ldb c3) (Rn.s rfl (Yv.bd (cs := ft0.cs)) (Rn.s rfl (Yv.eqs (ftEq ft0 ft0)) (Rn.s rfl Yv.mv (Rn.nil))))) (WO.and (js := [10, 11, 12, 13, 14, 15, 16, 17, 18, 19, 20, 21, 22, 23, 24]) 32 38 (hg := rfl) (ht := fun h3 qx1 => WO.rd (is := [4]) (js := [5, 6, 7, 8, 9, 10, 11, 12, 13, 14, 15, 16, 17, 18, 19, 20, 21, 22, 23, 24]) (Keep.refl _) (Rn.s rfl Yv.mv (Rn.nil)) (WO.act (hc := rfl) (he := Ef.bsl (T := 3) InE [0, 2] hsL (fun bx2 wx2 kx2 hsx2 => WO.act (hc := rfl) (he := Ef.bsl (T := 3) InE [0] hsx2 (fun bx3 wx3 kx3 hsx3 => WO.act (hc := rfl) (he := Ef.bsl (T := 23) ShE [((none, 0, []) : Sl), (some ⟨bx2, 0, none⟩, 2, [0, 2]), (some ⟨bx3, 0, none⟩, 1, [0])] hsx3 (fun bx4 wx4 kx4 hsx4 => WO.cv rfl (hSl bx4 bx3 bx2 (kx2.trans (kx3.trans kx4)) (hL3 hsx4)) (Keep.refl _) (FnOk.of Tryd.func14) (fun wx5 kx5 => WO.rd (is := [9]) (js := [10, 11, 12, 13, 14, 15, 16, 17, 18, 19, 20, 21, 22, 23, 24]) (((((Keep.refl _).trans kx2).trans kx3).trans kx4).trans kx5) (Rn.s rfl Yv.pick_t (Rn.nil)) (WO.e 6 (qx1 _ (((((Keep.refl _).trans kx2).trans kx3).trans kx4).trans kx5)))))))))))) (hf := fun _ qx1 => WO.rd (is := [4, 5, 6, 7, 8, 9]) (js := [10, 11, 12, 13, 14, 15, 16, 17, 18, 19, 20, 21, 22, 23, 24]) (Keep.refl _) (Rn.no rfl (Rn.no rfl (Rn.no rfl (Rn.no rfl (Rn.no rfl (Rn.s rfl Yv.pick_f Rn.nil)))))) (WO.e 6 (qx1 _ (Keep.refl _)))) (k := fun wx1 kx1 => WO.rd (is := [10, 11, 12, 13, 14]) (js := [15, 16, 17, 18, 19, 20, 21, 22, 23, 24]) ((Keep.refl _).trans kx1) (Rn.s rfl Yv.mv (Rn.and (is := [11, 12, 13]) (js := [14]) (t := 39) (d := 42) (hg := rfl) (ht := fun h10 => Rn.s rfl Yv.mv (Rn.s rfl (Yv.cmp _ rfl) (Rn.s rfl Yv.pick_t ((Rn.e 3 rfl rfl))))) (hf := fun _ => Rn.no rfl (Rn.no rfl (Rn.s rfl Yv.pick_f (Rn.e 3 rfl rfl)))) (k := Rn.s rfl Yv.mv (Rn.nil)))) (WO.and (js := [19, 20, 21, 22, 23, 24]) 43 47 (hg := rfl) (ht := fun h14 qx6 => WO.rd (is := [15]) (js := [16, 17, 18, 19, 20, 21, 22, 23, 24]) ((Keep.refl _).trans kx1) (Rn.s rfl Yv.mv (Rn.nil)) (WO.act (hc := rfl) (he := Ef.bsl (T := 3) InE [1, 0] (hsL.quiet kx1) (fun bx7 wx7 kx7 hsx7 => WO.cv rfl (hSi _ (kx1.trans kx7) (hsx7.rd 0)) (Keep.refl _) (FnOk.of Tryd.func17) (fun wx8 kx8 => WO.rd (is := [18]) (js := [19, 20, 21, 22, 23, 24]) ((((Keep.refl _).trans kx1).trans kx7).trans kx8) (Rn.s rfl Yv.pick_t (Rn.nil)) (WO.e 4 (qx6 _ (((Keep.refl _).trans kx7).trans kx8)))))))) (hf := fun _ qx6 => WO.rd (is := [15, 16, 17, 18]) (js := [19, 20, 21, 22, 23, 24]) ((Keep.refl _).trans kx1) (Rn.no rfl (Rn.no rfl (Rn.no rfl (Rn.s rfl Yv.pick_f Rn.nil)))) (WO.e 4 (qx6 _ (Keep.refl _)))) (k := fun wx6 kx6 => WO.rd (is := [19, 20, 21, 22, 23, 24]) (js := []) (((Keep.refl _).trans kx1).trans kx6) (Rn.s rfl Yv.mv (Rn.and (is := [20, 21, 22, 23]) (js := [24]) (t := 48) (d := 52) (hg := rfl) (ht := fun h19 => Rn.s rfl Yv.mv (Rn.s rfl (Yv.len_v (e := 3) (m := 1)) (Rn.s rfl (Yv.cmp _ rfl) (Rn.s rfl Yv.pick_t ((Rn.e 4 rfl rfl)))))) (hf := fun _ => Rn.no rfl (Rn.no rfl (Rn.no rfl (Rn.s rfl Yv.pick_f (Rn.e 4 rfl rfl))))) (k := Rn.s rfl Yv.as (Rn.nil)))) (WO.done ?_)))))))
  refine Wp.ret (Fin.ret (Res.one rfl rfl) ⟨?_, ?_⟩)
  · simp [hcl]
  · exact hsL.keep.trans (kx1.trans kx6)
end Go.Proofs.YthbehiflmcljcaaDoor.C
