/- TreeTotal, walked. -/
import Derived.Test.YtbmplmehofgocaaDoorBe
import Derived.Test.YtbmplmehofgocaaDoorBf
set_option linter.unusedVariables false
set_option linter.unusedSimpArgs false
set_option maxRecDepth 10000
namespace Go.Proofs.YtbmplmehofgocaaDoor.C
open Go.RowKit Go.Proofs.YtbmplmehofgocaaDoor.Sh
theorem row_none {α : Type} {E : Enc α} {T : TypeId} {A : Option Addr} {c : Nat} {xs : List α} {w : World} (h : (Ch.row E T A c xs).ok w) : A = none → c = 0 := by
  rintro rfl
  exact (ownsRow_nil_inv h).2.1
theorem copyN_cx (A : Option Addr) (c : Nat) (t : List Nd) (w : World) (hr : Rd NdE w A t) (hc : A = none → c = 0) (hl : t.length ≤ 4294967296) : Cx Tryd.prog 21 [.slice A t.length c] [] (fun v D => ∃ B d, v = .slice B t.length d ∧ D = [Ch.row NdE 32 B d t]) w := by
  refine calls_of_Wp (vs := [_]) Tryd.func21 ?_
  refine Wp.seq (Wp.reads (is := [0]) (Keep.refl _) (Rn.s rfl Yv.as (Rn.nil)) ?_)
  refine Wp.seq (Wp.regionL (l := [0, 1, 2, 3]) (WO.act (hc := rfl) (he := Ef.bsl (T := 32) NdE ([] : List Nd) (St.init w) (fun b w1 k1 hs1 => WO.rd (is := [1]) (js := [2, 3]) (Keep.refl _) (Rn.s rfl Yv.mv (Rn.nil)) (WO.act (he := Ef.append hs1 0 (hr.keep k1) hc (.inl (by simpa using hl)) (fun A' c' w' hs' => WO.rd (is := [3]) (js := []) (Keep.refl _) (Rn.s rfl Yv.as (Rn.nil)) (WO.done ?_))))))))
  exact Wp.ret (Fin.ret (Res.one rfl rfl) ⟨_, _, rfl, ⟨A', c', rfl, rfl⟩, hs'⟩)
theorem lines_cx (s : Bs) (w : World) (hg : Gm w) : Cx Tryd.prog 39 [S s] [] (fun v D => ∃ A c, v = .tuple #[.slice A (linesS s).ls.length c, .int .i64 (linesS s).no, .int .i64 (linesS s).col, .int .i64 (linesS s).e] ∧ D = [Ch.row LnE 56 A c (linesS s).ls]) w := by
  refine Calls.mono (lines_calls s w hg w (Keep.refl _)) ?_
  rintro e w' ⟨A, c, rfl, h⟩
  exact ⟨_, _, rfl, ⟨A, c, rfl, rfl⟩, h⟩
def nearB (f : Ft) (l : Ln) : Bool := (l.no == f.line && decide (l.indent < f.col)) && decide (f.col ≤ l.indent + l.text.length + 1)
theorem total_calls (file s : Bs) (w0 : World) (hg : Gl w0) (w : World) (hk : Keep w0 w) : Calls Tryd.prog 10 #[S file, S s] w fun e w' => e = .returned (.bool true) ∧ Keep w w' := by
  have hg := hg.keep hk
  obtain ⟨L1, L2, L3⟩ := parseS_law file s
  obtain ⟨hlo, hll⟩ := linesS_ok s
  have hl4 := linesS_4096 s
  have hpc := parse_cx file s w hg
  obtain ⟨N, F, hNF⟩ : ∃ N F, parseS file s = (N, F) := ⟨_, _, rfl⟩
  rw [hNF] at L1 L2 L3 hpc
  simp only at L1 L2 L3 hpc
  refine calls_of_Wp (vs := [_, _]) Tryd.func10 ?_
  refine Wp.seq (Wp.reads (is := [0]) (Keep.refl _) (Rn.s rfl Yv.as (Rn.nil)) ?_)
  refine Wp.seq (Wp.regionL (l := [0, 1, 2, 3, 4, 5, 6, 7, 8]) (WO.rd (is := [0, 1]) (js := [2, 3, 4, 5, 6, 7, 8]) (Keep.refl _) (Rn.s rfl Yv.mv (Rn.s rfl Yv.mv (Rn.nil))) (WO.act (hc := rfl) (he := Ef.cx hpc (St.init w) (FnOk.of Tryd.func33) ?_))))
  rintro v D w1 ⟨A, c, rfl, rfl⟩ hs1
  refine WO.rd (is := [3, 4, 5]) (js := [6, 7, 8]) (Keep.refl _) (Rn.s rfl Yv.mv (Rn.s rfl Yv.ex (Rn.s rfl Yv.ex (Rn.nil)))) (WO.act (he := Ef.allocL (vs := ft0.cs) hs1 (fun b2 w2 k2 hs2 => WO.rd (is := [7]) (js := [8]) (Keep.refl _) (Rn.s rfl Yv.as (Rn.nil)) (WO.act (he := Ef.stores hs2 0 (fun w3 hs3 => WO.done ?_))))))
  have hst : St w [] w3 [Ch.cells b2 42 F.cs, Ch.row NdE 32 A c N] := hs3
  have hlc := lines_cx s w3 (hg.keep hst.keep)
  obtain ⟨R, hR⟩ : ∃ R, R = linesS s := ⟨_, rfl⟩
  rw [← hR] at L1 L2 L3 hlo hll hl4 hlc
  refine Wp.seq (Wp.regionL (l := [0, 1, 2, 3, 4, 5, 6, 7, 8, 9, 10]) (WO.rd (is := [0]) (js := [1, 2, 3, 4, 5, 6, 7, 8, 9, 10]) (Keep.refl _) (Rn.s rfl Yv.mv (Rn.nil)) (WO.act (hc := rfl) (he := Ef.cx hlc hst (FnOk.of Tryd.func39) ?_))))
  rintro v D w4 ⟨B, d, rfl, rfl⟩ hs4
  refine WO.rd (is := [2, 3, 4, 5, 6, 7, 8, 9, 10]) (js := []) (Keep.refl _) (Rn.s rfl Yv.mv (Rn.s rfl Yv.ex (Rn.s rfl Yv.ex (Rn.s rfl Yv.ex (Rn.s rfl Yv.ex (Rn.s rfl Yv.as (Rn.s rfl Yv.as (Rn.s rfl Yv.as (Rn.s rfl Yv.as (Rn.nil)))))))))) (WO.done ?_)
  have hst : St w [] w4 [Ch.row LnE 56 B d R.ls, Ch.cells b2 42 F.cs, Ch.row NdE 32 A c N] := hs4
  have hg4 := hg.keep hst.keep
  have c6 := hst.cells 1
  have hrl := hst.rd 0
  have hrn := hst.rd 2
  refine Wp.seq (Wp.seq (Wp.reads (is := [0, 1]) (Keep.refl _) (Rn.s rfl Yv.mv (Rn.s rfl (Yv.cmp _ rfl) (Rn.nil))) ?_))
  refine Wp.cond rfl (fun h => ?_) (fun h => ?_)
  · have h : R.e ≠ 0 := by simpa using h
    have hL := L1 h
    injection hL with hL1 hL2
    subst hL1 hL2
    refine Wp.seq (Wp.regionL (l := [0, 1, 2, 3, 4, 5, 6, 7, 8, 9, 10, 11, 12, 13, 14, 15]) (WO.rd (is := [0, 1, 2, 3, 4, 5, 6, 7, 8, 9, 10, 11, 12]) (js := [13, 14, 15]) (Keep.refl _) (Rn.s rfl (Yv.ldb c6) (Rn.s rfl Yv.mv (Rn.s rfl Yv.mv (Rn.s rfl Yv.mv (Rn.s rfl Yv.mv (Rn.s rfl (Yv.bd (cs := Ft.cs ⟨R.e, file, R.no, R.col⟩)) (Rn.s rfl (Yv.eqs (ftEq ⟨R.e, file, R.no, R.col⟩ ⟨R.e, file, R.no, R.col⟩)) (Rn.s rfl Yv.mv (Rn.and (is := [8, 9, 10, 11]) (js := [12]) (t := 36) (d := 40) (hg := rfl) (ht := fun h7 => Rn.s rfl Yv.mv (Rn.s rfl (Yv.len_v (e := 32) (m := 8)) (Rn.s rfl (Yv.cmp _ rfl) (Rn.s rfl Yv.pick_t ((Rn.e 4 rfl rfl)))))) (hf := fun _ => Rn.no rfl (Rn.no rfl (Rn.no rfl (Rn.s rfl Yv.pick_f (Rn.e 4 rfl rfl))))) (k := Rn.s rfl Yv.mv (Rn.nil))))))))))) (WO.and (js := [15]) 41 43 (hg := rfl) (ht := fun h12 qx1 => WO.cv rfl (awake4_cv w4 hg4) (Keep.refl _) (FnOk.of Tryd.func34) (fun wx2 kx2 => WO.rd (is := [14]) (js := [15]) ((Keep.refl _).trans kx2) (Rn.s rfl Yv.pick_t (Rn.nil)) (WO.e 2 (qx1 _ ((Keep.refl _).trans kx2))))) (hf := fun _ qx1 => WO.rd (is := [13, 14]) (js := [15]) (Keep.refl _) (Rn.no rfl (Rn.s rfl Yv.pick_f Rn.nil)) (WO.e 2 (qx1 _ (Keep.refl _)))) (k := fun wx1 kx1 => WO.rd (is := [15]) (js := []) ((Keep.refl _).trans kx1) (Rn.s rfl Yv.as (Rn.nil)) (WO.done ?_)))))
    refine Wp.ret (Fin.ret (Res.one rfl rfl) ⟨?_, hst.keep.trans (by assumption)⟩)
    simp
  have h : R.e = 0 := by simpa using h
  have L2 := L2 h
  have L3 := L3 h
  refine Wp.skip (Wp.seq (Wp.seq (Wp.reads (is := [0, 1, 2]) (Keep.refl _) (Rn.s rfl (Yv.fa (off := 0)) (Rn.s rfl (Yv.ld (c6.at_ 0)) (Rn.s rfl (Yv.cmp _ rfl) (Rn.nil)))) ?_)))
  refine Wp.cond rfl (fun h2 => ?_) (fun h2 => ?_)
  · have h2 : F.code ≠ 0 := by simpa using h2
    obtain ⟨hN, hf, l0, hl0, hl1, hl2, hl3⟩ := L2 h2
    refine Wp.seq (Wp.reads (is := [0]) (Keep.refl _) (Rn.s rfl Yv.as (Rn.nil)) ?_)
    refine Wp.seq (Wp.seq (Wp.reads (is := [0]) (Keep.refl _) (Rn.s rfl Yv.as (Rn.nil)) ?_))
    refine Wp.block ?_
    refine Wp.loop (α := Nat) (fun i ρ ds w' => ds = [] ∧ i ≤ R.ls.length ∧ Keep w4 w' ∧ Sub [(0, S file), (5, .slice A N.length c), (6, PB b2), (7, .slice B R.ls.length d), (11, .bool ((R.ls.take i).any (nearB F))), (12, .int .i64 (i : Int))] ρ) (fun i => R.ls.length - i) 0
      ⟨rfl, Nat.zero_le _, Keep.refl _, rfl, rfl, rfl, rfl, rfl, rfl, trivial⟩ ?_
    rintro i ρ ds w' ⟨rfl, hi, hkw, hs⟩
    refine Wp.forget _ ?_ hs
    have c6 := c6.keep hkw
    have hrl := hrl.keep hkw
    refine Wp.seq (Wp.seq (Wp.reads (is := [0, 1, 2, 3]) (Keep.refl _) (Rn.s rfl Yv.mv (Rn.s rfl Yv.mv (Rn.s rfl (Yv.len_v (e := 56) (m := 3)) (Rn.s rfl (Yv.cmp _ rfl) (Rn.nil))))) ?_))
    refine Wp.cond rfl (fun h3 => ?_) (fun h3 => ?_)
    · have h3 := of_decide_eq_true h3
      have hil : i < R.ls.length := by omega
      have hget : nth R.ls (i : Int) = R.ls[i] := by rw [nth_nat]; simp [hil]
      obtain ⟨lt, li0, li1⟩ := hlo (nth R.ls (i : Int)) (by rw [hget]; exact List.getElem_mem hil)
      refine Wp.skip (Wp.seq (Wp.block ?_))
      refine Wp.readsD (is := [0, 1, 2, 3, 4, 5, 6, 7, 8, 9, 10, 11, 12, 13, 14, 15, 16, 17, 18, 19, 20, 21, 22, 23, 24, 25, 26, 27, 28, 29, 30, 31, 32, 33, 34, 35, 36, 37, 38, 39]) mixed (fun _ _ _ _ _ h => h) (Keep.refl _) (Rn.s rfl Yv.mv (Rn.s rfl Yv.mv (Rn.or (is := [2, 3, 4, 5, 6, 7, 8, 9, 10, 11, 12, 13, 14, 15, 16, 17, 18, 19, 20, 21, 22, 23, 24, 25, 26, 27, 28, 29, 30, 31, 32, 33, 34, 35, 36, 37, 38]) (js := [39]) (t := 54) (d := 91) (hg := rfl) (hf := fun h1 => Rn.s rfl Yv.mv (Rn.s rfl Yv.mv (Rn.s rfl (Yv.ia (e := 56) hrl (by omega) (by omega)) (Rn.s rfl (Yv.fa (off := 0)) (Rn.s rfl (Yv.ld (hrl.ld 0 (by omega) (by omega))) (Rn.s rfl (Yv.fa (off := 2)) (Rn.s rfl (Yv.ld (c6.at_ 2)) (Rn.s rfl (Yv.cmp _ rfl) (Rn.s rfl Yv.mv (Rn.and (is := [11, 12, 13, 14, 15, 16, 17, 18, 19]) (js := [20, 21, 22, 23, 24, 25, 26, 27, 28, 29, 30, 31, 32, 33, 34, 35, 36, 37, 38]) (t := 63) (d := 72) (hg := rfl) (ht := fun h10 => have h10 := eq_of_beq h10; Rn.s rfl (Yv.fa (off := 3)) (Rn.s rfl (Yv.ld (c6.at_ 3)) (Rn.s rfl Yv.mv (Rn.s rfl Yv.mv (Rn.s rfl (Yv.ia (e := 56) hrl (by omega) (by omega)) (Rn.s rfl (Yv.fa (off := 1)) (Rn.s rfl (Yv.ld (hrl.ld 1 (by omega) (by omega))) (Rn.s rfl (Yv.cmp _ rfl) (Rn.s rfl Yv.pick_t ((Rn.e 9 rfl rfl))))))))))) (hf := fun _ => Rn.no rfl (Rn.no rfl (Rn.no rfl (Rn.no rfl (Rn.no rfl (Rn.no rfl (Rn.no rfl (Rn.no rfl (Rn.s rfl Yv.pick_f (Rn.e 9 rfl rfl)))))))))) (k := Rn.s rfl Yv.mv (Rn.and (is := [21, 22, 23, 24, 25, 26, 27, 28, 29, 30, 31, 32, 33, 34, 35, 36, 37]) (js := [38]) (t := 73) (d := 90) (hg := rfl) (ht := fun h20 => Rn.s rfl (Yv.fa (off := 3)) (Rn.s rfl (Yv.ld (c6.at_ 3)) (Rn.s rfl Yv.mv (Rn.s rfl Yv.mv (Rn.s rfl (Yv.ia (e := 56) hrl (by omega) (by omega)) (Rn.s rfl (Yv.fa (off := 1)) (Rn.s rfl (Yv.ld (hrl.ld 1 (by omega) (by omega))) (Rn.s rfl Yv.mv (Rn.s rfl Yv.mv (Rn.s rfl (Yv.ia (e := 56) hrl (by omega) (by omega)) (Rn.s rfl (Yv.fa (off := 2)) (Rn.s rfl (Yv.ld (hrl.ld 2 (by omega) (by omega))) (Rn.s rfl Yv.len_s (Rn.s rfl (Yv.add (by unfold inI; omega)) (Rn.s rfl (Yv.add (by unfold inI; omega)) (Rn.s rfl (Yv.cmp _ rfl) (Rn.s rfl Yv.pick_t ((Rn.e 17 rfl rfl))))))))))))))))))) (hf := fun _ => Rn.no rfl (Rn.no rfl (Rn.no rfl (Rn.no rfl (Rn.no rfl (Rn.no rfl (Rn.no rfl (Rn.no rfl (Rn.no rfl (Rn.no rfl (Rn.no rfl (Rn.no rfl (Rn.no rfl (Rn.no rfl (Rn.no rfl (Rn.no rfl (Rn.s rfl Yv.pick_f (Rn.e 17 rfl rfl)))))))))))))))))) (k := Rn.s rfl Yv.pick_f ((Rn.e 13 rfl rfl))))))))))))))) (ht := fun _ => Rn.no rfl (Rn.no rfl (Rn.no rfl (Rn.no rfl (Rn.no rfl (Rn.no rfl (Rn.no rfl (Rn.no rfl (Rn.no rfl (Rn.no rfl (Rn.no rfl (Rn.no rfl (Rn.no rfl (Rn.no rfl (Rn.no rfl (Rn.no rfl (Rn.no rfl (Rn.no rfl (Rn.no rfl (Rn.no rfl (Rn.no rfl (Rn.no rfl (Rn.no rfl (Rn.no rfl (Rn.no rfl (Rn.no rfl (Rn.no rfl (Rn.no rfl (Rn.no rfl (Rn.no rfl (Rn.no rfl (Rn.no rfl (Rn.no rfl (Rn.no rfl (Rn.no rfl (Rn.no rfl (Rn.s rfl Yv.pick_t (Rn.e 37 rfl rfl)))))))))))))))))))))))))))))))))))))) (k := Rn.s rfl Yv.as (Rn.nil))))) ?_
      refine Wp.reads (is := [0, 1, 2]) (Keep.refl _) (Rn.s rfl Yv.mv (Rn.s rfl (Yv.add (by unfold inI; omega)) (Rn.s rfl Yv.as (Rn.nil)))) ?_
      have e1 : (R.ls.take (i + 1)).any (nearB F) = ((R.ls.take i).any (nearB F) || nearB F (nth R.ls (i : Int))) := by
        rw [List.take_add_one, List.getElem?_eq_getElem hil, List.any_append, hget]
        simp
      refine ⟨i + 1, ⟨rfl, hil, hkw.trans (Keep.drew _), rfl, rfl, rfl, rfl, by rw [e1]; rfl, rfl, trivial⟩, by omega⟩
    · have h3 := of_decide_eq_false h3
      have e1 : (R.ls.take i).any (nearB F) = true := by
        rw [List.take_of_length_le (by omega), List.any_eq_true]
        refine ⟨l0, hl0, ?_⟩
        unfold nearB
        simp only [Bool.and_eq_true, beq_iff_eq, decide_eq_true_eq]
        exact ⟨⟨hl1, hl2⟩, hl3⟩
      rw [e1]
      subst hN
      refine Wp.exit ?_
      refine Wp.seq (Wp.regionL (l := [0, 1, 2, 3, 4, 5, 6, 7, 8, 9, 10, 11, 12, 13, 14, 15]) (WO.rd (is := [0, 1, 2, 3, 4, 5, 6, 7, 8, 9, 10, 11, 12]) (js := [13, 14, 15]) (Keep.refl _) (Rn.s rfl Yv.mv (Rn.s rfl Yv.mv (Rn.and (is := [2, 3, 4, 5, 6]) (js := [7, 8, 9, 10, 11, 12]) (t := 93) (d := 98) (hg := rfl) (ht := fun h1 => Rn.s rfl (Yv.fa (off := 1)) (Rn.s rfl (Yv.ld (c6.at_ 1)) (Rn.s rfl Yv.mv (Rn.s rfl (Yv.scm _ rfl) (Rn.s rfl Yv.pick_t ((Rn.e 5 rfl rfl))))))) (hf := fun _ => Rn.no rfl (Rn.no rfl (Rn.no rfl (Rn.no rfl (Rn.s rfl Yv.pick_f (Rn.e 5 rfl rfl)))))) (k := Rn.s rfl Yv.mv (Rn.and (is := [8, 9, 10, 11]) (js := [12]) (t := 99) (d := 103) (hg := rfl) (ht := fun h7 => Rn.s rfl Yv.mv (Rn.s rfl (Yv.len_v (e := 32) (m := 8)) (Rn.s rfl (Yv.cmp _ rfl) (Rn.s rfl Yv.pick_t ((Rn.e 4 rfl rfl)))))) (hf := fun _ => Rn.no rfl (Rn.no rfl (Rn.no rfl (Rn.s rfl Yv.pick_f (Rn.e 4 rfl rfl))))) (k := Rn.s rfl Yv.mv (Rn.nil))))))) (WO.and (js := [15]) 104 106 (hg := rfl) (ht := fun h12 qx1 => WO.cv rfl (awake4_cv w' (hg4.keep hkw)) (Keep.refl _) (FnOk.of Tryd.func34) (fun wx2 kx2 => WO.rd (is := [14]) (js := [15]) ((Keep.refl _).trans kx2) (Rn.s rfl Yv.pick_t (Rn.nil)) (WO.e 2 (qx1 _ ((Keep.refl _).trans kx2))))) (hf := fun _ qx1 => WO.rd (is := [13, 14]) (js := [15]) (Keep.refl _) (Rn.no rfl (Rn.s rfl Yv.pick_f Rn.nil)) (WO.e 2 (qx1 _ (Keep.refl _)))) (k := fun wx1 kx1 => WO.rd (is := [15]) (js := []) ((Keep.refl _).trans kx1) (Rn.s rfl Yv.as (Rn.nil)) (WO.done ?_)))))
      refine Wp.ret (Fin.ret (Res.one rfl rfl) ⟨?_, (hst.keep.trans hkw).trans (by assumption)⟩)
      rw [hf]
      simp
  have h2 : F.code = 0 := by simpa using h2
  obtain ⟨hF, hI, hM⟩ := L3 h2
  subst hF
  have hNl : N.length = R.ls.length + 1 := by
    have := congrArg List.length hM
    simpa using this
  refine Wp.skip ?_
  have hft : vEqs ft0.cs ft0.cs = some true := by rw [ftEq]; simp
  have hAc := row_none (hst.at_ 2)
  have hcp := copyN_cx A c N w4 hrn hAc (by omega)
  refine Wp.seq (Wp.seq (Wp.regionL (l := [0, 1, 2, 3, 4, 5, 6, 7, 8, 9, 10, 11, 12, 13, 14, 15, 16]) (WO.rd (is := [0, 1, 2, 3]) (js := [4, 5, 6, 7, 8, 9, 10, 11, 12, 13, 14, 15, 16]) (Keep.refl _) (Rn.s rfl (Yv.ldb c6) (Rn.s rfl (Yv.bd (cs := ft0.cs)) (Rn.s rfl (Yv.nes hft) (Rn.s rfl Yv.mv (Rn.nil))))) (WO.rd (is := [4]) (js := [5, 6, 7, 8, 9, 10, 11, 12, 13, 14, 15, 16]) (Keep.refl _) (Rn.s rfl Yv.mv Rn.nil) (WO.act (hc := rfl) (he := Ef.cx hcp hst (FnOk.of Tryd.func21) ?_))))))
  rintro v D w5 ⟨B2, d2, rfl, rfl⟩ hs5
  have hst5 : St w [] w5 [Ch.row NdE 32 B2 d2 N, Ch.row LnE 56 B d R.ls, Ch.cells b2 42 ft0.cs, Ch.row NdE 32 A c N] := hs5
  have his : Cv Tryd.prog 30 [.slice B2 N.length d2] (.bool true) w5 := by
    have := is_cv B2 d2 N w5 (hst5.rd 0)
    rw [hI] at this
    exact this
  refine WO.cv rfl his (Keep.refl _) (FnOk.of Tryd.func30) (fun w6 k6 => WO.rd (is := [7, 8, 9, 10, 11, 12, 13, 14, 15, 16]) (js := []) (Keep.refl _) (Rn.s rfl Yv.not (Rn.s rfl Yv.pick_f (Rn.s rfl Yv.mv (Rn.s rfl Yv.mv (Rn.s rfl (Yv.len_v (e := 32) (m := 8)) (Rn.s rfl Yv.mv (Rn.s rfl (Yv.len_v (e := 56) (m := 3)) (Rn.s rfl (Yv.add (by unfold inI; omega)) (Rn.s rfl (Yv.cmp _ rfl) (Rn.s rfl Yv.pick_f Rn.nil)))))))))) (WO.done ?_))
  have hst := hst5.quiet k6
  have hg6 := hg.keep hst.keep
  have hrl := hst.rd 1
  have hrn := hst.rd 3
  refine Wp.cond_f ?_ (Wp.skip ?_)
  · have : (((N.length : Nat) : Int) != (R.ls.length : Int) + 1) = false := by rw [hNl]; simp
    exact congrArg (fun b => some (Value.bool b)) this
  refine Wp.seq (Wp.seq (Wp.reads (is := [0]) (Keep.refl _) (Rn.s rfl Yv.as (Rn.nil)) ?_))
  refine Wp.block ?_
  refine Wp.loop (α := Nat) (fun i ρ ds w' => ds = [] ∧ 1 ≤ i ∧ i ≤ N.length ∧ Keep w6 w' ∧ Sub [(0, S file), (5, .slice A N.length c), (7, .slice B R.ls.length d), (13, .int .i64 (i : Int))] ρ) (fun i => N.length - i) 1
    ⟨rfl, Nat.le_refl _, by omega, Keep.refl _, rfl, rfl, rfl, rfl, trivial⟩ ?_
  rintro i ρ ds w' ⟨rfl, hi1, hi, hkw, hs⟩
  refine Wp.forget _ ?_ hs
  have hrl := hrl.keep hkw
  have hrn := hrn.keep hkw
  refine Wp.seq (Wp.seq (Wp.reads (is := [0, 1, 2, 3]) (Keep.refl _) (Rn.s rfl Yv.mv (Rn.s rfl Yv.mv (Rn.s rfl (Yv.len_v (e := 32) (m := 8)) (Rn.s rfl (Yv.cmp _ rfl) (Rn.nil))))) ?_))
  refine Wp.cond rfl (fun h3 => ?_) (fun h3 => ?_)
  · have h3 := of_decide_eq_true h3
    have hil : i < N.length := by omega
    have hjl : i - 1 < R.ls.length := by omega
    have hji : ((i : Int) - 1) = ((i - 1 : Nat) : Int) := by omega
    have hget : nth R.ls ((i : Int) - 1) = R.ls[i - 1] := by rw [hji, nth_nat]; simp [hjl]
    have hgn : nth N (i : Int) = N[i] := by rw [nth_nat]; simp [hil]
    have hpl : pl (nth N (i : Int)) = plL file (nth R.ls ((i : Int) - 1)) := by
      have h5 := congrArg (fun l => l[i]?) hM
      obtain ⟨j, rfl⟩ : ∃ j, i = j + 1 := ⟨i - 1, by omega⟩
      simp only [List.getElem?_map, List.getElem?_cons_succ] at h5
      rw [List.getElem?_eq_getElem hil, List.getElem?_eq_getElem (by omega)] at h5
      rw [hgn, hget]
      simpa using h5
    obtain ⟨lt, li0, li1⟩ := hlo (nth R.ls ((i : Int) - 1)) (by rw [hget]; exact List.getElem_mem hjl)
    refine Wp.skip (Wp.seq (Wp.block ?_))
    refine Wp.seq (Wp.readsD (is := [0, 1, 2, 3, 4, 5, 6, 7, 8, 9, 10, 11, 12, 13, 14, 15, 16, 17, 18, 19, 20, 21, 22, 23, 24, 25, 26, 27, 28, 29, 30, 31, 32, 33, 34, 35, 36, 37, 38, 39, 40, 41, 42, 43, 44, 45, 46, 47, 48, 49, 50, 51, 52, 53, 54, 55, 56]) mixed (fun _ _ _ _ _ h => h) (Keep.refl _) (Rn.s rfl Yv.mv (Rn.s rfl Yv.mv (Rn.s rfl (Yv.ia (e := 32) hrn (by omega) (by omega)) (Rn.s rfl (Yv.fa (off := 4)) (Rn.s rfl (Yv.ld (hrn.ld 4 (by omega) (by omega))) (Rn.s rfl Yv.mv (Rn.s rfl (Yv.scm _ rfl) (Rn.s rfl Yv.mv (Rn.or (is := [8, 9, 10, 11, 12, 13, 14, 15, 16, 17, 18, 19, 20]) (js := [21, 22, 23, 24, 25, 26, 27, 28, 29, 30, 31, 32, 33, 34, 35, 36, 37, 38, 39, 40, 41, 42, 43, 44, 45, 46, 47, 48, 49, 50, 51, 52, 53, 54, 55, 56]) (t := 137) (d := 150) (hg := rfl) (hf := fun h7 => Rn.s rfl Yv.mv (Rn.s rfl Yv.mv (Rn.s rfl (Yv.ia (e := 32) hrn (by omega) (by omega)) (Rn.s rfl (Yv.fa (off := 5)) (Rn.s rfl (Yv.ld (hrn.ld 5 (by omega) (by omega))) (Rn.s rfl Yv.mv (Rn.s rfl Yv.mv (Rn.s rfl (Yv.sub (by unfold inI; omega)) (Rn.s rfl (Yv.ia (e := 56) hrl (by omega) (by omega)) (Rn.s rfl (Yv.fa (off := 0)) (Rn.s rfl (Yv.ld (hrl.ld 0 (by omega) (by omega))) (Rn.s rfl (Yv.cmp _ rfl) (Rn.s rfl Yv.pick_f ((Rn.e 13 rfl rfl))))))))))))))) (ht := fun _ => Rn.no rfl (Rn.no rfl (Rn.no rfl (Rn.no rfl (Rn.no rfl (Rn.no rfl (Rn.no rfl (Rn.no rfl (Rn.no rfl (Rn.no rfl (Rn.no rfl (Rn.no rfl (Rn.s rfl Yv.pick_t (Rn.e 13 rfl rfl)))))))))))))) (k := Rn.s rfl Yv.mv (Rn.or (is := [22, 23, 24, 25, 26, 27, 28, 29, 30, 31, 32, 33, 34, 35]) (js := [36, 37, 38, 39, 40, 41, 42, 43, 44, 45, 46, 47, 48, 49, 50, 51, 52, 53, 54, 55, 56]) (t := 151) (d := 165) (hg := rfl) (hf := fun h21 => Rn.s rfl Yv.mv (Rn.s rfl Yv.mv (Rn.s rfl (Yv.ia (e := 32) hrn (by omega) (by omega)) (Rn.s rfl (Yv.fa (off := 6)) (Rn.s rfl (Yv.ld (hrn.ld 6 (by omega) (by omega))) (Rn.s rfl Yv.mv (Rn.s rfl Yv.mv (Rn.s rfl (Yv.sub (by unfold inI; omega)) (Rn.s rfl (Yv.ia (e := 56) hrl (by omega) (by omega)) (Rn.s rfl (Yv.fa (off := 1)) (Rn.s rfl (Yv.ld (hrl.ld 1 (by omega) (by omega))) (Rn.s rfl (Yv.add (by unfold inI; omega)) (Rn.s rfl (Yv.cmp _ rfl) (Rn.s rfl Yv.pick_f ((Rn.e 14 rfl rfl)))))))))))))))) (ht := fun _ => Rn.no rfl (Rn.no rfl (Rn.no rfl (Rn.no rfl (Rn.no rfl (Rn.no rfl (Rn.no rfl (Rn.no rfl (Rn.no rfl (Rn.no rfl (Rn.no rfl (Rn.no rfl (Rn.no rfl (Rn.s rfl Yv.pick_t (Rn.e 14 rfl rfl))))))))))))))) (k := Rn.s rfl Yv.mv (Rn.or (is := [37, 38, 39, 40, 41, 42, 43, 44, 45, 46, 47, 48, 49, 50, 51, 52, 53, 54, 55, 56]) (js := []) (t := 166) (d := 186) (hg := rfl) (hf := fun h36 => Rn.s rfl Yv.mv (Rn.s rfl Yv.mv (Rn.s rfl (Yv.ia (e := 32) hrn (by omega) (by omega)) (Rn.s rfl (Yv.fa (off := 7)) (Rn.s rfl (Yv.ld (hrn.ld 7 (by omega) (by omega))) (Rn.s rfl (Yv.cmp _ rfl) (Rn.s rfl Yv.mv (Rn.and (is := [44, 45, 46, 47, 48, 49, 50, 51, 52, 53, 54, 55]) (js := [56]) (t := 173) (d := 185) (hg := rfl) (ht := fun h43 => have h43 := bne_iff_ne.1 h43; Rn.s rfl Yv.mv (Rn.s rfl Yv.mv (Rn.s rfl (Yv.ia (e := 32) hrn (by omega) (by omega)) (Rn.s rfl (Yv.fa (off := 7)) (Rn.s rfl (Yv.ld (hrn.ld 7 (by omega) (by omega))) (Rn.s rfl Yv.mv (Rn.s rfl Yv.mv (Rn.s rfl (Yv.ia (e := 32) hrn (by omega) (by omega)) (Rn.s rfl (Yv.fa (off := 6)) (Rn.s rfl (Yv.ld (hrn.ld 6 (by omega) (by omega))) (Rn.s rfl (Yv.cmp _ rfl) (Rn.s rfl Yv.pick_t ((Rn.e 12 rfl rfl)))))))))))))) (hf := fun _ => Rn.no rfl (Rn.no rfl (Rn.no rfl (Rn.no rfl (Rn.no rfl (Rn.no rfl (Rn.no rfl (Rn.no rfl (Rn.no rfl (Rn.no rfl (Rn.no rfl (Rn.s rfl Yv.pick_f (Rn.e 12 rfl rfl))))))))))))) (k := Rn.s rfl Yv.pick_f ((Rn.e 9 rfl rfl))))))))))) (ht := fun _ => Rn.no rfl (Rn.no rfl (Rn.no rfl (Rn.no rfl (Rn.no rfl (Rn.no rfl (Rn.no rfl (Rn.no rfl (Rn.no rfl (Rn.no rfl (Rn.no rfl (Rn.no rfl (Rn.no rfl (Rn.no rfl (Rn.no rfl (Rn.no rfl (Rn.no rfl (Rn.no rfl (Rn.no rfl (Rn.s rfl Yv.pick_t (Rn.e 20 rfl rfl))))))))))))))))))))) (k := Rn.nil)))))))))))))) ?_)
    have hv := plL_val file (nth R.ls ((i : Int) - 1))
    rw [← hpl] at hv
    simp only [pl] at hv
    have q1 := congrArg (·.1) hpl
    have q2 := congrArg (·.2.1) hpl
    have q3 := congrArg (·.2.2.1) hpl
    simp only [pl, plL] at q1 q2 q3
    refine Wp.cond_f ?_ (Wp.skip ?_)
    · rw [q1, q2, q3]
      refine congrArg (fun b => some (Value.bool b)) ?_
      rw [q3] at hv
      rcases hv with hv | hv
      · simp [hv]
      · simp
        intro _
        exact hv
    refine Wp.reads (is := [0, 1, 2]) (Keep.refl _) (Rn.s rfl Yv.mv (Rn.s rfl (Yv.add (by unfold inI; omega)) (Rn.s rfl Yv.as (Rn.nil)))) ?_
    exact ⟨i + 1, ⟨rfl, by omega, hil, hkw.trans (Keep.drew _), rfl, rfl, rfl, rfl, trivial⟩, by omega⟩
  · refine Wp.exit ?_
    refine Wp.seq (Wp.regionL (l := [0, 1]) (WO.cv rfl (awake4_cv w' (hg6.keep hkw)) (Keep.refl _) (FnOk.of Tryd.func34) (fun wx1 kx1 => WO.rd (is := [1]) (js := []) ((Keep.refl _).trans kx1) (Rn.s rfl Yv.as (Rn.nil)) (WO.done ?_))))
    exact Wp.ret (Fin.ret (Res.one rfl rfl) ⟨rfl, (hst.keep.trans hkw).trans (by assumption)⟩)
end Go.Proofs.YtbmplmehofgocaaDoor.C
