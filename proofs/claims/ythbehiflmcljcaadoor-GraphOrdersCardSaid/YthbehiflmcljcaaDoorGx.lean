/- GraphOrders walked. -/
import Derived.Test.YthbehiflmcljcaaDoorGw
set_option linter.unusedVariables false
set_option linter.unusedSimpArgs false
set_option maxRecDepth 10000
namespace Go.Proofs.YthbehiflmcljcaaDoor.C
open Go.RowKit Go.Proofs.YthbehiflmcljcaaDoor.Sh
theorem orderS_len (ps : List Is) (rs : Is) : (orderS ps rs).length ≤ ps.length := by
  unfold orderS
  split
  · have := (ordS_beg ps rs).room; omega
  · simp
theorem orders_calls (A : Option Addr) (c : Nat) (ls : List Sl) (B : Option Addr) (d : Nat) (rs : Is) (w : World) (h : LsAt w A ls) (hcap : CapOk ls) (hrs : Rd InE w B rs) (hcr : B = none → d = 0) (hl : ls.length ≤ 5864062014804) (hb : ∀ x ∈ ls, x.2.2.length ≤ 17592186044416) (hrl : rs.length ≤ 17592186044414) :
    Calls Tryd.prog 3 #[.slice A ls.length c, .slice B rs.length d] w fun e w' => e = .returned (.bool true) ∧ Keep w w' := by
  have hpl : (pl ls).length = ls.length := List.length_map ..
  have hol := orderS_len (pl ls) rs
  refine calls_of_Wp (vs := [_, _]) Tryd.func3 ?_
  refine Wp.seq (Wp.reads (is := [0]) (Keep.refl _) (Rn.s rfl Yv.as (Rn.nil)) ?_)
  refine Wp.seq (Wp.regionL (l := [0, 1, 2, 3, 4, 5, 6, 7]) (WO.rd (is := [0, 1]) (js := [2, 3, 4, 5, 6, 7]) (Keep.refl _) (Rn.s rfl Yv.mv (Rn.s rfl Yv.mv (Rn.nil))) (WO.act (hc := rfl) (he := Ef.cx (caps := []) (A := []) (rorder_cx A c ls B d rs w h hrs (by omega) hb (by omega)) (St.init w) (FnOk.of Tryd.func10) ?_))))
  rintro v D w1 ⟨Ow, cow, rfl, rfl⟩ hs1
  refine WO.rd (is := [3, 4, 5, 6, 7]) (js := []) (Keep.refl _) (Rn.s rfl Yv.mv (Rn.s rfl Yv.ex (Rn.s rfl Yv.ex (Rn.s rfl Yv.as (Rn.s rfl Yv.as (Rn.nil)))))) (WO.done ?_)
  have hs1 : St w [] w1 [Ch.row InE 3 Ow cow (orderS (pl ls) rs)] := hs1
  refine Wp.seq (Wp.regionL (l := [0, 1, 2, 3, 4, 5]) (WO.rd (is := [0]) (js := [1, 2, 3, 4, 5]) (Keep.refl _) (Rn.s rfl Yv.mv (Rn.nil)) (WO.act (hc := rfl) (he := Ef.cx (caps := []) (A := []) (copyl_cx A c ls w1 (h.keep hs1.keep) hcap hl hb) hs1 (FnOk.of Tryd.func11) ?_))))
  rintro v D w2 ⟨O, co, rr, hrr, rfl, rfl⟩ hs2
  have hrrl := pl_len hrr
  have hrb := pl_bound hrr hb
  refine WO.rd (is := [2]) (js := [3, 4, 5]) (Keep.refl _) (Rn.s rfl Yv.mv (Rn.nil)) (WO.act (hc := rfl) (he := Ef.cx (caps := []) (A := []) (lend_cx B d rs w2 (hrs.keep hs2.keep) hcr hrl) hs2 (FnOk.of Tryd.func12) ?_))
  rintro v D w3 ⟨B2, d2, rfl, rfl⟩ hs3
  refine WO.rd (is := [4, 5]) (js := []) (Keep.refl _) (Rn.s rfl Yv.as (Rn.s rfl Yv.as (Rn.nil))) (WO.done ?_)
  have hl3 : LsAt w3 O rr := ls_of (co := co) hs3 (by simp) (fun C hC => by simp [hC])
  have hr3 : Rd InE w3 B2 rs := rd_pre (row_rd (hs3.ok (Ch.row InE 3 B2 d2 (rs ++ [-77, -77])) (by simp)))
  have hO := order_cx O co rr B2 d2 rs w3 hl3 hr3 (by omega) hrb (by omega)
  rw [hrr] at hO
  refine Wp.seq (Wp.regionL (l := [0, 1, 2, 3, 4, 5, 6, 7]) (WO.rd (is := [0, 1]) (js := [2, 3, 4, 5, 6, 7]) (Keep.refl _) (Rn.s rfl Yv.mv (Rn.s rfl Yv.mv (Rn.nil))) (WO.act (hc := rfl) (he := Ef.cx (caps := []) (A := []) hO hs3 (FnOk.of Tryd.func13) ?_))))
  rintro v D w4 ⟨Oo, coo, rfl, rfl⟩ hs4
  refine WO.rd (is := [3, 4, 5, 6, 7]) (js := []) (Keep.refl _) (Rn.s rfl Yv.mv (Rn.s rfl Yv.ex (Rn.s rfl Yv.ex (Rn.s rfl Yv.as (Rn.s rfl Yv.as (Rn.nil)))))) (WO.done ?_)
  have hl4 : LsAt w4 O rr := ls_of (co := co) hs4 (by simp) (fun C hC => by simp [hC])
  have h4 := h.keep hs4.keep
  have hsm := samel_cv O co rr A c ls w4 hl4 h4 (by omega) (fun x hx => by have := hrb x hx; omega)
  rw [decide_eq_true hrr] at hsm
  generalize hC : orderC (pl ls) rs = code
  generalize hS : orderS (pl ls) rs = o at *
  refine Wp.seq (Wp.seq (Wp.regionL (l := [0, 1, 2, 3, 4, 5, 6, 7, 8, 9]) (WO.rd (is := [0, 1]) (js := [2, 3, 4, 5, 6, 7, 8, 9]) (Keep.refl _) (Rn.s rfl Yv.mv (Rn.s rfl Yv.mv (Rn.nil))) (WO.cv rfl hsm (Keep.refl _) (FnOk.of Tryd.func14) (fun w5 k5 => ?_)))))
  have hs5 : St w [] w5 (Ch.row InE 3 Oo coo o :: Ch.row InE 3 B2 d2 (rs ++ [-77, -77]) :: (Ch.row ShE 23 O co rr :: RsD rr ++ [Ch.row InE 3 Ow cow o])) := hs4.quiet k5
  have hs5 : St w [] w5 (Ch.row InE 3 B2 d2 (rs ++ [-77, -77]) :: [Ch.row InE 3 Oo coo o, Ch.row InE 3 Ow cow o]) := by
    refine (St.pickT (P := [Ch.row InE 3 Oo coo o, Ch.row InE 3 B2 d2 (rs ++ [-77, -77])]) (T := Ch.row ShE 23 O co rr :: RsD rr ++ [Ch.row InE 3 Ow cow o]) hs5 [1, 0]).sub ?_
    exact List.Sublist.cons_cons _ (List.Sublist.cons_cons _ (List.sublist_append_right _ _))
  refine WO.rd (is := [3, 4, 5, 6]) (js := [7, 8, 9]) (Keep.refl _) (Rn.s rfl Yv.not (Rn.s rfl Yv.mv (Rn.s rfl Yv.mv (Rn.s rfl Yv.mv (Rn.nil))))) (WO.act (hc := rfl) (he := Ef.callv (caps := #[]) Tryd.func15 (Calls.mono (kept_calls B2 d2 B d rs w w5 (hrs.keep hs5.keep) hs5 hrl) ?_)))
  rintro e w6 ⟨rfl, hs6⟩
  refine WO.rd (is := [8, 9]) (js := []) (Keep.refl _) (Rn.s rfl Yv.not (Rn.s rfl Yv.pick_f (Rn.nil))) (WO.done ?_)
  refine Wp.cond_f rfl ?_
  refine Wp.skip ?_
  refine Wp.seq (Wp.regionL (l := [0, 1, 2, 3, 4, 5, 6, 7, 8, 9]) (WO.rd (is := [0]) (js := [1, 2, 3, 4, 5, 6, 7, 8, 9]) (Keep.refl _) (Rn.s rfl Yv.mv (Rn.nil)) (WO.act (hc := rfl) (he := Ef.cx (caps := []) (A := []) (copyl_cx A c ls w6 (h.keep hs6.keep) hcap hl hb) hs6 (FnOk.of Tryd.func11) ?_))))
  rintro v D w7 ⟨O7, co7, rr7, hrr7, rfl, rfl⟩ hs7
  refine WO.rd (is := [2]) (js := [3, 4, 5, 6, 7, 8, 9]) (Keep.refl _) (Rn.s rfl Yv.mv (Rn.nil)) (WO.act (hc := rfl) (he := Ef.cx (caps := []) (A := []) (copyI_cx B d rs w7 (hrs.keep hs7.keep) hcr (by omega)) hs7 (FnOk.of Tryd.func16) ?_))
  rintro v D w8 ⟨B8, d8, rfl, rfl⟩ hs8
  have hl8 : LsAt w8 O7 rr7 := ls_of (co := co7) hs8 (by simp) (fun C hC => by simp [hC])
  have hr8 : Rd InE w8 B8 rs := row_rd (hs8.ok (Ch.row InE 3 B8 d8 rs) (by simp))
  have hrrl7 := pl_len hrr7
  have hO8 := order_cx O7 co7 rr7 B8 d8 rs w8 hl8 hr8 (by omega) (pl_bound hrr7 hb) (by omega)
  rw [hrr7, hC, hS] at hO8
  refine WO.act (hc := rfl) (he := Ef.cx (caps := []) (A := []) hO8 hs8 (FnOk.of Tryd.func13) ?_)
  rintro v D w9 ⟨Op, cop_, rfl, rfl⟩ hs9
  refine WO.rd (is := [5, 6, 7, 8, 9]) (js := []) (Keep.refl _) (Rn.s rfl Yv.mv (Rn.s rfl Yv.ex (Rn.s rfl Yv.ex (Rn.s rfl Yv.as (Rn.s rfl Yv.as (Rn.nil)))))) (WO.done ?_)
  have hs9 : St w [] w9 (Ch.row InE 3 Op cop_ o :: Ch.row InE 3 B8 d8 rs :: (Ch.row ShE 23 O7 co7 rr7 :: RsD rr7 ++ [Ch.row InE 3 Oo coo o, Ch.row InE 3 Ow cow o])) := hs9
  have hs9 : St w [] w9 [Ch.row InE 3 Op cop_ o, Ch.row InE 3 Oo coo o, Ch.row InE 3 Ow cow o] := by
    refine hs9.sub ?_
    exact List.Sublist.cons_cons _ (List.Sublist.cons _ (List.sublist_append_right _ _))
  have hsi := same_cv Oo coo o Ow cow o w9 (hs9.rd 1) (hs9.rd 2) (by omega)
  rw [decide_eq_true rfl] at hsi
  refine Wp.seq (Wp.seq (Wp.regionL (l := [0, 1, 2, 3, 4, 5, 6, 7, 8, 9, 10, 11, 12, 13]) (WO.rd (is := [0, 1, 2, 3, 4, 5, 6, 7, 8]) (js := [9, 10, 11, 12, 13]) (Keep.refl _) (Rn.s rfl Yv.mv (Rn.s rfl Yv.mv (Rn.s rfl (Yv.cmp _ rfl) (Rn.s rfl Yv.mv (Rn.or (is := [4, 5, 6, 7]) (js := [8]) (t := 50) (d := 54) (hg := rfl) (hf := fun h3 => have h3 := bne_eq_false_iff_eq.1 h3; Rn.s rfl Yv.mv (Rn.s rfl Yv.mv (Rn.s rfl (Yv.cmp _ rfl) (Rn.s rfl Yv.pick_f ((Rn.e 4 rfl rfl)))))) (ht := fun _ => Rn.no rfl (Rn.no rfl (Rn.no rfl (Rn.s rfl Yv.pick_t (Rn.e 4 rfl rfl))))) (k := Rn.s rfl Yv.mv (Rn.nil))))))) (WO.or (js := []) 55 60 (b := (!true)) (hg := rfl) (hf := fun h8 qa1 => WO.rd (is := [9, 10]) (js := [11, 12, 13]) (Keep.refl _) (Rn.s rfl Yv.mv (Rn.s rfl Yv.mv (Rn.nil))) (WO.cv rfl hsi (Keep.refl _) (FnOk.of Tryd.func17) (fun wa2 ka2 => WO.rd (is := [12, 13]) (js := []) ((Keep.refl _).trans ka2) (Rn.s rfl Yv.not (Rn.s rfl Yv.pick_f (Rn.nil))) (WO.e 5 (qa1 _ ((Keep.refl _).trans ka2)))))) (ht := fun _ qa1 => WO.rd (is := [9, 10, 11, 12, 13]) (js := []) (Keep.refl _) (Rn.no rfl (Rn.no rfl (Rn.no rfl (Rn.no rfl (Rn.s rfl Yv.pick_t Rn.nil))))) (WO.e 5 (qa1 _ (Keep.refl _)))) (k := fun wa1 ka1 => WO.done ?_)))))
  have e0 : (code != code) = false := by simp
  rw [e0]
  refine Wp.cond_f rfl ?_
  refine Wp.skip ?_
  have hs10 : St w [] wa1 (Ch.row InE 3 Oo coo o :: [Ch.row InE 3 Op cop_ o, Ch.row InE 3 Ow cow o]) := (hs9.quiet ka1).pick [1, 0, 2]
  refine Wp.seq (Wp.regionL (l := [0, 1]) (WO.rd (is := [0]) (js := [1]) (Keep.refl _) (Rn.s rfl Yv.mv (Rn.nil)) (WO.act (hc := rfl) (he := Ef.callv (caps := #[]) Tryd.func18 (Calls.mono (spoil_calls Oo coo o w wa1 hs10 (by omega)) ?_)))))
  rintro e w11 ⟨rfl, hs11⟩
  refine WO.done ?_
  have hsj := same_cv Op cop_ o Ow cow o w11 (hs11.rd 0) (hs11.rd 1) (by omega)
  rw [decide_eq_true rfl] at hsj
  refine Wp.seq (Wp.regionL (l := [0, 1, 2, 3, 4, 5, 6]) (WO.rd (is := [0, 1]) (js := [2, 3, 4, 5, 6]) (Keep.refl _) (Rn.s rfl Yv.mv (Rn.s rfl Yv.mv (Rn.nil))) (WO.cv rfl hsj (Keep.refl _) (FnOk.of Tryd.func17) (fun wb1 kb1 => WO.rd (is := [3]) (js := [4, 5, 6]) ((Keep.refl _).trans kb1) (Rn.s rfl Yv.mv (Rn.nil)) (WO.and (js := [6]) 66 68 (hg := rfl) (ht := fun h3 qb2 => WO.cv rfl (awake_cv w11) ((Keep.refl _).trans kb1) (FnOk.of Tryd.func19) (fun wb3 kb3 => WO.rd (is := [5]) (js := [6]) (((Keep.refl _).trans kb1).trans kb3) (Rn.s rfl Yv.pick_t (Rn.nil)) (WO.e 2 (qb2 _ ((Keep.refl _).trans kb3))))) (hf := fun _ qb2 => WO.rd (is := [4, 5]) (js := [6]) ((Keep.refl _).trans kb1) (Rn.no rfl (Rn.s rfl Yv.pick_f Rn.nil)) (WO.e 2 (qb2 _ (Keep.refl _)))) (k := fun wb2 kb2 => WO.rd (is := [6]) (js := []) (((Keep.refl _).trans kb1).trans kb2) (Rn.s rfl Yv.as (Rn.nil)) (WO.done ?_)))))))
  exact Wp.ret (Fin.ret (Res.one rfl rfl) ⟨rfl, hs11.keep.trans (kb1.trans kb2)⟩)
end Go.Proofs.YthbehiflmcljcaaDoor.C
