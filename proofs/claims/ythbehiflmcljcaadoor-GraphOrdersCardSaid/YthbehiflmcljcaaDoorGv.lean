/- GraphLeast walked. -/
import Derived.Test.YthbehiflmcljcaaDoorGu
set_option linter.unusedVariables false
set_option linter.unusedSimpArgs false
set_option maxRecDepth 10000
namespace Go.Proofs.YthbehiflmcljcaaDoor.C
open Go.RowKit Go.Proofs.YthbehiflmcljcaaDoor.Sh
theorem metS_at {n k : Nat} {o : Is} {x : Nat} (hx : x < n) : nth (metS n o k) (x : Int) = decide ((x : Int) ∈ o.take k) := by
  unfold metS
  rw [nth_range _ hx]
theorem metS_len (n k : Nat) (o : Is) : (metS n o k).length = n := by unfold metS; simp
theorem all_take_succ {l : Is} {j : Nat} (hj : j < l.length) (p : Int → Bool) : (l.take (j + 1)).all p = ((l.take j).all p && p (nth l (j : Int))) := by
  rw [List.take_add_one, List.getElem?_eq_getElem hj, List.all_append, nth_getElem hj]
  simp
theorem least_calls (A : Option Addr) (c : Nat) (ls : List Sl) (B : Option Addr) (d : Nat) (rs : Is) (w : World) (h : LsAt w A ls) (hcap : CapOk ls) (hrs : Rd InE w B rs) (hcr : B = none → d = 0) (hl : ls.length ≤ 5864062014804) (hb : ∀ x ∈ ls, x.2.2.length ≤ 17592186044416) (hrl : rs.length ≤ 17592186044416) :
    Calls Tryd.prog 5 #[.slice A ls.length c, .slice B rs.length d] w fun e w' => e = .returned (.bool true) ∧ Keep w w' := by
  have hpl : (pl ls).length = ls.length := List.length_map ..
  refine calls_of_Wp (vs := [_, _]) Tryd.func5 ?_
  refine Wp.seq (Wp.reads (is := [0]) (Keep.refl _) (Rn.s rfl Yv.as (Rn.nil)) ?_)
  refine Wp.seq (Wp.regionL (l := [0, 1, 2, 3, 4, 5, 6, 7, 8, 9]) (WO.rd (is := [0]) (js := [1, 2, 3, 4, 5, 6, 7, 8, 9]) (Keep.refl _) (Rn.s rfl Yv.mv (Rn.nil)) (WO.act (hc := rfl) (he := Ef.cx (caps := []) (A := []) (copyl_cx A c ls w h hcap hl hb) (St.init w) (FnOk.of Tryd.func11) ?_))))
  rintro v D w1 ⟨O, co, rr, hrr, rfl, rfl⟩ hs1
  have hrrl := pl_len hrr
  refine WO.rd (is := [2]) (js := [3, 4, 5, 6, 7, 8, 9]) (Keep.refl _) (Rn.s rfl Yv.mv (Rn.nil)) (WO.act (hc := rfl) (he := Ef.cx (caps := []) (A := []) (copyI_cx B d rs w1 (hrs.keep hs1.keep) hcr hrl) hs1 (FnOk.of Tryd.func16) ?_))
  rintro v D w2 ⟨B2, d2, rfl, rfl⟩ hs2
  have hl2 : LsAt w2 O rr := ls_of (co := co) hs2 (by simp) (fun C hC => by simp [hC])
  have hr2 : Rd InE w2 B2 rs := row_rd (hs2.ok (Ch.row InE 3 B2 d2 rs) (by simp))
  have hO := order_cx O co rr B2 d2 rs w2 hl2 hr2 (by omega) (pl_bound hrr hb) hrl
  rw [hrr] at hO
  refine WO.act (hc := rfl) (he := Ef.cx (caps := []) (A := []) hO hs2 (FnOk.of Tryd.func13) ?_)
  rintro v D w3 ⟨Oo, coo, rfl, rfl⟩ hs3
  refine WO.rd (is := [5, 6, 7, 8, 9]) (js := []) (Keep.refl _) (Rn.s rfl Yv.mv (Rn.s rfl Yv.ex (Rn.s rfl Yv.ex (Rn.s rfl Yv.as (Rn.s rfl Yv.as (Rn.nil)))))) (WO.done ?_)
  have hs3 : St w [] w3 [Ch.row InE 3 Oo coo (orderS (pl ls) rs)] := hs3.pick [0]
  refine Wp.seq (Wp.seq (Wp.reads (is := [0, 1]) (Keep.refl _) (Rn.s rfl Yv.mv (Rn.s rfl (Yv.cmp _ rfl) (Rn.nil))) ?_))
  refine Wp.cond rfl (fun hc => ?_) (fun hc => ?_)
  · refine Wp.seq (Wp.regionL (l := [0, 1]) (WO.cv rfl (awake_cv w3) (Keep.refl _) (FnOk.of Tryd.func19) (fun wa1 ka1 => WO.rd (is := [1]) (js := []) ((Keep.refl _).trans ka1) (Rn.s rfl Yv.as (Rn.nil)) (WO.done ?_))))
    exact Wp.ret (Fin.ret (Res.one rfl rfl) ⟨rfl, hs3.keep.trans ka1⟩)
  have hok : okS (pl ls) rs := Classical.byContradiction fun q => ne_of_beq_false hc (code_bad.2 q)
  have eo : orderS (pl ls) rs = ordS (pl ls) rs := if_pos hok
  have hbeg := ordS_beg (pl ls) rs
  have hlst := ordS_lst (pl ls) rs
  have hrl2 : rs.length = ls.length := by rw [hok.1, hpl]
  rw [← eo] at hbeg hlst
  generalize orderC (pl ls) rs = code at hc ⊢
  generalize orderS (pl ls) rs = o at hbeg hlst hs3 ⊢
  have hol : o.length ≤ ls.length := by have := hbeg.room; omega
  refine Wp.skip ?_
  refine Wp.seq (Wp.regionL (l := [0, 1, 2, 3]) (WO.rd (is := [0, 1]) (js := [2, 3]) (Keep.refl _) (Rn.s rfl Yv.mv (Rn.s rfl (Yv.len_v (e := 23) (m := 1)) (Rn.nil))) (WO.act (hc := rfl) (he := Ef.mks (T := 4) (bytes := 1) BoE false (.bool false) (by omega) (by omega) hs3 (fun bb1 wb1 kb1 hsb1 => WO.rd (is := [3]) (js := []) ((Keep.refl _).trans kb1) (Rn.s rfl Yv.as (Rn.nil)) (WO.done ?_))))))
  refine Wp.seq (Wp.seq (Wp.reads (is := [0]) (Keep.refl _) (Rn.s rfl Yv.as (Rn.nil)) ?_))
  refine Wp.block ?_
  refine Wp.loop (α := Nat) (fun k ρ ds w' => ds = [] ∧ k ≤ o.length ∧ St w [] w' [Ch.row BoE 4 (some ⟨bb1, 0, none⟩) ls.length (metS ls.length o k), Ch.row InE 3 Oo coo o] ∧ Sub [(0, .slice A ls.length c), (1, .slice B rs.length d), (5, .slice Oo o.length coo), (7, .slice (some ⟨bb1, 0, none⟩) ls.length ls.length), (8, .int .i64 (k : Int))] ρ) (fun k => o.length - k) 0
    ⟨rfl, by omega, by rw [metS_zero]; exact hsb1, rfl, rfl, rfl, rfl, rfl, trivial⟩ ?_
  clear hs3 hsb1
  rintro k ρ ds w4 ⟨rfl, hk, hst, hs⟩
  refine Wp.forget _ ?_ hs
  clear hs ρ
  refine Wp.seq (Wp.seq (Wp.reads (is := [0, 1, 2, 3]) (Keep.refl _) (Rn.s rfl Yv.mv (Rn.s rfl Yv.mv (Rn.s rfl (Yv.len_v (e := 3) (m := 1)) (Rn.s rfl (Yv.cmp _ rfl) (Rn.nil))))) ?_))
  refine Wp.cond rfl (fun hlt => ?_) (fun hlt => ?_)
  · have hlt : k < o.length := by have := of_decide_eq_true hlt; omega
    obtain ⟨m, hm, hbest⟩ := hlst k hlt
    obtain ⟨hmn, hrdy, hleast⟩ := best_some hbest
    rw [hpl] at hmn hleast
    have hro := hst.rd 1
    have hml := metS_len ls.length k o
    refine Wp.skip (Wp.seq (Wp.block ?_))
    refine Wp.seq (Wp.seq (Wp.reads (is := [0, 1, 2, 3, 4, 5, 6, 7, 8, 9, 10, 11, 12, 13]) (Keep.refl _) (Rn.s rfl Yv.mv (Rn.s rfl Yv.mv (Rn.s rfl (Yv.ia (e := 3) hro (by omega) (by omega)) (Rn.s rfl (Yv.ld (hro.ld 0 (by omega) (by omega))) (Rn.s rfl (Yv.cmp _ rfl) (Rn.s rfl Yv.mv (Rn.or (is := [6, 7, 8, 9, 10, 11, 12, 13]) (js := []) (t := 37) (d := 45) (hg := rfl) (hf := fun h5 => have h5 := of_decide_eq_false h5; Rn.s rfl Yv.mv (Rn.s rfl Yv.mv (Rn.s rfl (Yv.ia (e := 3) hro (by omega) (by omega)) (Rn.s rfl (Yv.ld (hro.ld 0 (by omega) (by omega))) (Rn.s rfl Yv.mv (Rn.s rfl (Yv.len_v (e := 23) (m := 1)) (Rn.s rfl (Yv.cmp _ rfl) (Rn.s rfl Yv.pick_f ((Rn.e 8 rfl rfl)))))))))) (ht := fun _ => Rn.no rfl (Rn.no rfl (Rn.no rfl (Rn.no rfl (Rn.no rfl (Rn.no rfl (Rn.no rfl (Rn.s rfl Yv.pick_t (Rn.e 8 rfl rfl))))))))) (k := Rn.nil)))))))) ?_))
    rw [hm]
    have e1 : decide ((m : Int) < 0) = false := decide_eq_false (by omega)
    have e2 : decide ((ls.length : Int) ≤ (m : Int)) = false := decide_eq_false (by omega)
    rw [e1, e2]
    refine Wp.cond_f rfl ?_
    refine Wp.skip ?_
    refine Wp.seq (Wp.seq (Wp.reads (is := [0]) (Keep.refl _) (Rn.s rfl Yv.as (Rn.nil)) ?_))
    refine Wp.mid (fun ρ ds w' => ds = [] ∧ Keep w4 w' ∧ Sub [(0, .slice A ls.length c), (1, .slice B rs.length d), (5, .slice Oo o.length coo), (7, .slice (some ⟨bb1, 0, none⟩) ls.length ls.length), (8, .int .i64 (k : Int))] ρ) (Wp.block ?_) ?_
    · refine Wp.loop (α := Nat) (fun i ρ ds w' => ds = [] ∧ Keep w4 w' ∧ i ≤ ls.length ∧ Sub [(0, .slice A ls.length c), (1, .slice B rs.length d), (5, .slice Oo o.length coo), (7, .slice (some ⟨bb1, 0, none⟩) ls.length ls.length), (8, .int .i64 (k : Int)), (9, .int .i64 (i : Int))] ρ) (fun i => ls.length - i) 0
        ⟨rfl, Keep.refl _, by omega, rfl, rfl, rfl, rfl, rfl, rfl, trivial⟩ ?_
      rintro i ρ ds w5 ⟨rfl, hk5, hi, hs⟩
      refine Wp.forget _ ?_ hs
      clear hs ρ
      have hrm := (hst.rd 0).keep hk5
      refine Wp.seq (Wp.seq (Wp.reads (is := [0, 1, 2, 3]) (Keep.refl _) (Rn.s rfl Yv.mv (Rn.s rfl Yv.mv (Rn.s rfl (Yv.len_v (e := 23) (m := 1)) (Rn.s rfl (Yv.cmp _ rfl) (Rn.nil))))) ?_))
      refine Wp.cond rfl (fun hil => ?_) (fun hil => ?_)
      · have hil : i < ls.length := by have := of_decide_eq_true hil; omega
        have hnp : nth (pl ls) (i : Int) = (nth ls (i : Int)).2.2 := nth_pl ls _
        have hfi := hok.2 i (by omega)
        rw [hnp] at hfi
        have hxl := hb _ (nth_mem' hil)
        refine Wp.skip (Wp.seq (Wp.block ?_))
        refine Wp.seq (Wp.reads (is := [0, 1, 2, 3, 4, 5]) (Keep.refl _) (Rn.s rfl Yv.mv (Rn.s rfl Yv.mv (Rn.s rfl (Yv.ia (e := 4) hrm (by omega) (by omega) hml.symm) (Rn.s rfl (Yv.ld (hrm.ld 0 (by omega) (by omega))) (Rn.s rfl Yv.not (Rn.s rfl Yv.as (Rn.nil))))))) ?_)
        rw [metS_at hil]
        refine Wp.seq (Wp.seq (Wp.reads (is := [0]) (Keep.refl _) (Rn.s rfl Yv.as (Rn.nil)) ?_))
        refine Wp.mid (fun ρ ds w' => ds = [] ∧ Keep w4 w' ∧ Sub [(0, .slice A ls.length c), (1, .slice B rs.length d), (5, .slice Oo o.length coo), (7, .slice (some ⟨bb1, 0, none⟩) ls.length ls.length), (8, .int .i64 (k : Int)), (9, .int .i64 (i : Int)), (10, .bool (!decide ((i : Int) ∈ o.take k) && (nth ls (i : Int)).2.2.all (fun p => decide (p ∈ o.take k))))] ρ) (Wp.block ?_) ?_
        · refine Wp.loop (α := Nat) (fun j ρ ds w' => ds = [] ∧ Keep w4 w' ∧ j ≤ (nth ls (i : Int)).2.2.length ∧ Sub [(0, .slice A ls.length c), (1, .slice B rs.length d), (5, .slice Oo o.length coo), (7, .slice (some ⟨bb1, 0, none⟩) ls.length ls.length), (8, .int .i64 (k : Int)), (9, .int .i64 (i : Int)), (10, .bool (!decide ((i : Int) ∈ o.take k) && ((nth ls (i : Int)).2.2.take j).all (fun p => decide (p ∈ o.take k)))), (11, .int .i64 (j : Int))] ρ) (fun j => (nth ls (i : Int)).2.2.length - j) 0
            ⟨rfl, hk5, by omega, rfl, rfl, rfl, rfl, rfl, rfl, by simp; rfl, rfl, trivial⟩ ?_
          rintro j ρ ds w6 ⟨rfl, hk6, hj, hs⟩
          refine Wp.forget _ ?_ hs
          clear hs ρ
          have h6 := (h.keep hst.keep).keep hk6
          have hrd6 := h6.rd
          have hat6 := h6.at_ hil
          have hrm6 := (hst.rd 0).keep hk6
          refine Wp.seq (Wp.seq (Wp.reads (is := [0, 1, 2, 3, 4, 5, 6]) (Keep.refl _) (Rn.s rfl Yv.mv (Rn.s rfl Yv.mv (Rn.s rfl Yv.mv (Rn.s rfl (Yv.ia (e := 23) hrd6 (by omega) (by omega)) (Rn.s rfl (Yv.ld (hrd6.ld 0 (by omega) (by omega))) (Rn.s rfl (Yv.len_v (e := 3) (m := 1)) (Rn.s rfl (Yv.cmp _ rfl) (Rn.nil)))))))) ?_))
          refine Wp.cond rfl (fun hjl => ?_) (fun hjl => ?_)
          · have hjl : j < (nth ls (i : Int)).2.2.length := by have := of_decide_eq_true hjl; omega
            obtain ⟨p, hpn, hpe⟩ := form_mem hfi (nth_mem' hjl)
            rw [hpl] at hpn
            refine Wp.skip (Wp.seq (Wp.block ?_))
            refine Wp.reads (is := [0, 1, 2, 3, 4, 5, 6, 7, 8, 9, 10, 11, 12, 13]) (Keep.refl _) (Rn.s rfl Yv.mv (Rn.s rfl Yv.mv (Rn.and (is := [2, 3, 4, 5, 6, 7, 8, 9, 10, 11, 12]) (js := [13]) (t := 67) (d := 78) (hg := rfl) (ht := fun h1 => Rn.s rfl Yv.mv (Rn.s rfl Yv.mv (Rn.s rfl Yv.mv (Rn.s rfl (Yv.ia (e := 23) hrd6 (by omega) (by omega)) (Rn.s rfl (Yv.ld (hrd6.ld 0 (by omega) (by omega))) (Rn.s rfl Yv.mv (Rn.s rfl (Yv.ia (e := 3) hat6 (by omega) (by omega)) (Rn.s rfl (Yv.ld (hat6.ld 0 (by omega) (by omega))) (Rn.s rfl (Yv.ia (e := 4) hrm6 (by omega) (by omega) hml.symm) (Rn.s rfl (Yv.ld (hrm6.ld 0 (by omega) (by omega))) (Rn.s rfl Yv.pick_t ((Rn.e 11 rfl rfl))))))))))))) (hf := fun _ => Rn.no rfl (Rn.no rfl (Rn.no rfl (Rn.no rfl (Rn.no rfl (Rn.no rfl (Rn.no rfl (Rn.no rfl (Rn.no rfl (Rn.no rfl (Rn.s rfl Yv.pick_f (Rn.e 11 rfl rfl)))))))))))) (k := Rn.s rfl Yv.as (Rn.nil))))) ?_
            refine Wp.reads (is := [0, 1, 2]) (Keep.refl _) (Rn.s rfl Yv.mv (Rn.s rfl (Yv.add (by unfold inI; omega)) (Rn.s rfl Yv.as (Rn.nil)))) ?_
            refine ⟨j + 1, ⟨rfl, hk6, by omega, rfl, rfl, rfl, rfl, rfl, rfl, ?_, rfl, trivial⟩, by omega⟩
            rw [all_take_succ hjl, hpe, metS_at hpn, ← Bool.and_assoc]
            rfl
          · have hjl : j = (nth ls (i : Int)).2.2.length := by have := of_decide_eq_false hjl; omega
            refine Wp.exit ⟨rfl, hk6, rfl, rfl, rfl, rfl, rfl, rfl, ?_, trivial⟩
            rw [hjl, List.take_length]
            rfl
        · rintro ρ ds w6 ⟨rfl, hk6, hs⟩
          refine Wp.forget _ ?_ hs
          clear hs ρ
          have hrs6 := (hrs.keep hst.keep).keep hk6
          have hro6 := hro.keep hk6
          refine Wp.seq (Wp.readsD (is := [0, 1, 2, 3, 4, 5, 6, 7, 8, 9, 10, 11, 12, 13, 14, 15, 16, 17, 18, 19, 20, 21, 22, 23, 24, 25, 26, 27, 28, 29, 30, 31, 32, 33, 34, 35, 36]) mixed (fun _ _ _ _ _ h => h) (Keep.refl _) (Rn.s rfl Yv.mv (Rn.s rfl Yv.mv (Rn.and (is := [2, 3, 4, 5, 6, 7, 8, 9, 10, 11, 12, 13, 14, 15, 16, 17, 18, 19, 20, 21, 22, 23, 24, 25, 26, 27, 28, 29, 30, 31, 32, 33, 34, 35, 36]) (js := []) (t := 80) (d := 115) (hg := rfl) (ht := fun h1 => Rn.s rfl Yv.mv (Rn.s rfl Yv.mv (Rn.s rfl (Yv.ia (e := 3) hrs6 (by omega) (by omega)) (Rn.s rfl (Yv.ld (hrs6.ld 0 (by omega) (by omega))) (Rn.s rfl Yv.mv (Rn.s rfl Yv.mv (Rn.s rfl Yv.mv (Rn.s rfl (Yv.ia (e := 3) hro6 (by omega) (by omega)) (Rn.s rfl (Yv.ld (hro6.ld 0 (by omega) (by omega))) (Rn.s rfl (Yv.ia (e := 3) hrs6 (by omega) (by omega)) (Rn.s rfl (Yv.ld (hrs6.ld 0 (by omega) (by omega))) (Rn.s rfl (Yv.cmp _ rfl) (Rn.s rfl Yv.mv (Rn.or (is := [15, 16, 17, 18, 19, 20, 21, 22, 23, 24, 25, 26, 27, 28, 29, 30, 31, 32, 33, 34, 35]) (js := [36]) (t := 93) (d := 114) (hg := rfl) (hf := fun h14 => have h14 := of_decide_eq_false h14; Rn.s rfl Yv.mv (Rn.s rfl Yv.mv (Rn.s rfl (Yv.ia (e := 3) hrs6 (by omega) (by omega)) (Rn.s rfl (Yv.ld (hrs6.ld 0 (by omega) (by omega))) (Rn.s rfl Yv.mv (Rn.s rfl Yv.mv (Rn.s rfl Yv.mv (Rn.s rfl (Yv.ia (e := 3) hro6 (by omega) (by omega)) (Rn.s rfl (Yv.ld (hro6.ld 0 (by omega) (by omega))) (Rn.s rfl (Yv.ia (e := 3) hrs6 (by omega) (by omega)) (Rn.s rfl (Yv.ld (hrs6.ld 0 (by omega) (by omega))) (Rn.s rfl (Yv.cmp _ rfl) (Rn.s rfl Yv.mv (Rn.and (is := [28, 29, 30, 31, 32, 33, 34]) (js := [35]) (t := 106) (d := 113) (hg := rfl) (ht := fun h27 => have h27 := eq_of_beq h27; Rn.s rfl Yv.mv (Rn.s rfl Yv.mv (Rn.s rfl Yv.mv (Rn.s rfl (Yv.ia (e := 3) hro6 (by omega) (by omega)) (Rn.s rfl (Yv.ld (hro6.ld 0 (by omega) (by omega))) (Rn.s rfl (Yv.cmp _ rfl) (Rn.s rfl Yv.pick_t ((Rn.e 7 rfl rfl))))))))) (hf := fun _ => Rn.no rfl (Rn.no rfl (Rn.no rfl (Rn.no rfl (Rn.no rfl (Rn.no rfl (Rn.s rfl Yv.pick_f (Rn.e 7 rfl rfl)))))))) (k := Rn.s rfl Yv.pick_f ((Rn.e 15 rfl rfl))))))))))))))))) (ht := fun _ => Rn.no rfl (Rn.no rfl (Rn.no rfl (Rn.no rfl (Rn.no rfl (Rn.no rfl (Rn.no rfl (Rn.no rfl (Rn.no rfl (Rn.no rfl (Rn.no rfl (Rn.no rfl (Rn.no rfl (Rn.no rfl (Rn.no rfl (Rn.no rfl (Rn.no rfl (Rn.no rfl (Rn.no rfl (Rn.no rfl (Rn.s rfl Yv.pick_t (Rn.e 21 rfl rfl)))))))))))))))))))))) (k := Rn.s rfl Yv.pick_t ((Rn.e 15 rfl rfl))))))))))))))))) (hf := fun _ => Rn.no rfl (Rn.no rfl (Rn.no rfl (Rn.no rfl (Rn.no rfl (Rn.no rfl (Rn.no rfl (Rn.no rfl (Rn.no rfl (Rn.no rfl (Rn.no rfl (Rn.no rfl (Rn.no rfl (Rn.no rfl (Rn.no rfl (Rn.no rfl (Rn.no rfl (Rn.no rfl (Rn.no rfl (Rn.no rfl (Rn.no rfl (Rn.no rfl (Rn.no rfl (Rn.no rfl (Rn.no rfl (Rn.no rfl (Rn.no rfl (Rn.no rfl (Rn.no rfl (Rn.no rfl (Rn.no rfl (Rn.no rfl (Rn.no rfl (Rn.no rfl (Rn.s rfl Yv.pick_f (Rn.e 35 rfl rfl)))))))))))))))))))))))))))))))))))) (k := Rn.nil)))) ?_)
          refine Wp.cond rfl (fun hbad => ?_) (fun hbad => ?_)
          · exfalso
            rw [hm] at hbad
            simp only [Bool.and_eq_true, Bool.or_eq_true, Bool.not_eq_true', decide_eq_true_eq, decide_eq_false_iff_not, beq_iff_eq, List.all_eq_true] at hbad
            obtain ⟨⟨b1, b2⟩, b3⟩ := hbad
            have hri : rdyS (pl ls) (o.take k) i := ⟨b1, by rw [hnp]; exact b2⟩
            have := hleast i hil hri
            omega
          · refine Wp.skip (Wp.reads (is := [0, 1, 2]) (Keep.refl _) (Rn.s rfl Yv.mv (Rn.s rfl (Yv.add (by unfold inI; omega)) (Rn.s rfl Yv.as (Rn.nil)))) ?_)
            exact ⟨i + 1, ⟨rfl, hk6.trans (Keep.drew _), by omega, rfl, rfl, rfl, rfl, rfl, rfl, trivial⟩, by omega⟩
      · exact Wp.exit ⟨rfl, hk5, rfl, rfl, rfl, rfl, rfl, trivial⟩
    · rintro ρ ds w5 ⟨rfl, hk5, hs⟩
      refine Wp.forget _ ?_ hs
      clear hs ρ
      have hst := hst.quiet hk5
      have hro := hst.rd 1
      have hrm := hst.rd 0
      refine Wp.regionL (l := [0, 1, 2, 3, 4, 5, 6]) (WO.rd (is := [0, 1, 2, 3, 4, 5]) (js := [6]) (Keep.refl _) (Rn.s rfl Yv.mv (Rn.s rfl Yv.mv (Rn.s rfl Yv.mv (Rn.s rfl (Yv.ia (e := 3) hro (by omega) (by omega)) (Rn.s rfl (Yv.ld (hro.ld 0 (by omega) (by omega))) (Rn.s rfl (Yv.ia (e := 4) hrm (by omega) (by omega) hml.symm) (Rn.nil))))))) (WO.act (hc := rfl) (he := Ef.setFld (E := BoE) (xs := metS ls.length o k) (f := 0) hst 0 true rfl rfl (by omega) (by omega) (fun wf1 hsf1 => WO.done ?_))))
      refine Wp.reads (is := [0, 1, 2]) (Keep.refl _) (Rn.s rfl Yv.mv (Rn.s rfl (Yv.add (by unfold inI; omega)) (Rn.s rfl Yv.as (Rn.nil)))) ?_
      rw [hm, Int.toNat_natCast, metS_set hlt hm hmn] at hsf1
      exact ⟨k + 1, ⟨rfl, by omega, hsf1, rfl, rfl, rfl, rfl, rfl, trivial⟩, by omega⟩
  · refine Wp.exit ?_
    refine Wp.seq (Wp.regionL (l := [0, 1]) (WO.cv rfl (awake_cv w4) (Keep.refl _) (FnOk.of Tryd.func19) (fun we1 ke1 => WO.rd (is := [1]) (js := []) ((Keep.refl _).trans ke1) (Rn.s rfl Yv.as (Rn.nil)) (WO.done ?_))))
    exact Wp.ret (Fin.ret (Res.one rfl rfl) ⟨rfl, hst.keep.trans ke1⟩)
end Go.Proofs.YthbehiflmcljcaaDoor.C
