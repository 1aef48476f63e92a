/- graph.Order walked: what it hands back is the plain order. -/
import Derived.Test.YthbehiflmcljcaaDoorGg
set_option linter.unusedVariables false
set_option linter.unusedSimpArgs false
set_option maxRecDepth 10000
namespace Go.Proofs.YthbehiflmcljcaaDoor.C
open Go.RowKit Go.Proofs.YthbehiflmcljcaaDoor.Sh
/-- the rows of lists of lists -/
abbrev RsC (x : Sl) : Chunk := Ch.row InE 3 x.1 x.2.1 x.2.2
abbrev RsD (rr : List Sl) : List Chunk := rr.map RsC
theorem fitInt {n : Nat} (h : n ≤ 17592186044416) : Fits Tryd.prog 3 n := .inr ⟨17592186044416, by kernel_rfl, h⟩
section
variable {w w0 : World} {M : List Nat} {D P : List Chunk} {rr : List Sl}
theorem rs_pull {p : Nat} (hp : p < rr.length) : (RsD rr).Perm (RsC (nth rr (p : Int)) :: (RsD rr).eraseIdx p) := by
  refine perm_pull p ?_
  rw [List.getElem?_map, nth_getElem hp, List.getElem?_eq_getElem hp]
  rfl
theorem rs_put {p : Nat} (x : Sl) (hp : p < rr.length) : (RsC x :: (RsD rr).eraseIdx p).Perm (RsD (rr.set p x)) := by
  have h1 := rs_pull (rr := rr.set p x) (p := p) (by rw [List.length_set]; exact hp)
  have h2 : nth (rr.set p x) (p : Int) = x := by
    rw [nth_getElem (by rw [List.length_set]; exact hp)]
    simp
  have h3 : (RsD (rr.set p x)).eraseIdx p = (RsD rr).eraseIdx p := by
    unfold RsD
    rw [List.map_set, List.eraseIdx_set_eq]
  rw [h2, h3] at h1
  exact h1.symm
theorem rs_rd (h : St w0 M w (P ++ RsD rr)) {p : Nat} (hp : p < rr.length) : Rd InE w (nth rr (p : Int)).1 (nth rr (p : Int)).2.2 :=
  row_rd (h.ok (RsC (nth rr (p : Int))) (List.mem_append.2 (.inr (List.mem_map.2 ⟨_, nth_mem' hp, rfl⟩))))
theorem rs_take (h : St w0 M w (P ++ RsD rr)) {p : Nat} (hp : p < rr.length) : St w0 M w (RsC (nth rr (p : Int)) :: (P ++ (RsD rr).eraseIdx p)) :=
  h.perm (((rs_pull hp).append_left P).trans List.perm_middle)
theorem rs_back {p : Nat} (x : Sl) (hp : p < rr.length) (h : St w0 M w (RsC x :: (P ++ (RsD rr).eraseIdx p))) : St w0 M w (P ++ RsD (rr.set p x)) :=
  h.perm (List.perm_middle.symm.trans ((rs_put x hp).append_left P))
theorem nil_rows (T : TypeId) (E : Enc Int) : ∀ (n : Nat) {D : List Chunk}, St w0 M w D → St w0 M w ((List.replicate n ((none, 0, []) : Sl)).map (fun x => Ch.row E T x.1 x.2.1 x.2.2) ++ D)
  | 0, D, h => h
  | n + 1, D, h => by
    rw [List.replicate_succ, List.map_cons, List.cons_append]
    exact (nil_rows T E n h).nilrow E T
theorem pl_set (rr : List Sl) (p : Nat) (x : Sl) : pl (rr.set p x) = (pl rr).set p x.2.2 := List.map_set
end
theorem nth_set_self {α : Type} [Inhabited α] {l : List α} {k : Nat} (v : α) (h : k < l.length) : nth (l.set k v) (k : Int) = v := by
  rw [nth_getElem (by rw [List.length_set]; exact h)]
  simp
theorem nth_castN {l : List Nat} {j : Nat} (h : j < l.length) : nth (castN l) (j : Int) = (l[j] : Int) := by
  rw [nth_getElem (by rw [List.length_map]; exact h)]
  simp
def orderC (ps : List Is) (rs : Is) : Int := if okS ps rs then (if (ordS ps rs).length < ps.length then 163 else 0) else 160
/-- the state of the order's memory -/
abbrev OrD (b : Nat) (A : Option Addr) (c : Nat) (xs : List It) (b1 b2 n : Nat) (op : Is) (rr : List Sl) : List Chunk := [Ch.cells b 57 [.slice A xs.length c], Ch.row ItE 60 A c xs, Ch.row InE 3 (some ⟨b1, 0, none⟩) n op, Ch.row ShE 23 (some ⟨b2, 0, none⟩) n rr]
/-- the same, with the order so far -/
abbrev OrE (b : Nat) (A : Option Addr) (c : Nat) (xs : List It) (b1 b2 n : Nat) (op : Is) (rr : List Sl) (O : Option Addr) (co : Nat) (o : Is) : List Chunk := [Ch.cells b 57 [.slice A xs.length c], Ch.row ItE 60 A c xs, Ch.row InE 3 (some ⟨b1, 0, none⟩) n op, Ch.row ShE 23 (some ⟨b2, 0, none⟩) n rr, Ch.row InE 3 O co o]
theorem order_cx (A : Option Addr) (c : Nat) (ls : List Sl) (B : Option Addr) (d : Nat) (rs : Is) (w : World) (h : LsAt w A ls) (hrs : Rd InE w B rs) (hl : ls.length ≤ 5864062014805) (hb : ∀ x ∈ ls, x.2.2.length ≤ 17592186044416) (hl2 : rs.length ≤ 17592186044416) :
    Cx Tryd.prog 13 [.slice A ls.length c, .slice B rs.length d] [] (fun v D => ∃ O co, v = .tuple #[.slice O (orderS (pl ls) rs).length co, .int .i64 (orderC (pl ls) rs)] ∧ D = [Ch.row InE 3 O co (orderS (pl ls) rs)]) w := by
  have hpl : (pl ls).length = ls.length := List.length_map ..
  obtain ⟨n, hn⟩ : ∃ n, ls.length = n := ⟨_, rfl⟩
  refine calls_of_Wp (vs := [_, _]) Tryd.func13 ?_
  refine Wp.seq (Wp.reads (is := [0, 1]) (Keep.refl _) (Rn.s rfl Yv.as (Rn.s rfl Yv.as (Rn.nil))) ?_)
  refine Wp.seq (Wp.seq (Wp.regionL (l := [0, 1, 2, 3, 4, 5, 6, 7, 8, 9]) (WO.rd (is := [0, 1, 2, 3, 4, 5]) (js := [6, 7, 8, 9]) (Keep.refl _) (Rn.s rfl Yv.mv (Rn.s rfl (Yv.len_v (e := 3) (m := 1)) (Rn.s rfl Yv.mv (Rn.s rfl (Yv.len_v (e := 23) (m := 1)) (Rn.s rfl (Yv.cmp _ rfl) (Rn.s rfl Yv.mv (Rn.nil))))))) (WO.or (js := []) 22 26 (b := (!decide (formS (pl ls)))) (hg := rfl) (hf := fun h5 qy1 => have h5 := bne_eq_false_iff_eq.1 h5; WO.rd (is := [6]) (js := [7, 8, 9]) (Keep.refl _) (Rn.s rfl Yv.mv (Rn.nil)) (WO.cv rfl (may_cv A ls.length c ls w h rfl hl hb) (Keep.refl _) (FnOk.of Tryd.func25) (fun wy2 ky2 => WO.rd (is := [8, 9]) (js := []) ((Keep.refl _).trans ky2) (Rn.s rfl Yv.not (Rn.s rfl Yv.pick_f (Rn.nil))) (WO.e 4 (qy1 _ ((Keep.refl _).trans ky2)))))) (ht := fun _ qy1 => WO.rd (is := [6, 7, 8, 9]) (js := []) (Keep.refl _) (Rn.no rfl (Rn.no rfl (Rn.no rfl (Rn.s rfl Yv.pick_t Rn.nil)))) (WO.e 4 (qy1 _ (Keep.refl _)))) (k := fun wy1 ky1 => WO.done ?_)))))
  have hst0 : St w [] wy1 [] := (St.init w).quiet ky1
  refine Wp.cond rfl (fun hc => ?_) (fun hc => ?_)
  · have hno : ¬ okS (pl ls) rs := by
      rintro ⟨q1, q2⟩
      rw [decide_eq_true q2] at hc
      rw [hpl] at q1
      simp [q1] at hc
    refine Wp.seq (Wp.reads (is := [0, 1]) (Keep.refl _) (Rn.s rfl Yv.as (Rn.s rfl Yv.as (Rn.nil))) ?_)
    refine Wp.ret (Fin.ret (Res.two rfl rfl rfl) ⟨_, [Ch.row InE 3 none 0 []], rfl, ⟨none, 0, ?_, ?_⟩, hst0.nilrow _ _⟩)
    · unfold orderS orderC
      rw [if_neg hno, if_neg hno]
      rfl
    · unfold orderS
      rw [if_neg hno]
  have hok : okS (pl ls) rs := by
    simp only [Bool.or_eq_false_iff, Bool.not_eq_false', decide_eq_true_eq, bne_eq_false_iff_eq] at hc
    exact ⟨by rw [hpl]; omega, hc.2⟩
  have hform := hok.2
  have hrl : rs.length = n := by rw [hok.1, hpl, hn]
  have eS : orderS (pl ls) rs = ordF (pl ls) rs (pl ls).length [] := if_pos hok
  have hnp : (pl ls).length = n := by rw [hpl, hn]
  refine Wp.skip ?_
  rw [hn]
  refine Wp.seq (Wp.regionL (l := [0, 1, 2, 3]) (WO.rd (is := [0, 1]) (js := [2, 3]) (Keep.refl _) (Rn.s rfl Yv.mv (Rn.s rfl (Yv.len_v (e := 23) (m := 1)) (Rn.nil))) (WO.act (hc := rfl) (he := Ef.mks (T := 3) (bytes := 8) InE (0 : Int) (.int .i64 0) (by omega) (by omega) hst0 (fun ba1 wa1 ka1 hsa1 => WO.rd (is := [3]) (js := []) ((Keep.refl _).trans ka1) (Rn.s rfl Yv.as (Rn.nil)) (WO.done ?_))))))
  refine Wp.seq (Wp.regionL (l := [0, 1, 2, 3]) (WO.rd (is := [0, 1]) (js := [2, 3]) (Keep.refl _) (Rn.s rfl Yv.mv (Rn.s rfl (Yv.len_v (e := 23) (m := 1)) (Rn.nil))) (WO.act (hc := rfl) (he := Ef.mks (T := 23) (bytes := 24) ShE ((none, 0, []) : Sl) (.slice none 0 0) (by omega) (by omega) hsa1 (fun bb1 wb1 kb1 hsb1 => WO.rd (is := [3]) (js := []) ((Keep.refl _).trans kb1) (Rn.s rfl Yv.as (Rn.nil)) (WO.done ?_))))))
  refine Wp.seq (Wp.regionL (l := [0, 1, 2]) (WO.act (hc := rfl) (he := Ef.bsl (T := 60) ItE ([] : List It) hsb1 (fun bc1 wc1 kc1 hsc1 => WO.act (hc := rfl) (he := Ef.boxL ([.slice (some ⟨bc1, 0, none⟩) 0 0]) hsc1 (fun bc2 wc2 kc2 hsc2 => WO.rd (is := [2]) (js := []) (((Keep.refl _).trans kc1).trans kc2) (Rn.s rfl Yv.as (Rn.nil)) (WO.done ?_)))))))
  have hst1 : St w [] wc2 (OrD bc2 (some ⟨bc1, 0, none⟩) 0 [] ba1 bb1 n (List.replicate n 0) (List.replicate n (none, 0, [])) ++ RsD (List.replicate n (none, 0, []))) := by
    have h1 := hsc2.pick [0, 1, 3, 2]
    exact (nil_rows 3 InE n h1).perm List.perm_append_comm
  refine Wp.seq (Wp.seq (Wp.reads (is := [0, 1, 2]) (Keep.refl _) (Rn.s rfl Yv.mv (Rn.s rfl (Yv.len_v (e := 23) (m := 1)) (Rn.s rfl Yv.mv (Rn.nil)))) ?_))
  refine Wp.mid (fun ρ ds w' => ds = [] ∧ ∃ A1 c1 xs rr, Hp xs xs.length ∧ xs.Perm ((rdy0 (pl ls) n).map (itm rs)) ∧ pl rr = (List.range n).map (bhF (pl ls) n) ∧ St w [] w' (OrD bc2 A1 c1 xs ba1 bb1 n (opA (pl ls) n n) rr ++ RsD rr) ∧
    Sub [(0, .slice A n c), (1, .slice B rs.length d), (6, .slice (some ⟨ba1, 0, none⟩) n n), (7, .slice (some ⟨bb1, 0, none⟩) n n), (8, PB bc2)] ρ) (Wp.block ?_) ?_
  · refine Wp.loop (α := Nat) (fun k ρ ds w' => ds = [] ∧ k ≤ n ∧ ∃ A1 c1 xs rr, Hp xs xs.length ∧ xs.Perm ((rdy0 (pl ls) k).map (itm rs)) ∧ pl rr = (List.range n).map (bhF (pl ls) k) ∧ St w [] w' (OrD bc2 A1 c1 xs ba1 bb1 n (opA (pl ls) n k) rr ++ RsD rr) ∧
      Sub [(0, .slice A n c), (1, .slice B rs.length d), (6, .slice (some ⟨ba1, 0, none⟩) n n), (7, .slice (some ⟨bb1, 0, none⟩) n n), (8, PB bc2), (35, .slice A n c), (36, .int .i64 (n : Int)), (37, .int .i64 (k : Int))] ρ) (fun k => n - k) 0
      ⟨rfl, by omega, some ⟨bc1, 0, none⟩, 0, [], List.replicate n (none, 0, []), fun k h1 h2 => absurd h2 (Nat.not_lt_zero k), List.Perm.refl _, by rw [bhF_zero]; exact List.map_replicate, by rw [opA_zero]; exact hst1, rfl, rfl, rfl, rfl, rfl, rfl, rfl, rfl, trivial⟩ ?_
    clear hst1
    rintro k ρ ds w1 ⟨rfl, hk, A1, c1, xs, rr, hp, hx, hbh, hst, hs⟩
    refine Wp.forget _ ?_ hs
    clear hs ρ
    refine Wp.seq (Wp.reads (is := [0]) (Keep.refl _) (Rn.s rfl (Yv.cmp _ rfl) (Rn.nil)) ?_)
    refine Wp.seq (Wp.cond rfl (fun hlt => ?_) (fun hlt => ?_))
    · have hkn : k < n := by have := of_decide_eq_true hlt; omega
      have hkl : k < ls.length := by omega
      have hf := hform k (by omega)
      have hnpk : nth (pl ls) (k : Int) = (nth ls (k : Int)).2.2 := nth_pl ls _
      have h1 := h.keep hst.keep
      have hop : (opA (pl ls) n k).length = n := by unfold opA; simp
      refine Wp.skip ?_
      refine Wp.seq (Wp.block ?_)
      refine Wp.seq (Wp.reads (is := [0, 1, 2, 3, 4]) (Keep.refl _) (Rn.s rfl Yv.mv (Rn.s rfl (Yv.ia (e := 23) h1.rd (by omega) (by omega) hn.symm) (Rn.s rfl (Yv.ld (h1.rd.ld 0 (by omega) (by omega))) (Rn.s rfl Yv.as (Rn.s rfl Yv.as (Rn.nil)))))) ?_)
      obtain ⟨y, hy⟩ : ∃ y, nth ls (k : Int) = y := ⟨_, rfl⟩
      have hyb := hb _ (nth_mem' hkl)
      rw [hy] at hnpk hyb ⊢
      refine Wp.seq (Wp.regionL (l := [0, 1, 2, 3, 4, 5]) (WO.rd (is := [0, 1, 2, 3, 4]) (js := [5]) (Keep.refl _) (Rn.s rfl Yv.mv (Rn.s rfl Yv.mv (Rn.s rfl Yv.mv (Rn.s rfl (Yv.len_v (e := 3) (m := 1)) (Rn.s rfl (Yv.ia (e := 3) (hst.rd 2) (by omega) (by omega) hop.symm) (Rn.nil)))))) (WO.act (hc := rfl) (he := Ef.setFld (E := InE) (xs := opA (pl ls) n k) (f := 0) hst 2 ((y.2.2.length : Nat) : Int) rfl rfl (by omega) (by omega) (fun wd1 hsd1 => WO.done ?_)))))
      have hst2 : St w [] wd1 (OrD bc2 A1 c1 xs ba1 bb1 n (opA (pl ls) n (k + 1)) rr ++ RsD rr) := by
        rw [← opA_set (pl ls) hkn, hnpk]
        rw [Int.toNat_natCast] at hsd1
        exact St.pickT (P := [Ch.row InE 3 (some ⟨ba1, 0, none⟩) n ((opA (pl ls) n k).set k ((y.2.2.length : Nat) : Int)), Ch.cells bc2 57 [.slice A1 xs.length c1], Ch.row ItE 60 A1 c1 xs, Ch.row ShE 23 (some ⟨bb1, 0, none⟩) n rr]) (T := RsD rr) hsd1 [1, 2, 0, 3]
      clear hst hsd1
      refine Wp.seq (Wp.seq (Wp.reads (is := [0, 1, 2]) (Keep.refl _) (Rn.s rfl Yv.mv (Rn.s rfl (Yv.len_v (e := 3) (m := 1)) (Rn.s rfl Yv.mv (Rn.nil)))) ?_))
      refine Wp.block ?_
      refine Wp.loop (α := Nat) (fun j ρ ds w' => ds = [] ∧ j ≤ y.2.2.length ∧ ∃ rr, pl rr = (List.range n).map (bhB (pl ls) k j) ∧ St w [] w' (OrD bc2 A1 c1 xs ba1 bb1 n (opA (pl ls) n (k + 1)) rr ++ RsD rr) ∧
        Sub [(0, .slice A n c), (1, .slice B rs.length d), (6, .slice (some ⟨ba1, 0, none⟩) n n), (7, .slice (some ⟨bb1, 0, none⟩) n n), (8, PB bc2), (35, .slice A n c), (36, .int .i64 (n : Int)), (37, .int .i64 (k : Int)), (9, .int .i64 (k : Int)), (10, .slice y.1 y.2.2.length y.2.1), (47, .slice y.1 y.2.2.length y.2.1), (48, .int .i64 (y.2.2.length : Int)), (49, .int .i64 (j : Int))] ρ) (fun j => y.2.2.length - j) 0
        ⟨rfl, by omega, rr, by rw [hbh]; exact map_congr_range fun i _ => (bhB_zero _ _ _).symm, hst2, rfl, rfl, rfl, rfl, rfl, rfl, rfl, rfl, rfl, rfl, rfl, rfl, rfl, trivial⟩ ?_
      clear hst2 hbh rr
      rintro j ρ ds w2 ⟨rfl, hj, rr, hbh, hst, hs⟩
      refine Wp.forget _ ?_ hs
      clear hs ρ
      have hrrl : rr.length = n := by have := congrArg List.length hbh; simpa using this
      refine Wp.seq (Wp.reads (is := [0]) (Keep.refl _) (Rn.s rfl (Yv.cmp _ rfl) (Rn.nil)) ?_)
      refine Wp.seq (Wp.cond rfl (fun hjl => ?_) (fun hjl => ?_))
      · have hjl : j < y.2.2.length := by have := of_decide_eq_true hjl; omega
        have hy2 : Rd InE w2 y.1 y.2.2 := by
          have := (h.keep hst.keep).at_ hkl
          rwa [hy] at this
        refine Wp.skip ?_
        refine Wp.seq (Wp.block ?_)
        refine Wp.seq (Wp.reads (is := [0, 1, 2]) (Keep.refl _) (Rn.s rfl (Yv.ia (e := 3) hy2 (by omega) (by omega)) (Rn.s rfl (Yv.ld (hy2.ld 0 (by omega) (by omega))) (Rn.s rfl Yv.as (Rn.nil)))) ?_)
        obtain ⟨Q, hQn, hQ⟩ := form_mem hf (p := nth y.2.2 (j : Int)) (by rw [hnpk]; exact nth_mem' hjl)
        rw [hQ]
        have hrd := hst.rd 3
        have hpull := rs_take (P := OrD bc2 A1 c1 xs ba1 bb1 n (opA (pl ls) n (k + 1)) rr) hst (p := Q) (by omega)
        have hzb : (nth rr (Q : Int)).2.2 = bhB (pl ls) k j Q := by
          rw [← nth_pl, hbh, nth_range _ (by omega)]
        have hzl : (nth rr (Q : Int)).2.2.length ≤ n := by
          rw [hzb]
          unfold bhB bhF castN
          rw [List.length_append, List.length_map]
          have h1 : ((List.range k).filter (fun i : Nat => decide ((Q : Int) ∈ nth (pl ls) (i : Int)))).length ≤ k := Nat.le_trans (List.length_filter_le _ _) (by simp)
          split <;> simp <;> omega
        refine Wp.regionL (l := [0, 1, 2, 3, 4, 5, 6, 7, 8, 9, 10]) (WO.rd (is := [0, 1, 2, 3, 4, 5, 6]) (js := [7, 8, 9, 10]) (Keep.refl _) (Rn.s rfl Yv.mv (Rn.s rfl Yv.mv (Rn.s rfl Yv.mv (Rn.s rfl Yv.mv (Rn.s rfl (Yv.ia (e := 23) hrd (by omega) (by omega) hrrl.symm) (Rn.s rfl (Yv.ld (hrd.ld 0 (by omega) (by omega))) (Rn.s rfl Yv.mv (Rn.nil)))))))) (WO.app InE [(k : Int)] rfl (fun _ => rfl) hpull 0 (fitInt (by simp only [List.length_cons, List.length_nil]; omega)) (fun be1 Ae1 ce1 we1 hse1 => WO.rd (is := [9]) (js := [10]) (Keep.refl _) (Rn.s rfl (Yv.ia (e := 23) (hse1.rd 4) (by omega) (by omega) hrrl.symm) (Rn.nil)) (WO.act (hc := rfl) (he := Ef.setFld (E := ShE) (xs := rr) (f := 0) hse1 4 ((Ae1, ce1, (nth rr (Q : Int)).2.2 ++ [(k : Int)]) : Sl) rfl rfl (by omega) (by omega) (fun we2 hse2 => WO.done ?_))))))
        refine Wp.reads (is := [0, 1]) (Keep.refl _) (Rn.s rfl (Yv.add (by unfold inI; omega)) (Rn.s rfl Yv.mv (Rn.nil))) ?_
        have hst3 : St w [] we2 (OrD bc2 A1 c1 xs ba1 bb1 n (opA (pl ls) n (k + 1)) (rr.set Q (Ae1, ce1, (nth rr (Q : Int)).2.2 ++ [(k : Int)])) ++ RsD (rr.set Q (Ae1, ce1, (nth rr (Q : Int)).2.2 ++ [(k : Int)]))) := by
          rw [Int.toNat_natCast] at hse2
          refine rs_back (P := OrD bc2 A1 c1 xs ba1 bb1 n (opA (pl ls) n (k + 1)) (rr.set Q (Ae1, ce1, (nth rr (Q : Int)).2.2 ++ [(k : Int)]))) _ (by omega) ?_
          exact St.pickT (P := [Ch.row ShE 23 (some ⟨bb1, 0, none⟩) n (rr.set Q (Ae1, ce1, (nth rr (Q : Int)).2.2 ++ [(k : Int)])), Ch.row InE 3 Ae1 ce1 ((nth rr (Q : Int)).2.2 ++ [(k : Int)]), Ch.cells bc2 57 [.slice A1 xs.length c1], Ch.row ItE 60 A1 c1 xs, Ch.row InE 3 (some ⟨ba1, 0, none⟩) n (opA (pl ls) n (k + 1))]) (T := (RsD rr).eraseIdx Q) hse2 [1, 2, 3, 4, 0]
        refine ⟨j + 1, ⟨rfl, by omega, _, ?_, hst3, rfl, rfl, rfl, rfl, rfl, rfl, rfl, rfl, rfl, rfl, rfl, rfl, rfl, trivial⟩, by omega⟩
        rw [pl_set, hbh]
        show ((List.range n).map (bhB (pl ls) k j)).set Q ((nth rr (Q : Int)).2.2 ++ [(k : Int)]) = _
        rw [hzb]
        exact bhB_set (pl ls) (n := n) (by rw [← hnp]; exact hf) (by rw [hnpk]; exact hjl) (by rw [hnpk]; exact hQ) (by omega)
      · have hjl : j = y.2.2.length := by have := of_decide_eq_false hjl; omega
        subst hjl
        refine Wp.exit ?_
        have hbh2 : pl rr = (List.range n).map (bhF (pl ls) (k + 1)) := by
          rw [hbh]
          refine map_congr_range fun i _ => ?_
          rw [← bhB_end, hnpk]
        have hxl : xs.length ≤ k := by
          rw [hx.length_eq, List.length_map]
          exact Nat.le_trans (List.length_filter_le _ _) (by simp)
        have hrd1 := hrs.keep hst.keep
        refine Wp.seq (Wp.reads (is := [0, 1, 2]) (Keep.refl _) (Rn.s rfl Yv.mv (Rn.s rfl (Yv.len_v (e := 3) (m := 1)) (Rn.s rfl (Yv.cmp _ rfl) (Rn.nil)))) ?_)
        refine Wp.mid (fun ρ ds w' => ds = [] ∧ ∃ A1 c1 xs rr, Hp xs xs.length ∧ xs.Perm ((rdy0 (pl ls) (k + 1)).map (itm rs)) ∧ pl rr = (List.range n).map (bhF (pl ls) (k + 1)) ∧ St w [] w' (OrD bc2 A1 c1 xs ba1 bb1 n (opA (pl ls) n (k + 1)) rr ++ RsD rr) ∧
          Sub [(0, .slice A n c), (1, .slice B rs.length d), (6, .slice (some ⟨ba1, 0, none⟩) n n), (7, .slice (some ⟨bb1, 0, none⟩) n n), (8, PB bc2), (35, .slice A n c), (36, .int .i64 (n : Int)), (37, .int .i64 (k : Int))] ρ) ?_ ?_
        · refine Wp.cond rfl (fun hz => ?_) (fun hz => ?_)
          · have hz : y.2.2 = [] := by
              have := eq_of_beq hz
              exact List.eq_nil_of_length_eq_zero (by omega)
            refine Wp.regionL (l := [0, 1, 2, 3, 4, 5, 6, 7, 8, 9]) (WO.rd (is := [0, 1, 2, 3, 4, 5, 6, 7, 8]) (js := [9]) (Keep.refl _) (Rn.s rfl Yv.mv (Rn.s rfl Yv.mki (Rn.s rfl Yv.mv (Rn.s rfl Yv.mv (Rn.s rfl (Yv.ia (e := 3) hrd1 (by omega) (by omega)) (Rn.s rfl (Yv.ld (hrd1.ld 0 (by omega) (by omega))) (Rn.s rfl Yv.mv (Rn.s rfl Yv.bd (Rn.s rfl Yv.mki (Rn.nil)))))))))) (WO.act (hc := rfl) (he := Ef.callv (caps := #[]) Tryd.func26 (Calls.mono (hpush_calls bc2 A1 c1 xs (itm rs k) w w2 [] _ (by omega) hp hst) ?_))))
            rintro e w3 ⟨rfl, A2, c2, hs3⟩
            obtain ⟨p1, p2, p3⟩ := push_ok (itm rs k) hp
            refine WO.done ⟨rfl, A2, c2, pushL xs (itm rs k), rr, p2, ?_, hbh2, hs3, rfl, rfl, rfl, rfl, rfl, rfl, rfl, rfl, trivial⟩
            rw [rdy0_succ, hnpk, if_pos hz, List.map_append]
            refine p1.trans ((hx.cons _).trans ?_)
            exact (List.perm_append_singleton _ _).symm
          · have hz : y.2.2 ≠ [] := by
              intro q
              rw [q] at hz
              simp at hz
            refine Wp.skip ⟨rfl, A1, c1, xs, rr, hp, ?_, hbh2, hst, rfl, rfl, rfl, rfl, rfl, rfl, rfl, rfl, trivial⟩
            rw [rdy0_succ, hnpk, if_neg hz, List.append_nil]
            exact hx
        · rintro ρ ds w3 ⟨rfl, A2, c2, xs2, rr2, hp2, hx2, hb2, hst2, hs⟩
          refine Wp.forget _ ?_ hs
          refine Wp.reads (is := [0, 1]) (Keep.refl _) (Rn.s rfl (Yv.add (by unfold inI; omega)) (Rn.s rfl Yv.mv (Rn.nil))) ?_
          exact ⟨k + 1, ⟨rfl, by omega, A2, c2, xs2, rr2, hp2, hx2, hb2, hst2, rfl, rfl, rfl, rfl, rfl, rfl, rfl, rfl, trivial⟩, by omega⟩
    · have hkn : k = n := by have := of_decide_eq_false hlt; omega
      subst hkn
      exact Wp.exit ⟨rfl, A1, c1, xs, rr, hp, hx, hbh, hst, rfl, rfl, rfl, rfl, rfl, trivial⟩
  · rintro ρ ds w1 ⟨rfl, A1, c1, xs, rr, hp, hx, hbh, hst, hs⟩
    refine Wp.forget _ ?_ hs
    clear hs ρ
    have hpb : ∀ i, i < n → (nth (pl ls) (i : Int)).length ≤ 17592186044416 := fun i hi => by
      rw [nth_pl]
      exact hb _ (nth_mem' (by omega))
    have hst : St w [] w1 (OrE bc2 A1 c1 xs ba1 bb1 n ((List.range n).map (cntS (pl ls) [])) rr none 0 [] ++ RsD rr) := by
      have e := cntS_nil (pl ls)
      rw [hnp] at e
      rw [← e] at hst
      exact St.pickT (P := [Ch.row InE 3 none 0 [], Ch.cells bc2 57 [.slice A1 xs.length c1], Ch.row ItE 60 A1 c1 xs, Ch.row InE 3 (some ⟨ba1, 0, none⟩) n ((List.range n).map (cntS (pl ls) [])), Ch.row ShE 23 (some ⟨bb1, 0, none⟩) n rr]) (T := RsD rr) (hst.nilrow InE 3) [1, 2, 3, 4, 0]
    have hx : xs.Perm ((rdyL (pl ls) []).map (itm rs)) := by rw [rdyL_nil, hnp]; exact hx
    refine Wp.seq (Wp.reads (is := [0]) (Keep.refl _) (Rn.s rfl Yv.as (Rn.nil)) ?_)
    refine Wp.cut (fun ρ ds w' => ds = [] ∧ ∃ O co rest, St w [] w' (Ch.row InE 3 O co (orderS (pl ls) rs) :: rest) ∧ Sub [(0, .slice A n c), (13, .slice O (orderS (pl ls) rs).length co)] ρ) (Wp.block ?_) ?_
    · refine Wp.loop (α := Is) (fun o ρ ds w' => ds = [] ∧ Beg (pl ls) o ∧ ordF (pl ls) rs (pl ls).length o = orderS (pl ls) rs ∧ ∃ A1 c1 xs rr O co, Hp xs xs.length ∧ xs.Perm ((rdyL (pl ls) o).map (itm rs)) ∧ pl rr = (List.range n).map (bhF (pl ls) n) ∧
        St w [] w' (OrE bc2 A1 c1 xs ba1 bb1 n ((List.range n).map (cntS (pl ls) o)) rr O co o ++ RsD rr) ∧
        Sub [(0, .slice A n c), (1, .slice B rs.length d), (6, .slice (some ⟨ba1, 0, none⟩) n n), (7, .slice (some ⟨bb1, 0, none⟩) n n), (8, PB bc2), (13, .slice O o.length co)] ρ) (fun o => still (pl ls).length o) []
        ⟨rfl, beg_nil _, eS.symm, A1, c1, xs, rr, none, 0, hp, hx, hbh, hst, rfl, rfl, rfl, rfl, rfl, rfl, trivial⟩ ?_
      rintro o ρ ds w1 ⟨rfl, hbeg, hord, A1, c1, xs, rr, O, co, hp, hx, hbh, hst, hs⟩
      refine Wp.forget _ ?_ hs
      clear hs ρ
      have hxl : xs.length ≤ n := by
        rw [hx.length_eq, List.length_map, ← hnp]
        exact rdyL_len _ _
      have hol : o.length ≤ n := by have := hbeg.room; omega
      have hrrl : rr.length = n := by have := congrArg List.length hbh; simpa using this
      have c0 := hst.cells 0
      refine Wp.seq (Wp.seq (Wp.regionL (l := [0, 1, 2, 3, 4]) (WO.rd (is := [0, 1, 2]) (js := [3, 4]) (Keep.refl _) (Rn.s rfl Yv.mv (Rn.s rfl Yv.nc (Rn.s rfl (Yv.ld (c0.at_ 0)) (Rn.nil)))) (WO.cv rfl (len_cv A1 xs.length c1 w1) (Keep.refl _) (FnOk.of Tryd.func27) (fun wf1 kf1 => WO.rd (is := [4]) (js := []) ((Keep.refl _).trans kf1) (Rn.s rfl (Yv.cmp _ rfl) (Rn.nil)) (WO.done ?_))))))
      have hst := hst.quiet kf1
      refine Wp.cond rfl (fun h0 => ?_) (fun h0 => ?_)
      · have h0 : 0 < xs.length := by have := of_decide_eq_true h0; omega
        obtain ⟨k, hkn, hG, hr, hbest⟩ := rdy_best (n := n) hnp.symm hp hx h0
        rw [hnp] at hkn
        obtain ⟨-, -, hp3, hp4⟩ := pop_ok hp h0
        rw [hG] at hp4
        have hperm := rest_perm (rs := rs) (by omega) hr (hp4.trans hx)
        refine Wp.skip ?_
        refine Wp.block ?_
        refine Wp.seq (Wp.regionL (l := [0, 1, 2, 3, 4, 5]) (WO.rd (is := [0, 1]) (js := [2, 3, 4, 5]) (Keep.refl _) (Rn.s rfl Yv.mv (Rn.s rfl Yv.mki (Rn.nil))) (WO.act (hc := rfl) (he := Ef.callv (caps := #[]) Tryd.func28 (Calls.mono (hpop_calls bc2 A1 c1 xs w wf1 [] _ h0 (by omega) hp hst) ?_)))))
        rintro e w2 ⟨rfl, hs2⟩
        rw [hG]
        refine WO.rd (is := [3, 4, 5]) (js := []) (Keep.refl _) (Rn.s rfl Yv.ta (Rn.s rfl (Yv.fld (off := 1) (cs := [.int .i64 (nth rs (k : Int)), .int .i64 (k : Int)]) (v := .int .i64 (k : Int))) (Rn.s rfl Yv.as (Rn.nil)))) (WO.done ?_)
        have hyl : ((popL xs).take (xs.length - 1)).length = xs.length - 1 := by
          have := hp4.length_eq
          simp only [List.length_cons, hx.length_eq.symm] at this
          have h2 := (hp4.trans hx).length_eq
          rw [← hx.length_eq] at h2
          simp only [List.length_cons] at h2
          omega
        generalize hys : (popL xs).take (xs.length - 1) = ys at hs2 hp3 hp4 hperm hyl
        have hpy : Hp ys ys.length := by rw [hyl]; exact hp3
        refine Wp.seq (Wp.regionL (l := [0, 1, 2, 3, 4]) (WO.rd (is := [0, 1]) (js := [2, 3, 4]) (Keep.refl _) (Rn.s rfl Yv.mv (Rn.s rfl Yv.mv (Rn.nil))) (WO.app InE [(k : Int)] rfl (fun _ => rfl) hs2 4 (fitInt (by simp only [List.length_cons, List.length_nil]; omega)) (fun bg1 Ag1 cg1 wg1 hsg1 => WO.rd (is := [4]) (js := []) (Keep.refl _) (Rn.s rfl Yv.as (Rn.nil)) (WO.done ?_)))))
        have hst3 : St w [] wg1 (OrE bc2 A1 c1 ys ba1 bb1 n ((List.range n).map (cntS (pl ls) o)) rr Ag1 cg1 (o ++ [(k : Int)]) ++ RsD rr) :=
          St.pickT (P := [Ch.row InE 3 Ag1 cg1 (o ++ [(k : Int)]), Ch.cells bc2 57 [.slice A1 ys.length c1], Ch.row ItE 60 A1 c1 ys, Ch.row InE 3 (some ⟨ba1, 0, none⟩) n ((List.range n).map (cntS (pl ls) o)), Ch.row ShE 23 (some ⟨bb1, 0, none⟩) n rr]) (T := RsD rr) hsg1 [1, 2, 3, 4, 0]
        clear hst hs2 hsg1 c0
        have hrd := hst3.rd 3
        have hyk : (nth rr (k : Int)).2.2 = castN (bhN (pl ls) k) := by
          rw [← nth_pl, hbh, nth_range _ hkn, ← hnp, bhF_eq]
        have hbnl : (bhN (pl ls) k).length ≤ n := by
          rw [← hnp]
          exact Nat.le_trans (List.length_filter_le _ _) (by simp)
        have hykl : (nth rr (k : Int)).2.2.length = (bhN (pl ls) k).length := by rw [hyk, List.length_map]
        refine Wp.seq (Wp.reads (is := [0, 1, 2, 3, 4, 5]) (Keep.refl _) (Rn.s rfl Yv.mv (Rn.s rfl Yv.mv (Rn.s rfl (Yv.ia (e := 23) hrd (by omega) (by omega) hrrl.symm) (Rn.s rfl (Yv.ld (hrd.ld 0 (by omega) (by omega))) (Rn.s rfl (Yv.len_v (e := 3) (m := 1)) (Rn.s rfl Yv.mv (Rn.nil))))))) ?_)
        refine Wp.block ?_
        refine Wp.loop (α := Nat) (fun j ρ ds w' => ds = [] ∧ j ≤ (bhN (pl ls) k).length ∧ ∃ A1 c1 xs, Hp xs xs.length ∧ xs.Perm ((rest0 (pl ls) o k ++ ((bhN (pl ls) k).take j).filter (fun i : Nat => decide (cntS (pl ls) (o ++ [(k : Int)]) i = 0))).map (itm rs)) ∧
          St w [] w' (OrE bc2 A1 c1 xs ba1 bb1 n (opJ (pl ls) o k j) rr Ag1 cg1 (o ++ [(k : Int)]) ++ RsD rr) ∧
          Sub [(0, .slice A n c), (1, .slice B rs.length d), (6, .slice (some ⟨ba1, 0, none⟩) n n), (7, .slice (some ⟨bb1, 0, none⟩) n n), (8, PB bc2), (13, .slice Ag1 (o ++ [(k : Int)]).length cg1),
            (95, .slice (nth rr (k : Int)).1 (nth rr (k : Int)).2.2.length (nth rr (k : Int)).2.1), (96, .int .i64 ((nth rr (k : Int)).2.2.length : Int)), (97, .int .i64 (j : Int))] ρ) (fun j => (bhN (pl ls) k).length - j) 0
          ⟨rfl, by omega, A1, c1, ys, hpy, by simpa using hperm, by rw [opJ_zero, hnp]; exact hst3, rfl, rfl, rfl, rfl, rfl, rfl, rfl, rfl, rfl, trivial⟩ ?_
        clear hst3 hperm hpy hp3 hp4 hrd hx hp
        rintro j ρ ds w3 ⟨rfl, hj, A2, c2, zs, hp, hx, hst, hs⟩
        refine Wp.forget _ ?_ hs
        clear hs ρ
        refine Wp.seq (Wp.reads (is := [0]) (Keep.refl _) (Rn.s rfl (Yv.cmp _ rfl) (Rn.nil)) ?_)
        refine Wp.seq (Wp.cond rfl (fun hjl => ?_) (fun hjl => ?_))
        · have hjl : j < (bhN (pl ls) k).length := by have := of_decide_eq_true hjl; omega
          have hmm := bhN_mem.1 (List.getElem_mem hjl)
          have hop := opJ_at (o := o) hjl
          have hset := opJ_set (o := o) hjl
          have hcs := cntS_step hform hr.1 (k := k) (i := (bhN (pl ls) k)[j]) hmm.1
          rw [if_pos hmm.2] at hcs
          have hrest := heapJ_len hbeg hr j
          have htake := filt_take hjl (fun i : Nat => decide (cntS (pl ls) (o ++ [(k : Int)]) i = 0))
          have hval : nth (nth rr (k : Int)).2.2 (j : Int) = ((bhN (pl ls) k)[j] : Int) := by rw [hyk, nth_castN hjl]
          obtain ⟨m, hm⟩ : ∃ m, (bhN (pl ls) k)[j] = m := ⟨_, rfl⟩
          rw [hm] at hmm hop hset hcs htake hval
          have hmn : m < n := by rw [← hnp]; exact hmm.1
          have hzl : zs.length ≤ n := by
            rw [hx.length_eq, List.length_map, ← hnp]
            exact hrest
          have hr3 := rs_rd (P := OrE bc2 A2 c2 zs ba1 bb1 n (opJ (pl ls) o k j) rr Ag1 cg1 (o ++ [(k : Int)])) hst (p := k) (by omega)
          have hopl : (opJ (pl ls) o k j).length = n := by unfold opJ; rw [List.length_map, List.length_range, hnp]
          have hcb : 0 ≤ cntS (pl ls) o m ∧ cntS (pl ls) o m ≤ 17592186044416 := by
            have h1 := hpb m hmn
            have h2 : ((nth (pl ls) (m : Int)).filter (fun p => decide (p ∉ o))).length ≤ (nth (pl ls) (m : Int)).length := List.length_filter_le _ _
            unfold cntS
            omega
          refine Wp.skip ?_
          refine Wp.seq (Wp.block ?_)
          refine Wp.seq (Wp.reads (is := [0, 1, 2]) (Keep.refl _) (Rn.s rfl (Yv.ia (e := 3) hr3 (by omega) (by omega)) (Rn.s rfl (Yv.ld (hr3.ld 0 (by omega) (by omega))) (Rn.s rfl Yv.as (Rn.nil)))) ?_)
          rw [hval]
          have hro := hst.rd 2
          refine Wp.seq (Wp.regionL (l := [0, 1, 2, 3, 4, 5, 6]) (WO.rd (is := [0, 1, 2, 3, 4, 5]) (js := [6]) (Keep.refl _) (Rn.s rfl Yv.mv (Rn.s rfl Yv.mv (Rn.s rfl (Yv.ia (e := 3) hro (by omega) (by omega) hopl.symm) (Rn.s rfl (Yv.ld (hro.ld 0 (by omega) (by omega))) (Rn.s rfl (Yv.sub ⟨by rw [hop]; omega, by rw [hop]; omega⟩) (Rn.s rfl (Yv.ia (e := 3) hro (by omega) (by omega) hopl.symm) (Rn.nil))))))) (WO.act (hc := rfl) (he := Ef.setFld (E := InE) (xs := opJ (pl ls) o k j) (f := 0) hst 2 (nth (opJ (pl ls) o k j) (m : Int) - 1) rfl rfl (by omega) (by omega) (fun wh1 hsh1 => WO.done ?_)))))
          have hst4 : St w [] wh1 (OrE bc2 A2 c2 zs ba1 bb1 n (opJ (pl ls) o k (j + 1)) rr Ag1 cg1 (o ++ [(k : Int)]) ++ RsD rr) := by
            rw [← hset, ← hop]
            rw [Int.toNat_natCast] at hsh1
            exact St.pickT (P := [Ch.row InE 3 (some ⟨ba1, 0, none⟩) n ((opJ (pl ls) o k j).set m (nth (opJ (pl ls) o k j) (m : Int) - 1)), Ch.cells bc2 57 [.slice A2 zs.length c2], Ch.row ItE 60 A2 c2 zs, Ch.row ShE 23 (some ⟨bb1, 0, none⟩) n rr, Ch.row InE 3 Ag1 cg1 (o ++ [(k : Int)])]) (T := RsD rr) hsh1 [1, 2, 0, 3, 4]
          clear hst hsh1 hro hr3
          have hro := hst4.rd 2
          have hopl2 : (opJ (pl ls) o k (j + 1)).length = n := by unfold opJ; rw [List.length_map, List.length_range, hnp]
          have hop2 : nth (opJ (pl ls) o k (j + 1)) (m : Int) = cntS (pl ls) (o ++ [(k : Int)]) m := by
            rw [← hset, nth_set_self _ (by omega), hcs]
          have hrd1 := hrs.keep hst4.keep
          refine Wp.seq (Wp.reads (is := [0, 1, 2, 3, 4]) (Keep.refl _) (Rn.s rfl Yv.mv (Rn.s rfl Yv.mv (Rn.s rfl (Yv.ia (e := 3) hro (by omega) (by omega) hopl2.symm) (Rn.s rfl (Yv.ld (hro.ld 0 (by omega) (by omega))) (Rn.s rfl (Yv.cmp _ rfl) (Rn.nil)))))) ?_)
          rw [hop2]
          refine Wp.mid (fun ρ ds w' => ds = [] ∧ ∃ A1 c1 xs, Hp xs xs.length ∧ xs.Perm ((rest0 (pl ls) o k ++ ((bhN (pl ls) k).take (j + 1)).filter (fun i : Nat => decide (cntS (pl ls) (o ++ [(k : Int)]) i = 0))).map (itm rs)) ∧
            St w [] w' (OrE bc2 A1 c1 xs ba1 bb1 n (opJ (pl ls) o k (j + 1)) rr Ag1 cg1 (o ++ [(k : Int)]) ++ RsD rr) ∧
            Sub [(0, .slice A n c), (1, .slice B rs.length d), (6, .slice (some ⟨ba1, 0, none⟩) n n), (7, .slice (some ⟨bb1, 0, none⟩) n n), (8, PB bc2), (13, .slice Ag1 (o ++ [(k : Int)]).length cg1),
              (95, .slice (nth rr (k : Int)).1 (nth rr (k : Int)).2.2.length (nth rr (k : Int)).2.1), (96, .int .i64 ((nth rr (k : Int)).2.2.length : Int)), (97, .int .i64 (j : Int))] ρ) ?_ ?_
          · refine Wp.cond rfl (fun hz => ?_) (fun hz => ?_)
            · have hz := eq_of_beq hz
              refine Wp.regionL (l := [0, 1, 2, 3, 4, 5, 6, 7, 8, 9]) (WO.rd (is := [0, 1, 2, 3, 4, 5, 6, 7, 8]) (js := [9]) (Keep.refl _) (Rn.s rfl Yv.mv (Rn.s rfl Yv.mki (Rn.s rfl Yv.mv (Rn.s rfl Yv.mv (Rn.s rfl (Yv.ia (e := 3) hrd1 (by omega) (by omega)) (Rn.s rfl (Yv.ld (hrd1.ld 0 (by omega) (by omega))) (Rn.s rfl Yv.mv (Rn.s rfl Yv.bd (Rn.s rfl Yv.mki (Rn.nil)))))))))) (WO.act (hc := rfl) (he := Ef.callv (caps := #[]) Tryd.func26 (Calls.mono (hpush_calls bc2 A2 c2 zs (itm rs m) w wh1 [] _ (by omega) hp hst4) ?_))))
              rintro e w5 ⟨rfl, A3, c3, hs5⟩
              obtain ⟨p1, p2, p3⟩ := push_ok (itm rs m) hp
              refine WO.done ⟨rfl, A3, c3, pushL zs (itm rs m), p2, ?_, hs5, rfl, rfl, rfl, rfl, rfl, rfl, rfl, rfl, rfl, trivial⟩
              rw [htake, if_pos (decide_eq_true hz), ← List.append_assoc, List.map_append]
              refine p1.trans ((hx.cons _).trans ?_)
              exact (List.perm_append_singleton _ _).symm
            · have hz := ne_of_beq_false hz
              refine Wp.skip ⟨rfl, A2, c2, zs, hp, ?_, hst4, rfl, rfl, rfl, rfl, rfl, rfl, rfl, rfl, rfl, trivial⟩
              rw [htake, if_neg (by rw [decide_eq_true_eq]; exact hz), List.append_nil]
              exact hx
          · rintro ρ ds w5 ⟨rfl, A3, c3, us, hp3, hx3, hst5, hs⟩
            refine Wp.forget _ ?_ hs
            refine Wp.reads (is := [0, 1]) (Keep.refl _) (Rn.s rfl (Yv.add (by unfold inI; omega)) (Rn.s rfl Yv.mv (Rn.nil))) ?_
            exact ⟨j + 1, ⟨rfl, by omega, A3, c3, us, hp3, hx3, hst5, rfl, rfl, rfl, rfl, rfl, rfl, rfl, rfl, rfl, trivial⟩, by omega⟩
        · have hjl : j = (bhN (pl ls) k).length := by have := of_decide_eq_false hjl; omega
          subst hjl
          refine Wp.exit ⟨o ++ [(k : Int)], ⟨rfl, beg_step hbeg (by omega) hr, ?_, A2, c2, zs, rr, Ag1, cg1, hp, ?_, hbh, ?_, rfl, rfl, rfl, rfl, rfl, rfl, trivial⟩, still_dec (by omega) hr.1⟩
          · rw [← ordF_step hbest]
            exact hord
          · rw [List.take_length] at hx
            exact hx.trans ((rest_end hbeg hr).map _).symm
          · rw [opJ_end hform hr.1, hnp] at hst
            exact hst
      · have h0 : xs.length = 0 := by have := of_decide_eq_false h0; omega
        have hno := rdy_none (ps := pl ls) (rs := rs) hx h0
        rw [ordF_none _ hno] at hord
        subst hord
        exact Wp.exit ⟨rfl, O, co, _, St.pickT (P := OrE bc2 A1 c1 xs ba1 bb1 n ((List.range n).map (cntS (pl ls) (orderS (pl ls) rs))) rr O co (orderS (pl ls) rs)) (T := RsD rr) hst [4], rfl, rfl, trivial⟩
    · rintro ρ ds w1 ⟨rfl, O, co, rest, hst, hs⟩
      refine Wp.forget _ ?_ hs
      clear hs ρ
      have hC : orderC (pl ls) rs = if (orderS (pl ls) rs).length < n then 163 else 0 := by
        unfold orderC orderS
        rw [if_pos hok, if_pos hok, hnp]
      refine Wp.seq (Wp.seq (Wp.reads (is := [0, 1, 2, 3, 4]) (Keep.refl _) (Rn.s rfl Yv.mv (Rn.s rfl (Yv.len_v (e := 3) (m := 1)) (Rn.s rfl Yv.mv (Rn.s rfl (Yv.len_v (e := 23) (m := 1)) (Rn.s rfl (Yv.cmp _ rfl) (Rn.nil)))))) ?_))
      refine Wp.cond rfl (fun hlt => ?_) (fun hlt => ?_)
      · have hlt := of_decide_eq_true hlt
        refine Wp.seq (Wp.reads (is := [0, 1, 2]) (Keep.refl _) (Rn.s rfl Yv.mv (Rn.s rfl Yv.as (Rn.s rfl Yv.as (Rn.nil)))) ?_)
        refine Wp.ret (Fin.ret (Res.two rfl rfl rfl) ⟨_, _, rfl, ⟨O, co, ?_, rfl⟩, hst.pick [0]⟩)
        rw [hC, if_pos (by omega)]
      · have hlt := of_decide_eq_false hlt
        refine Wp.skip ?_
        refine Wp.seq (Wp.reads (is := [0, 1, 2]) (Keep.refl _) (Rn.s rfl Yv.mv (Rn.s rfl Yv.as (Rn.s rfl Yv.as (Rn.nil)))) ?_)
        refine Wp.ret (Fin.ret (Res.two rfl rfl rfl) ⟨_, _, rfl, ⟨O, co, ?_, rfl⟩, hst.pick [0]⟩)
        rw [hC, if_neg (by omega)]
end Go.Proofs.YthbehiflmcljcaaDoor.C
