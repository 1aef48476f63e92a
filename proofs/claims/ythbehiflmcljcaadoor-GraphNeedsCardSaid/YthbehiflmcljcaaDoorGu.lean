/- GraphSorted walked. An order's steps: each takes the best of those that are ready. -/
import Derived.Test.YthbehiflmcljcaaDoorGt
set_option linter.unusedVariables false
set_option linter.unusedSimpArgs false
set_option maxRecDepth 10000
namespace Go.Proofs.YthbehiflmcljcaaDoor.C
open Go.RowKit Go.Proofs.YthbehiflmcljcaaDoor.Sh
def Lst (ps : List Is) (rs o : Is) : Prop := ∀ i, i < o.length → ∃ b : Nat, nth o (i : Int) = (b : Int) ∧ bestS ps rs (o.take i) ps.length = some b
theorem nth_app_left {o : Is} {x : Int} {i : Nat} (h : i < o.length) : nth (o ++ [x]) (i : Int) = nth o (i : Int) := by
  rw [nth_getElem (by simp; omega), nth_getElem h, List.getElem_append_left h]
theorem nth_app_last {o : Is} {x : Int} : nth (o ++ [x]) (o.length : Int) = x := by
  rw [nth_getElem (by simp)]
  simp
theorem lst_step {ps : List Is} {rs o : Is} {b : Nat} (h : Lst ps rs o) (hb : bestS ps rs o ps.length = some b) : Lst ps rs (o ++ [(b : Int)]) := fun i hi => by
  simp only [List.length_append, List.length_cons, List.length_nil] at hi
  by_cases q : i = o.length
  · subst q
    exact ⟨b, nth_app_last, by rw [List.take_left]; exact hb⟩
  · obtain ⟨d, h1, h2⟩ := h i (by omega)
    exact ⟨d, by rw [nth_app_left (by omega)]; exact h1, by rw [List.take_append_of_le_length (by omega)]; exact h2⟩
theorem ordF_lst {ps : List Is} {rs : Is} : ∀ (f : Nat) (o : Is), Lst ps rs o → Lst ps rs (ordF ps rs f o)
  | 0, o, h => h
  | f + 1, o, h => by
    cases hb : bestS ps rs o ps.length with
    | none => rw [ordF_none _ hb]; exact h
    | some b =>
      have e2 : ordF ps rs (f + 1) o = ordF ps rs f (o ++ [(b : Int)]) := by rw [ordF, hb]
      rw [e2]
      exact ordF_lst f _ (lst_step h hb)
theorem ordS_lst (ps : List Is) (rs : Is) : Lst ps rs (ordS ps rs) := ordF_lst _ _ (fun i hi => absurd hi (Nat.not_lt_zero i))
theorem mem_take_nth {o : Is} {k : Nat} {x : Int} (h : x ∈ o.take k) : ∃ i, i < k ∧ i < o.length ∧ nth o (i : Int) = x := by
  obtain ⟨i, hi, e⟩ := List.mem_iff_getElem.1 h
  rw [List.length_take] at hi
  rw [List.getElem_take] at e
  exact ⟨i, by omega, by omega, by rw [nth_getElem (by omega)]; exact e⟩
theorem nth_take_mem {o : Is} {k i : Nat} (hi : i < k) (hl : i < o.length) : nth o (i : Int) ∈ o.take k := by
  rw [nth_getElem hl]
  exact List.mem_iff_getElem.2 ⟨i, by rw [List.length_take]; omega, by rw [List.getElem_take]⟩
/-- places behind k steps -/
def Pos (n : Nat) (o : Is) (k : Nat) (pa : Is) : Prop := pa.length = n ∧ ∀ x : Nat, x < n → ((x : Int) ∉ o.take k → nth pa (x : Int) = 0) ∧ ∀ i : Nat, i < k → nth o (i : Int) = (x : Int) → nth pa (x : Int) = (i : Int) + 1
theorem nth_set_ne {α : Type} [Inhabited α] {l : List α} {k j : Nat} (v : α) (h : j ≠ k) : nth (l.set k v) (j : Int) = nth l (j : Int) := by
  unfold nth
  rw [Int.toNat_natCast, List.getD_eq_getElem?_getD, List.getD_eq_getElem?_getD, List.getElem?_set_ne (by omega)]
theorem pos_step {n : Nat} {o pa : Is} {k m : Nat} (h : Pos n o k pa) (hk : k < o.length) (hm : nth o (k : Int) = (m : Int)) (hmn : m < n) (hno : (m : Int) ∉ o.take k) : Pos n o (k + 1) (pa.set m ((k : Int) + 1)) := by
  refine ⟨by rw [List.length_set]; exact h.1, fun x hx => ?_⟩
  by_cases q : x = m
  · subst q
    rw [nth_set_self _ (by rw [h.1]; exact hx)]
    refine ⟨fun q => absurd ((mem_take_succ hk _).2 (.inr hm.symm)) q, fun i hi hio => ?_⟩
    by_cases qi : i = k
    · rw [qi]
    · refine absurd (?_ : (x : Int) ∈ o.take k) hno
      rw [← hio]
      exact nth_take_mem (by omega) (by omega)
  · rw [nth_set_ne _ q]
    obtain ⟨h1, h2⟩ := h.2 x hx
    refine ⟨fun q2 => h1 (fun q3 => q2 ((mem_take_succ hk _).2 (.inl q3))), fun i hi hio => ?_⟩
    by_cases qi : i = k
    · subst qi
      rw [hm] at hio
      omega
    · exact h2 i (by omega) hio
theorem code_cases {ps : List Is} {rs : Is} (h : okS ps rs) : orderC ps rs = if (orderS ps rs).length < ps.length then 163 else 0 := by
  unfold orderC orderS
  rw [if_pos h, if_pos h]
theorem code_bad {ps : List Is} {rs : Is} : orderC ps rs = 160 ↔ ¬ okS ps rs := by
  constructor
  · intro h q
    rw [code_cases q] at h
    split at h <;> cases h
  · intro h
    unfold orderC
    rw [if_neg h]
/-- the first calls of a law over an order: copies, and the order of them -/
theorem sorted_calls (A : Option Addr) (c : Nat) (ls : List Sl) (B : Option Addr) (d : Nat) (rs : Is) (w : World) (h : LsAt w A ls) (hcap : CapOk ls) (hrs : Rd InE w B rs) (hcr : B = none → d = 0) (hl : ls.length ≤ 5864062014804) (hb : ∀ x ∈ ls, x.2.2.length ≤ 17592186044416) (hrl : rs.length ≤ 17592186044416) :
    Calls Tryd.prog 4 #[.slice A ls.length c, .slice B rs.length d] w fun e w' => e = .returned (.bool true) ∧ Keep w w' := by
  have hpl : (pl ls).length = ls.length := List.length_map ..
  refine calls_of_Wp (vs := [_, _]) Tryd.func4 ?_
  refine Wp.seq (Wp.reads (is := [0]) (Keep.refl _) (Rn.s rfl Yv.as (Rn.nil)) ?_)
  refine Wp.seq (Wp.regionL (l := [0, 1, 2, 3, 4, 5, 6, 7, 8, 9]) (WO.rd (is := [0]) (js := [1, 2, 3, 4, 5, 6, 7, 8, 9]) (Keep.refl _) (Rn.s rfl Yv.mv (Rn.nil)) (WO.act (hc := rfl) (he := Ef.cx (caps := []) (A := []) (copyl_cx A c ls w h hcap hl hb) (St.init w) (FnOk.of Tryd.func11) ?_))))
  rintro v D w1 ⟨O, co, rr, hrr, rfl, rfl⟩ hs1
  have hrrl := pl_len hrr
  refine WO.rd (is := [2]) (js := [3, 4, 5, 6, 7, 8, 9]) (Keep.refl _) (Rn.s rfl Yv.mv (Rn.nil)) (WO.act (hc := rfl) (he := Ef.cx (caps := []) (A := []) (copyI_cx B d rs w1 (hrs.keep hs1.keep) hcr hrl) hs1 (FnOk.of Tryd.func16) ?_))
  rintro v D w2 ⟨B2, d2, rfl, rfl⟩ hs2
  have hl2 : LsAt w2 O rr := ls_of (co := co) hs2 (by simp) (fun C hC => by simp [hC])
  have hr2 : Rd InE w2 B2 rs := row_rd (hs2.ok (Ch.row InE 3 B2 d2 rs) (by simp))
  have hO := order_cx O co rr B2 d2 rs w2 hl2 hr2 (by omega) (pl_bound hrr hb) hrl
  rw [hrr] at hO
  refine WO.act (hc := rfl) (he := Ef.cx (caps := []) (A := []) hO hs2 (FnOk.of Tryd.func13) ?_)
  rintro v D w3 ⟨Oo, coo, rfl, rfl⟩ hs3
  refine WO.rd (is := [5, 6, 7, 8, 9]) (js := []) (Keep.refl _) (Rn.s rfl Yv.mv (Rn.s rfl Yv.ex (Rn.s rfl Yv.ex (Rn.s rfl Yv.as (Rn.s rfl Yv.as (Rn.nil)))))) (WO.done ?_)
  have hs3 : St w [] w3 [Ch.row InE 3 Oo coo (orderS (pl ls) rs)] := hs3.pick [0]
  refine Wp.seq (Wp.seq (Wp.reads (is := [0, 1]) (Keep.refl _) (Rn.s rfl Yv.mv (Rn.s rfl (Yv.cmp _ rfl) (Rn.nil))) ?_))
  refine Wp.cond rfl (fun hc => ?_) (fun hc => ?_)
  · have hc := code_bad.1 (eq_of_beq hc)
    have e0 : orderS (pl ls) rs = [] := if_neg hc
    rw [e0]
    refine Wp.seq (Wp.regionL (l := [0, 1, 2, 3, 4, 5, 6]) (WO.rd (is := [0, 1, 2, 3]) (js := [4, 5, 6]) (Keep.refl _) (Rn.s rfl Yv.mv (Rn.s rfl (Yv.len_v (e := 3) (m := 1)) (Rn.s rfl (Yv.cmp _ rfl) (Rn.s rfl Yv.mv (Rn.nil))))) (WO.and (js := [6]) 26 28 (hg := rfl) (ht := fun h3 qa1 => have h3 := eq_of_beq h3; WO.cv rfl (awake_cv w3) (Keep.refl _) (FnOk.of Tryd.func19) (fun wa2 ka2 => WO.rd (is := [5]) (js := [6]) ((Keep.refl _).trans ka2) (Rn.s rfl Yv.pick_t (Rn.nil)) (WO.e 2 (qa1 _ ((Keep.refl _).trans ka2))))) (hf := fun _ qa1 => WO.rd (is := [4, 5]) (js := [6]) (Keep.refl _) (Rn.no rfl (Rn.s rfl Yv.pick_f Rn.nil)) (WO.e 2 (qa1 _ (Keep.refl _)))) (k := fun wa1 ka1 => WO.rd (is := [6]) (js := []) ((Keep.refl _).trans ka1) (Rn.s rfl Yv.as (Rn.nil)) (WO.done ?_)))))
    exact Wp.ret (Fin.ret (Res.one rfl rfl) ⟨rfl, hs3.keep.trans ka1⟩)
  have hok : okS (pl ls) rs := Classical.byContradiction fun q => ne_of_beq_false hc (code_bad.2 q)
  have hcode := code_cases hok
  have eo : orderS (pl ls) rs = ordS (pl ls) rs := if_pos hok
  have hfix := best_none.1 (ordS_fix (pl ls) rs)
  have hbeg := ordS_beg (pl ls) rs
  have hlst := ordS_lst (pl ls) rs
  rw [← eo] at hfix hbeg hlst
  generalize orderC (pl ls) rs = code at hcode hc ⊢
  generalize orderS (pl ls) rs = o at hcode hfix hbeg hlst hs3 ⊢
  have hol : o.length ≤ ls.length := by have := hbeg.room; omega
  refine Wp.skip ?_
  refine Wp.seq (Wp.regionL (l := [0, 1, 2, 3]) (WO.rd (is := [0, 1]) (js := [2, 3]) (Keep.refl _) (Rn.s rfl Yv.mv (Rn.s rfl (Yv.len_v (e := 23) (m := 1)) (Rn.nil))) (WO.act (hc := rfl) (he := Ef.mks (T := 3) (bytes := 8) InE (0 : Int) (.int .i64 0) (by omega) (by omega) hs3 (fun bb1 wb1 kb1 hsb1 => WO.rd (is := [3]) (js := []) ((Keep.refl _).trans kb1) (Rn.s rfl Yv.as (Rn.nil)) (WO.done ?_))))))
  refine Wp.seq (Wp.seq (Wp.reads (is := [0]) (Keep.refl _) (Rn.s rfl Yv.as (Rn.nil)) ?_))
  refine Wp.mid (fun ρ ds w' => ds = [] ∧ ∃ pa, Pos ls.length o o.length pa ∧ St w [] w' [Ch.row InE 3 (some ⟨bb1, 0, none⟩) ls.length pa, Ch.row InE 3 Oo coo o] ∧ Sub [(0, .slice A ls.length c), (5, .slice Oo o.length coo), (6, .int .i64 code), (7, .slice (some ⟨bb1, 0, none⟩) ls.length ls.length)] ρ) (Wp.block ?_) ?_
  · refine Wp.loop (α := Nat) (fun k ρ ds w' => ds = [] ∧ k ≤ o.length ∧ ∃ pa, Pos ls.length o k pa ∧ St w [] w' [Ch.row InE 3 (some ⟨bb1, 0, none⟩) ls.length pa, Ch.row InE 3 Oo coo o] ∧ Sub [(0, .slice A ls.length c), (5, .slice Oo o.length coo), (6, .int .i64 code), (7, .slice (some ⟨bb1, 0, none⟩) ls.length ls.length), (8, .int .i64 (k : Int))] ρ) (fun k => o.length - k) 0
      ⟨rfl, by omega, List.replicate ls.length 0, ⟨List.length_replicate, fun x hx => ⟨fun _ => by rw [nth_getElem (by rw [List.length_replicate]; exact hx)]; simp, fun i hi => absurd hi (Nat.not_lt_zero i)⟩⟩, hsb1, rfl, rfl, rfl, rfl, rfl, trivial⟩ ?_
    rintro k ρ ds w4 ⟨rfl, hk, pa, hpos, hst, hs⟩
    refine Wp.forget _ ?_ hs
    clear hs ρ
    refine Wp.seq (Wp.seq (Wp.reads (is := [0, 1, 2, 3]) (Keep.refl _) (Rn.s rfl Yv.mv (Rn.s rfl Yv.mv (Rn.s rfl (Yv.len_v (e := 3) (m := 1)) (Rn.s rfl (Yv.cmp _ rfl) (Rn.nil))))) ?_))
    refine Wp.cond rfl (fun hlt => ?_) (fun hlt => ?_)
    · have hlt : k < o.length := by have := of_decide_eq_true hlt; omega
      obtain ⟨m, hm, hbest⟩ := hlst k hlt
      obtain ⟨hmn, hrdy, -⟩ := best_some hbest
      rw [hpl] at hmn
      have hro := hst.rd 1
      have hrp := hst.rd 0
      have hpal := hpos.1
      have hp0 := (hpos.2 m hmn).1 hrdy.1
      refine Wp.skip (Wp.seq (Wp.block ?_))
      refine Wp.seq (Wp.seq (Wp.reads (is := [0, 1, 2, 3, 4, 5, 6, 7, 8, 9, 10, 11, 12, 13, 14, 15, 16, 17, 18, 19, 20, 21, 22, 23]) (Keep.refl _) (Rn.s rfl Yv.mv (Rn.s rfl Yv.mv (Rn.s rfl (Yv.ia (e := 3) hro (by omega) (by omega)) (Rn.s rfl (Yv.ld (hro.ld 0 (by omega) (by omega))) (Rn.s rfl (Yv.cmp _ rfl) (Rn.s rfl Yv.mv (Rn.or (is := [6, 7, 8, 9, 10, 11, 12, 13]) (js := [14, 15, 16, 17, 18, 19, 20, 21, 22, 23]) (t := 43) (d := 51) (hg := rfl) (hf := fun h5 => have h5 := of_decide_eq_false h5; Rn.s rfl Yv.mv (Rn.s rfl Yv.mv (Rn.s rfl (Yv.ia (e := 3) hro (by omega) (by omega)) (Rn.s rfl (Yv.ld (hro.ld 0 (by omega) (by omega))) (Rn.s rfl Yv.mv (Rn.s rfl (Yv.len_v (e := 23) (m := 1)) (Rn.s rfl (Yv.cmp _ rfl) (Rn.s rfl Yv.pick_f ((Rn.e 8 rfl rfl)))))))))) (ht := fun _ => Rn.no rfl (Rn.no rfl (Rn.no rfl (Rn.no rfl (Rn.no rfl (Rn.no rfl (Rn.no rfl (Rn.s rfl Yv.pick_t (Rn.e 8 rfl rfl))))))))) (k := Rn.s rfl Yv.mv (Rn.or (is := [15, 16, 17, 18, 19, 20, 21, 22, 23]) (js := []) (t := 52) (d := 61) (hg := rfl) (hf := fun h14 => Rn.s rfl Yv.mv (Rn.s rfl Yv.mv (Rn.s rfl Yv.mv (Rn.s rfl (Yv.ia (e := 3) hro (by omega) (by omega)) (Rn.s rfl (Yv.ld (hro.ld 0 (by omega) (by omega))) (Rn.s rfl (Yv.ia (e := 3) hrp (by omega) (by omega) hpal.symm) (Rn.s rfl (Yv.ld (hrp.ld 0 (by omega) (by omega))) (Rn.s rfl (Yv.cmp _ rfl) (Rn.s rfl Yv.pick_f ((Rn.e 9 rfl rfl))))))))))) (ht := fun _ => Rn.no rfl (Rn.no rfl (Rn.no rfl (Rn.no rfl (Rn.no rfl (Rn.no rfl (Rn.no rfl (Rn.no rfl (Rn.s rfl Yv.pick_t (Rn.e 9 rfl rfl)))))))))) (k := Rn.nil)))))))))) ?_))
      rw [hm, hp0]
      have e1 : decide ((m : Int) < 0) = false := decide_eq_false (by omega)
      have e2 : decide ((ls.length : Int) ≤ (m : Int)) = false := decide_eq_false (by omega)
      rw [e1, e2]
      refine Wp.cond_f rfl ?_
      refine Wp.skip ?_
      refine Wp.regionL (l := [0, 1, 2, 3, 4, 5, 6, 7, 8]) (WO.rd (is := [0, 1, 2, 3, 4, 5, 6, 7]) (js := [8]) (Keep.refl _) (Rn.s rfl Yv.mv (Rn.s rfl Yv.mv (Rn.s rfl Yv.mv (Rn.s rfl (Yv.ia (e := 3) hro (by omega) (by omega)) (Rn.s rfl (Yv.ld (hro.ld 0 (by omega) (by omega))) (Rn.s rfl Yv.mv (Rn.s rfl (Yv.add ⟨by omega, by omega⟩) (Rn.s rfl (Yv.ia (e := 3) hrp (by omega) (by omega) hpal.symm) (Rn.nil))))))))) (WO.act (hc := rfl) (he := Ef.setFld (E := InE) (xs := pa) (f := 0) hst 0 ((k : Int) + 1) rfl rfl (by omega) (by omega) (fun wd1 hsd1 => WO.done ?_))))
      refine Wp.reads (is := [0, 1, 2]) (Keep.refl _) (Rn.s rfl Yv.mv (Rn.s rfl (Yv.add (by unfold inI; omega)) (Rn.s rfl Yv.as (Rn.nil)))) ?_
      rw [hm, Int.toNat_natCast] at hsd1
      exact ⟨k + 1, ⟨rfl, by omega, _, pos_step hpos hlt hm hmn hrdy.1, hsd1, rfl, rfl, rfl, rfl, rfl, trivial⟩, by omega⟩
    · have hlt : k = o.length := by have := of_decide_eq_false hlt; omega
      subst hlt
      exact Wp.exit ⟨rfl, pa, hpos, hst, rfl, rfl, rfl, rfl, trivial⟩
  · rintro ρ ds w4 ⟨rfl, pa, hpos, hst, hs⟩
    refine Wp.forget _ ?_ hs
    clear hs ρ hs3 hsb1
    have hpal := hpos.1
    refine Wp.seq (Wp.seq (Wp.reads (is := [0, 1, 2, 3, 4, 5, 6, 7]) (Keep.refl _) (Rn.s rfl Yv.mv (Rn.s rfl (Yv.cmp _ rfl) (Rn.s rfl Yv.mv (Rn.s rfl (Yv.len_v (e := 3) (m := 1)) (Rn.s rfl Yv.mv (Rn.s rfl (Yv.len_v (e := 23) (m := 1)) (Rn.s rfl (Yv.cmp _ rfl) (Rn.s rfl (Yv.bcm _ rfl) (Rn.nil))))))))) ?_))
    have e1 : ((code == 0) != ((o.length : Int) == (ls.length : Int))) = false := by
      rw [hcode, hpl]
      by_cases q : o.length < ls.length
      · rw [if_pos q]
        have : ((o.length : Int) == (ls.length : Int)) = false := by
          rw [beq_eq_false_iff_ne]
          omega
        rw [this]
        rfl
      · rw [if_neg q]
        have : ((o.length : Int) == (ls.length : Int)) = true := by
          rw [beq_iff_eq]
          omega
        rw [this]
        rfl
    rw [e1]
    refine Wp.cond_f rfl ?_
    refine Wp.skip ?_
    have hmem : ∀ x : Nat, x < ls.length → (x : Int) ∈ o → ∃ q : Nat, q < o.length ∧ nth pa (x : Int) = (q : Int) + 1 ∧ ∀ p ∈ nth (pl ls) (x : Int), p ∈ o.take q := fun x hx hxo => by
      have h1 : (x : Int) ∈ o.take o.length := by rw [List.take_length]; exact hxo
      obtain ⟨q, -, hq, e⟩ := mem_take_nth h1
      obtain ⟨b, hb1, hb2⟩ := hlst q hq
      obtain ⟨-, hr, -⟩ := best_some hb2
      have : b = x := by omega
      subst this
      exact ⟨q, hq, (hpos.2 b hx).2 q hq e, hr.2⟩
    have hnot : ∀ x : Nat, x < ls.length → (x : Int) ∉ o → nth pa (x : Int) = 0 ∧ ∃ p ∈ nth (pl ls) (x : Int), p ∉ o := fun x hx hxo => by
      refine ⟨(hpos.2 x hx).1 (by rw [List.take_length]; exact hxo), ?_⟩
      have h4 := hfix x (by omega)
      have h5 : ¬ ∀ p ∈ nth (pl ls) (x : Int), p ∈ o := fun q => h4 ⟨hxo, q⟩
      exact Classical.byContradiction fun q => h5 (fun p hp => Classical.byContradiction fun r => q ⟨p, hp, r⟩)
    refine Wp.seq (Wp.seq (Wp.reads (is := [0]) (Keep.refl _) (Rn.s rfl Yv.as (Rn.nil)) ?_))
    refine Wp.block ?_
    refine Wp.loop (α := Nat) (fun i ρ ds w' => ds = [] ∧ Keep w4 w' ∧ i ≤ ls.length ∧ Sub [(0, .slice A ls.length c), (7, .slice (some ⟨bb1, 0, none⟩) ls.length ls.length), (9, .int .i64 (i : Int))] ρ) (fun i => ls.length - i) 0
      ⟨rfl, Keep.refl _, by omega, rfl, rfl, rfl, trivial⟩ ?_
    rintro i ρ ds w5 ⟨rfl, hk5, hi, hs⟩
    refine Wp.forget _ ?_ hs
    clear hs ρ
    refine Wp.seq (Wp.seq (Wp.reads (is := [0, 1, 2, 3]) (Keep.refl _) (Rn.s rfl Yv.mv (Rn.s rfl Yv.mv (Rn.s rfl (Yv.len_v (e := 23) (m := 1)) (Rn.s rfl (Yv.cmp _ rfl) (Rn.nil))))) ?_))
    refine Wp.cond rfl (fun hlt => ?_) (fun hlt => ?_)
    · have hlt : i < ls.length := by have := of_decide_eq_true hlt; omega
      have hnp : nth (pl ls) (i : Int) = (nth ls (i : Int)).2.2 := nth_pl ls _
      have hfi := hok.2 i (by omega)
      rw [hnp] at hfi
      have hxl := hb _ (nth_mem' hlt)
      have hmi := hmem i hlt
      have hni := hnot i hlt
      rw [hnp] at hmi hni
      refine Wp.skip (Wp.seq (Wp.block ?_))
      refine Wp.seq (Wp.reads (is := [0]) (Keep.refl _) (Rn.s rfl Yv.as (Rn.nil)) ?_)
      refine Wp.seq (Wp.seq (Wp.reads (is := [0]) (Keep.refl _) (Rn.s rfl Yv.as (Rn.nil)) ?_))
      obtain ⟨x, hx⟩ : ∃ x, nth ls (i : Int) = x := ⟨_, rfl⟩
      rw [hx] at hfi hxl hmi hni
      refine Wp.mid (fun ρ ds w' => ds = [] ∧ Keep w4 w' ∧ ∃ all : Bool, (all = true → ∀ j : Nat, j < x.2.2.length → nth pa (nth x.2.2 (j : Int)) ≠ 0) ∧ Sub [(0, .slice A ls.length c), (7, .slice (some ⟨bb1, 0, none⟩) ls.length ls.length), (9, .int .i64 (i : Int)), (10, .bool all)] ρ) (Wp.block ?_) ?_
      · refine Wp.loop (α := Nat) (fun j ρ ds w' => ds = [] ∧ Keep w4 w' ∧ j ≤ x.2.2.length ∧ ∃ all : Bool, (all = true → ∀ m : Nat, m < j → nth pa (nth x.2.2 (m : Int)) ≠ 0) ∧ Sub [(0, .slice A ls.length c), (7, .slice (some ⟨bb1, 0, none⟩) ls.length ls.length), (9, .int .i64 (i : Int)), (10, .bool all), (11, .int .i64 (j : Int))] ρ) (fun j => x.2.2.length - j) 0
          ⟨rfl, hk5, by omega, true, fun _ m hm => absurd hm (Nat.not_lt_zero m), rfl, rfl, rfl, rfl, rfl, trivial⟩ ?_
        rintro j ρ ds w6 ⟨rfl, hk6, hj, all, hall, hs⟩
        refine Wp.forget _ ?_ hs
        clear hs ρ
        have h6 := (h.keep hst.keep).keep hk6
        have hrd6 := h6.rd
        have hat6 := h6.at_ hlt
        have hrp6 := (hst.rd 0).keep hk6
        rw [hx] at hat6
        refine Wp.seq (Wp.seq (Wp.reads (is := [0, 1, 2, 3, 4, 5, 6]) (Keep.refl _) (Rn.s rfl Yv.mv (Rn.s rfl Yv.mv (Rn.s rfl Yv.mv (Rn.s rfl (Yv.ia (e := 23) hrd6 (by omega) (by omega)) (Rn.s rfl (Yv.ld (hrd6.ld 0 (by omega) (by omega))) (Rn.s rfl (Yv.len_v (e := 3) (m := 1)) (Rn.s rfl (Yv.cmp _ rfl) (Rn.nil)))))))) ?_))
        rw [hx]
        refine Wp.cond rfl (fun hjl => ?_) (fun hjl => ?_)
        · have hjl : j < x.2.2.length := by have := of_decide_eq_true hjl; omega
          obtain ⟨p, hpn, hpe⟩ := form_mem hfi (nth_mem' hjl)
          rw [hpl] at hpn
          have hmemp : (p : Int) ∈ x.2.2 := by rw [← hpe]; exact nth_mem' hjl
          have hpb : nth pa (p : Int) ≤ 5864062014805 ∧ 0 ≤ nth pa (p : Int) := by
            by_cases q : (p : Int) ∈ o
            · obtain ⟨q1, q2, q3, -⟩ := hmem p hpn q
              omega
            · rw [(hnot p hpn q).1]
              omega
          have hxr : (nth ls (i : Int)).2.2.length = x.2.2.length := by rw [hx]
          have hat7 : Rd InE w6 (nth ls (i : Int)).1 (nth ls (i : Int)).2.2 := h6.at_ hlt
          have hpe7 : nth (nth ls (i : Int)).2.2 (j : Int) = (p : Int) := by rw [hx]; exact hpe
          refine Wp.skip (Wp.seq (Wp.block ?_))
          refine Wp.seq (Wp.reads (is := [0, 1, 2, 3, 4, 5, 6, 7, 8, 9, 10]) (Keep.refl _) (Rn.s rfl Yv.mv (Rn.s rfl Yv.mv (Rn.s rfl Yv.mv (Rn.s rfl (Yv.ia (e := 23) hrd6 (by omega) (by omega)) (Rn.s rfl (Yv.ld (hrd6.ld 0 (by omega) (by omega))) (Rn.s rfl Yv.mv (Rn.s rfl (Yv.ia (e := 3) hat7 (by omega) (by omega)) (Rn.s rfl (Yv.ld (hat7.ld 0 (by omega) (by omega))) (Rn.s rfl (Yv.ia (e := 3) hrp6 (by omega) (by omega) hpal.symm) (Rn.s rfl (Yv.ld (hrp6.ld 0 (by omega) (by omega))) (Rn.s rfl Yv.as (Rn.nil)))))))))))) ?_)
          rw [hpe7]
          refine Wp.seq (Wp.reads (is := [0, 1, 2, 3, 4, 5]) (Keep.refl _) (Rn.s rfl Yv.mv (Rn.s rfl Yv.mv (Rn.and (is := [2, 3, 4]) (js := [5]) (t := 104) (d := 107) (hg := rfl) (ht := fun h1 => Rn.s rfl Yv.mv (Rn.s rfl (Yv.cmp _ rfl) (Rn.s rfl Yv.pick_t ((Rn.e 3 rfl rfl))))) (hf := fun _ => Rn.no rfl (Rn.no rfl (Rn.s rfl Yv.pick_f (Rn.e 3 rfl rfl)))) (k := Rn.s rfl Yv.as (Rn.nil))))) ?_)
          refine Wp.seq (Wp.reads (is := [0, 1, 2, 3, 4, 5, 6, 7, 8, 9, 10, 11, 12, 13, 14, 15, 16]) (Keep.refl _) (Rn.s rfl Yv.mv (Rn.s rfl Yv.mv (Rn.s rfl (Yv.ia (e := 3) hrp6 (by omega) (by omega) hpal.symm) (Rn.s rfl (Yv.ld (hrp6.ld 0 (by omega) (by omega))) (Rn.s rfl (Yv.cmp _ rfl) (Rn.s rfl Yv.mv (Rn.and (is := [6, 7, 8, 9, 10, 11, 12, 13, 14, 15, 16]) (js := []) (t := 113) (d := 124) (hg := rfl) (ht := fun h5 => have h5 := bne_iff_ne.1 h5; Rn.s rfl Yv.mv (Rn.s rfl (Yv.cmp _ rfl) (Rn.s rfl Yv.mv (Rn.or (is := [9, 10, 11, 12, 13, 14, 15]) (js := [16]) (t := 116) (d := 123) (hg := rfl) (hf := fun h8 => have h8 := ne_of_beq_false h8; Rn.s rfl Yv.mv (Rn.s rfl Yv.mv (Rn.s rfl Yv.mv (Rn.s rfl (Yv.ia (e := 3) hrp6 (by omega) (by omega) hpal.symm) (Rn.s rfl (Yv.ld (hrp6.ld 0 (by omega) (by omega))) (Rn.s rfl (Yv.cmp _ rfl) (Rn.s rfl Yv.pick_f ((Rn.e 7 rfl rfl))))))))) (ht := fun _ => Rn.no rfl (Rn.no rfl (Rn.no rfl (Rn.no rfl (Rn.no rfl (Rn.no rfl (Rn.s rfl Yv.pick_t (Rn.e 7 rfl rfl)))))))) (k := Rn.s rfl Yv.pick_t ((Rn.e 5 rfl rfl))))))) (hf := fun _ => Rn.no rfl (Rn.no rfl (Rn.no rfl (Rn.no rfl (Rn.no rfl (Rn.no rfl (Rn.no rfl (Rn.no rfl (Rn.no rfl (Rn.no rfl (Rn.s rfl Yv.pick_f (Rn.e 11 rfl rfl)))))))))))) (k := Rn.nil)))))))) ?_)
          refine Wp.cond rfl (fun hbad => ?_) (fun hbad => ?_)
          · exfalso
            simp only [Bool.and_eq_true, Bool.or_eq_true, bne_iff_ne, beq_iff_eq, decide_eq_true_eq] at hbad
            obtain ⟨b1, b2⟩ := hbad
            by_cases q : (i : Int) ∈ o
            · obtain ⟨q1, q2, q3, q4⟩ := hmi q
              have h7 := q4 _ hmemp
              obtain ⟨r, hr1, hr2, hr3⟩ := mem_take_nth h7
              have h8 := (hpos.2 p hpn).2 r hr2 hr3
              omega
            · exact b1 (hni q).1
          · refine Wp.skip (Wp.reads (is := [0, 1, 2]) (Keep.refl _) (Rn.s rfl Yv.mv (Rn.s rfl (Yv.add (by unfold inI; omega)) (Rn.s rfl Yv.as (Rn.nil)))) ?_)
            refine ⟨j + 1, ⟨rfl, hk6, by omega, _, fun ht m hm => ?_, rfl, rfl, rfl, rfl, rfl, trivial⟩, by omega⟩
            simp only [Bool.and_eq_true, bne_iff_ne] at ht
            by_cases q : m = j
            · rw [q, hpe]; exact ht.2
            · exact hall ht.1 m (by omega)
        · have hjl : j = x.2.2.length := by have := of_decide_eq_false hjl; omega
          subst hjl
          exact Wp.exit ⟨rfl, hk6, all, hall, rfl, rfl, rfl, rfl, trivial⟩
      · rintro ρ ds w6 ⟨rfl, hk6, all, hall, hs⟩
        refine Wp.forget _ ?_ hs
        clear hs ρ
        have hrp6 := (hst.rd 0).keep hk6
        refine Wp.seq (Wp.reads (is := [0, 1, 2, 3, 4, 5, 6, 7]) (Keep.refl _) (Rn.s rfl Yv.mv (Rn.s rfl Yv.mv (Rn.s rfl (Yv.ia (e := 3) hrp6 (by omega) (by omega) hpal.symm) (Rn.s rfl (Yv.ld (hrp6.ld 0 (by omega) (by omega))) (Rn.s rfl (Yv.cmp _ rfl) (Rn.s rfl Yv.mv (Rn.and (is := [6, 7]) (js := []) (t := 130) (d := 132) (hg := rfl) (ht := fun h5 => have h5 := eq_of_beq h5; Rn.s rfl Yv.mv (Rn.s rfl Yv.pick_t ((Rn.e 2 rfl rfl)))) (hf := fun _ => Rn.no rfl (Rn.s rfl Yv.pick_f (Rn.e 2 rfl rfl))) (k := Rn.nil)))))))) ?_)
        refine Wp.cond rfl (fun hbad => ?_) (fun hbad => ?_)
        · exfalso
          simp only [Bool.and_eq_true, beq_iff_eq] at hbad
          obtain ⟨b1, b2⟩ := hbad
          by_cases q : (i : Int) ∈ o
          · obtain ⟨q1, q2, q3, q4⟩ := hmi q
            omega
          · obtain ⟨-, p, hp, hpo⟩ := hni q
            obtain ⟨j, hj, hje⟩ := List.mem_iff_getElem.1 hp
            obtain ⟨p', hp1, hp2⟩ := form_mem hfi hp
            rw [hpl] at hp1
            have h9 := hall b2 j hj
            rw [nth_getElem hj, hje, hp2] at h9
            rw [hp2] at hpo
            exact h9 (hnot p' hp1 hpo).1
        · refine Wp.skip (Wp.reads (is := [0, 1, 2]) (Keep.refl _) (Rn.s rfl Yv.mv (Rn.s rfl (Yv.add (by unfold inI; omega)) (Rn.s rfl Yv.as (Rn.nil)))) ?_)
          exact ⟨i + 1, ⟨rfl, hk6, by omega, rfl, rfl, rfl, trivial⟩, by omega⟩
    · refine Wp.exit ?_
      refine Wp.seq (Wp.regionL (l := [0, 1]) (WO.cv rfl (awake_cv w5) (Keep.refl _) (FnOk.of Tryd.func19) (fun we1 ke1 => WO.rd (is := [1]) (js := []) ((Keep.refl _).trans ke1) (Rn.s rfl Yv.as (Rn.nil)) (WO.done ?_))))
      exact Wp.ret (Fin.ret (Res.one rfl rfl) ⟨rfl, (hst.keep.trans hk5).trans ke1⟩)
end Go.Proofs.YthbehiflmcljcaaDoor.C
