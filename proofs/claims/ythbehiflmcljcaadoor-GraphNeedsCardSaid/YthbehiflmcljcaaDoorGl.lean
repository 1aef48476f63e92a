/- graph.Cycle walked: what it tells is a cycle, just if there is no order. -/
import Derived.Test.YthbehiflmcljcaaDoorGk
set_option linter.unusedVariables false
set_option linter.unusedSimpArgs false
set_option maxRecDepth 10000
namespace Go.Proofs.YthbehiflmcljcaaDoor.C
open Go.RowKit Go.Proofs.YthbehiflmcljcaaDoor.Sh
theorem ordF_fix {ps : List Is} {rs : Is} : ∀ (f : Nat) (o : Is), still ps.length o ≤ f → bestS ps rs (ordF ps rs f o) ps.length = none
  | 0, o, h => by
    cases hb : bestS ps rs o ps.length with
    | none => exact hb
    | some b =>
      obtain ⟨h1, h2, -⟩ := best_some hb
      have := still_dec h1 h2.1
      omega
  | f + 1, o, h => by
    cases hb : bestS ps rs o ps.length with
    | none => rw [ordF_none _ hb]; exact hb
    | some b =>
      obtain ⟨h1, h2, -⟩ := best_some hb
      have := still_dec h1 h2.1
      have e2 : ordF ps rs (f + 1) o = ordF ps rs f (o ++ [(b : Int)]) := by rw [ordF, hb]
      rw [e2]
      exact ordF_fix f _ (by omega)
theorem ordS_fix (ps : List Is) (rs : Is) : bestS ps rs (ordS ps rs) ps.length = none := ordF_fix _ _ (still_le _ _)
theorem ordF_beg {ps : List Is} {rs : Is} : ∀ (f : Nat) (o : Is), Beg ps o → Beg ps (ordF ps rs f o)
  | 0, o, h => h
  | f + 1, o, h => by
    cases hb : bestS ps rs o ps.length with
    | none => rw [ordF_none _ hb]; exact h
    | some b =>
      obtain ⟨h1, h2, -⟩ := best_some hb
      have e2 : ordF ps rs (f + 1) o = ordF ps rs f (o ++ [(b : Int)]) := by rw [ordF, hb]
      rw [e2]
      exact ordF_beg f _ (beg_step h h1 h2)
theorem ordS_beg (ps : List Is) (rs : Is) : Beg ps (ordS ps rs) := ordF_beg _ _ (beg_nil ps)
theorem leftS_mem {n : Nat} {o : Is} {x : Int} : x ∈ leftS n o ↔ ∃ i : Nat, i < n ∧ x = (i : Int) ∧ x ∉ o := by
  unfold leftS castN leftN
  simp only [List.mem_map, List.mem_filter, List.mem_range, decide_eq_true_eq]
  constructor
  · rintro ⟨i, ⟨h1, h2⟩, rfl⟩
    exact ⟨i, h1, rfl, h2⟩
  · rintro ⟨i, h1, rfl, h2⟩
    exact ⟨i, ⟨h1, h2⟩, rfl⟩
theorem leftS_sorted (n : Nat) (o : Is) : (leftS n o).Pairwise (· ≤ ·) := by
  unfold leftS castN leftN
  rw [List.pairwise_map]
  refine List.Pairwise.imp (fun h => ?_) ((List.pairwise_lt_range (n := n)).filter _)
  omega
theorem leftS_len (n : Nat) (o : Is) : (leftS n o).length ≤ n := by
  unfold leftS castN leftN
  rw [List.length_map]
  exact Nat.le_trans (List.length_filter_le _ _) (by simp)
/-- each is among the preds of the next one, the last among the first one's; none stands twice -/
structure CycOk (ps : List Is) (c : Is) : Prop where
  nodup : c.Nodup
  mem : ∀ x ∈ c, ∃ i : Nat, i < ps.length ∧ x = (i : Int)
  next : ∀ i, i < c.length → nth c (i : Int) ∈ nth ps (nth c (((i + 1) % c.length : Nat) : Int))
structure Way (ps : List Is) (R way : Is) (at_ : Int) : Prop where
  at_in : at_ ∈ R
  sub : ∀ x ∈ way, x ∈ R
  nodup : way.Nodup
  chain : ∀ i, i + 1 < way.length → nth way ((i + 1 : Nat) : Int) ∈ nth ps (nth way (i : Int))
  last : 0 < way.length → at_ ∈ nth ps (nth way ((way.length - 1 : Nat) : Int))
theorem way_step {ps : List Is} {R way : Is} {at_ p : Int} (h : Way ps R way at_) (hn : at_ ∉ way) (hp : p ∈ nth ps at_) (hpR : p ∈ R) : Way ps R (way ++ [at_]) p := by
  have hlast : nth (way ++ [at_]) (way.length : Int) = at_ := by
    rw [nth_getElem (by simp)]
    simp
  have hold : ∀ i, i < way.length → nth (way ++ [at_]) (i : Int) = nth way (i : Int) := fun i hi => by
    rw [nth_getElem (by simp; omega), nth_getElem hi, List.getElem_append_left hi]
  refine ⟨hpR, fun x hx => ?_, ?_, fun i hi => ?_, fun _ => ?_⟩
  · rcases List.mem_append.1 hx with hx | hx
    · exact h.sub x hx
    · rw [List.mem_singleton.1 hx]; exact h.at_in
  · rw [List.nodup_append]
    refine ⟨h.nodup, by simp, fun a ha b hb => ?_⟩
    rw [List.mem_singleton.1 hb]
    rintro rfl
    exact hn ha
  · simp only [List.length_append, List.length_cons, List.length_nil] at hi
    rw [hold i (by omega)]
    by_cases he : i + 1 = way.length
    · have := h.last (by omega)
      rw [he, hlast]
      have e : way.length - 1 = i := by omega
      rw [e] at this
      exact this
    · rw [hold (i + 1) (by omega)]
      exact h.chain i (by omega)
  · have e : (way ++ [at_]).length - 1 = way.length := by simp
    rw [e, hlast]
    exact hp
theorem way_dec {R way : Is} {at_ : Int} (h : at_ ∈ R) (hn : at_ ∉ way) : (R.filter (fun x => decide (x ∉ way ++ [at_]))).length < (R.filter (fun x => decide (x ∉ way))).length :=
  filt_lt _ _ _ at_ h (fun a ha => by
    simp only [decide_eq_true_eq, List.mem_append, not_or] at ha ⊢
    exact ha.1) (by simpa using hn) (by simp)
theorem nth_rev {way : Is} {k i : Nat} (hk : k < way.length) (hi : i < way.length - k) : nth (way.drop k).reverse (i : Int) = nth way ((way.length - 1 - i : Nat) : Int) := by
  rw [nth_getElem (by simp; omega), nth_getElem (by omega), List.getElem_reverse, List.getElem_drop]
  congr 1
  simp only [List.length_drop]
  omega
theorem way_cyc {ps : List Is} {R way : Is} {at_ : Int} (h : Way ps R way at_) (hR : ∀ x ∈ R, ∃ i : Nat, i < ps.length ∧ x = (i : Int)) {k : Nat} (hk : k < way.length) (he : way[k]? = some at_) : (way.drop k).reverse ≠ [] ∧ CycOk ps (way.drop k).reverse := by
  have hlen : (way.drop k).reverse.length = way.length - k := by simp
  refine ⟨fun e => ?_, ?_, fun x hx => hR x (h.sub x (List.mem_of_mem_drop (List.mem_reverse.1 hx))), fun i hi => ?_⟩
  · have := congrArg List.length e
    rw [hlen] at this
    simp at this
    omega
  · unfold List.Nodup
    rw [List.pairwise_reverse]
    exact List.Pairwise.imp (fun h => Ne.symm h) (h.nodup.sublist (List.drop_sublist _ _))
  · rw [hlen] at hi ⊢
    rw [nth_rev hk hi]
    by_cases hl : i + 1 = way.length - k
    · rw [hl, Nat.mod_self]
      have e0 := nth_rev hk (i := 0) (by omega)
      rw [e0, Nat.sub_zero]
      have e1 : way.length - 1 - i = k := by omega
      have e2 : nth way (k : Int) = at_ := by
        rw [nth_getElem hk]
        rw [List.getElem?_eq_getElem hk] at he
        exact Option.some.inj he
      rw [e1, e2]
      exact h.last (by omega)
    · rw [Nat.mod_eq_of_lt (by omega), nth_rev hk (by omega)]
      have := h.chain (way.length - 1 - (i + 1)) (by omega)
      have e : way.length - 1 - (i + 1) + 1 = way.length - 1 - i := by omega
      rw [e] at this
      exact this
theorem cycle_cx (A : Option Addr) (c : Nat) (ls : List Sl) (w : World) (h : LsAt w A ls) (hl : ls.length ≤ 5864062014805) (hb : ∀ x ∈ ls, x.2.2.length ≤ 17592186044416) :
    Cx Tryd.prog 20 [.slice A ls.length c] [] (fun v D => ∃ O co cyc, v = .slice O cyc.length co ∧ D = [Ch.row InE 3 O co cyc] ∧ (orderC (pl ls) (List.replicate ls.length 0) = 163 → cyc ≠ [] ∧ CycOk (pl ls) cyc) ∧ (orderC (pl ls) (List.replicate ls.length 0) ≠ 163 → cyc = [])) w := by
  have hpl : (pl ls).length = ls.length := List.length_map ..
  obtain ⟨n, hn⟩ : ∃ n, ls.length = n := ⟨_, rfl⟩
  have hzl : (List.replicate ls.length (0 : Int)).length = ls.length := List.length_replicate
  refine calls_of_Wp (vs := [_]) Tryd.func20 ?_
  refine Wp.seq (Wp.reads (is := [0]) (Keep.refl _) (Rn.s rfl Yv.as (Rn.nil)) ?_)
  refine Wp.seq (Wp.regionL (l := [0, 1, 2, 3, 4, 5, 6, 7, 8, 9]) (WO.rd (is := [0, 1, 2]) (js := [3, 4, 5, 6, 7, 8, 9]) (Keep.refl _) (Rn.s rfl Yv.mv (Rn.s rfl Yv.mv (Rn.s rfl (Yv.len_v (e := 23) (m := 1)) (Rn.nil)))) (WO.act (hc := rfl) (he := Ef.mks (T := 3) (bytes := 8) InE (0 : Int) (.int .i64 0) (by omega) (by omega) (St.init w) (fun b1 w1 k1 hs1 => ?_)))))
  have hz := hs1.rd 0
  have hzl2 : (.slice (some ⟨b1, 0, none⟩) ls.length ls.length : Value) = .slice (some ⟨b1, 0, none⟩) (List.replicate ls.length (0 : Int)).length ls.length := by rw [hzl]
  rw [hzl2]
  refine WO.act (hc := rfl) (he := Ef.cx (caps := []) (A := []) (order_cx A c ls (some ⟨b1, 0, none⟩) ls.length (List.replicate ls.length 0) w1 (h.keep k1) hz hl hb (by rw [hzl]; omega)) hs1 (FnOk.of Tryd.func13) ?_)
  rintro v D w2 ⟨O, co, rfl, rfl⟩ hs2
  refine WO.rd (is := [5, 6, 7, 8, 9]) (js := []) (Keep.refl _) (Rn.s rfl Yv.mv (Rn.s rfl Yv.ex (Rn.s rfl Yv.ex (Rn.s rfl Yv.as (Rn.s rfl Yv.as (Rn.nil)))))) (WO.done ?_)
  generalize hrs : List.replicate ls.length (0 : Int) = rs at *
  refine Wp.seq (Wp.seq (Wp.reads (is := [0, 1]) (Keep.refl _) (Rn.s rfl Yv.mv (Rn.s rfl (Yv.cmp _ rfl) (Rn.nil))) ?_))
  refine Wp.cond rfl (fun hc => ?_) (fun hc => ?_)
  · have hc : orderC (pl ls) rs ≠ 163 := by simpa using hc
    refine Wp.seq (Wp.reads (is := [0]) (Keep.refl _) (Rn.s rfl Yv.as (Rn.nil)) ?_)
    refine Wp.ret (Fin.ret (Res.one rfl rfl) ⟨_, [Ch.row InE 3 none 0 []], rfl, ⟨none, 0, [], rfl, rfl, fun q => absurd q hc, fun _ => rfl⟩, (hs2.pick []).nilrow _ _⟩)
  have hc : orderC (pl ls) rs = 163 := by simpa using hc
  have hok : okS (pl ls) rs := by
    unfold orderC at hc
    by_cases q : okS (pl ls) rs
    · exact q
    · rw [if_neg q] at hc; cases hc
  have hlt : (ordS (pl ls) rs).length < (pl ls).length := by
    unfold orderC at hc
    rw [if_pos hok] at hc
    by_cases q : (ordS (pl ls) rs).length < (pl ls).length
    · exact q
    · rw [if_neg q] at hc; cases hc
  have eo : orderS (pl ls) rs = ordS (pl ls) rs := if_pos hok
  have hfix := best_none.1 (ordS_fix (pl ls) rs)
  have hbeg := ordS_beg (pl ls) rs
  rw [eo] at hs2 ⊢
  generalize ho : ordS (pl ls) rs = o at *
  have hom : ∀ x ∈ o, ∃ i : Nat, i < ls.length ∧ x = (i : Int) := fun x hx => by
    obtain ⟨i, h1, h2, -⟩ := hbeg.mem x hx
    exact ⟨i, by omega, h2⟩
  have hro := hs2.rd 0
  refine Wp.skip ?_
  refine Wp.seq (Wp.regionL (l := [0, 1, 2, 3, 4]) (WO.rd (is := [0, 1, 2]) (js := [3, 4]) (Keep.refl _) (Rn.s rfl Yv.mv (Rn.s rfl (Yv.len_v (e := 23) (m := 1)) (Rn.s rfl Yv.mv (Rn.nil)))) (WO.act (hc := rfl) (he := Ef.cx (caps := []) (A := []) (left_cx ls.length O co o w2 hro hom (by omega) (by omega)) hs2 (FnOk.of Tryd.func29) ?_))))
  rintro v D wa1 ⟨L, cl, rfl, rfl⟩ hsa1
  refine WO.rd (is := [4]) (js := []) (Keep.refl _) (Rn.s rfl Yv.as (Rn.nil)) (WO.done ?_)
  have hRm : ∀ x ∈ leftS ls.length o, ∃ i : Nat, i < (pl ls).length ∧ x = (i : Int) := fun x hx => by
    obtain ⟨i, h1, h2, -⟩ := leftS_mem.1 hx
    exact ⟨i, by omega, h2⟩
  have hRs := leftS_sorted ls.length o
  have hRl := leftS_len ls.length o
  have hR0 : 0 < (leftS ls.length o).length := by
    have h1 := hbeg.room
    have h2 : (leftS ls.length o).length = still ls.length o := by unfold leftS; rw [List.length_map, leftN_len]
    have h3 : still ls.length o ≠ 0 := fun q => by
      have : ∀ i, i < ls.length → (i : Int) ∈ o := fun i hi => by
        have h4 : (List.range ls.length).filter (fun k : Nat => decide ((k : Int) ∉ o)) = [] := List.eq_nil_of_length_eq_zero q
        have := (List.filter_eq_nil_iff.1 h4) i (List.mem_range.2 hi)
        simpa using this
      have h5 : (List.range ls.length).map (fun i : Nat => (i : Int)) ⊆ o := fun x hx => by
        obtain ⟨i, hi, rfl⟩ := List.mem_map.1 hx
        exact this i (List.mem_range.1 hi)
      have h6 : ((List.range ls.length).map (fun i : Nat => (i : Int))).Nodup := by
        unfold List.Nodup
        rw [List.pairwise_map]
        exact List.Pairwise.imp (fun h => by omega) (List.nodup_range (n := ls.length))
      have h7 := h6.length_le_of_subset h5
      simp at h7
      omega
    omega
  have hpred : ∀ x ∈ leftS ls.length o, ∃ p ∈ nth (pl ls) x, p ∈ leftS ls.length o := fun x hx => by
    obtain ⟨i, h1, h2, h3⟩ := leftS_mem.1 hx
    subst h2
    have h4 := hfix i (by omega)
    have h5 : ¬ ∀ p ∈ nth (pl ls) (i : Int), p ∈ o := fun q => h4 ⟨h3, q⟩
    have h6 : ∃ p ∈ nth (pl ls) (i : Int), p ∉ o := Classical.byContradiction fun q => h5 (fun p hp => Classical.byContradiction fun r => q ⟨p, hp, r⟩)
    obtain ⟨p, hp, hpo⟩ := h6
    obtain ⟨j, hj, hpj⟩ := form_mem (hok.2 i (by omega)) hp
    exact ⟨p, hp, leftS_mem.2 ⟨j, by omega, hpj, hpo⟩⟩
  have hsa : St w [] wa1 [Ch.row InE 3 L cl (leftS ls.length o)] := hsa1.pick [0]
  generalize hR : leftS ls.length o = R at *
  have hrR := hsa.rd 0
  refine Wp.seq (Wp.reads (is := [0]) (Keep.refl _) (Rn.s rfl Yv.as (Rn.nil)) ?_)
  refine Wp.seq (Wp.reads (is := [0, 1, 2, 3]) (Keep.refl _) (Rn.s rfl Yv.mv (Rn.s rfl (Yv.ia (e := 3) (j := 0) hrR (by omega) (by omega)) (Rn.s rfl (Yv.ld (hrR.ld (i := 0) 0 (by omega) (by omega))) (Rn.s rfl Yv.as (Rn.nil))))) ?_)
  have hat0 : nth R 0 ∈ R := by
    have := nth_mem' (k := 0) hR0
    exact this
  refine Wp.cut (fun ρ ds w' => ds = [] ∧ ∃ W c1 way at_, St w [] w' [Ch.row InE 3 W c1 way, Ch.row InE 3 L cl R] ∧ Way (pl ls) R way at_ ∧ at_ ∈ way ∧ Sub [(6, .slice W way.length c1), (7, .int .i64 at_)] ρ) (Wp.block ?_) ?_
  · refine Wp.loop (α := Is) (fun way ρ ds w' => ds = [] ∧ ∃ W c1 at_, St w [] w' [Ch.row InE 3 W c1 way, Ch.row InE 3 L cl R] ∧ Way (pl ls) R way at_ ∧ way.length ≤ ls.length ∧ Sub [(0, .slice A ls.length c), (5, .slice L R.length cl), (6, .slice W way.length c1), (7, .int .i64 at_)] ρ) (fun way => (R.filter (fun x => decide (x ∉ way))).length) []
      ⟨rfl, none, 0, nth R 0, hsa.nilrow InE 3, ⟨hat0, fun x hx => (by cases hx), List.nodup_nil, fun i hi => absurd hi (Nat.not_lt_zero _), fun q => absurd q (Nat.lt_irrefl _)⟩, by simp, rfl, rfl, rfl, rfl, trivial⟩ ?_
    rintro way ρ ds w3 ⟨rfl, W, c1, at_, hst, hway, hwl, hs⟩
    refine Wp.forget _ ?_ hs
    clear hs ρ
    have hrw := hst.rd 0
    refine Wp.seq (Wp.seq (Wp.regionL (l := [0, 1, 2, 3]) (WO.rd (is := [0, 1]) (js := [2, 3]) (Keep.refl _) (Rn.s rfl Yv.mv (Rn.s rfl Yv.mv (Rn.nil))) (WO.cv rfl (contains_cv W c1 way at_ w3 hrw (by omega)) (Keep.refl _) (FnOk.of Tryd.func30) (fun wb1 kb1 => WO.rd (is := [3]) (js := []) ((Keep.refl _).trans kb1) (Rn.s rfl Yv.not (Rn.nil)) (WO.done ?_))))))
    have hst := hst.quiet kb1
    refine Wp.cond rfl (fun hin => ?_) (fun hin => ?_)
    · have hin : at_ ∉ way := by simpa using hin
      refine Wp.skip ?_
      refine Wp.block ?_
      refine Wp.seq (Wp.regionL (l := [0, 1, 2, 3, 4]) (WO.rd (is := [0, 1]) (js := [2, 3, 4]) (Keep.refl _) (Rn.s rfl Yv.mv (Rn.s rfl Yv.mv (Rn.nil))) (WO.app InE [at_] rfl (fun _ => rfl) hst 0 (fitInt (by simp only [List.length_cons, List.length_nil]; omega)) (fun bd1 Ad1 cd1 wd1 hsd1 => WO.rd (is := [4]) (js := []) (Keep.refl _) (Rn.s rfl Yv.as (Rn.nil)) (WO.done ?_)))))
      have hst2 : St w [] wd1 [Ch.row InE 3 Ad1 cd1 (way ++ [at_]), Ch.row InE 3 L cl R] := hsd1
      obtain ⟨a, han, ha⟩ := hRm at_ hway.at_in
      have hal : a < ls.length := by omega
      have h2 := h.keep hst2.keep
      have hx := h2.at_ hal
      have hxl := hb _ (nth_mem' hal)
      rw [← ha] at hx hxl
      have hnpa : nth (pl ls) at_ = (nth ls at_).2.2 := nth_pl ls _
      obtain ⟨p, hp, hpR⟩ := hpred at_ hway.at_in
      have hwl2 : (way ++ [at_]).length ≤ ls.length := by
        have h3 := (way_step hway hin hp hpR).nodup
        have h4 : (way ++ [at_]) ⊆ R := (way_step hway hin hp hpR).sub
        have := h3.length_le_of_subset h4
        omega
      refine Wp.seq (Wp.reads (is := [0, 1, 2, 3, 4, 5]) (Keep.refl _) (Rn.s rfl Yv.mv (Rn.s rfl Yv.mv (Rn.s rfl (Yv.ia (e := 23) h2.rd (by omega) (by omega)) (Rn.s rfl (Yv.ld (h2.rd.ld 0 (by omega) (by omega))) (Rn.s rfl (Yv.len_v (e := 3) (m := 1)) (Rn.s rfl Yv.mv (Rn.nil))))))) ?_)
      obtain ⟨x, hxe⟩ : ∃ x, nth ls at_ = x := ⟨_, rfl⟩
      rw [hxe] at hx hxl hnpa ⊢
      rw [hnpa] at hp
      refine Wp.mid (fun ρ ds w' => ds = [] ∧ ∃ q, q ∈ x.2.2 ∧ q ∈ R ∧ St w [] w' [Ch.row InE 3 Ad1 cd1 (way ++ [at_]), Ch.row InE 3 L cl R] ∧ Sub [(0, .slice A ls.length c), (5, .slice L R.length cl), (6, .slice Ad1 (way ++ [at_]).length cd1), (7, .int .i64 q)] ρ) (Wp.block ?_) ?_
      · refine Wp.loop (α := Nat) (fun j ρ ds w' => ds = [] ∧ j ≤ x.2.2.length ∧ (∀ m, m < j → nth x.2.2 (m : Int) ∉ R) ∧ St w [] w' [Ch.row InE 3 Ad1 cd1 (way ++ [at_]), Ch.row InE 3 L cl R] ∧
          Sub [(0, .slice A ls.length c), (5, .slice L R.length cl), (6, .slice Ad1 (way ++ [at_]).length cd1), (40, .slice x.1 x.2.2.length x.2.1), (41, .int .i64 (x.2.2.length : Int)), (42, .int .i64 (j : Int))] ρ) (fun j => x.2.2.length - j) 0
          ⟨rfl, by omega, fun m hm => absurd hm (Nat.not_lt_zero m), hst2, rfl, rfl, rfl, rfl, rfl, rfl, trivial⟩ ?_
        rintro j ρ ds w4 ⟨rfl, hj, hno, hst3, hs⟩
        refine Wp.forget _ ?_ hs
        clear hs ρ
        have hx3 : Rd InE w4 x.1 x.2.2 := by
          have := (h.keep hst3.keep).at_ hal
          rwa [← ha, hxe] at this
        refine Wp.seq (Wp.reads (is := [0]) (Keep.refl _) (Rn.s rfl (Yv.cmp _ rfl) (Rn.nil)) ?_)
        refine Wp.seq (Wp.cond rfl (fun hjl => ?_) (fun hjl => ?_))
        · have hjl : j < x.2.2.length := by have := of_decide_eq_true hjl; omega
          refine Wp.skip ?_
          refine Wp.seq (Wp.block ?_)
          refine Wp.seq (Wp.reads (is := [0, 1, 2]) (Keep.refl _) (Rn.s rfl (Yv.ia (e := 3) hx3 (by omega) (by omega)) (Rn.s rfl (Yv.ld (hx3.ld 0 (by omega) (by omega))) (Rn.s rfl Yv.as (Rn.nil)))) ?_)
          refine Wp.seq (Wp.regionL (l := [0, 1, 2, 3, 4, 5, 6, 7]) (WO.rd (is := [0, 1]) (js := [2, 3, 4, 5, 6, 7]) (Keep.refl _) (Rn.s rfl Yv.mv (Rn.s rfl Yv.mv (Rn.nil))) (WO.cv rfl (bsearch_cv L cl R (nth x.2.2 (j : Int)) w4 (hst3.rd 1) (by omega) hRs) (Keep.refl _) (FnOk.of Tryd.func31) (fun wf1 kf1 => WO.rd (is := [3, 4, 5, 6, 7]) (js := []) ((Keep.refl _).trans kf1) (Rn.s rfl Yv.mv (Rn.s rfl Yv.ex (Rn.s rfl Yv.ex (Rn.s rfl Yv.as (Rn.s rfl Yv.as (Rn.nil)))))) (WO.done ?_)))))
          have hst3 := hst3.quiet kf1
          refine Wp.seq (Wp.reads (is := [0]) (Keep.refl _) (Rn.s rfl Yv.mv (Rn.nil)) ?_)
          refine Wp.cond rfl (fun hf => ?_) (fun hf => ?_)
          · have hf := of_decide_eq_true hf
            refine Wp.seq (Wp.reads (is := [0, 1]) (Keep.refl _) (Rn.s rfl Yv.mv (Rn.s rfl Yv.as (Rn.nil))) ?_)
            exact Wp.exit ⟨rfl, nth x.2.2 (j : Int), nth_mem' hjl, hf, hst3, rfl, rfl, rfl, rfl, trivial⟩
          · have hf := of_decide_eq_false hf
            refine Wp.skip ?_
            refine Wp.reads (is := [0, 1]) (Keep.refl _) (Rn.s rfl (Yv.add (by unfold inI; omega)) (Rn.s rfl Yv.mv (Rn.nil))) ?_
            refine ⟨j + 1, ⟨rfl, by omega, fun m hm => ?_, hst3, rfl, rfl, rfl, rfl, rfl, rfl, trivial⟩, by omega⟩
            by_cases hmj : m = j
            · rw [hmj]; exact hf
            · exact hno m (by omega)
        · have hjl : j = x.2.2.length := by have := of_decide_eq_false hjl; omega
          exfalso
          obtain ⟨m, hm, hme⟩ := List.mem_iff_getElem.1 hp
          refine hno m (by omega) ?_
          rw [nth_getElem hm, hme]
          exact hpR
      · rintro ρ ds w4 ⟨rfl, q, hq, hqR, hst3, hs⟩
        have hs2 : Sub [(0, .slice A ls.length c), (5, .slice L R.length cl), (6, .slice Ad1 (way ++ [at_]).length cd1), (7, .int .i64 q)] ρ := hs
        refine ⟨way ++ [at_], ⟨rfl, Ad1, cd1, q, hst3, way_step hway hin (by rw [hnpa]; exact hq) hqR, hwl2, hs2⟩, way_dec hway.at_in hin⟩
    · have hin : at_ ∈ way := by simpa using hin
      exact Wp.exit ⟨rfl, W, c1, way, at_, hst, hway, hin, rfl, rfl, trivial⟩
  · rintro ρ ds w3 ⟨rfl, W, c1, way, at_, hst, hway, hin, hs⟩
    refine Wp.forget _ ?_ hs
    clear hs ρ
    have hwl : way.length ≤ ls.length := by
      have := hway.nodup.length_le_of_subset hway.sub
      omega
    refine Wp.seq (Wp.regionL (l := [0, 1, 2, 3, 4, 5, 6, 7]) (WO.act (hc := rfl) (he := Ef.bsl (T := 3) InE [] hst ?_)))
    intro b4 w4 k4 hs4
    obtain ⟨k, hk, hke, hix⟩ := index_cv W c1 way at_ hin w4 ((hst.rd 0).keep k4) (by omega)
    refine WO.rd (is := [1, 2, 3]) (js := [4, 5, 6, 7]) (Keep.refl _) (Rn.s rfl Yv.mv (Rn.s rfl Yv.mv (Rn.s rfl Yv.mv (Rn.nil)))) (WO.cv rfl hix (Keep.refl _) (FnOk.of Tryd.func32) (fun w5 k5 => ?_))
    have hs5 := hs4.quiet k5
    have hcap := hs5.cap 1
    have hcut := (hs5.rd 1).cut (c := c1) (l := k) (h := way.length) hcap (Nat.le_refl _)
    rw [List.take_length] at hcut
    have hkl : (way.drop k).length = way.length - (k : Int).toNat := by rw [Int.toNat_natCast, List.length_drop]
    refine WO.rd (is := [5]) (js := [6, 7]) (Keep.refl _) (Rn.s rfl (Yv.sl_f (n := 1) (e := 3) (k := (way.drop k).length) (by omega) (by omega) hkl) (Rn.nil)) (WO.act (hc := rfl) (he := Ef.append (E := InE) (xs := []) (ys := way.drop k) hs5 0 hcut (fun e => ?_) (fitInt (by simp only [List.length_nil, List.length_drop]; omega)) ?_))
    · exact absurd e (rd_some hcut (by rw [List.length_drop]; omega))
    intro A6 c6 w6 hs6
    refine WO.rd (is := [7]) (js := []) (Keep.refl _) (Rn.s rfl Yv.as (Rn.nil)) (WO.done ?_)
    have hs6 : St w [] w6 (Ch.row InE 3 A6 c6 (way.drop k) :: [Ch.row InE 3 W c1 way, Ch.row InE 3 L cl R]) := hs6
    refine Wp.seq (Wp.regionL (l := [0, 1]) (WO.rd (is := [0]) (js := [1]) (Keep.refl _) (Rn.s rfl Yv.mv (Rn.nil)) (WO.act (hc := rfl) (he := Ef.callv (caps := #[]) Tryd.func33 (Calls.mono (reverse_calls hs6 (by simp only [List.nil_append, List.length_drop]; omega)) ?_)))))
    rintro e w7 ⟨rfl, hs7⟩
    refine WO.done ?_
    refine Wp.seq (Wp.reads (is := [0, 1]) (Keep.refl _) (Rn.s rfl Yv.mv (Rn.s rfl Yv.as (Rn.nil))) ?_)
    have hcyc := way_cyc hway hRm hk hke
    have hlen : (([] : Is) ++ way.drop k).length = ((way.drop k).reverse).length := by simp
    rw [hlen]
    exact Wp.ret (Fin.ret (Res.one rfl rfl) ⟨_, _, rfl, ⟨A6, c6, (way.drop k).reverse, rfl, rfl, fun _ => hcyc, fun q => absurd hc q⟩, hs7.pick [0]⟩)
end Go.Proofs.YthbehiflmcljcaaDoor.C
