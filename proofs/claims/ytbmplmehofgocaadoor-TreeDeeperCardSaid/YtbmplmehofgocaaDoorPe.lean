/- TreeTwice is walked: its answer is true. -/
import Derived.Test.YtbmplmehofgocaaDoorPb
set_option linter.unusedVariables false
set_option linter.unusedSimpArgs false
set_option maxRecDepth 10000
namespace Go.Proofs.YtbmplmehofgocaaDoor.C
open Go.RowKit Go.Proofs.YtbmplmehofgocaaDoor.Sh
theorem count_step (s : Bs) (i : Nat) (h : i < s.length) : ((s.take (i + 1)).count 10 : Int) = (s.take i).count 10 + if byt s (i : Int) = 10 then 1 else 0 := by
  have hb : byt s (i : Int) = s[i].toNat := byt_of (List.getElem?_eq_getElem h)
  rw [List.take_add_one, List.getElem?_eq_getElem h, List.count_append, hb]
  by_cases e : s[i] = 10
  · simp [e]
  · have e2 : ¬ ((s[i].toNat : Int) = 10) := by
      intro h2
      have h2 : s[i].toNat = 10 := by omega
      exact e (UInt8.toNat_inj.1 h2)
    rw [if_neg e2]
    simp [e]
theorem last_byt {s : Bs} (h : s ≠ []) : s.getLast? = some 10 ↔ byt s ((s.length : Int) - 1) = 10 := by
  have hl := List.length_pos_iff.2 h
  have e : ((s.length : Int) - 1) = ((s.length - 1 : Nat) : Int) := by omega
  have hb : byt s ((s.length : Int) - 1) = s[s.length - 1].toNat := by rw [e]; exact byt_of (List.getElem?_eq_getElem (by omega))
  rw [hb, List.getLast?_eq_getElem?, List.getElem?_eq_getElem (by omega)]
  constructor
  · intro h; injection h with h; rw [h]; rfl
  · intro h
    have h2 : s[s.length - 1].toNat = 10 := by omega
    rw [UInt8.toNat_inj.1 (show s[s.length - 1].toNat = (10 : UInt8).toNat from h2)]
theorem endl_t {s : Bs} (h : (decide ((0 : Int) < s.length) && (byt s ((s.length : Int) - 1) != 10)) = true) : endl s = s ++ [10] := by
  simp only [Bool.and_eq_true, decide_eq_true_eq, bne_iff_ne] at h
  have h0 : s ≠ [] := by rintro rfl; simp at h
  unfold endl
  rw [if_pos ⟨h0, fun e => h.2 ((last_byt h0).1 e)⟩]
theorem endl_f {s : Bs} (h : (decide ((0 : Int) < s.length) && (byt s ((s.length : Int) - 1) != 10)) = false) : endl s = s := by
  unfold endl
  rw [if_neg]
  rintro ⟨h0, h1⟩
  have hl := List.length_pos_iff.2 h0
  have : byt s ((s.length : Int) - 1) ≠ 10 := fun e => h1 ((last_byt h0).2 e)
  have : (decide ((0 : Int) < s.length) && (byt s ((s.length : Int) - 1) != 10)) = true := by simp [this, hl]
  rw [this] at h
  cases h
theorem twice_calls (s key : Bs) (w0 : World) (hg : Gl w0) (w : World) (hk : Keep w0 w) : Calls Tryd.prog 12 #[S s, S key] w fun e w' => e = .returned (.bool true) ∧ Keep w w' := by
  have hg := hg.keep hk
  have hpc := parse_cx [102] s w hg
  have hlaw := twice_law (s := s) (key := key)
  obtain ⟨N, F, hNF⟩ : ∃ N F, parseS [102] s = (N, F) := ⟨_, _, rfl⟩
  rw [hNF] at hpc hlaw
  simp only at hpc hlaw
  refine calls_of_Wp (vs := [_, _]) Tryd.func12 ?_
  refine Wp.seq (Wp.reads (is := [0]) (Keep.refl _) (Rn.s rfl Yv.as (Rn.nil)) ?_)
  refine Wp.seq (Wp.regionL (l := [0, 1, 2, 3, 4, 5, 6, 7]) (WO.rd (is := [0]) (js := [1, 2, 3, 4, 5, 6, 7]) (Keep.refl _) (Rn.s rfl Yv.mv (Rn.nil)) (WO.act (hc := rfl) (he := Ef.cx hpc (St.init w) (FnOk.of Tryd.func33) ?_))))
  rintro v D w1 ⟨A, c, rfl, rfl⟩ hs1
  refine WO.rd (is := [2, 3, 4]) (js := [5, 6, 7]) (Keep.refl _) (Rn.s rfl Yv.mv (Rn.s rfl Yv.ex (Rn.s rfl Yv.ex (Rn.nil)))) (WO.act (he := Ef.allocL (vs := ft0.cs) hs1 (fun b2 w2 k2 hs2 => WO.rd (is := [6]) (js := [7]) (Keep.refl _) (Rn.s rfl Yv.as (Rn.nil)) (WO.act (he := Ef.stores hs2 0 (fun w3 hs3 => WO.done ?_))))))
  have hst : St w [] w3 [Ch.cells b2 42 F.cs, Ch.row NdE 32 A c N] := hs3
  have hg3 := hg.keep hst.keep
  have c6 := hst.cells 0
  have hrn := hst.rd 1
  refine Wp.seq (Wp.seq (Wp.reads (is := [0, 1, 2, 3, 4, 5, 6, 7, 8, 9, 10, 11, 12, 13, 14, 15, 16]) (Keep.refl _) (Rn.s rfl (Yv.fa (off := 0)) (Rn.s rfl (Yv.ld (c6.at_ 0)) (Rn.s rfl (Yv.cmp _ rfl) (Rn.s rfl Yv.mv (Rn.or (is := [4, 5, 6, 7]) (js := [8, 9, 10, 11, 12, 13, 14, 15, 16]) (t := 24) (d := 28) (hg := rfl) (hf := fun h3 => have h3 := bne_eq_false_iff_eq.1 h3; Rn.s rfl Yv.mv (Rn.s rfl Yv.len_s (Rn.s rfl (Yv.cmp _ rfl) (Rn.s rfl Yv.pick_f ((Rn.e 4 rfl rfl)))))) (ht := fun _ => Rn.no rfl (Rn.no rfl (Rn.no rfl (Rn.s rfl Yv.pick_t (Rn.e 4 rfl rfl))))) (k := Rn.s rfl Yv.mv (Rn.or (is := [9, 10, 11]) (js := [12, 13, 14, 15, 16]) (t := 29) (d := 32) (hg := rfl) (hf := fun h8 => Rn.s rfl Yv.mv (Rn.s rfl (Yv.scm _ rfl) (Rn.s rfl Yv.pick_f ((Rn.e 3 rfl rfl))))) (ht := fun _ => Rn.no rfl (Rn.no rfl (Rn.s rfl Yv.pick_t (Rn.e 3 rfl rfl)))) (k := Rn.s rfl Yv.mv (Rn.or (is := [13, 14, 15, 16]) (js := []) (t := 33) (d := 37) (hg := rfl) (hf := fun h12 => Rn.s rfl Yv.mv (Rn.s rfl Yv.len_s (Rn.s rfl (Yv.cmp _ rfl) (Rn.s rfl Yv.pick_f ((Rn.e 4 rfl rfl)))))) (ht := fun _ => Rn.no rfl (Rn.no rfl (Rn.no rfl (Rn.s rfl Yv.pick_t (Rn.e 4 rfl rfl))))) (k := Rn.nil)))))))))) ?_))
  refine Wp.cond rfl (fun h => ?_) (fun h => ?_)
  · refine Wp.seq (Wp.regionL (l := [0, 1]) (WO.cv rfl (awake4_cv w3 hg3) (Keep.refl _) (FnOk.of Tryd.func34) (fun wx1 kx1 => WO.rd (is := [1]) (js := []) ((Keep.refl _).trans kx1) (Rn.s rfl Yv.as (Rn.nil)) (WO.done ?_))))
    exact Wp.ret (Fin.ret (Res.one rfl rfl) ⟨rfl, hst.keep.trans (by assumption)⟩)
  simp only [Bool.or_eq_false_iff, bne_eq_false_iff_eq, decide_eq_false_iff_not, beq_eq_false_iff_ne] at h
  obtain ⟨⟨⟨hF, hsl⟩, hk0⟩, hkl⟩ := h
  have hsl : s.length ≤ 3000 := by omega
  have hkl : key.length ≤ 20 := by omega
  refine Wp.skip (Wp.seq (Wp.seq (Wp.reads (is := [0]) (Keep.refl _) (Rn.s rfl Yv.as (Rn.nil)) ?_)))
  refine Wp.block ?_
  refine Wp.loop (α := Nat) (fun i ρ ds w' => ds = [] ∧ i ≤ key.length ∧ Keep w3 w' ∧ (key.take i).all lowB = true ∧ Sub [(0, S s), (1, S key), (5, .slice A N.length c), (6, PB b2), (7, .int .i64 (i : Int))] ρ) (fun i => key.length - i) 0
    ⟨rfl, Nat.zero_le _, Keep.refl _, rfl, rfl, rfl, rfl, rfl, rfl, trivial⟩ ?_
  rintro i ρ ds w' ⟨rfl, hi, hkw, hall, hs⟩
  refine Wp.forget _ ?_ hs
  refine Wp.seq (Wp.seq (Wp.reads (is := [0, 1, 2, 3]) (Keep.refl _) (Rn.s rfl Yv.mv (Rn.s rfl Yv.mv (Rn.s rfl Yv.len_s (Rn.s rfl (Yv.cmp _ rfl) (Rn.nil))))) ?_))
  refine Wp.cond rfl (fun h3 => ?_) (fun h3 => ?_)
  · have h3 := of_decide_eq_true h3
    have hil : i < key.length := by omega
    refine Wp.skip (Wp.seq (Wp.block ?_))
    refine Wp.seq (Wp.reads (is := [0, 1, 2, 3, 4, 5, 6, 7, 8, 9]) (Keep.refl _) (Rn.s rfl Yv.mv (Rn.s rfl Yv.mv (Rn.s rfl (Yv.ix (by omega) (by omega)) (Rn.s rfl (Yv.cmp _ rfl) (Rn.s rfl Yv.mv (Rn.or (is := [5, 6, 7, 8, 9]) (js := []) (t := 49) (d := 54) (hg := rfl) (hf := fun h4 => have h4 := of_decide_eq_false h4; Rn.s rfl Yv.mv (Rn.s rfl Yv.mv (Rn.s rfl (Yv.ix (by omega) (by omega)) (Rn.s rfl (Yv.cmp _ rfl) (Rn.s rfl Yv.pick_f ((Rn.e 5 rfl rfl))))))) (ht := fun _ => Rn.no rfl (Rn.no rfl (Rn.no rfl (Rn.no rfl (Rn.s rfl Yv.pick_t (Rn.e 5 rfl rfl)))))) (k := Rn.nil))))))) ?_)
    refine Wp.cond rfl (fun h4 => ?_) (fun h4 => ?_)
    · refine Wp.seq (Wp.regionL (l := [0, 1]) (WO.cv rfl (awake4_cv w' (hg3.keep hkw)) (Keep.refl _) (FnOk.of Tryd.func34) (fun wx1 kx1 => WO.rd (is := [1]) (js := []) ((Keep.refl _).trans kx1) (Rn.s rfl Yv.as (Rn.nil)) (WO.done ?_))))
      exact Wp.ret (Fin.ret (Res.one rfl rfl) ⟨rfl, (hst.keep.trans hkw).trans (by assumption)⟩)
    simp only [Bool.or_eq_false_iff, decide_eq_false_iff_not] at h4
    refine Wp.skip (Wp.reads (is := [0, 1, 2]) (Keep.refl _) (Rn.s rfl Yv.mv (Rn.s rfl (Yv.add (by unfold inI; omega)) (Rn.s rfl Yv.as (Rn.nil)))) ?_)
    refine ⟨i + 1, ⟨rfl, hil, hkw, ?_, rfl, rfl, rfl, rfl, rfl, trivial⟩, by omega⟩
    have hb : byt key (i : Int) = key[i].toNat := byt_of (List.getElem?_eq_getElem hil)
    rw [List.take_add_one, List.getElem?_eq_getElem hil, List.all_append, hall]
    rw [hb] at h4
    simp [lowB]
    omega
  have h3 := of_decide_eq_false h3
  rw [List.take_of_length_le (by omega)] at hall
  have hlow : lowKey key := ⟨by simpa using hk0, hkl, hall⟩
  refine Wp.exit ?_
  have hst : St w [] w' [Ch.cells b2 42 F.cs, Ch.row NdE 32 A c N] := hst.quiet hkw
  have hg4 := hg.keep hst.keep
  refine Wp.seq (Wp.regionL (l := [0, 1, 2, 3, 4, 5]) (WO.rd (is := [0, 1]) (js := [2, 3, 4, 5]) (Keep.refl _) (Rn.s rfl Yv.mv (Rn.s rfl Yv.mv (Rn.nil))) (WO.act (hc := rfl) (he := Ef.bsl (T := 9) StE [key] hst (fun by1 wy1 ky1 hsy1 => WO.cv rfl (get_cv A c N _ _ [key] wy1 (hg4.keep ky1) ((hst.rd 1).keep ky1) (hsy1.rd 0) (by simp)) (Keep.refl _) (FnOk.of Tryd.func36) (fun wy2 ky2 => WO.rd (is := [4, 5]) (js := []) (((Keep.refl _).trans ky1).trans ky2) (Rn.s rfl (Yv.cmp _ rfl) (Rn.s rfl Yv.as (Rn.nil))) (WO.done ?_)))))))
  obtain ⟨sd, hsd⟩ : ∃ sd, sd = decide (getS N [key] ≥ 0) := ⟨_, rfl⟩
  rw [← hsd]
  have hst : St w [] wy2 [Ch.cells b2 42 F.cs, Ch.row NdE 32 A c N] := (hst.quiet ky1).quiet ky2
  refine Wp.seq (Wp.seq (Wp.reads (is := [0, 1, 2, 3, 4, 5, 6, 7, 8, 9, 10]) (Keep.refl _) (Rn.s rfl Yv.mv (Rn.s rfl Yv.len_s (Rn.s rfl (Yv.cmp _ rfl) (Rn.s rfl Yv.mv (Rn.and (is := [4, 5, 6, 7, 8, 9, 10]) (js := []) (t := 64) (d := 71) (hg := rfl) (ht := fun h3 => have h3 := of_decide_eq_true h3; Rn.s rfl Yv.mv (Rn.s rfl Yv.mv (Rn.s rfl Yv.len_s (Rn.s rfl (Yv.sub (by unfold inI; omega)) (Rn.s rfl (Yv.ix (by omega) (by omega)) (Rn.s rfl (Yv.cmp _ rfl) (Rn.s rfl Yv.pick_t ((Rn.e 7 rfl rfl))))))))) (hf := fun _ => Rn.no rfl (Rn.no rfl (Rn.no rfl (Rn.no rfl (Rn.no rfl (Rn.no rfl (Rn.s rfl Yv.pick_f (Rn.e 7 rfl rfl)))))))) (k := Rn.nil)))))) ?_))
  refine Wp.mid (fun ρ ds w' => ds = [] ∧ w' = wy2 ∧ Sub [(0, S (endl s)), (1, S key), (8, .bool sd)] ρ) ?_ ?_
  · refine Wp.cond rfl (fun h => ?_) (fun h => ?_)
    · refine Wp.reads (is := [0, 1, 2]) (Keep.refl _) (Rn.s rfl Yv.mv (Rn.s rfl (Yv.cat (by simp; omega)) (Rn.s rfl Yv.as (Rn.nil)))) ?_
      exact ⟨rfl, rfl, by rw [endl_t h]; rfl, rfl, rfl, trivial⟩
    · exact Wp.skip ⟨rfl, rfl, by rw [endl_f h]; rfl, rfl, rfl, trivial⟩
  rintro ρ ds w6 ⟨rfl, rfl, hs⟩
  refine Wp.forget _ ?_ hs
  have hel := endl_len s
  refine Wp.seq (Wp.reads (is := [0]) (Keep.refl _) (Rn.s rfl Yv.as (Rn.nil)) ?_)
  refine Wp.seq (Wp.seq (Wp.reads (is := [0]) (Keep.refl _) (Rn.s rfl Yv.as (Rn.nil)) ?_))
  refine Wp.block ?_
  refine Wp.loop (α := Nat) (fun i ρ ds w' => ds = [] ∧ i ≤ (endl s).length ∧ Keep w6 w' ∧ Sub [(0, S (endl s)), (1, S key), (8, .bool sd), (9, .int .i64 (((endl s).take i).count 10 : Nat)), (10, .int .i64 (i : Int))] ρ) (fun i => (endl s).length - i) 0
    ⟨rfl, Nat.zero_le _, Keep.refl _, rfl, rfl, rfl, rfl, rfl, trivial⟩ ?_
  rintro i ρ ds w' ⟨rfl, hi, hkw, hs⟩
  refine Wp.forget _ ?_ hs
  have hcl : ((endl s).take i).count 10 ≤ i := Nat.le_trans List.count_le_length (by simp; omega)
  refine Wp.seq (Wp.seq (Wp.reads (is := [0, 1, 2, 3]) (Keep.refl _) (Rn.s rfl Yv.mv (Rn.s rfl Yv.mv (Rn.s rfl Yv.len_s (Rn.s rfl (Yv.cmp _ rfl) (Rn.nil))))) ?_))
  refine Wp.cond rfl (fun h3 => ?_) (fun h3 => ?_)
  · have h3 := of_decide_eq_true h3
    have hil : i < (endl s).length := by omega
    have hcs := count_step (endl s) i hil
    refine Wp.skip (Wp.seq (Wp.block ?_))
    refine Wp.seq (Wp.reads (is := [0, 1, 2, 3]) (Keep.refl _) (Rn.s rfl Yv.mv (Rn.s rfl Yv.mv (Rn.s rfl (Yv.ix (by omega) (by omega)) (Rn.s rfl (Yv.cmp _ rfl) (Rn.nil))))) ?_)
    refine Wp.mid (fun ρ ds w2 => ds = [] ∧ w2 = w' ∧ Sub [(0, S (endl s)), (1, S key), (8, .bool sd), (9, .int .i64 (((endl s).take (i + 1)).count 10 : Nat)), (10, .int .i64 (i : Int))] ρ) ?_ ?_
    · refine Wp.cond rfl (fun h => ?_) (fun h => ?_)
      · have h := eq_of_beq h
        refine Wp.reads (is := [0, 1, 2]) (Keep.refl _) (Rn.s rfl Yv.mv (Rn.s rfl (Yv.add (by unfold inI; omega)) (Rn.s rfl Yv.as (Rn.nil)))) ?_
        refine ⟨rfl, rfl, rfl, rfl, rfl, ?_, rfl, trivial⟩
        rw [hcs, if_pos h]; rfl
      · have h := ne_of_beq_false h
        refine Wp.skip ⟨rfl, rfl, rfl, rfl, rfl, ?_, rfl, trivial⟩
        rw [hcs, if_neg h, Int.add_zero]; rfl
    rintro ρ ds w2 ⟨rfl, rfl, hs⟩
    refine Wp.forget _ ?_ hs
    refine Wp.reads (is := [0, 1, 2]) (Keep.refl _) (Rn.s rfl Yv.mv (Rn.s rfl (Yv.add (by unfold inI; omega)) (Rn.s rfl Yv.as (Rn.nil)))) ?_
    exact ⟨i + 1, ⟨rfl, hil, hkw, rfl, rfl, rfl, rfl, rfl, trivial⟩, by omega⟩
  have h3 := of_decide_eq_false h3
  rw [List.take_of_length_le (by omega)] at hcl
  rw [List.take_of_length_le (by omega)]
  refine Wp.exit ?_
  have hst : St w [] w' [Ch.cells b2 42 F.cs, Ch.row NdE 32 A c N] := hst.quiet hkw
  have hg5 := hg.keep hst.keep
  refine Wp.seq (Wp.seq (Wp.reads (is := [0, 1]) (Keep.refl _) (Rn.s rfl Yv.mv (Rn.s rfl (Yv.cmp _ rfl) (Rn.nil))) ?_))
  refine Wp.cond rfl (fun h4 => ?_) (fun h4 => ?_)
  · refine Wp.seq (Wp.regionL (l := [0, 1]) (WO.cv rfl (awake4_cv w' hg5) (Keep.refl _) (FnOk.of Tryd.func34) (fun wx1 kx1 => WO.rd (is := [1]) (js := []) ((Keep.refl _).trans kx1) (Rn.s rfl Yv.as (Rn.nil)) (WO.done ?_))))
    exact Wp.ret (Fin.ret (Res.one rfl rfl) ⟨rfl, hst.keep.trans (by assumption)⟩)
  have h4 := of_decide_eq_false h4
  obtain ⟨hA, hB⟩ := hlaw hlow hsl (by omega) hF
  obtain ⟨q, hq⟩ : ∃ q, q = (endl s).count 10 := ⟨_, rfl⟩
  rw [← hq] at hA hB hcl h4 ⊢
  obtain ⟨FA, hFA⟩ : ∃ FA, FA = (parseS [102] (endl s ++ twA key)).2 := ⟨_, rfl⟩
  obtain ⟨FB, hFB⟩ : ∃ FB, FB = (parseS [102] (endl s ++ twB key)).2 := ⟨_, rfl⟩
  rw [← hFA, ← hFB] at hA hB
  have eA : endl s ++ key ++ [58, 10, 32, 32] ++ key ++ [58, 32, 49, 10] = endl s ++ twA key := by unfold twA; simp
  have eB : endl s ++ key ++ [58, 32, 49, 10] ++ key ++ [58, 32, 50, 10] = endl s ++ twB key := by unfold twB; simp
  have hpA := parse_cx [102] (endl s ++ key ++ [58, 10, 32, 32] ++ key ++ [58, 32, 49, 10]) w' hg5
  rw [eA, ← hFA] at hpA
  rw [← eA] at hpA
  refine Wp.skip (Wp.seq (Wp.regionL (l := [0, 1, 2, 3, 4, 5, 6, 7, 8, 9, 10, 11, 12, 13]) (WO.rd (is := [0, 1, 2, 3, 4, 5, 6]) (js := [7, 8, 9, 10, 11, 12, 13]) (Keep.refl _) (Rn.s rfl Yv.mv (Rn.s rfl Yv.mv (Rn.s rfl (Yv.cat (by omega)) (Rn.s rfl (Yv.cat (by simp; omega)) (Rn.s rfl Yv.mv (Rn.s rfl (Yv.cat (by simp; omega)) (Rn.s rfl (Yv.cat (by simp; omega)) (Rn.nil)))))))) (WO.act (hc := rfl) (he := Ef.cx hpA hst (FnOk.of Tryd.func33) ?_)))))
  rintro v D w7 ⟨A2, c2, rfl, rfl⟩ hs7
  refine WO.rd (is := [8, 9, 10]) (js := [11, 12, 13]) (Keep.refl _) (Rn.s rfl Yv.mv (Rn.s rfl Yv.ex (Rn.s rfl Yv.ex (Rn.nil)))) (WO.act (he := Ef.allocL (vs := ft0.cs) hs7 (fun b8 w8 k8 hs8 => WO.rd (is := [12]) (js := [13]) (Keep.refl _) (Rn.s rfl Yv.as (Rn.nil)) (WO.act (he := Ef.stores hs8 0 (fun w9 hs9 => WO.done ?_))))))
  have hst : St w [] w9 [Ch.cells b8 42 FA.cs] := hs9.pick [0]
  have hg9 := hg.keep hst.keep
  have hpB := parse_cx [102] (endl s ++ key ++ [58, 32, 49, 10] ++ key ++ [58, 32, 50, 10]) w9 hg9
  rw [eB, ← hFB] at hpB
  rw [← eB] at hpB
  refine Wp.seq (Wp.regionL (l := [0, 1, 2, 3, 4, 5, 6, 7, 8, 9, 10, 11, 12, 13]) (WO.rd (is := [0, 1, 2, 3, 4, 5, 6]) (js := [7, 8, 9, 10, 11, 12, 13]) (Keep.refl _) (Rn.s rfl Yv.mv (Rn.s rfl Yv.mv (Rn.s rfl (Yv.cat (by omega)) (Rn.s rfl (Yv.cat (by simp; omega)) (Rn.s rfl Yv.mv (Rn.s rfl (Yv.cat (by simp; omega)) (Rn.s rfl (Yv.cat (by simp; omega)) (Rn.nil)))))))) (WO.act (hc := rfl) (he := Ef.cx hpB hst (FnOk.of Tryd.func33) ?_))))
  rintro v D w10 ⟨A3, c3, rfl, rfl⟩ hs10
  refine WO.rd (is := [8, 9, 10]) (js := [11, 12, 13]) (Keep.refl _) (Rn.s rfl Yv.mv (Rn.s rfl Yv.ex (Rn.s rfl Yv.ex (Rn.nil)))) (WO.act (he := Ef.allocL (vs := ft0.cs) hs10 (fun b11 w11 k11 hs11 => WO.rd (is := [12]) (js := [13]) (Keep.refl _) (Rn.s rfl Yv.as (Rn.nil)) (WO.act (he := Ef.stores hs11 0 (fun w12 hs12 => WO.done ?_))))))
  have hst : St w [] w12 [Ch.cells b11 42 FB.cs, Ch.cells b8 42 FA.cs] := hs12.pick [0, 2]
  refine Wp.seq (Wp.regionL (l := [0, 1, 2, 3, 4]) (WO.rd (is := [0, 1, 2]) (js := [3, 4]) (Keep.refl _) (Rn.s rfl Yv.mv (Rn.s rfl (Yv.add (by unfold inI; omega)) (Rn.s rfl (Yv.bd (cs := Ft.cs ⟨42, [102], q + 2, 1⟩)) (Rn.nil)))) (WO.act (hc := rfl) (he := Ef.allocL (vs := ft0.cs) hst (fun bz1 wz1 kz1 hsz1 => WO.act (hc := rfl) (he := Ef.stores hsz1 0 (fun wz2 hsz2 => WO.done ?_)))))))
  have hst : St w [] wz2 [Ch.cells bz1 42 (Ft.cs ⟨42, [102], q + 2, 1⟩), Ch.cells b11 42 FB.cs, Ch.cells b8 42 FA.cs] := hsz2
  refine Wp.seq (Wp.seq (Wp.reads (is := [0]) (Keep.refl _) (Rn.s rfl Yv.mv (Rn.nil)) ?_))
  refine Wp.cond rfl (fun h5 => ?_) (fun h5 => ?_)
  · obtain ⟨eFA, eFB⟩ := hA (by rw [hsd] at h5; simpa using h5)
    refine Wp.seq (Wp.regionL (l := [0, 1, 2, 3]) (WO.rd (is := [0, 1, 2]) (js := [3]) (Keep.refl _) (Rn.s rfl Yv.mv (Rn.s rfl (Yv.add (by unfold inI; omega)) (Rn.s rfl (Yv.fa (off := 2)) (Rn.nil)))) (WO.act (hc := rfl) (he := Ef.store hst 0 (fun wu1 hsu1 => WO.done ?_)))))
    have hst : St w [] wu1 [Ch.cells bz1 42 (Ft.cs ⟨42, [102], q + 1, 1⟩), Ch.cells b11 42 FB.cs, Ch.cells b8 42 FA.cs] := hsu1
    have d1 := hst.cells 0
    have d2 := hst.cells 1
    have d3 := hst.cells 2
    have hgz := hg.keep hst.keep
    rw [eFA] at d3
    rw [eFB] at d2
    refine Wp.seq (Wp.regionL (l := [0, 1, 2, 3, 4, 5, 6, 7, 8, 9, 10, 11]) (WO.rd (is := [0, 1, 2, 3, 4, 5, 6, 7, 8]) (js := [9, 10, 11]) (Keep.refl _) (Rn.s rfl (Yv.ldb d3) (Rn.s rfl (Yv.ldb d1) (Rn.s rfl (Yv.eqs (ftEq ⟨42, [102], q + 1, 1⟩ ⟨42, [102], q + 1, 1⟩)) (Rn.s rfl Yv.mv (Rn.and (is := [4, 5, 6, 7]) (js := [8]) (t := 121) (d := 125) (hg := rfl) (ht := fun h3 => Rn.s rfl (Yv.ldb d2) (Rn.s rfl (Yv.ldb d1) (Rn.s rfl (Yv.eqs (ftEq ⟨42, [102], q + 1, 1⟩ ⟨42, [102], q + 1, 1⟩)) (Rn.s rfl Yv.pick_t ((Rn.e 4 rfl rfl)))))) (hf := fun _ => Rn.no rfl (Rn.no rfl (Rn.no rfl (Rn.s rfl Yv.pick_f (Rn.e 4 rfl rfl))))) (k := Rn.s rfl Yv.mv (Rn.nil))))))) (WO.and (js := [11]) 126 128 (hg := rfl) (ht := fun h8 qv1 => WO.cv rfl (awake4_cv wu1 hgz) (Keep.refl _) (FnOk.of Tryd.func34) (fun wv2 kv2 => WO.rd (is := [10]) (js := [11]) ((Keep.refl _).trans kv2) (Rn.s rfl Yv.pick_t (Rn.nil)) (WO.e 2 (qv1 _ ((Keep.refl _).trans kv2))))) (hf := fun _ qv1 => WO.rd (is := [9, 10]) (js := [11]) (Keep.refl _) (Rn.no rfl (Rn.s rfl Yv.pick_f Rn.nil)) (WO.e 2 (qv1 _ (Keep.refl _)))) (k := fun wv1 kv1 => WO.rd (is := [11]) (js := []) ((Keep.refl _).trans kv1) (Rn.s rfl Yv.as (Rn.nil)) (WO.done ?_)))))
    all_goals
      refine Wp.ret (Fin.ret (Res.one rfl rfl) ⟨?_, hst.keep.trans (by assumption)⟩)
      simp
  · obtain ⟨eFA, eFB⟩ := hB (by rw [hsd] at h5; simpa using h5)
    refine Wp.skip ?_
    have d1 := hst.cells 0
    have d2 := hst.cells 1
    have d3 := hst.cells 2
    have hgz := hg.keep hst.keep
    rw [eFA] at d3
    rw [eFB] at d2
    refine Wp.seq (Wp.regionL (l := [0, 1, 2, 3, 4, 5, 6, 7, 8, 9, 10, 11]) (WO.rd (is := [0, 1, 2, 3, 4, 5, 6, 7, 8]) (js := [9, 10, 11]) (Keep.refl _) (Rn.s rfl (Yv.ldb d3) (Rn.s rfl (Yv.bd (cs := ft0.cs)) (Rn.s rfl (Yv.eqs (ftEq ft0 ft0)) (Rn.s rfl Yv.mv (Rn.and (is := [4, 5, 6, 7]) (js := [8]) (t := 132) (d := 136) (hg := rfl) (ht := fun h3 => Rn.s rfl (Yv.ldb d2) (Rn.s rfl (Yv.ldb d1) (Rn.s rfl (Yv.eqs (ftEq ⟨42, [102], q + 2, 1⟩ ⟨42, [102], q + 2, 1⟩)) (Rn.s rfl Yv.pick_t ((Rn.e 4 rfl rfl)))))) (hf := fun _ => Rn.no rfl (Rn.no rfl (Rn.no rfl (Rn.s rfl Yv.pick_f (Rn.e 4 rfl rfl))))) (k := Rn.s rfl Yv.mv (Rn.nil))))))) (WO.and (js := [11]) 137 139 (hg := rfl) (ht := fun h8 qv1 => WO.cv rfl (awake4_cv wz2 hgz) (Keep.refl _) (FnOk.of Tryd.func34) (fun wv2 kv2 => WO.rd (is := [10]) (js := [11]) ((Keep.refl _).trans kv2) (Rn.s rfl Yv.pick_t (Rn.nil)) (WO.e 2 (qv1 _ ((Keep.refl _).trans kv2))))) (hf := fun _ qv1 => WO.rd (is := [9, 10]) (js := [11]) (Keep.refl _) (Rn.no rfl (Rn.s rfl Yv.pick_f Rn.nil)) (WO.e 2 (qv1 _ (Keep.refl _)))) (k := fun wv1 kv1 => WO.rd (is := [11]) (js := []) ((Keep.refl _).trans kv1) (Rn.s rfl Yv.as (Rn.nil)) (WO.done ?_)))))
    all_goals
      refine Wp.ret (Fin.ret (Res.one rfl rfl) ⟨?_, hst.keep.trans (by assumption)⟩)
      simp
end Go.Proofs.YtbmplmehofgocaaDoor.C
