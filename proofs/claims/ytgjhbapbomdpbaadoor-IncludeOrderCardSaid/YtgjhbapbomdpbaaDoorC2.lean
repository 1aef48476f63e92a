/- The quoted texts' functions: what quote computes. -/
import Derived.Test.YtgjhbapbomdpbaaDoorC1
set_option linter.unusedVariables false
set_option linter.unusedSimpArgs false
set_option maxRecDepth 10000
namespace Go.Proofs.YtgjhbapbomdpbaaDoor.C
open Go.RowKit Go.Proofs.YtgjhbapbomdpbaaDoor.Sh
def digitI (c : Int) : Int := if 48 ≤ c ∧ c ≤ 57 then c - 48 else if 97 ≤ c ∧ c ≤ 102 then c - 97 + 10 else -1
theorem digitI_bd (c : Int) : -1 ≤ digitI c ∧ digitI c ≤ 15 := by
  unfold digitI
  repeat' split
  all_goals omega
theorem digit_cv (c : Int) (w0 : World) : Cv Tryd.prog 121 [.int .u8 c] (.int .i64 (digitI c)) w0 := by
  intro w hk
  refine calls_of_Wp (vs := [_]) Tryd.func121 ?_
  refine Wp.seq (Wp.reads (is := [0]) (Keep.refl _) (Rn.s rfl Yv.as (Rn.nil)) ?_)
  refine Wp.seq (Wp.block (Wp.seq (Wp.reads (is := [0, 1, 2, 3, 4, 5, 6]) (Keep.refl _) (Rn.s rfl Yv.mv (Rn.s rfl (Yv.cmp _ rfl) (Rn.s rfl Yv.mv (Rn.and (is := [3, 4, 5]) (js := [6]) (t := 6) (d := 9) (hg := rfl) (ht := fun h2 => have h2 := of_decide_eq_true h2; Rn.s rfl Yv.mv (Rn.s rfl (Yv.cmp _ rfl) (Rn.s rfl Yv.pick_t ((Rn.e 3 rfl rfl))))) (hf := fun _ => Rn.no rfl (Rn.no rfl (Rn.s rfl Yv.pick_f (Rn.e 3 rfl rfl)))) (k := Rn.s rfl Yv.as (Rn.nil)))))) ?_)))
  refine Wp.cond rfl (fun h => ?_) (fun h => ?_)
  · have h : 48 ≤ c ∧ c ≤ 57 := by simpa using h
    refine Wp.seq (Wp.reads (is := [0, 1, 2, 3]) (Keep.refl _) (Rn.s rfl Yv.mv (Rn.s rfl (Yv.subk (wrap_u8 (by omega))) (Rn.s rfl (Yv.conv (wrapI ⟨by omega, by omega⟩)) (Rn.s rfl Yv.as (Rn.nil))))) ?_)
    refine Wp.ret (Fin.ret (Res.one rfl rfl) ⟨?_, Keep.refl _⟩)
    rw [digitI, if_pos h]
  have h : ¬ (48 ≤ c ∧ c ≤ 57) := by simpa using h
  refine Wp.seq (Wp.reads (is := [0, 1, 2, 3, 4, 5, 6]) (Keep.refl _) (Rn.s rfl Yv.mv (Rn.s rfl (Yv.cmp _ rfl) (Rn.s rfl Yv.mv (Rn.and (is := [3, 4, 5]) (js := [6]) (t := 16) (d := 19) (hg := rfl) (ht := fun h2 => have h2 := of_decide_eq_true h2; Rn.s rfl Yv.mv (Rn.s rfl (Yv.cmp _ rfl) (Rn.s rfl Yv.pick_t ((Rn.e 3 rfl rfl))))) (hf := fun _ => Rn.no rfl (Rn.no rfl (Rn.s rfl Yv.pick_f (Rn.e 3 rfl rfl)))) (k := Rn.s rfl Yv.as (Rn.nil)))))) ?_)
  refine Wp.cond rfl (fun h' => ?_) (fun h' => ?_)
  · have h' : 97 ≤ c ∧ c ≤ 102 := by simpa using h'
    refine Wp.seq (Wp.reads (is := [0, 1, 2, 3, 4]) (Keep.refl _) (Rn.s rfl Yv.mv (Rn.s rfl (Yv.subk (wrap_u8 (by omega))) (Rn.s rfl (Yv.conv (wrapI ⟨by omega, by omega⟩)) (Rn.s rfl (Yv.add (by unfold inI; omega)) (Rn.s rfl Yv.as (Rn.nil)))))) ?_)
    refine Wp.ret (Fin.ret (Res.one rfl rfl) ⟨?_, Keep.refl _⟩)
    rw [digitI, if_neg h, if_pos h']
  · have h' : ¬ (97 ≤ c ∧ c ≤ 102) := by simpa using h'
    refine Wp.skip (Wp.seq (Wp.reads (is := [0]) (Keep.refl _) (Rn.s rfl Yv.as (Rn.nil)) ?_))
    refine Wp.ret (Fin.ret (Res.one rfl rfl) ⟨?_, Keep.refl _⟩)
    rw [digitI, if_neg h, if_neg h']
/-- what stands behind a backslash: the byte that is said, how many bytes there are -/
def escS (s : Bs) : Int × Int :=
  if s = [] then (0, 0)
  else if byt s 0 = 34 ∨ byt s 0 = 92 then (byt s 0, 1)
  else if byt s 0 = 110 then (10, 1)
  else if byt s 0 ≠ 120 ∨ (s.length : Int) < 3 ∨ digitI (byt s 1) < 0 ∨ digitI (byt s 2) < 0 then (0, 0)
  else (16 * digitI (byt s 1) + digitI (byt s 2), 3)
theorem escape_cv (s : Bs) (w0 : World) : Cv Tryd.prog 114 [S s] (.tuple #[.int .u8 (escS s).1, .int .i64 (escS s).2]) w0 := by
  intro w hk
  refine calls_of_Wp (vs := [_]) Tryd.func114 ?_
  refine Wp.seq (Wp.reads (is := [0, 1]) (Keep.refl _) (Rn.s rfl Yv.as (Rn.s rfl Yv.as (Rn.nil))) ?_)
  refine Wp.seq (Wp.seq (Wp.reads (is := [0, 1]) (Keep.refl _) (Rn.s rfl Yv.mv (Rn.s rfl (Yv.scm _ rfl) (Rn.nil))) ?_))
  refine Wp.cond rfl (fun h => ?_) (fun h => ?_)
  · have h : s = [] := by simpa using h
    refine Wp.seq (Wp.reads (is := [0, 1]) (Keep.refl _) (Rn.s rfl Yv.as (Rn.s rfl Yv.as (Rn.nil))) ?_)
    refine Wp.ret (Fin.ret (Res.two rfl rfl rfl) ⟨?_, Keep.refl _⟩)
    rw [escS, if_pos h]
  have h : s ≠ [] := by simpa using h
  have hp : 0 < s.length := List.length_pos_iff.2 h
  refine Wp.skip (Wp.seq (Wp.seq (Wp.reads (is := [0, 1]) (Keep.refl _) (Rn.s rfl Yv.mv (Rn.s rfl (Yv.ix (by omega) (by omega)) (Rn.nil))) ?_)))
  refine Wp.block (Wp.seq (Wp.seq (Wp.reads (is := [0, 1]) (Keep.refl _) (Rn.s rfl (Yv.cmp _ rfl) (Rn.s rfl Yv.as (Rn.nil))) ?_)))
  refine Wp.mid (fun ρ ds w' => ds = [] ∧ w' = w ∧ Sub [(0, S s), (7, .int .u8 (byt s 0)), (8, .bool (decide (byt s 0 = 34 ∨ byt s 0 = 92)))] ρ) ?_ ?_
  · refine Wp.cond rfl (fun h1 => ?_) (fun h1 => ?_)
    · have h1 := eq_of_beq h1
      exact Wp.skip ⟨rfl, rfl, rfl, rfl, by simp [lk, h1], trivial⟩
    · have h1 := ne_of_beq_false h1
      refine Wp.reads (is := [0, 1]) (Keep.refl _) (Rn.s rfl (Yv.cmp _ rfl) (Rn.s rfl Yv.as (Rn.nil))) ?_
      exact ⟨rfl, rfl, rfl, rfl, by simp [lk, h1]; rfl, trivial⟩
  rintro ρ ds w' ⟨rfl, rfl, hs⟩
  refine Wp.forget _ ?_ hs
  refine Wp.cond rfl (fun h1 => ?_) (fun h1 => ?_)
  · have h1 := of_decide_eq_true h1
    refine Wp.seq (Wp.reads (is := [0, 1, 2, 3]) (Keep.refl _) (Rn.s rfl Yv.mv (Rn.s rfl (Yv.ix (by omega) (by omega)) (Rn.s rfl Yv.as (Rn.s rfl Yv.as (Rn.nil))))) ?_)
    refine Wp.ret (Fin.ret (Res.two rfl rfl rfl) ⟨?_, Keep.refl _⟩)
    rw [escS, if_neg h, if_pos h1]
  have h1 := of_decide_eq_false h1
  refine Wp.seq (Wp.reads (is := [0, 1]) (Keep.refl _) (Rn.s rfl (Yv.cmp _ rfl) (Rn.s rfl Yv.as (Rn.nil))) ?_)
  refine Wp.cond rfl (fun h2 => ?_) (fun h2 => ?_)
  · have h2 := eq_of_beq h2
    refine Wp.seq (Wp.reads (is := [0, 1]) (Keep.refl _) (Rn.s rfl Yv.as (Rn.s rfl Yv.as (Rn.nil))) ?_)
    refine Wp.ret (Fin.ret (Res.two rfl rfl rfl) ⟨?_, Keep.refl _⟩)
    rw [escS, if_neg h, if_neg h1, if_pos h2]
  have h2 := ne_of_beq_false h2
  refine Wp.skip (Wp.seq (Wp.seq (Wp.regionL (l := [0, 1, 2, 3, 4, 5, 6, 7, 8, 9, 10, 11, 12, 13, 14, 15, 16, 17, 18, 19]) (WO.rd (is := [0, 1, 2, 3, 4, 5, 6, 7, 8]) (js := [9, 10, 11, 12, 13, 14, 15, 16, 17, 18, 19]) (Keep.refl _) (Rn.s rfl Yv.mv (Rn.s rfl (Yv.ix (by omega) (by omega)) (Rn.s rfl (Yv.cmp _ rfl) (Rn.s rfl Yv.mv (Rn.or (is := [4, 5, 6, 7]) (js := [8]) (t := 18) (d := 22) (hg := rfl) (hf := fun h3 => have h3 := bne_eq_false_iff_eq.1 h3; Rn.s rfl Yv.mv (Rn.s rfl Yv.len_s (Rn.s rfl (Yv.cmp _ rfl) (Rn.s rfl Yv.pick_f ((Rn.e 4 rfl rfl)))))) (ht := fun _ => Rn.no rfl (Rn.no rfl (Rn.no rfl (Rn.s rfl Yv.pick_t (Rn.e 4 rfl rfl))))) (k := Rn.s rfl Yv.mv (Rn.nil))))))) (WO.or (js := [14, 15, 16, 17, 18, 19]) 23 28 (hg := rfl) (hf := fun h8 q1 => WO.rd (is := [9, 10]) (js := [11, 12, 13, 14, 15, 16, 17, 18, 19]) (Keep.refl _) (Rn.s rfl Yv.mv (Rn.s rfl (Yv.ix (by omega) (by simp at h8; omega)) (Rn.nil))) (WO.cv rfl (digit_cv (byt s 1) w') (Keep.refl _) (FnOk.of Tryd.func121) (fun w2 k2 => WO.rd (is := [12, 13]) (js := [14, 15, 16, 17, 18, 19]) ((Keep.refl _).trans k2) (Rn.s rfl (Yv.cmp _ rfl) (Rn.s rfl Yv.pick_f (Rn.nil))) (WO.e 5 (q1 _ ((Keep.refl _).trans k2)))))) (ht := fun _ q1 => WO.rd (is := [9, 10, 11, 12, 13]) (js := [14, 15, 16, 17, 18, 19]) (Keep.refl _) (Rn.no rfl (Rn.no rfl (Rn.no rfl (Rn.no rfl (Rn.s rfl Yv.pick_t Rn.nil))))) (WO.e 5 (q1 _ (Keep.refl _)))) (k := fun w1 k1 => WO.rd (is := [14]) (js := [15, 16, 17, 18, 19]) ((Keep.refl _).trans k1) (Rn.s rfl Yv.mv (Rn.nil)) (WO.or (js := []) 29 34 (hg := rfl) (hf := fun h14 q3 => WO.rd (is := [15, 16]) (js := [17, 18, 19]) ((Keep.refl _).trans k1) (Rn.s rfl Yv.mv (Rn.s rfl (Yv.ix (by omega) (by simp at h14; omega)) (Rn.nil))) (WO.cv rfl (digit_cv (byt s 2) w') ((Keep.refl _).trans k1) (FnOk.of Tryd.func121) (fun w4 k4 => WO.rd (is := [18, 19]) (js := []) (((Keep.refl _).trans k1).trans k4) (Rn.s rfl (Yv.cmp _ rfl) (Rn.s rfl Yv.pick_f (Rn.nil))) (WO.e 5 (q3 _ ((Keep.refl _).trans k4)))))) (ht := fun _ q3 => WO.rd (is := [15, 16, 17, 18, 19]) (js := []) ((Keep.refl _).trans k1) (Rn.no rfl (Rn.no rfl (Rn.no rfl (Rn.no rfl (Rn.s rfl Yv.pick_t Rn.nil))))) (WO.e 5 (q3 _ (Keep.refl _)))) (k := fun w3 k3 => WO.done ?_))))))))
  refine Wp.cond rfl (fun h3 => ?_) (fun h3 => ?_)
  · have e : escS s = (0, 0) := by
      rw [escS, if_neg h, if_neg h1, if_neg h2, if_pos]
      simp only [Bool.or_eq_true, decide_eq_true_eq, bne_iff_ne, ne_eq] at h3
      rcases h3 with ((h3 | h3) | h3) | h3
      · exact .inl h3
      · exact .inr (.inl h3)
      · exact .inr (.inr (.inl h3))
      · exact .inr (.inr (.inr h3))
    refine Wp.seq (Wp.reads (is := [0, 1]) (Keep.refl _) (Rn.s rfl Yv.as (Rn.s rfl Yv.as (Rn.nil))) ?_)
    refine Wp.ret (Fin.ret (Res.two rfl rfl rfl) ⟨?_, k1.trans k3⟩)
    rw [e]
  simp only [Bool.or_eq_false_iff, decide_eq_false_iff_not, bne_eq_false_iff_eq] at h3
  obtain ⟨⟨⟨h4, h5⟩, h6⟩, h7⟩ := h3
  have d1 := digitI_bd (byt s 1)
  have d2 := digitI_bd (byt s 2)
  have kk := k1.trans k3
  refine Wp.skip (Wp.seq (Wp.draws [] mixed (WD.rd (is := [0, 1, 4, 5]) (fun _ _ _ _ _ h => h) (kk.trans (Keep.drew _)) (Rn.s rfl Yv.mv (Rn.s rfl (Yv.ix (by omega) (by omega)) (Rn.s rfl Yv.mv (Rn.s rfl (Yv.ix (by omega) (by omega)) (Rn.nil))))) (WD.cv 2 rfl (digit_cv (byt s 1) w') (kk.trans (Keep.drew _)) (FnOk.of Tryd.func121) (fun w1 k1 => WD.rd (is := [3]) (fun _ _ _ _ _ h => h) ((kk.trans (Keep.drew _)).trans k1) (Rn.s rfl (Yv.mul ⟨by omega, by omega⟩) (Rn.nil)) (WD.cv 6 rfl (digit_cv (byt s 2) w') ((kk.trans (Keep.drew _)).trans k1) (FnOk.of Tryd.func121) (fun w2 k2 => WD.rd (is := [7, 8, 9, 10]) (fun _ _ _ _ _ h => h) (((kk.trans (Keep.drew _)).trans k1).trans k2) (Rn.s rfl (Yv.add (by unfold inI; omega)) (Rn.s rfl (Yv.conv (wrap_u8 (by omega))) (Rn.s rfl Yv.as (Rn.s rfl Yv.as (Rn.nil))))) (WD.done ?_))))))))
  refine Wp.ret (Fin.ret (Res.two rfl rfl rfl) ⟨?_, (kk.trans (Keep.drew _)).trans (k1.trans k2)⟩)
  rw [escS, if_neg h, if_neg h1, if_neg h2, if_neg (by rintro (h | h | h | h) <;> omega)]
theorem escS_bd (s : Bs) : 0 ≤ (escS s).1 ∧ (escS s).1 ≤ 255 ∧ 0 ≤ (escS s).2 ∧ (escS s).2 ≤ 3 ∧ (escS s).2 ≤ s.length := by
  have d1 := digitI_bd (byt s 1)
  have d2 := digitI_bd (byt s 2)
  have b0 := byt_bd s 0
  unfold escS
  split
  · simp
  rename_i h
  have hp : 0 < s.length := List.length_pos_iff.2 h
  split
  · simp only; omega
  split
  · simp only; omega
  split
  · simp only; omega
  · simp only; omega
def escU (s : Bs) : UInt8 := UInt8.ofNat (escS s).1.toNat
theorem escU_eq (s : Bs) : (escS s).1 = (escU s).toNat := by
  have := escS_bd s
  simp only [escU, UInt8.toNat_ofNat']
  omega
theorem escape_cv' (s : Bs) (w0 : World) : Cv Tryd.prog 114 [S s] (.tuple #[.int .u8 ((escU s).toNat : Int), .int .i64 (escS s).2]) w0 := by
  rw [← escU_eq]
  exact escape_cv s w0
/-- what the rest of a quoted text says: acc is what has been said, t stands from place n on -/
def readQ (t : Bs) (n : Int) (acc : Bs) : Bs × Int × Bool :=
  match t with
  | [] => ([], n, false)
  | b :: t' =>
    if b.toNat = 34 then (acc, n + 1, true)
    else if b.toNat = 92 then
      if (escS t').2 = 0 then ([], n, false)
      else readQ (t'.drop (escS t').2.toNat) (n + 1 + (escS t').2) (acc ++ [escU t'])
    else readQ t' (n + 1) (acc ++ [b])
termination_by t.length
decreasing_by all_goals (simp; try omega)
def quoteR (s : Bs) : Bs × Int × Bool := if s = [] then ([], 0, false) else readQ (s.drop 1) 1 []
end Go.Proofs.YtgjhbapbomdpbaaDoor.C
