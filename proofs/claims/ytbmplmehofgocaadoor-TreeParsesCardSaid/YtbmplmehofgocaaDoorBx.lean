/- The document's reader of a line's text: skip. -/
import Derived.Test.YtbmplmehofgocaaDoorB4
set_option linter.unusedVariables false
set_option linter.unusedSimpArgs false
set_option maxRecDepth 10000
namespace Go.Proofs.YtbmplmehofgocaaDoor.C
open Go.RowKit Go.Proofs.YtbmplmehofgocaaDoor.Sh
theorem gapN_step {s : Bs} {a : Nat} (ha : a < s.length) : gapN s a = if byt s (a : Int) = 32 then gapN s (a + 1) else a := by
  have h1 : s.drop a = s[a] :: s.drop (a + 1) := List.drop_eq_getElem_cons ha
  have h2 : byt s (a : Int) = (s[a].toNat : Int) := byt_of (List.getElem?_eq_getElem ha)
  unfold gapN
  rw [h1, List.takeWhile_cons, h2]
  by_cases h : s[a] = 32
  · rw [h]
    have e1 : ((32 : UInt8) == 32) = true := rfl
    have e2 : (((32 : UInt8).toNat : Nat) : Int) = 32 := rfl
    rw [e1, e2]
    simp
    omega
  · have e1 : (s[a] == 32) = false := by simpa using h
    have hne : ¬ ((s[a].toNat : Nat) : Int) = 32 := by
      intro q
      apply h
      have : s[a].toNat = 32 := by omega
      exact UInt8.toNat_inj.1 this
    rw [e1, if_neg hne]
    simp
theorem gapN_end {s : Bs} {a : Nat} (ha : s.length ≤ a) : gapN s a = a := by
  unfold gapN
  rw [List.drop_eq_nil_of_le ha]
  rfl
theorem rskip_cv (s : Bs) (a : Nat) (hl : s.length ≤ 1000000) (ha : a ≤ s.length) (w0 : World) : Cv Tryd.prog 115 [S s, .int .i64 a] (.int .i64 (gapN s a)) w0 := by
  intro w hk
  refine calls_of_Wp (vs := [_, _]) Tryd.func115 ?_
  refine Wp.seq (Wp.reads (is := [0]) (Keep.refl _) (Rn.s rfl Yv.as (Rn.nil)) ?_)
  refine Wp.seq (Wp.block ?_)
  refine Wp.loop (α := Nat) (fun k ρ ds w' => ds = [] ∧ k ≤ s.length ∧ gapN s k = gapN s a ∧ Keep w w' ∧ Sub [(0, S s), (1, .int .i64 k)] ρ) (fun k => s.length - k) a ⟨rfl, ha, rfl, Keep.refl _, rfl, rfl, trivial⟩ ?_
  rintro k ρ ds w' ⟨rfl, hk1, hg, hkw, hs⟩
  refine Wp.forget _ ?_ hs
  refine Wp.seq (Wp.seq (Wp.reads (is := [0, 1, 2, 3, 4, 5, 6, 7, 8, 9]) (Keep.refl _) (Rn.s rfl Yv.mv (Rn.s rfl Yv.mv (Rn.s rfl Yv.len_s (Rn.s rfl (Yv.cmp _ rfl) (Rn.s rfl Yv.mv (Rn.and (is := [5, 6, 7, 8, 9]) (js := []) (t := 9) (d := 14) (hg := rfl) (ht := fun h4 => have h4 := of_decide_eq_true h4; Rn.s rfl Yv.mv (Rn.s rfl Yv.mv (Rn.s rfl (Yv.ix (by omega) (by omega)) (Rn.s rfl (Yv.cmp _ rfl) (Rn.s rfl Yv.pick_t ((Rn.e 5 rfl rfl))))))) (hf := fun _ => Rn.no rfl (Rn.no rfl (Rn.no rfl (Rn.no rfl (Rn.s rfl Yv.pick_f (Rn.e 5 rfl rfl)))))) (k := Rn.nil))))))) ?_))
  refine Wp.cond rfl (fun h => ?_) (fun h => ?_)
  · simp only [Bool.and_eq_true, decide_eq_true_eq, beq_iff_eq] at h
    have hkl : k < s.length := by omega
    rw [gapN_step hkl, if_pos h.2] at hg
    refine Wp.skip (Wp.block (Wp.reads (is := [0, 1, 2]) (Keep.refl _) (Rn.s rfl Yv.mv (Rn.s rfl (Yv.add (by unfold inI; omega)) (Rn.s rfl Yv.as (Rn.nil)))) ?_))
    exact ⟨k + 1, ⟨rfl, hkl, hg, hkw, rfl, rfl, trivial⟩, by omega⟩
  · refine Wp.exit ?_
    refine Wp.seq (Wp.reads (is := [0, 1]) (Keep.refl _) (Rn.s rfl Yv.mv (Rn.s rfl Yv.as (Rn.nil))) ?_)
    have e : gapN s a = k := by
      rw [← hg]
      by_cases hkl : k < s.length
      · rw [gapN_step hkl, if_neg]
        intro q
        simp only [Bool.and_eq_false_iff, decide_eq_false_iff_not, beq_eq_false_iff_ne] at h
        rcases h with h | h
        · omega
        · exact h q
      · exact gapN_end (by omega)
    exact Wp.ret (Fin.ret (Res.one rfl rfl) ⟨by rw [e], hkw⟩)
end Go.Proofs.YtbmplmehofgocaaDoor.C
