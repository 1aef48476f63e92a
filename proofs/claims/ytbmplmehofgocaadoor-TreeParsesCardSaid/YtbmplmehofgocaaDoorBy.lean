/- The document's lines: Trim. -/
import Derived.Test.YtbmplmehofgocaaDoorBx
set_option linter.unusedVariables false
set_option linter.unusedSimpArgs false
set_option maxRecDepth 10000
namespace Go.Proofs.YtbmplmehofgocaaDoor.C
open Go.RowKit Go.Proofs.YtbmplmehofgocaaDoor.Sh
/-- the end of a text without the blanks behind, from place a on -/
def tEnd (s : Bs) (a : Nat) : Nat → Nat
  | 0 => 0
  | b + 1 => if a < b + 1 ∧ byt s (b : Int) = 32 then tEnd s a b else b + 1
theorem tEnd_bd (s : Bs) (a : Nat) : ∀ b, a ≤ b → a ≤ tEnd s a b ∧ tEnd s a b ≤ b
  | 0, h => by rw [tEnd]; omega
  | b + 1, h => by
    rw [tEnd]
    split
    · have := tEnd_bd s a b (by omega); omega
    · omega
theorem rtrim_cv (s : Bs) (hl : s.length ≤ 1000000) (w0 : World) : Cv Tryd.prog 70 [S s] (.tuple #[.int .i64 (gapN s 0), S ((s.take (tEnd s (gapN s 0) s.length)).drop (gapN s 0))]) w0 := by
  intro w hk
  have hg0 := gapN_le s 0 (Nat.zero_le _)
  refine calls_of_Wp (vs := [_]) Tryd.func70 ?_
  refine Wp.seq (Wp.reads (is := [0, 1]) (Keep.refl _) (Rn.s rfl Yv.as (Rn.s rfl Yv.as (Rn.nil))) ?_)
  refine Wp.seq (Wp.reads (is := [0]) (Keep.refl _) (Rn.s rfl Yv.as (Rn.nil)) ?_)
  refine Wp.seq (Wp.block ?_)
  refine Wp.loop (α := Nat) (fun k ρ ds w' => ds = [] ∧ k ≤ s.length ∧ gapN s k = gapN s 0 ∧ Keep w w' ∧ Sub [(0, S s), (4, .int .i64 k)] ρ) (fun k => s.length - k) 0 ⟨rfl, Nat.zero_le _, rfl, Keep.refl _, rfl, rfl, trivial⟩ ?_
  rintro k ρ ds w' ⟨rfl, hk1, hg, hkw, hs⟩
  refine Wp.forget _ ?_ hs
  refine Wp.seq (Wp.seq (Wp.reads (is := [0, 1, 2, 3, 4, 5, 6, 7, 8, 9]) (Keep.refl _) (Rn.s rfl Yv.mv (Rn.s rfl Yv.mv (Rn.s rfl Yv.len_s (Rn.s rfl (Yv.cmp _ rfl) (Rn.s rfl Yv.mv (Rn.and (is := [5, 6, 7, 8, 9]) (js := []) (t := 10) (d := 15) (hg := rfl) (ht := fun h4 => have h4 := of_decide_eq_true h4; Rn.s rfl Yv.mv (Rn.s rfl Yv.mv (Rn.s rfl (Yv.ix (by omega) (by omega)) (Rn.s rfl (Yv.cmp _ rfl) (Rn.s rfl Yv.pick_t ((Rn.e 5 rfl rfl))))))) (hf := fun _ => Rn.no rfl (Rn.no rfl (Rn.no rfl (Rn.no rfl (Rn.s rfl Yv.pick_f (Rn.e 5 rfl rfl)))))) (k := Rn.nil))))))) ?_))
  refine Wp.cond rfl (fun h => ?_) (fun h => ?_)
  · simp only [Bool.and_eq_true, decide_eq_true_eq, beq_iff_eq] at h
    have hkl : k < s.length := by omega
    rw [gapN_step hkl, if_pos h.2] at hg
    refine Wp.skip (Wp.block (Wp.reads (is := [0, 1, 2]) (Keep.refl _) (Rn.s rfl Yv.mv (Rn.s rfl (Yv.add (by unfold inI; omega)) (Rn.s rfl Yv.as (Rn.nil)))) ?_))
    exact ⟨k + 1, ⟨rfl, hkl, hg, hkw, rfl, rfl, trivial⟩, by omega⟩
  have e : k = gapN s 0 := by
    rw [← hg]
    by_cases hkl : k < s.length
    · rw [gapN_step hkl, if_neg]
      intro q
      simp only [Bool.and_eq_false_iff, decide_eq_false_iff_not, beq_eq_false_iff_ne] at h
      rcases h with h | h
      · omega
      · exact h q
    · exact (gapN_end (by omega)).symm
  subst e
  obtain ⟨a, ha⟩ : ∃ a, a = gapN s 0 := ⟨_, rfl⟩
  rw [← ha] at hk1 ⊢
  refine Wp.exit ?_
  refine Wp.seq (Wp.reads (is := [0, 1, 2]) (Keep.refl _) (Rn.s rfl Yv.mv (Rn.s rfl Yv.len_s (Rn.s rfl Yv.as (Rn.nil)))) ?_)
  refine Wp.seq (Wp.block ?_)
  refine Wp.loop (α := Nat) (fun b ρ ds w' => ds = [] ∧ a ≤ b ∧ b ≤ s.length ∧ tEnd s a b = tEnd s a s.length ∧ Keep w w' ∧ Sub [(0, S s), (4, .int .i64 a), (5, .int .i64 b)] ρ) (fun b => b) s.length ⟨rfl, hk1, Nat.le_refl _, rfl, hkw, rfl, rfl, rfl, trivial⟩ ?_
  rintro b ρ ds w2 ⟨rfl, hb0, hb1, hte, hkw, hs⟩
  refine Wp.forget _ ?_ hs
  refine Wp.seq (Wp.seq (Wp.reads (is := [0, 1, 2, 3, 4, 5, 6, 7, 8, 9]) (Keep.refl _) (Rn.s rfl Yv.mv (Rn.s rfl Yv.mv (Rn.s rfl (Yv.cmp _ rfl) (Rn.s rfl Yv.mv (Rn.and (is := [4, 5, 6, 7, 8, 9]) (js := []) (t := 23) (d := 29) (hg := rfl) (ht := fun h3 => have h3 := of_decide_eq_true h3; Rn.s rfl Yv.mv (Rn.s rfl Yv.mv (Rn.s rfl (Yv.sub ⟨by omega, by omega⟩) (Rn.s rfl (Yv.ix (by omega) (by omega)) (Rn.s rfl (Yv.cmp _ rfl) (Rn.s rfl Yv.pick_t ((Rn.e 6 rfl rfl)))))))) (hf := fun _ => Rn.no rfl (Rn.no rfl (Rn.no rfl (Rn.no rfl (Rn.no rfl (Rn.s rfl Yv.pick_f (Rn.e 6 rfl rfl))))))) (k := Rn.nil)))))) ?_))
  refine Wp.cond rfl (fun h2 => ?_) (fun h2 => ?_)
  · simp only [Bool.and_eq_true, decide_eq_true_eq, beq_iff_eq] at h2
    obtain ⟨b', rfl⟩ : ∃ b', b = b' + 1 := ⟨b - 1, by omega⟩
    have e1 : ((b' + 1 : Nat) : Int) - 1 = (b' : Int) := by omega
    rw [e1] at h2
    rw [tEnd, if_pos ⟨by omega, h2.2⟩] at hte
    refine Wp.skip (Wp.block (Wp.reads (is := [0, 1, 2]) (Keep.refl _) (Rn.s rfl Yv.mv (Rn.s rfl (Yv.sub (by unfold inI; omega)) (Rn.s rfl Yv.as (Rn.nil)))) ?_))
    exact ⟨b', ⟨rfl, by omega, by omega, hte, hkw, rfl, rfl, by rw [← e1]; rfl, trivial⟩, by omega⟩
  · have e2 : tEnd s a b = b := by
      cases b with
      | zero => rfl
      | succ b' =>
        rw [tEnd, if_neg]
        rintro ⟨q1, q2⟩
        have e1 : ((b' + 1 : Nat) : Int) - 1 = (b' : Int) := by omega
        rw [e1] at h2
        simp only [Bool.and_eq_false_iff, decide_eq_false_iff_not, beq_eq_false_iff_ne] at h2
        rcases h2 with h2 | h2
        · omega
        · exact h2 q2
    rw [← hte, e2]
    refine Wp.exit ?_
    refine Wp.seq (Wp.readsD (is := [0, 1, 2, 3, 4, 5, 6]) mixed (fun _ _ _ _ _ h => h) (Keep.refl _) (Rn.s rfl Yv.mv (Rn.s rfl Yv.mv (Rn.s rfl Yv.mv (Rn.s rfl Yv.mv (Rn.s rfl (Yv.ss_ft (by omega) (by omega) (by omega)) (Rn.s rfl Yv.as (Rn.s rfl Yv.as (Rn.nil)))))))) ?_)
    exact Wp.ret (Fin.ret (Res.two rfl rfl rfl) ⟨by rw [Int.toNat_natCast, Int.toNat_natCast], hkw.trans (Keep.drew _)⟩)
end Go.Proofs.YtbmplmehofgocaaDoor.C
