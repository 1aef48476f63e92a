/- The document's own for numbers (layer 1): Number. -/
import Derived.Test.YtbmplmehofgocaaDoorC1
set_option linter.unusedVariables false
set_option linter.unusedSimpArgs false
set_option maxRecDepth 10000
namespace Go.Proofs.YtbmplmehofgocaaDoor.C
open Go.RowKit Go.Proofs.YtbmplmehofgocaaDoor.Sh
def digB (b : UInt8) : Bool := decide (48 ≤ b.toNat) && decide (b.toNat ≤ 57)
def decV : Bs → Int → Int
  | [], v => v
  | b :: s, v => decV s (10 * v + ((b.toNat : Int) - 48))
def numR (s : Bs) (most : Int) : Int × Bool := if s = [] ∨ 18 < s.length ∨ (1 < s.length ∧ byt s 0 = 48) ∨ s.all digB = false then (0, false) else (decV s 0, decide (decV s 0 ≤ most))
theorem rnumber_cv (s : Bs) (most : Int) (hl : s.length ≤ 9223372036854775807) (w0 : World) : Cv Tryd.prog 79 [S s, .int .i64 most] (.tuple #[.int .i64 (numR s most).1, .bool (numR s most).2]) w0 := by
  intro w hk
  refine calls_of_Wp (vs := [_, _]) Tryd.func79 ?_
  refine Wp.seq (Wp.reads (is := [0, 1]) (Keep.refl _) (Rn.s rfl Yv.as (Rn.s rfl Yv.as (Rn.nil))) ?_)
  refine Wp.seq (Wp.seq (Wp.reads (is := [0, 1, 2, 3, 4, 5, 6, 7, 8, 9, 10, 11, 12, 13, 14, 15, 16, 17]) (Keep.refl _) (Rn.s rfl Yv.mv (Rn.s rfl Yv.len_s (Rn.s rfl (Yv.cmp _ rfl) (Rn.s rfl Yv.mv (Rn.or (is := [4, 5, 6, 7]) (js := [8, 9, 10, 11, 12, 13, 14, 15, 16, 17]) (t := 11) (d := 15) (hg := rfl) (hf := fun h3 => have h3 := ne_of_beq_false h3; Rn.s rfl Yv.mv (Rn.s rfl Yv.len_s (Rn.s rfl (Yv.cmp _ rfl) (Rn.s rfl Yv.pick_f ((Rn.e 4 rfl rfl)))))) (ht := fun _ => Rn.no rfl (Rn.no rfl (Rn.no rfl (Rn.s rfl Yv.pick_t (Rn.e 4 rfl rfl))))) (k := Rn.s rfl Yv.mv (Rn.or (is := [9, 10, 11, 12, 13, 14, 15, 16, 17]) (js := []) (t := 16) (d := 25) (hg := rfl) (hf := fun h8 => Rn.s rfl Yv.mv (Rn.s rfl Yv.len_s (Rn.s rfl (Yv.cmp _ rfl) (Rn.s rfl Yv.mv (Rn.and (is := [13, 14, 15, 16]) (js := [17]) (t := 20) (d := 24) (hg := rfl) (ht := fun h12 => have h12 := of_decide_eq_true h12; Rn.s rfl Yv.mv (Rn.s rfl (Yv.ix (by omega) (by omega)) (Rn.s rfl (Yv.cmp _ rfl) (Rn.s rfl Yv.pick_t ((Rn.e 4 rfl rfl)))))) (hf := fun _ => Rn.no rfl (Rn.no rfl (Rn.no rfl (Rn.s rfl Yv.pick_f (Rn.e 4 rfl rfl))))) (k := Rn.s rfl Yv.pick_f ((Rn.e 6 rfl rfl)))))))) (ht := fun _ => Rn.no rfl (Rn.no rfl (Rn.no rfl (Rn.no rfl (Rn.no rfl (Rn.no rfl (Rn.no rfl (Rn.no rfl (Rn.s rfl Yv.pick_t (Rn.e 9 rfl rfl)))))))))) (k := Rn.nil)))))))) ?_))
  have e1 : ((s.length : Int) == 0) = (s == []) := by
    cases s with
    | nil => rfl
    | cons b s => simp; omega
  refine Wp.cond rfl (fun h => ?_) (fun h => ?_)
  · refine Wp.seq (Wp.reads (is := [0, 1]) (Keep.refl _) (Rn.s rfl Yv.as (Rn.s rfl Yv.as (Rn.nil))) ?_)
    refine Wp.ret (Fin.ret (Res.two rfl rfl rfl) ⟨?_, Keep.refl _⟩)
    rw [numR, if_pos]
    rw [e1] at h
    simp only [Bool.or_eq_true, Bool.and_eq_true, beq_iff_eq, decide_eq_true_eq] at h
    rcases h with (h | h) | h
    · exact .inl h
    · exact .inr (.inl (by omega))
    · exact .inr (.inr (.inl ⟨by omega, h.2⟩))
  rw [e1] at h
  simp only [Bool.or_eq_false_iff, Bool.and_eq_false_iff, decide_eq_false_iff_not, beq_eq_false_iff_ne, ne_eq] at h
  obtain ⟨⟨hn, hl8⟩, h0⟩ := h
  refine Wp.skip ?_
  refine Wp.seq (Wp.reads (is := [0]) (Keep.refl _) (Rn.s rfl Yv.as (Rn.nil)) ?_)
  refine Wp.seq (Wp.seq (Wp.reads (is := [0]) (Keep.refl _) (Rn.s rfl Yv.as (Rn.nil)) ?_))
  refine Wp.block ?_
  refine Wp.loop (α := Nat × Int) (fun x ρ ds w' => ds = [] ∧ Keep w w' ∧ x.1 ≤ s.length ∧ (∀ j b, j < x.1 → s[j]? = some b → digB b = true) ∧ decV (s.drop x.1) x.2 = decV s 0 ∧ 0 ≤ x.2 ∧ x.2 < 10 ^ x.1 ∧ Sub [(0, S s), (1, .int .i64 most), (6, .int .i64 x.2), (7, .int .i64 x.1)] ρ) (fun x => s.length - x.1) (0, 0) ⟨rfl, Keep.refl _, by simp, by intro j b hj; simp only at hj; omega, rfl, by simp, by simp, rfl, rfl, rfl, rfl, trivial⟩ ?_
  rintro ⟨k, v⟩ ρ ds w' ⟨rfl, hk', h1, h2, h3, h4, h5, hs⟩
  simp only at h1 h2 h3 h4 h5 hs
  refine Wp.forget _ ?_ hs
  refine Wp.seq (Wp.seq (Wp.reads (is := [0, 1, 2, 3]) (Keep.refl _) (Rn.s rfl Yv.mv (Rn.s rfl Yv.mv (Rn.s rfl Yv.len_s (Rn.s rfl (Yv.cmp _ rfl) (Rn.nil))))) ?_))
  refine Wp.cond rfl (fun hlt => ?_) (fun hlt => ?_)
  · have hlt := of_decide_eq_true hlt
    have hkl : k < s.length := by omega
    have hget : s[k]? = some s[k] := List.getElem?_eq_getElem hkl
    have hby := byt_of hget
    have hd : s.drop k = s[k] :: s.drop (k + 1) := List.drop_eq_getElem_cons hkl
    rw [hd, decV] at h3
    have hv : v < 100000000000000000 := by
      have : (10 : Int) ^ k ≤ 10 ^ 17 := by
        have : 10 ^ k ≤ 10 ^ 17 := Nat.pow_le_pow_right (by omega) (by omega)
        exact_mod_cast this
      have e : (10 : Int) ^ 17 = 100000000000000000 := by decide
      omega
    refine Wp.skip (Wp.seq (Wp.block (Wp.seq (Wp.seq (Wp.reads (is := [0, 1, 2, 3, 4, 5, 6, 7, 8, 9]) (Keep.refl _) (Rn.s rfl Yv.mv (Rn.s rfl Yv.mv (Rn.s rfl (Yv.ix (by omega) (by omega)) (Rn.s rfl (Yv.cmp _ rfl) (Rn.s rfl Yv.mv (Rn.or (is := [5, 6, 7, 8, 9]) (js := []) (t := 36) (d := 41) (hg := rfl) (hf := fun h4 => have h4 := of_decide_eq_false h4; Rn.s rfl Yv.mv (Rn.s rfl Yv.mv (Rn.s rfl (Yv.ix (by omega) (by omega)) (Rn.s rfl (Yv.cmp _ rfl) (Rn.s rfl Yv.pick_f ((Rn.e 5 rfl rfl))))))) (ht := fun _ => Rn.no rfl (Rn.no rfl (Rn.no rfl (Rn.no rfl (Rn.s rfl Yv.pick_t (Rn.e 5 rfl rfl)))))) (k := Rn.nil))))))) ?_)))))
    refine Wp.cond rfl (fun hb => ?_) (fun hb => ?_)
    · refine Wp.seq (Wp.reads (is := [0, 1]) (Keep.refl _) (Rn.s rfl Yv.as (Rn.s rfl Yv.as (Rn.nil))) ?_)
      refine Wp.ret (Fin.ret (Res.two rfl rfl rfl) ⟨?_, hk'⟩)
      have : s.all digB = false := by
        rw [List.all_eq_false]
        refine ⟨_, List.mem_of_getElem? hget, ?_⟩
        simp only [hby, Bool.or_eq_true, decide_eq_true_eq] at hb
        unfold digB
        simp only [Bool.and_eq_true, decide_eq_true_eq]
        omega
      rw [numR, if_pos (.inr (.inr (.inr this)))]
    · simp only [hby, Bool.or_eq_false_iff, decide_eq_false_iff_not] at hb
      have hbd := byt_bd s (k : Int)
      rw [hby] at hbd
      refine Wp.skip (Wp.reads (is := [0, 1, 2, 3, 4, 5, 6, 7, 8]) (Keep.refl _) (Rn.s rfl Yv.mv (Rn.s rfl (Yv.mul (by unfold inI; omega)) (Rn.s rfl Yv.mv (Rn.s rfl Yv.mv (Rn.s rfl (Yv.ix (by omega) (by omega)) (Rn.s rfl (Yv.subk (wrap_u8 (by rw [hby]; omega))) (Rn.s rfl (Yv.conv (wrapI ⟨by rw [hby]; omega, by rw [hby]; omega⟩)) (Rn.s rfl (Yv.add (by rw [hby]; unfold inI; omega)) (Rn.s rfl Yv.as (Rn.nil)))))))))) ?_)
      refine Wp.reads (is := [0, 1, 2]) (Keep.refl _) (Rn.s rfl Yv.mv (Rn.s rfl (Yv.add (by unfold inI; omega)) (Rn.s rfl Yv.as (Rn.nil)))) ?_
      refine ⟨(k + 1, 10 * v + (byt s k - 48)), ⟨rfl, hk', by simp only; omega, ?_, ?_, ?_, ?_, rfl, rfl, rfl, rfl, trivial⟩, by simp only; omega⟩
      · intro j b hj hjb
        simp only at hj
        by_cases hjk : j < k
        · exact h2 j b hjk hjb
        · obtain rfl : j = k := by omega
          rw [hget] at hjb
          injection hjb with hjb
          subst hjb
          unfold digB
          simp only [Bool.and_eq_true, decide_eq_true_eq]
          omega
      · show decV (s.drop (k + 1)) (10 * v + (byt s k - 48)) = _
        rw [hby]; exact h3
      · simp only; omega
      · simp only [Int.pow_succ]
        rw [hby]
        omega
  · have hlt := of_decide_eq_false hlt
    have hall : s.all digB = true := by
      rw [List.all_eq_true]
      intro b hb
      obtain ⟨j, hj, rfl⟩ := List.mem_iff_getElem.1 hb
      exact h2 j _ (by omega) (List.getElem?_eq_getElem hj)
    have e : decV s 0 = v := by
      rw [← h3, List.drop_eq_nil_of_le (by omega)]
      rfl
    refine Wp.exit (Wp.seq (Wp.reads (is := [0, 1, 2, 3, 4, 5]) (Keep.refl _) (Rn.s rfl Yv.mv (Rn.s rfl Yv.mv (Rn.s rfl Yv.mv (Rn.s rfl (Yv.cmp _ rfl) (Rn.s rfl Yv.as (Rn.s rfl Yv.as (Rn.nil))))))) ?_))
    refine Wp.ret (Fin.ret (Res.two rfl rfl rfl) ⟨?_, hk'⟩)
    rw [numR, if_neg, e]
    rintro (q | q | q | q)
    · exact hn (by simp [q])
    · omega
    · rcases h0 with h0 | h0
      · omega
      · exact h0 q.2
    · rw [hall] at q; cases q
end Go.Proofs.YtbmplmehofgocaaDoor.C
