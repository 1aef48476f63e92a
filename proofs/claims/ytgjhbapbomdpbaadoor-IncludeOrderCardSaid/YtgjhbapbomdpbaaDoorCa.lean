/- Quoted texts are read as quote's functions say. -/
import Derived.Test.YtgjhbapbomdpbaaDoorC2
set_option linter.unusedVariables false
set_option linter.unusedSimpArgs false
set_option maxRecDepth 10000
namespace Go.Proofs.YtgjhbapbomdpbaaDoor.C
open Go.RowKit Go.Proofs.YtgjhbapbomdpbaaDoor.Sh
theorem readQ_nil (n : Int) (acc : Bs) : readQ [] n acc = ([], n, false) := by rw [readQ]
theorem readQ_cons (b : UInt8) (t : Bs) (n : Int) (acc : Bs) : readQ (b :: t) n acc = if b.toNat = 34 then (acc, n + 1, true) else if b.toNat = 92 then if (escS t).2 = 0 then ([], n, false) else readQ (t.drop (escS t).2.toNat) (n + 1 + (escS t).2) (acc ++ [escU t]) else readQ t (n + 1) (acc ++ [b]) := by
  rw [readQ]
theorem read_cv (s : Bs) (hl : s.length ≤ 4000000000) (w0 : World) : Cv Tryd.prog 104 [S s] (.tuple #[S (quoteR s).1, .int .i64 (quoteR s).2.1, .bool (quoteR s).2.2]) w0 := by
  intro w hk
  refine calls_of_Wp (vs := [_]) Tryd.func104 ?_
  refine Wp.seq (Wp.reads (is := [0, 1, 2]) (Keep.refl _) (Rn.s rfl Yv.as (Rn.s rfl Yv.as (Rn.s rfl Yv.as (Rn.nil)))) ?_)
  refine Wp.seq (Wp.reads (is := [0]) (Keep.refl _) (Rn.s rfl Yv.as (Rn.nil)) ?_)
  refine Wp.seq (Wp.seq (Wp.reads (is := [0]) (Keep.refl _) (Rn.s rfl Yv.as (Rn.nil)) ?_))
  refine Wp.block ?_
  refine Wp.loop (α := (Option Addr × Nat) × (Nat × Bs)) (fun x ρ ds w' => ds = [] ∧ (x.2.1 ≤ s.length ∨ x.2.1 = 1) ∧ 1 ≤ x.2.1 ∧ x.2.2.length ≤ x.2.1 ∧ (s ≠ [] → readQ (s.drop x.2.1) x.2.1 x.2.2 = quoteR s) ∧
    St w [] w' [Ch.row ByE 5 x.1.1 x.1.2 x.2.2] ∧ Sub [(0, S s), (5, .slice x.1.1 x.2.2.length x.1.2), (6, .int .i64 x.2.1)] ρ) (fun x => s.length - x.2.1) ((none, 0), (1, []))
    ⟨rfl, .inr rfl, by simp, by simp, fun h => by rw [quoteR, if_neg h]; rfl, (St.init w).nilrow _ _, rfl, rfl, rfl, trivial⟩ ?_
  rintro ⟨⟨A, c⟩, k, acc⟩ ρ ds w' ⟨rfl, h1, h2, h3, h4, hst, hs⟩
  simp only at h1 h2 h3 h4 hst hs
  refine Wp.forget _ ?_ hs
  refine Wp.seq (Wp.seq (Wp.reads (is := [0, 1, 2, 3]) (Keep.refl _) (Rn.s rfl Yv.mv (Rn.s rfl Yv.mv (Rn.s rfl Yv.len_s (Rn.s rfl (Yv.cmp _ rfl) (Rn.nil))))) ?_))
  refine Wp.cond rfl (fun hlt => ?_) (fun hlt => ?_)
  · have hlt := of_decide_eq_true hlt
    have hne : s ≠ [] := by rintro rfl; simp at hlt; omega
    have hkl : k < s.length := by omega
    have hget : s[k]? = some s[k] := List.getElem?_eq_getElem hkl
    have hby := byt_of hget
    have hd : s.drop k = s[k] :: s.drop (k + 1) := List.drop_eq_getElem_cons hkl
    have h4 := h4 hne
    rw [hd, readQ_cons] at h4
    refine Wp.skip (Wp.seq (Wp.block (Wp.seq (Wp.reads (is := [0, 1, 2]) (Keep.refl _) (Rn.s rfl Yv.mv (Rn.s rfl Yv.mv (Rn.s rfl (Yv.ix (by omega) (by omega)) (Rn.nil)))) ?_))))
    refine Wp.block (Wp.seq (Wp.reads (is := [0, 1]) (Keep.refl _) (Rn.s rfl (Yv.cmp _ rfl) (Rn.s rfl Yv.as (Rn.nil))) ?_))
    refine Wp.cond rfl (fun h5 => ?_) (fun h5 => ?_)
    · have h5 := eq_of_beq h5
      refine Wp.seq (Wp.reads (is := [0, 1, 2, 3, 4, 5, 6]) (Keep.refl _) (Rn.s rfl Yv.mv (Rn.s rfl (Yv.bstr (hst.rd 0)) (Rn.s rfl Yv.mv (Rn.s rfl (Yv.add (by unfold inI; omega)) (Rn.s rfl Yv.as (Rn.s rfl Yv.as (Rn.s rfl Yv.as (Rn.nil)))))))) ?_)
      refine Wp.ret (Fin.ret (Res.three rfl rfl rfl rfl) ⟨?_, hst.keep⟩)
      rw [← h4, if_pos (by omega)]
    have h5 := ne_of_beq_false h5
    rw [if_neg (by omega)] at h4
    refine Wp.seq (Wp.reads (is := [0, 1]) (Keep.refl _) (Rn.s rfl (Yv.cmp _ rfl) (Rn.s rfl Yv.as (Rn.nil))) ?_)
    refine Wp.cond rfl (fun h6 => ?_) (fun h6 => ?_)
    · have h6 := eq_of_beq h6
      rw [if_pos (by omega)] at h4
      obtain ⟨T, hT⟩ : ∃ T, T = s.drop ((k : Int) + 1).toNat := ⟨_, rfl⟩
      have hT' : s.drop (k + 1) = T := by rw [hT]; congr 1
      rw [hT'] at h4
      have he := escS_bd T
      have hTl : T.length = s.length - (k + 1) := by rw [← hT', List.length_drop]
      refine Wp.seq (Wp.regionL (l := [0, 1, 2, 3, 4, 5, 6, 7, 8, 9]) (WO.rd (is := [0, 1, 2, 3]) (js := [4, 5, 6, 7, 8, 9]) (Keep.refl _) (Rn.s rfl Yv.mv (Rn.s rfl Yv.mv (Rn.s rfl (Yv.add (by unfold inI; omega)) (Rn.s rfl (Yv.ss_f (by omega) (by omega)) (Rn.nil))))) (WO.cv rfl (escape_cv' (s.drop ((k : Int) + 1).toNat) w') (Keep.refl _) (FnOk.of Tryd.func114) (fun w1 k1 => WO.rd (is := [5, 6, 7, 8, 9]) (js := []) ((Keep.refl _).trans k1) (Rn.s rfl Yv.mv (Rn.s rfl Yv.ex (Rn.s rfl Yv.ex (Rn.s rfl Yv.as (Rn.s rfl Yv.as (Rn.nil)))))) (WO.done ?_)))))
      rw [← hT]
      refine Wp.seq (Wp.seq (Wp.reads (is := [0, 1]) (Keep.refl _) (Rn.s rfl Yv.mv (Rn.s rfl (Yv.cmp _ rfl) (Rn.nil))) ?_))
      refine Wp.cond rfl (fun h7 => ?_) (fun h7 => ?_)
      · have h7 := eq_of_beq h7
        refine Wp.seq (Wp.reads (is := [0, 1, 2, 3]) (Keep.refl _) (Rn.s rfl Yv.mv (Rn.s rfl Yv.as (Rn.s rfl Yv.as (Rn.s rfl Yv.as (Rn.nil))))) ?_)
        refine Wp.ret (Fin.ret (Res.three rfl rfl rfl rfl) ⟨?_, hst.keep.trans k1⟩)
        rw [← h4, if_pos h7]
        rfl
      · have h7 := ne_of_beq_false h7
        rw [if_neg h7] at h4
        have hst1 := hst.quiet k1
        refine Wp.skip (Wp.seq (Wp.regionL (l := [0, 1, 2, 3, 4]) (WO.rd (is := [0, 1]) (js := [2, 3, 4]) (Keep.refl _) (Rn.s rfl Yv.mv (Rn.s rfl Yv.mv (Rn.nil))) (WO.app ByE [escU T] rfl (fun _ => rfl) hst1 0 (.inl (by simp; omega)) (fun b1 A1 c1 w1 hs1 => WO.rd (is := [4]) (js := []) (Keep.refl _) (Rn.s rfl Yv.as (Rn.nil)) (WO.done ?_))))))
        refine Wp.reads (is := [0, 1, 2, 3]) (Keep.refl _) (Rn.s rfl Yv.mv (Rn.s rfl Yv.mv (Rn.s rfl (Yv.add (by unfold inI; omega)) (Rn.s rfl Yv.as (Rn.nil))))) ?_
        refine Wp.reads (is := [0, 1, 2]) (Keep.refl _) (Rn.s rfl Yv.mv (Rn.s rfl (Yv.add (by unfold inI; omega)) (Rn.s rfl Yv.as (Rn.nil)))) ?_
        refine ⟨((A1, c1), (k + 1 + (escS T).2.toNat, acc ++ [escU T])), ⟨rfl, ?_, ?_, ?_, ?_, hs1, rfl, rfl, ?_, trivial⟩, ?_⟩
        · simp only; omega
        · simp only; omega
        · simp; omega
        · intro _
          simp only
          have hdd : s.drop (k + 1 + (escS T).2.toNat) = T.drop (escS T).2.toNat := by rw [← List.drop_drop, hT']
          rw [← h4, hdd]
          congr 1
          omega
        · show some (Value.int .i64 ((k : Int) + (escS T).2 + 1)) = _
          congr 2
          simp only
          omega
        · simp only; omega
    · have h6 := ne_of_beq_false h6
      rw [if_neg (by omega)] at h4
      refine Wp.regionL (l := [0, 1, 2, 3, 4, 5, 6]) (WO.rd (is := [0, 1, 2, 3]) (js := [4, 5, 6]) (Keep.refl _) (Rn.s rfl Yv.mv (Rn.s rfl Yv.mv (Rn.s rfl Yv.mv (Rn.s rfl (Yv.ix (by omega) (by omega)) (Rn.nil))))) (WO.app ByE [nth s (k : Int)] rfl (fun _ => rfl) hst 0 (.inl (by simp; omega)) (fun b1 A1 c1 w1 hs1 => WO.rd (is := [6]) (js := []) (Keep.refl _) (Rn.s rfl Yv.as (Rn.nil)) (WO.done ?_))))
      refine Wp.reads (is := [0, 1, 2]) (Keep.refl _) (Rn.s rfl Yv.mv (Rn.s rfl (Yv.add (by unfold inI; omega)) (Rn.s rfl Yv.as (Rn.nil)))) ?_
      refine ⟨((A1, c1), (k + 1, acc ++ [nth s (k : Int)])), ⟨rfl, ?_, ?_, ?_, ?_, hs1, rfl, rfl, rfl, trivial⟩, ?_⟩
      · simp only; omega
      · simp only; omega
      · simp; omega
      · intro _
        simp only
        rw [nth_of hget, ← h4]
        congr 1
      · simp only; omega
  · have hlt := of_decide_eq_false hlt
    refine Wp.exit (Wp.seq (Wp.reads (is := [0, 1, 2, 3, 4]) (Keep.refl _) (Rn.s rfl Yv.mv (Rn.s rfl Yv.len_s (Rn.s rfl Yv.as (Rn.s rfl Yv.as (Rn.s rfl Yv.as (Rn.nil)))))) ?_))
    refine Wp.ret (Fin.ret (Res.three rfl rfl rfl rfl) ⟨?_, hst.keep⟩)
    by_cases hne : s = []
    · subst hne; simp [quoteR]; rfl
    · rw [← h4 hne, List.drop_eq_nil_of_le (by omega), readQ_nil]
      have : k = s.length := by
        rcases h1 with h1 | h1
        · omega
        · have := List.length_pos_iff.2 hne; omega
      rw [this]
      rfl
theorem readQ_bd : ∀ (k : Nat) (t : Bs) (n : Int) (acc : Bs), t.length ≤ k → n ≤ (readQ t n acc).2.1 ∧ (readQ t n acc).2.1 ≤ n + t.length ∧ (readQ t n acc).1.length ≤ acc.length + t.length
  | k, [], n, acc, _ => by rw [readQ_nil]; simp
  | 0, b :: t, n, acc, h => by simp at h
  | k + 1, b :: t, n, acc, h => by
    simp only [List.length_cons] at h
    have he := escS_bd t
    rw [readQ_cons]
    split
    · simp; omega
    split
    · split
      · simp; omega
      · have := readQ_bd k (t.drop (escS t).2.toNat) (n + 1 + (escS t).2) (acc ++ [escU t]) (by simp; omega)
        simp only [List.length_drop, List.length_append, List.length_cons, List.length_nil] at this ⊢
        omega
    · have := readQ_bd k t (n + 1) (acc ++ [b]) (by omega)
      simp only [List.length_append, List.length_cons, List.length_nil] at this ⊢
      omega
theorem quoteR_bd (s : Bs) : 0 ≤ (quoteR s).2.1 ∧ (quoteR s).2.1 ≤ s.length ∧ (quoteR s).1.length ≤ s.length := by
  unfold quoteR
  split
  · simp
  · rename_i h
    have hp : 0 < s.length := List.length_pos_iff.2 h
    have := readQ_bd _ (s.drop 1) 1 [] (Nat.le_refl _)
    simp only [List.length_drop, List.length_nil] at this
    omega
end Go.Proofs.YtgjhbapbomdpbaaDoor.C
