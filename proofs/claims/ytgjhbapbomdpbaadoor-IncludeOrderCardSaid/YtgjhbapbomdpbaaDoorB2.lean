/- A text's lines: what text.Lines computes. -/
import Derived.Test.YtgjhbapbomdpbaaDoorB1
import Derived.Test.YtgjhbapbomdpbaaDoorShN
set_option linter.unusedVariables false
set_option linter.unusedSimpArgs false
set_option maxRecDepth 10000
namespace Go.Proofs.YtgjhbapbomdpbaaDoor.C
open Go.RowKit Go.Proofs.YtgjhbapbomdpbaaDoor.Sh
theorem mixedN : Tryd.prog.follows .mixedOrders = true := mixed
/-! ### the lines as they are told -/
theorem cut_rest_le (s p : Bs) : (Lib.cut s p).2.1.length ≤ s.length := by
  unfold Lib.cut
  split <;> simp
theorem cut_rest_lt (s : Bs) (c : UInt8) (h : s ≠ []) : (Lib.cut s [c]).2.1.length < s.length := by
  have hp := List.length_pos_iff.2 h
  unfold Lib.cut
  split
  · simp; omega
  · simp; omega
theorem cut_fst_le (s p : Bs) : (Lib.cut s p).1.length ≤ s.length := by
  unfold Lib.cut
  split <;> simp
  omega
theorem cut_nil (c : UInt8) : Lib.cut [] [c] = ([], [], false) := by
  unfold Lib.cut
  rw [if_neg]
  show ¬ 0 ≤ Lib.index [] [c]
  simp [Lib.index]
def rawFrom (n : Nat) (s : Bs) : List (Nat × Bs) := if h : s = [] then [] else (n, (Lib.cut s [10]).1) :: rawFrom (n + 1) (Lib.cut s [10]).2.1
termination_by s.length
decreasing_by exact cut_rest_lt s 10 h
def restK (s : Bs) : Nat → Bs
  | 0 => s
  | k + 1 => (Lib.cut (restK s k) [10]).2.1
theorem restK_le (s : Bs) : ∀ k, (restK s k).length ≤ s.length
  | 0 => Nat.le_refl _
  | k + 1 => Nat.le_trans (cut_rest_le _ _) (restK_le s k)
theorem restK_succ' (s : Bs) : ∀ k, restK s (k + 1) = restK (Lib.cut s [10]).2.1 k
  | 0 => rfl
  | k + 1 => by
    have := restK_succ' s k
    show (Lib.cut (restK s (k + 1)) [10]).2.1 = (Lib.cut (restK (Lib.cut s [10]).2.1 k) [10]).2.1
    rw [this]
theorem restK_nil : ∀ k, restK [] k = []
  | 0 => rfl
  | k + 1 => by show (Lib.cut (restK [] k) [10]).2.1 = []; rw [restK_nil k, cut_nil]
theorem raw_get : ∀ (k n : Nat) (s : Bs), (rawFrom n s)[k]? = if restK s k = [] then none else some (n + k, (Lib.cut (restK s k) [10]).1)
  | 0, n, s => by
    rw [rawFrom]
    split
    · rename_i h; simp [restK, h]
    · rename_i h; simp [restK, h]
  | k + 1, n, s => by
    rw [rawFrom]
    split
    · rename_i h; subst h; rw [restK_nil]; simp
    · rename_i h
      rw [List.getElem?_cons_succ, raw_get k (n + 1) _, restK_succ' s k]
      split
      · rfl
      · congr 2
        omega
theorem raw_end (n : Nat) (s : Bs) (k : Nat) (h : k ≤ (rawFrom n s).length) : restK s k = [] ↔ k = (rawFrom n s).length := by
  have := raw_get k n s
  constructor
  · intro e
    rw [if_pos e] at this
    have := List.getElem?_eq_none_iff.1 this
    omega
  · intro e
    by_cases hr : restK s k = []
    · exact hr
    · rw [if_neg hr] at this
      have := (List.getElem?_eq_some_iff.1 this).1
      omega
theorem raw_len : ∀ (m n : Nat) (s : Bs), s.length ≤ m → (rawFrom n s).length ≤ s.length
  | 0, n, s, h => by
    have : s = [] := List.eq_nil_of_length_eq_zero (by omega)
    subst this
    rw [rawFrom]
    simp
  | m + 1, n, s, h => by
    rw [rawFrom]
    split
    · simp
    · rename_i hs
      have h1 := cut_rest_lt s 10 hs
      have := raw_len m (n + 1) (Lib.cut s [10]).2.1 (by omega)
      simp only [List.length_cons]
      omega
/-! ### the iterator -/
theorem each_tells (b : Nat) (s : Bs) (hl : s.length < 4294967281) :
    TellsO Tryd.prog 69 [.pointer (some ⟨b, 0, none⟩)] (fun x : Nat × Bs => [.int .i64 x.1, S x.2]) (rawFrom 1 s) (fun k => Ch.cells b 9 [S (restK s k)]) Gm := by
  intro l J Jx W hJ hJx hF hown hyield h0
  have hrl := raw_len _ 1 s (Nat.le_refl _)
  refine calls_of_Wp (vs := [_, _]) Tryd.func69 ?_
  refine Wp.seq (Wp.reads (is := [0]) (Keep.refl _) (Rn.s rfl Yv.as (Rn.nil)) ?_)
  refine Wp.block ?_
  refine Wp.loop (α := Nat) (fun k ρ ds w' => ds = [] ∧ k ≤ (rawFrom 1 s).length ∧ J k k w' ∧ Sub [(0, .func (.yield l) #[] #[]), (1, .pointer (some ⟨b, 0, none⟩)), (3, .int .i64 ((k : Int) + 1))] ρ) (fun k => (rawFrom 1 s).length - k) 0
    ⟨rfl, Nat.zero_le _, h0, rfl, rfl, rfl, trivial⟩ ?_
  rintro k ρ ds w' ⟨rfl, hk, hj, hs⟩
  refine Wp.forget _ ?_ hs
  obtain ⟨hok, hbl, -⟩ := hown k k w' hj
  have hc : Cells w' b [S (restK s k)] := fun j v hv => cells_cell (T := 9) hok j v hv
  refine Wp.seq (Wp.seq (Wp.reads (is := [0, 1]) (Keep.refl _) (Rn.s rfl (Yv.ld (hc.at_ 0)) (Rn.s rfl (Yv.scm _ rfl) (Rn.nil))) ?_))
  refine Wp.cond rfl (fun h => ?_) (fun h => ?_)
  · have h : restK s k ≠ [] := by simpa using h
    have hx := raw_get k 1 s
    rw [if_neg h] at hx
    have hkl : k < (rawFrom 1 s).length := (List.getElem?_eq_some_iff.1 hx).1
    have hle := restK_le s k
    refine Wp.skip (Wp.seq (Wp.block ?_))
    refine Wp.seq (Wp.regionL (l := [0, 1, 2, 3, 4, 5, 6, 7, 8]) (WO.rd (is := [0]) (js := [1, 2, 3, 4, 5, 6, 7, 8]) (Keep.refl _) (Rn.s rfl (Yv.ld (hc.at_ 0)) (Rn.nil)) (WO.cv rfl (cut_cv (restK s k) [10] (by omega) _ (hF _ _ _ hj)) (Keep.refl _) (FnOk.of Tryd.func70) (fun wa1 ka1 => WO.rd (is := [2, 3, 4, 5, 6, 7, 8]) (js := []) ((Keep.refl _).trans ka1) (Rn.s rfl Yv.mv (Rn.s rfl Yv.ex (Rn.s rfl Yv.ex (Rn.s rfl Yv.ex (Rn.s rfl Yv.as (Rn.s rfl Yv.as (Rn.s rfl Yv.as (Rn.nil)))))))) (WO.done ?_)))))
    have hj1 := hJ _ _ _ _ ka1 hj
    have hy : YieldTo Tryd.prog l [.int .i64 ((k : Int) + 1), S (Lib.cut (restK s k) [10]).1].toArray wa1 fun e W' => (e = .returned (.bool true) ∧ J (k + 1) k W') ∨ (e = .returned (.bool false) ∧ Jx k W') := by
      have := hyield k _ wa1 hx hj1
      simp only [show ((1 + k : Nat) : Int) = (k : Int) + 1 by omega] at this
      exact this
    refine Wp.seq (Wp.seq (Wp.regionL (l := [0, 1, 2, 3, 4]) (WO.rd (is := [0, 1, 2]) (js := [3, 4]) (Keep.refl _) (Rn.s rfl Yv.mv (Rn.s rfl Yv.mv (Rn.s rfl Yv.mv (Rn.nil)))) (WO.act (hc := rfl) (he := Ef.yield hy ?_)))))
    rintro e w2 (⟨rfl, hj2⟩ | ⟨rfl, hx2⟩)
    · refine WO.rd (is := [4]) (js := []) (Keep.refl _) (Rn.s rfl Yv.not (Rn.nil)) (WO.done ?_)
      refine Wp.cond_f rfl (Wp.skip ?_)
      obtain ⟨hok2, hbl2, hup⟩ := hown (k + 1) k w2 hj2
      have hst := St.own (M := [b]) hok2 (by intro x hx; exact ⟨hx, hbl2 x hx⟩)
      refine Wp.regionL (l := [0, 1]) (WO.rd (is := [0]) (js := [1]) (Keep.refl _) (Rn.s rfl Yv.mv (Rn.nil)) (WO.act (hc := rfl) (he := Ef.store hst 0 (fun wc1 hsc1 => WO.done ?_))))
      have hst2 : St w2 [b] wc1 [Ch.cells b 9 [S (restK s (k + 1))]] := hsc1
      have hj3 := hup (k + 1) wc1 hst2.chg (hst2.at_ 0)
      refine Wp.reads (is := [0, 1, 2]) (Keep.refl _) (Rn.s rfl Yv.mv (Rn.s rfl (Yv.add (by unfold inI; omega)) (Rn.s rfl Yv.as (Rn.nil)))) ?_
      exact ⟨k + 1, ⟨rfl, hkl, hj3, rfl, rfl, by rw [show (((k + 1 : Nat) : Int) + 1) = (k : Int) + 1 + 1 by omega]; rfl, trivial⟩, by omega⟩
    · refine WO.rd (is := [4]) (js := []) (Keep.refl _) (Rn.s rfl Yv.not (Rn.nil)) (WO.done ?_)
      refine Wp.cond_t rfl ?_
      exact Wp.ret (Fin.ret (Res.none rfl) ⟨⟨_, rfl⟩, .inr ⟨k, hx2⟩⟩)
  · have h : restK s k = [] := by simpa using h
    have he := (raw_end 1 s k hk).1 h
    refine Wp.exit ?_
    exact Fin.normal (Res.none rfl) ⟨⟨_, rfl⟩, .inl (by rw [← he]; exact hj)⟩
end Go.Proofs.YtgjhbapbomdpbaaDoor.C
