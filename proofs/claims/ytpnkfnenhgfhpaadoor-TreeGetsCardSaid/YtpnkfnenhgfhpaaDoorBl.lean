/- The document's trees: unlike and Is. -/
import Derived.Test.YtpnkfnenhgfhpaaDoorBk
set_option linter.unusedVariables false
set_option linter.unusedSimpArgs false
set_option maxRecDepth 10000
namespace Go.Proofs.YtpnkfnenhgfhpaaDoor.C
open Go.RowKit Go.Proofs.YtpnkfnenhgfhpaaDoor.Sh
def distI (t : List Nd) : List Nat → Bool
  | [] => true
  | x :: r => !(r.any fun y => (nth t (x : Int)).key == (nth t (y : Int)).key) && distI t r
theorem orN_nonneg {o : Option Nat} (h : 0 ≤ orN o) : ∃ n, o = some n := by
  cases o with
  | none => exact absurd h (by decide)
  | some n => exact ⟨n, rfl⟩
theorem unlike_cv (A : Option Addr) (c : Nat) (t : List Nd) (i : Nat) (w0 : World) (hr : Rd NdE w0 A t) (hi : i < t.length) (hl : t.length < 4000000000000000000) (hd : -1000000 ≤ (nth t (i : Int)).depth ∧ (nth t (i : Int)).depth ≤ 1000000)
    (hf : i + 1 < t.length → (nth t ((i + 1 : Nat) : Int)).depth ≤ (nth t (i : Int)).depth + 1) :
    Cv Tryd.prog 66 [.slice A t.length c, .int .i64 i] (.bool (distI t (partsS t i))) w0 := by
  intro w hk
  have hr := hr.keep hk
  have hfirst := rnext_cv A c t i i w hr hi hi hl hd
  rw [next_first hf] at hfirst
  have hnx : ∀ (j x : Nat), (partsS t i)[j]? = some x → ∀ w', Rd NdE w' A t → Cv Tryd.prog 92 [.slice A t.length c, .int .i64 i, .int .i64 x] (.int .i64 (orN (partsS t i)[j + 1]?)) w' := by
    intro j x hx w' hr'
    have hm := partsS_mem hi x (List.mem_of_getElem? hx)
    have := rnext_cv A c t i x w' hr' hi hm.2 hl hd
    rw [next_more hi hx] at this
    exact this
  have hmem : ∀ (j x : Nat), (partsS t i)[j]? = some x → x < t.length := fun j x hx => (partsS_mem hi x (List.mem_of_getElem? hx)).2
  obtain ⟨ps, hps⟩ : ∃ ps, ps = partsS t i := ⟨_, rfl⟩
  rw [← hps] at hfirst hnx hmem ⊢
  obtain ⟨G, hG⟩ : ∃ G, G = distI t ps := ⟨_, rfl⟩
  rw [← hG]
  refine calls_of_Wp (vs := [_, _]) Tryd.func66 ?_
  refine Wp.seq (Wp.reads (is := [0]) (Keep.refl _) (Rn.s rfl Yv.as (Rn.nil)) ?_)
  refine Wp.seq (Wp.seq (Wp.regionL (l := [0, 1, 2, 3, 4]) (WO.rd (is := [0, 1, 2]) (js := [3, 4]) (Keep.refl _) (Rn.s rfl Yv.mv (Rn.s rfl Yv.mv (Rn.s rfl Yv.mv (Rn.nil)))) (WO.cv rfl hfirst (Keep.refl _) (FnOk.of Tryd.func92) (fun wa1 ka1 => WO.rd (is := [4]) (js := []) ((Keep.refl _).trans ka1) (Rn.s rfl Yv.as (Rn.nil)) (WO.done ?_))))))
  refine Wp.block ?_
  refine Wp.loop (α := Nat) (fun j ρ ds w' => ds = [] ∧ Keep w w' ∧ distI t (ps.drop j) = G ∧ j ≤ ps.length ∧ Sub [(0, .slice A t.length c), (1, .int .i64 i), (5, .int .i64 (orN ps[j]?))] ρ) (fun j => ps.length - j) 0 ⟨rfl, ka1, hG.symm, Nat.zero_le _, rfl, rfl, rfl, trivial⟩ ?_
  rintro j ρ ds w' ⟨rfl, hk, hd1, hj, hs⟩
  refine Wp.forget _ ?_ hs
  have hr' := hr.keep hk
  refine Wp.seq (Wp.seq (Wp.reads (is := [0, 1]) (Keep.refl _) (Rn.s rfl Yv.mv (Rn.s rfl (Yv.cmp _ rfl) (Rn.nil))) ?_))
  refine Wp.cond rfl (fun h => ?_) (fun h => ?_)
  · obtain ⟨x, hx⟩ := orN_nonneg (of_decide_eq_true h)
    have hjl := (List.getElem?_eq_some_iff.1 hx).1
    have hxl := hmem j x hx
    rw [List.drop_eq_getElem_cons hjl, (List.getElem?_eq_some_iff.1 hx).2, distI] at hd1
    rw [hx]
    refine Wp.skip (Wp.seq (Wp.block ?_))
    refine Wp.seq (Wp.regionL (l := [0, 1, 2, 3, 4]) (WO.rd (is := [0, 1, 2]) (js := [3, 4]) (Keep.refl _) (Rn.s rfl Yv.mv (Rn.s rfl Yv.mv (Rn.s rfl Yv.mv (Rn.nil)))) (WO.cv rfl (hnx j x hx w' hr') (Keep.refl _) (FnOk.of Tryd.func92) (fun wb1 kb1 => WO.rd (is := [4]) (js := []) ((Keep.refl _).trans kb1) (Rn.s rfl Yv.as (Rn.nil)) (WO.done ?_)))))
    refine Wp.block ?_
    refine Wp.loop (α := Nat) (fun m ρ ds w'' => ds = [] ∧ Keep w w'' ∧ (ps.drop m).any (fun y => (nth t (x : Int)).key == (nth t (y : Int)).key) = (ps.drop (j + 1)).any (fun y => (nth t (x : Int)).key == (nth t (y : Int)).key) ∧ m ≤ ps.length ∧
      Sub [(0, .slice A t.length c), (1, .int .i64 i), (5, .int .i64 (x : Int)), (6, .int .i64 (orN ps[m]?))] ρ) (fun m => ps.length - m) (j + 1) ⟨rfl, hk.trans kb1, rfl, hjl, rfl, rfl, rfl, rfl, trivial⟩ ?_
    rintro m ρ ds w'' ⟨rfl, hk2, hany, hm, hs⟩
    refine Wp.forget _ ?_ hs
    have hr2 := hr.keep hk2
    refine Wp.seq (Wp.seq (Wp.reads (is := [0, 1]) (Keep.refl _) (Rn.s rfl Yv.mv (Rn.s rfl (Yv.cmp _ rfl) (Rn.nil))) ?_))
    refine Wp.cond rfl (fun h2 => ?_) (fun h2 => ?_)
    · obtain ⟨y, hy⟩ := orN_nonneg (of_decide_eq_true h2)
      have hml := (List.getElem?_eq_some_iff.1 hy).1
      have hyl := hmem m y hy
      rw [List.drop_eq_getElem_cons hml, (List.getElem?_eq_some_iff.1 hy).2, List.any_cons] at hany
      rw [hy]
      refine Wp.skip (Wp.seq (Wp.block ?_))
      refine Wp.seq (Wp.readsD (is := [0, 1, 2, 3, 4, 5, 6, 7, 8, 9, 10]) mixed (fun _ _ _ _ _ h => h) (Keep.refl _) (Rn.s rfl Yv.mv (Rn.s rfl Yv.mv (Rn.s rfl (Yv.ia (e := 32) hr2 (j := x) (by omega) (by omega)) (Rn.s rfl (Yv.fa (off := 2)) (Rn.s rfl (Yv.ld (hr2.ld (i := x) 2 (by omega) (by omega))) (Rn.s rfl Yv.mv (Rn.s rfl Yv.mv (Rn.s rfl (Yv.ia (e := 32) hr2 (j := y) (by omega) (by omega)) (Rn.s rfl (Yv.fa (off := 2)) (Rn.s rfl (Yv.ld (hr2.ld (i := y) 2 (by omega) (by omega))) (Rn.s rfl (Yv.scm _ rfl) (Rn.nil)))))))))))) ?_)
      refine Wp.cond rfl (fun h3 => ?_) (fun h3 => ?_)
      · refine Wp.seq (Wp.reads (is := [0]) (Keep.refl _) (Rn.s rfl Yv.as (Rn.nil)) ?_)
        refine Wp.ret (Fin.ret (Res.one rfl rfl) ⟨?_, hk2.trans (Keep.drew _)⟩)
        rw [h3, Bool.true_or] at hany
        rw [← hd1, ← hany]
        rfl
      · rw [h3, Bool.false_or] at hany
        refine Wp.skip ?_
        refine Wp.regionL (l := [0, 1, 2, 3, 4]) (WO.rd (is := [0, 1, 2]) (js := [3, 4]) (Keep.refl _) (Rn.s rfl Yv.mv (Rn.s rfl Yv.mv (Rn.s rfl Yv.mv (Rn.nil)))) (WO.cv rfl (hnx m y hy _ (hr2.keep (Keep.drew _))) (Keep.refl _) (FnOk.of Tryd.func92) (fun wu1 ku1 => WO.rd (is := [4]) (js := []) ((Keep.refl _).trans ku1) (Rn.s rfl Yv.as (Rn.nil)) (WO.done ?_))))
        exact ⟨m + 1, ⟨rfl, (hk2.trans (Keep.drew _)).trans ku1, hany, hml, rfl, rfl, rfl, rfl, trivial⟩, by omega⟩
    · have h2 := of_decide_eq_false h2
      have hn : ps[m]? = none := by
        cases hq : ps[m]? with
        | none => rfl
        | some y => rw [hq] at h2; exact (h2 (by simp [orN])).elim
      rw [List.drop_eq_nil_of_le (List.getElem?_eq_none_iff.1 hn), List.any_nil] at hany
      rw [← hany, Bool.not_false, Bool.true_and] at hd1
      refine Wp.exit ?_
      refine Wp.regionL (l := [0, 1, 2, 3, 4]) (WO.rd (is := [0, 1, 2]) (js := [3, 4]) (Keep.refl _) (Rn.s rfl Yv.mv (Rn.s rfl Yv.mv (Rn.s rfl Yv.mv (Rn.nil)))) (WO.cv rfl (hnx j x hx w'' hr2) (Keep.refl _) (FnOk.of Tryd.func92) (fun wv1 kv1 => WO.rd (is := [4]) (js := []) ((Keep.refl _).trans kv1) (Rn.s rfl Yv.as (Rn.nil)) (WO.done ?_))))
      exact ⟨j + 1, ⟨rfl, hk2.trans kv1, hd1, hjl, rfl, rfl, rfl, trivial⟩, by omega⟩
  · have h := of_decide_eq_false h
    have hn : ps[j]? = none := by
      cases hq : ps[j]? with
      | none => rfl
      | some y => rw [hq] at h; exact (h (by simp [orN])).elim
    rw [List.drop_eq_nil_of_le (List.getElem?_eq_none_iff.1 hn), distI] at hd1
    refine Wp.exit ?_
    refine Wp.seq (Wp.reads (is := [0]) (Keep.refl _) (Rn.s rfl Yv.as (Rn.nil)) ?_)
    exact Wp.ret (Fin.ret (Res.one rfl rfl) ⟨by rw [← hd1], hk⟩)
end Go.Proofs.YtpnkfnenhgfhpaaDoor.C
