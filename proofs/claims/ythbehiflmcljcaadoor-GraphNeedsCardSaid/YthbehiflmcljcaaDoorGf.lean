/- Lists of numbers, and lists of them, as they lie in memory. May lists of preds be? -/
import Derived.Test.YthbehiflmcljcaaDoorGe
set_option linter.unusedVariables false
set_option linter.unusedSimpArgs false
set_option maxRecDepth 10000
namespace Go.Proofs.YthbehiflmcljcaaDoor.C
open Go.RowKit Go.Proofs.YthbehiflmcljcaaDoor.Sh
abbrev InE : Enc Int := ⟨1, fun x => [.int .i64 x], fun _ => rfl⟩
/-- a list as a slice: where it lies, its room, its numbers -/
abbrev Sl := Option Addr × Nat × Is
abbrev ShE : Enc Sl := ⟨1, fun x => [.slice x.1 x.2.2.length x.2.1], fun _ => rfl⟩
abbrev pl (ls : List Sl) : List Is := ls.map (·.2.2)
theorem nth_pl (ls : List Sl) (i : Int) : nth (pl ls) i = (nth ls i).2.2 := by
  unfold nth
  rw [List.getD_eq_getElem?_getD, List.getD_eq_getElem?_getD, List.getElem?_map]
  cases ls[i.toNat]? <;> rfl
theorem nth_mem' {α : Type} [Inhabited α] {xs : List α} {k : Nat} (h : k < xs.length) : nth xs (k : Int) ∈ xs := List.mem_of_getElem? (nth_get (by omega) (by omega) : xs[(k : Int).toNat]? = some (nth xs (k : Int)))
structure LsAt (w : World) (A : Option Addr) (ls : List Sl) : Prop where
  rd : Rd ShE w A ls
  each : ∀ x ∈ ls, Rd InE w x.1 x.2.2
theorem LsAt.keep {w w' : World} {A : Option Addr} {ls : List Sl} (h : LsAt w A ls) (k : Keep w w') : LsAt w' A ls := ⟨h.rd.keep k, fun x hx => (h.each x hx).keep k⟩
theorem LsAt.at_ {w : World} {A : Option Addr} {ls : List Sl} (h : LsAt w A ls) {k : Nat} (hk : k < ls.length) : Rd InE w (nth ls (k : Int)).1 (nth ls (k : Int)).2.2 := h.each _ (nth_mem' hk)
theorem may_cv (A : Option Addr) (n c : Nat) (ls : List Sl) (w0 : World) (h : LsAt w0 A ls) (hn : n = ls.length) (hl : ls.length ≤ 5864062014805) (hb : ∀ x ∈ ls, x.2.2.length ≤ 17592186044416) : Cv Tryd.prog 25 [.slice A n c] (.bool (decide (formS (pl ls)))) w0 := by
  subst hn
  intro w hk
  have h := h.keep hk
  have hpl : (pl ls).length = ls.length := List.length_map ..
  refine calls_of_Wp (vs := [_]) Tryd.func25 ?_
  refine Wp.seq (Wp.reads (is := [0]) (Keep.refl _) (Rn.s rfl Yv.as (Rn.nil)) ?_)
  refine Wp.seq (Wp.seq (Wp.reads (is := [0, 1, 2]) (Keep.refl _) (Rn.s rfl Yv.mv (Rn.s rfl (Yv.len_v (e := 23) (m := 1)) (Rn.s rfl Yv.mv (Rn.nil)))) ?_))
  refine Wp.block ?_
  refine Wp.loop (α := Nat) (fun k ρ ds w' => ds = [] ∧ Keep w w' ∧ k ≤ ls.length ∧ (∀ i, i < k → formL (pl ls).length (nth (pl ls) (i : Int))) ∧ Sub [(0, .slice A ls.length c), (7, .slice A ls.length c), (8, .int .i64 (ls.length : Int)), (9, .int .i64 (k : Int))] ρ) (fun k => ls.length - k) 0
    ⟨rfl, Keep.refl _, by omega, fun i hi => absurd hi (Nat.not_lt_zero i), rfl, rfl, rfl, rfl, trivial⟩ ?_
  rintro k ρ ds w1 ⟨rfl, hk1, hle, hall, hs⟩
  refine Wp.forget _ ?_ hs
  clear hs ρ
  have h1 := h.keep hk1
  refine Wp.seq (Wp.reads (is := [0]) (Keep.refl _) (Rn.s rfl (Yv.cmp _ rfl) (Rn.nil)) ?_)
  refine Wp.seq (Wp.cond rfl (fun hlt => ?_) (fun hlt => ?_))
  · have hlt := of_decide_eq_true hlt
    have hkl : k < ls.length := by omega
    refine Wp.skip ?_
    refine Wp.seq (Wp.block ?_)
    refine Wp.seq (Wp.reads (is := [0, 1, 2]) (Keep.refl _) (Rn.s rfl (Yv.ia (e := 23) h1.rd (by omega) (by omega)) (Rn.s rfl (Yv.ld (h1.rd.ld 0 (by omega) (by omega))) (Rn.s rfl Yv.as (Rn.nil)))) ?_)
    have hx := h1.at_ hkl
    have hxl := hb _ (nth_mem' hkl)
    have hnp : nth (pl ls) (k : Int) = (nth ls (k : Int)).2.2 := nth_pl ls _
    obtain ⟨x, hxe⟩ : ∃ x, nth ls (k : Int) = x := ⟨_, rfl⟩
    rw [hxe] at hx hxl hnp ⊢
    refine Wp.seq (Wp.reads (is := [0, 1, 2]) (Keep.refl _) (Rn.s rfl Yv.mv (Rn.s rfl (Yv.len_v (e := 3) (m := 1)) (Rn.s rfl Yv.mv (Rn.nil)))) ?_)
    refine Wp.block ?_
    refine Wp.loop (α := Nat) (fun j ρ ds w' => ds = [] ∧ Keep w w' ∧ j ≤ x.2.2.length ∧ (∀ m, m < j → 0 ≤ nth x.2.2 (m : Int) ∧ nth x.2.2 (m : Int) < (pl ls).length ∧ (0 < m → nth x.2.2 ((m : Int) - 1) < nth x.2.2 (m : Int))) ∧
      Sub [(0, .slice A ls.length c), (7, .slice A ls.length c), (8, .int .i64 (ls.length : Int)), (9, .int .i64 (k : Int)), (4, .slice x.1 x.2.2.length x.2.1), (13, .slice x.1 x.2.2.length x.2.1), (14, .int .i64 (x.2.2.length : Int)), (15, .int .i64 (j : Int))] ρ) (fun j => x.2.2.length - j) 0
      ⟨rfl, hk1, by omega, fun m hm => absurd hm (Nat.not_lt_zero m), rfl, rfl, rfl, rfl, rfl, rfl, rfl, rfl, trivial⟩ ?_
    rintro j ρ ds w2 ⟨rfl, hk2, hje, hjall, hs⟩
    refine Wp.forget _ ?_ hs
    clear hs ρ
    have hx2 : Rd InE w2 x.1 x.2.2 := by
      have := (h.keep hk2).at_ hkl
      rwa [hxe] at this
    refine Wp.seq (Wp.reads (is := [0]) (Keep.refl _) (Rn.s rfl (Yv.cmp _ rfl) (Rn.nil)) ?_)
    refine Wp.seq (Wp.cond rfl (fun hjl => ?_) (fun hjl => ?_))
    · have hjl := of_decide_eq_true hjl
      refine Wp.skip ?_
      refine Wp.seq (Wp.block ?_)
      refine Wp.seq (Wp.reads (is := [0, 1, 2, 3, 4]) (Keep.refl _) (Rn.s rfl Yv.mv (Rn.s rfl (Yv.ia (e := 3) hx2 (by omega) (by omega)) (Rn.s rfl (Yv.ld (hx2.ld 0 (by omega) (by omega))) (Rn.s rfl Yv.as (Rn.s rfl Yv.as (Rn.nil)))))) ?_)
      refine Wp.seq (Wp.reads (is := [0, 1, 2, 3, 4, 5, 6, 7, 8, 9, 10, 11, 12, 13, 14, 15, 16, 17, 18, 19, 20]) (Keep.refl _) (Rn.s rfl Yv.mv (Rn.s rfl (Yv.cmp _ rfl) (Rn.s rfl Yv.mv (Rn.or (is := [3, 4, 5, 6, 7]) (js := [8, 9, 10, 11, 12, 13, 14, 15, 16, 17, 18, 19, 20]) (t := 22) (d := 27) (hg := rfl) (hf := fun h2 => have h2 := of_decide_eq_false h2; Rn.s rfl Yv.mv (Rn.s rfl Yv.mv (Rn.s rfl (Yv.len_v (e := 23) (m := 1)) (Rn.s rfl (Yv.cmp _ rfl) (Rn.s rfl Yv.pick_f ((Rn.e 5 rfl rfl))))))) (ht := fun _ => Rn.no rfl (Rn.no rfl (Rn.no rfl (Rn.no rfl (Rn.s rfl Yv.pick_t (Rn.e 5 rfl rfl)))))) (k := Rn.s rfl Yv.mv (Rn.or (is := [9, 10, 11, 12, 13, 14, 15, 16, 17, 18, 19, 20]) (js := []) (t := 28) (d := 40) (hg := rfl) (hf := fun h8 => Rn.s rfl Yv.mv (Rn.s rfl (Yv.cmp _ rfl) (Rn.s rfl Yv.mv (Rn.and (is := [12, 13, 14, 15, 16, 17, 18, 19]) (js := [20]) (t := 31) (d := 39) (hg := rfl) (ht := fun h11 => have h11 := of_decide_eq_true h11; Rn.s rfl Yv.mv (Rn.s rfl Yv.mv (Rn.s rfl Yv.mv (Rn.s rfl (Yv.sub ⟨by omega, by omega⟩) (Rn.s rfl (Yv.ia (e := 3) hx2 (by omega) (by omega)) (Rn.s rfl (Yv.ld (hx2.ld 0 (by omega) (by omega))) (Rn.s rfl (Yv.cmp _ rfl) (Rn.s rfl Yv.pick_t ((Rn.e 8 rfl rfl)))))))))) (hf := fun _ => Rn.no rfl (Rn.no rfl (Rn.no rfl (Rn.no rfl (Rn.no rfl (Rn.no rfl (Rn.no rfl (Rn.s rfl Yv.pick_f (Rn.e 8 rfl rfl))))))))) (k := Rn.s rfl Yv.pick_f ((Rn.e 5 rfl rfl))))))) (ht := fun _ => Rn.no rfl (Rn.no rfl (Rn.no rfl (Rn.no rfl (Rn.no rfl (Rn.no rfl (Rn.no rfl (Rn.no rfl (Rn.no rfl (Rn.no rfl (Rn.no rfl (Rn.s rfl Yv.pick_t (Rn.e 12 rfl rfl))))))))))))) (k := Rn.nil))))))) ?_)
      refine Wp.cond rfl (fun hc => ?_) (fun hc => ?_)
      · refine Wp.seq (Wp.reads (is := [0]) (Keep.refl _) (Rn.s rfl Yv.as (Rn.nil)) ?_)
        refine Wp.ret (Fin.ret (Res.one rfl rfl) ⟨?_, hk2⟩)
        have hno : ¬ formS (pl ls) := by
          intro hf
          have := hf k (by rw [hpl]; exact hkl) j (by rw [hnp]; omega)
          rw [hnp, hpl] at this
          simp only [Bool.or_eq_true, Bool.and_eq_true, decide_eq_true_eq] at hc
          omega
        rw [decide_eq_false hno]
      · refine Wp.skip ?_
        refine Wp.reads (is := [0, 1]) (Keep.refl _) (Rn.s rfl (Yv.add (by unfold inI; omega)) (Rn.s rfl Yv.mv (Rn.nil))) ?_
        refine ⟨j + 1, ⟨rfl, hk2, by omega, fun m hm => ?_, rfl, rfl, rfl, rfl, rfl, rfl, rfl, rfl, trivial⟩, by omega⟩
        by_cases hmj : m = j
        · subst hmj
          rw [hpl]
          simp only [Bool.or_eq_false_iff, Bool.and_eq_false_iff, decide_eq_false_iff_not] at hc
          omega
        · exact hjall m (by omega)
    · have hjl := of_decide_eq_false hjl
      refine Wp.exit ?_
      refine Wp.reads (is := [0, 1]) (Keep.refl _) (Rn.s rfl (Yv.add (by unfold inI; omega)) (Rn.s rfl Yv.mv (Rn.nil))) ?_
      refine ⟨k + 1, ⟨rfl, hk2, by omega, fun i hi => ?_, rfl, rfl, rfl, rfl, trivial⟩, by omega⟩
      by_cases hik : i = k
      · subst hik
        intro m hm
        rw [hnp] at hm ⊢
        exact hjall m (by omega)
      · exact hall i (by omega)
  · have hlt := of_decide_eq_false hlt
    refine Wp.exit ?_
    refine Wp.seq (Wp.reads (is := [0]) (Keep.refl _) (Rn.s rfl Yv.as (Rn.nil)) ?_)
    refine Wp.ret (Fin.ret (Res.one rfl rfl) ⟨?_, hk1⟩)
    have : formS (pl ls) := fun i hi => hall i (by rw [hpl] at hi; omega)
    rw [decide_eq_true this]
end Go.Proofs.YthbehiflmcljcaaDoor.C
