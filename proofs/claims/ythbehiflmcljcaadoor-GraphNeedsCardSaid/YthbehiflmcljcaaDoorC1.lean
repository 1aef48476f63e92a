/- The texts' functions: what scalar and quote compute. -/
import Derived.Test.YthbehiflmcljcaaDoorShL
import Derived.Test.YthbehiflmcljcaaDoorProg
set_option linter.unusedVariables false
set_option linter.unusedSimpArgs false
set_option maxRecDepth 10000
namespace Go.Proofs.YthbehiflmcljcaaDoor.C
open Go.RowKit Go.Proofs.YthbehiflmcljcaaDoor.Sh
theorem mixed : Tryd.prog.follows .mixedOrders = true := by kernel_rfl
/-! ### scalar -/
def letterB (c : Int) : Bool := ((decide (97 ≤ c) && decide (c ≤ 122)) || (decide (65 ≤ c) && decide (c ≤ 90)) || (decide (48 ≤ c) && decide (c ≤ 57))) || (c == 95)
def namedB (c : Int) : Bool := (letterB c || c == 46) || c == 45
theorem letter_cv (c : Int) (w0 : World) : Cv Tryd.prog 69 [.int .u8 c] (.bool (letterB c)) w0 := by
  intro w hk
  refine calls_of_Wp (vs := [_]) Tryd.func69 ?_
  refine Wp.seq (Wp.reads (is := [0]) (Keep.refl _) (Rn.s rfl Yv.as (Rn.nil)) ?_)
  refine Wp.seq (Wp.reads (is := [0, 1, 2, 3, 4, 5, 6, 7, 8, 9, 10, 11, 12, 13, 14, 15, 16, 17, 18, 19, 20, 21, 22, 23, 24, 25, 26]) (Keep.refl _) (Rn.s rfl Yv.mv (Rn.s rfl (Yv.cmp _ rfl) (Rn.s rfl Yv.mv (Rn.and (is := [3, 4, 5]) (js := [6, 7, 8, 9, 10, 11, 12, 13, 14, 15, 16, 17, 18, 19, 20, 21, 22, 23, 24, 25, 26]) (t := 5) (d := 8) (hg := rfl) (ht := fun h2 => have h2 := of_decide_eq_true h2; Rn.s rfl Yv.mv (Rn.s rfl (Yv.cmp _ rfl) (Rn.s rfl Yv.pick_t ((Rn.e 3 rfl rfl))))) (hf := fun _ => Rn.no rfl (Rn.no rfl (Rn.s rfl Yv.pick_f (Rn.e 3 rfl rfl)))) (k := Rn.s rfl Yv.mv (Rn.or (is := [7, 8, 9, 10, 11, 12, 13]) (js := [14, 15, 16, 17, 18, 19, 20, 21, 22, 23, 24, 25, 26]) (t := 9) (d := 16) (hg := rfl) (hf := fun h6 => Rn.s rfl Yv.mv (Rn.s rfl (Yv.cmp _ rfl) (Rn.s rfl Yv.mv (Rn.and (is := [10, 11, 12]) (js := [13]) (t := 12) (d := 15) (hg := rfl) (ht := fun h9 => have h9 := of_decide_eq_true h9; Rn.s rfl Yv.mv (Rn.s rfl (Yv.cmp _ rfl) (Rn.s rfl Yv.pick_t ((Rn.e 3 rfl rfl))))) (hf := fun _ => Rn.no rfl (Rn.no rfl (Rn.s rfl Yv.pick_f (Rn.e 3 rfl rfl)))) (k := Rn.s rfl Yv.pick_f ((Rn.e 5 rfl rfl))))))) (ht := fun _ => Rn.no rfl (Rn.no rfl (Rn.no rfl (Rn.no rfl (Rn.no rfl (Rn.no rfl (Rn.s rfl Yv.pick_t (Rn.e 7 rfl rfl)))))))) (k := Rn.s rfl Yv.mv (Rn.or (is := [15, 16, 17, 18, 19, 20, 21]) (js := [22, 23, 24, 25, 26]) (t := 17) (d := 24) (hg := rfl) (hf := fun h14 => Rn.s rfl Yv.mv (Rn.s rfl (Yv.cmp _ rfl) (Rn.s rfl Yv.mv (Rn.and (is := [18, 19, 20]) (js := [21]) (t := 20) (d := 23) (hg := rfl) (ht := fun h17 => have h17 := of_decide_eq_true h17; Rn.s rfl Yv.mv (Rn.s rfl (Yv.cmp _ rfl) (Rn.s rfl Yv.pick_t ((Rn.e 3 rfl rfl))))) (hf := fun _ => Rn.no rfl (Rn.no rfl (Rn.s rfl Yv.pick_f (Rn.e 3 rfl rfl)))) (k := Rn.s rfl Yv.pick_f ((Rn.e 5 rfl rfl))))))) (ht := fun _ => Rn.no rfl (Rn.no rfl (Rn.no rfl (Rn.no rfl (Rn.no rfl (Rn.no rfl (Rn.s rfl Yv.pick_t (Rn.e 7 rfl rfl)))))))) (k := Rn.s rfl Yv.mv (Rn.or (is := [23, 24, 25]) (js := [26]) (t := 25) (d := 28) (hg := rfl) (hf := fun h22 => Rn.s rfl Yv.mv (Rn.s rfl (Yv.cmp _ rfl) (Rn.s rfl Yv.pick_f ((Rn.e 3 rfl rfl))))) (ht := fun _ => Rn.no rfl (Rn.no rfl (Rn.s rfl Yv.pick_t (Rn.e 3 rfl rfl)))) (k := Rn.s rfl Yv.as (Rn.nil)))))))))))) ?_)
  exact Wp.ret (Fin.ret (Res.one rfl rfl) ⟨rfl, Keep.refl _⟩)
theorem named_cv (c : Int) (w0 : World) : Cv Tryd.prog 65 [.int .u8 c] (.bool (namedB c)) w0 := by
  intro w hk
  refine calls_of_Wp (vs := [_]) Tryd.func65 ?_
  refine Wp.seq (Wp.reads (is := [0]) (Keep.refl _) (Rn.s rfl Yv.as (Rn.nil)) ?_)
  refine Wp.seq (Wp.regionL (l := [0, 1, 2, 3, 4, 5, 6, 7, 8, 9, 10]) (WO.rd (is := [0]) (js := [1, 2, 3, 4, 5, 6, 7, 8, 9, 10]) (Keep.refl _) (Rn.s rfl Yv.mv (Rn.nil)) (WO.cv rfl (letter_cv c w) (Keep.refl _) (FnOk.of Tryd.func69) (fun w1 k1 => WO.rd (is := [2, 3, 4, 5, 6, 7, 8, 9, 10]) (js := []) ((Keep.refl _).trans k1) (Rn.s rfl Yv.mv (Rn.or (is := [3, 4, 5]) (js := [6, 7, 8, 9, 10]) (t := 5) (d := 8) (hg := rfl) (hf := fun h2 => Rn.s rfl Yv.mv (Rn.s rfl (Yv.cmp _ rfl) (Rn.s rfl Yv.pick_f ((Rn.e 3 rfl rfl))))) (ht := fun _ => Rn.no rfl (Rn.no rfl (Rn.s rfl Yv.pick_t (Rn.e 3 rfl rfl)))) (k := Rn.s rfl Yv.mv (Rn.or (is := [7, 8, 9]) (js := [10]) (t := 9) (d := 12) (hg := rfl) (hf := fun h6 => Rn.s rfl Yv.mv (Rn.s rfl (Yv.cmp _ rfl) (Rn.s rfl Yv.pick_f ((Rn.e 3 rfl rfl))))) (ht := fun _ => Rn.no rfl (Rn.no rfl (Rn.s rfl Yv.pick_t (Rn.e 3 rfl rfl)))) (k := Rn.s rfl Yv.as (Rn.nil)))))) (WO.done ?_)))))
  exact Wp.ret (Fin.ret (Res.one rfl rfl) ⟨rfl, k1⟩)
def madeB (of : Int → Bool) (s : Bs) : Bool := !(s == [] || decide (64 < (s.length : Int))) && s.all (fun b => of b.toNat)
theorem made_cv (s : Bs) (f : FuncId) (of : Int → Bool) (w0 : World) (hf : FnOk Tryd.prog f) (hof : ∀ c w, Cv Tryd.prog f [.int .u8 c] (.bool (of c)) w) :
    Cv Tryd.prog 64 [S s, .func (.func f) #[] #[]] (.bool (madeB of s)) w0 := by
  intro w hk
  refine calls_of_Wp (vs := [_, _]) Tryd.func64 ?_
  refine Wp.seq (Wp.reads (is := [0]) (Keep.refl _) (Rn.s rfl Yv.as (Rn.nil)) ?_)
  refine Wp.seq (Wp.seq (Wp.reads (is := [0, 1, 2, 3, 4, 5, 6]) (Keep.refl _) (Rn.s rfl Yv.mv (Rn.s rfl (Yv.scm _ rfl) (Rn.s rfl Yv.mv (Rn.or (is := [3, 4, 5, 6]) (js := []) (t := 8) (d := 12) (hg := rfl) (hf := fun h2 => Rn.s rfl Yv.mv (Rn.s rfl Yv.len_s (Rn.s rfl (Yv.cmp _ rfl) (Rn.s rfl Yv.pick_f ((Rn.e 4 rfl rfl)))))) (ht := fun _ => Rn.no rfl (Rn.no rfl (Rn.no rfl (Rn.s rfl Yv.pick_t (Rn.e 4 rfl rfl))))) (k := Rn.nil))))) ?_))
  refine Wp.cond rfl (fun h => ?_) (fun h => ?_)
  · refine Wp.seq (Wp.reads (is := [0]) (Keep.refl _) (Rn.s rfl Yv.as (Rn.nil)) ?_)
    refine Wp.ret (Fin.ret (Res.one rfl rfl) ⟨?_, Keep.refl _⟩)
    simp only [madeB, h, Bool.not_true, Bool.false_and]
  refine Wp.skip ?_
  refine Wp.seq (Wp.seq (Wp.reads (is := [0]) (Keep.refl _) (Rn.s rfl Yv.as (Rn.nil)) ?_))
  refine Wp.block ?_
  refine Wp.loop (α := Nat) (fun k ρ ds w' => ds = [] ∧ Keep w w' ∧ k ≤ s.length ∧ (∀ j b, j < k → s[j]? = some b → of b.toNat = true) ∧ Sub [(0, S s), (1, .func (.func f) #[] #[]), (5, .int .i64 k)] ρ) (fun k => s.length - k) 0 ⟨rfl, Keep.refl _, by omega, by omega, rfl, rfl, rfl, trivial⟩ ?_
  rintro k ρ ds w' ⟨rfl, hk', h1, h2, hs⟩
  have hl : s.length ≤ 64 := by
    simp at h
    omega
  refine Wp.forget _ ?_ hs
  refine Wp.seq (Wp.seq (Wp.reads (is := [0, 1, 2, 3]) (Keep.refl _) (Rn.s rfl Yv.mv (Rn.s rfl Yv.mv (Rn.s rfl Yv.len_s (Rn.s rfl (Yv.cmp _ rfl) (Rn.nil))))) ?_))
  refine Wp.cond rfl (fun hlt => ?_) (fun hlt => ?_)
  · have hlt := of_decide_eq_true hlt
    refine Wp.skip (Wp.seq (Wp.block (Wp.seq (Wp.regionL (l := [0, 1, 2, 3, 4, 5]) (WO.rd (is := [0, 1, 2, 3]) (js := [4, 5]) (Keep.refl _) (Rn.s rfl Yv.mv (Rn.s rfl Yv.mv (Rn.s rfl Yv.mv (Rn.s rfl (Yv.ix (by omega) (by omega)) (Rn.nil))))) (WO.cv rfl (hof (byt s k) w') (Keep.refl _) hf (fun w1 k1 => WO.rd (is := [5]) (js := []) ((Keep.refl _).trans k1) (Rn.s rfl Yv.not (Rn.nil)) (WO.done ?_))))))))
    have hget : s[k]? = some (nth s (k : Int)) := nth_get (i := (k : Int)) (by omega) (by omega)
    have hby := byt_of hget
    refine Wp.cond rfl (fun hb => ?_) (fun hb => ?_)
    · refine Wp.seq (Wp.reads (is := [0]) (Keep.refl _) (Rn.s rfl Yv.as (Rn.nil)) ?_)
      refine Wp.ret (Fin.ret (Res.one rfl rfl) ⟨?_, hk'.trans k1⟩)
      have : s.all (fun b => of b.toNat) = false := by
        rw [List.all_eq_false]
        exact ⟨_, List.mem_of_getElem? hget, by simpa [← hby] using hb⟩
      simp [madeB, this]
    · refine Wp.skip (Wp.reads (is := [0, 1, 2]) (Keep.refl _) (Rn.s rfl Yv.mv (Rn.s rfl (Yv.add (by unfold inI; omega)) (Rn.s rfl Yv.as (Rn.nil)))) ?_)
      refine ⟨k + 1, ⟨rfl, hk'.trans k1, by omega, ?_, rfl, rfl, rfl, trivial⟩, by omega⟩
      intro j b hj hjb
      by_cases hjk : j < k
      · exact h2 j b hjk hjb
      · obtain rfl : j = k := by omega
        rw [hget] at hjb
        injection hjb with hjb
        subst hjb
        simpa [← hby] using hb
  · refine Wp.exit (Wp.seq (Wp.reads (is := [0]) (Keep.refl _) (Rn.s rfl Yv.as (Rn.nil)) ?_))
    refine Wp.ret (Fin.ret (Res.one rfl rfl) ⟨?_, hk'⟩)
    have hlt := of_decide_eq_false hlt
    have : s.all (fun b => of b.toNat) = true := by
      rw [List.all_eq_true]
      intro b hb
      obtain ⟨j, hj, rfl⟩ := List.mem_iff_getElem.1 hb
      exact h2 j _ (by omega) (List.getElem?_eq_getElem hj)
    simp only [madeB, h, this]
    rfl
def nameB (s : Bs) : Bool := madeB namedB s && byt s 0 != 45
theorem name_cv (s : Bs) (w0 : World) : Cv Tryd.prog 54 [S s] (.bool (nameB s)) w0 := by
  intro w hk
  refine calls_of_Wp (vs := [_]) Tryd.func54 ?_
  refine Wp.seq (Wp.reads (is := [0]) (Keep.refl _) (Rn.s rfl Yv.as (Rn.nil)) ?_)
  have hne : madeB namedB s = true → 0 < s.length := by
    intro h
    cases s with
    | nil => simp [madeB] at h
    | cons => simp
  refine Wp.seq (Wp.regionL (l := [0, 1, 2, 3, 4, 5, 6, 7]) (WO.rd (is := [0]) (js := [1, 2, 3, 4, 5, 6, 7]) (Keep.refl _) (Rn.s rfl Yv.mv (Rn.nil)) (WO.cv rfl (made_cv s _ namedB w (FnOk.of Tryd.func65) named_cv) (Keep.refl _) (FnOk.of Tryd.func64) (fun w1 k1 => WO.rd (is := [2, 3, 4, 5, 6, 7]) (js := []) ((Keep.refl _).trans k1) (Rn.s rfl Yv.mv (Rn.and (is := [3, 4, 5, 6]) (js := [7]) (t := 5) (d := 9) (hg := rfl) (ht := fun h2 => have := h2; Rn.s rfl Yv.mv (Rn.s rfl (Yv.ix (by omega) (by have := hne h2; omega)) (Rn.s rfl (Yv.cmp _ rfl) (Rn.s rfl Yv.pick_t ((Rn.e 4 rfl rfl)))))) (hf := fun _ => Rn.no rfl (Rn.no rfl (Rn.no rfl (Rn.s rfl Yv.pick_f (Rn.e 4 rfl rfl))))) (k := Rn.s rfl Yv.as (Rn.nil)))) (WO.done ?_)))))
  exact Wp.ret (Fin.ret (Res.one rfl rfl) ⟨rfl, k1⟩)
end Go.Proofs.YthbehiflmcljcaaDoor.C
