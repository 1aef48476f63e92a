/- The texts' functions: what scalar and quote compute. -/
import Derived.Test.YtgjhbapbomdpbaaDoorJ2
import Derived.Test.YtgjhbapbomdpbaaDoorProg
set_option linter.unusedVariables false
set_option linter.unusedSimpArgs false
set_option maxRecDepth 10000
namespace Go.Proofs.YtgjhbapbomdpbaaDoor.C
open Go.RowKit Go.Proofs.YtgjhbapbomdpbaaDoor.Sh
theorem mixed : Tryd.prog.follows .mixedOrders = true := by kernel_rfl
/-! ### scalar -/
def letterB (c : Int) : Bool := ((decide (97 ≤ c) && decide (c ≤ 122)) || (decide (65 ≤ c) && decide (c ≤ 90)) || (decide (48 ≤ c) && decide (c ≤ 57))) || (c == 95)
def namedB (c : Int) : Bool := (letterB c || c == 46) || c == 45
theorem letter_cv (c : Int) (w0 : World) : Cv Tryd.prog 105 [.int .u8 c] (.bool (letterB c)) w0 := by
  intro w hk
  refine calls_of_Wp (vs := [_]) Tryd.func105 ?_
  refine Wp.seq (Wp.reads (is := [0]) (Keep.refl _) (Rn.s rfl Yv.as (Rn.nil)) ?_)
  refine Wp.seq (Wp.reads (is := [0, 1, 2, 3, 4, 5, 6, 7, 8, 9, 10, 11, 12, 13, 14, 15, 16, 17, 18, 19, 20, 21, 22, 23, 24, 25, 26]) (Keep.refl _) (Rn.s rfl Yv.mv (Rn.s rfl (Yv.cmp _ rfl) (Rn.s rfl Yv.mv (Rn.and (is := [3, 4, 5]) (js := [6, 7, 8, 9, 10, 11, 12, 13, 14, 15, 16, 17, 18, 19, 20, 21, 22, 23, 24, 25, 26]) (t := 5) (d := 8) (hg := rfl) (ht := fun h2 => have h2 := of_decide_eq_true h2; Rn.s rfl Yv.mv (Rn.s rfl (Yv.cmp _ rfl) (Rn.s rfl Yv.pick_t ((Rn.e 3 rfl rfl))))) (hf := fun _ => Rn.no rfl (Rn.no rfl (Rn.s rfl Yv.pick_f (Rn.e 3 rfl rfl)))) (k := Rn.s rfl Yv.mv (Rn.or (is := [7, 8, 9, 10, 11, 12, 13]) (js := [14, 15, 16, 17, 18, 19, 20, 21, 22, 23, 24, 25, 26]) (t := 9) (d := 16) (hg := rfl) (hf := fun h6 => Rn.s rfl Yv.mv (Rn.s rfl (Yv.cmp _ rfl) (Rn.s rfl Yv.mv (Rn.and (is := [10, 11, 12]) (js := [13]) (t := 12) (d := 15) (hg := rfl) (ht := fun h9 => have h9 := of_decide_eq_true h9; Rn.s rfl Yv.mv (Rn.s rfl (Yv.cmp _ rfl) (Rn.s rfl Yv.pick_t ((Rn.e 3 rfl rfl))))) (hf := fun _ => Rn.no rfl (Rn.no rfl (Rn.s rfl Yv.pick_f (Rn.e 3 rfl rfl)))) (k := Rn.s rfl Yv.pick_f ((Rn.e 5 rfl rfl))))))) (ht := fun _ => Rn.no rfl (Rn.no rfl (Rn.no rfl (Rn.no rfl (Rn.no rfl (Rn.no rfl (Rn.s rfl Yv.pick_t (Rn.e 7 rfl rfl)))))))) (k := Rn.s rfl Yv.mv (Rn.or (is := [15, 16, 17, 18, 19, 20, 21]) (js := [22, 23, 24, 25, 26]) (t := 17) (d := 24) (hg := rfl) (hf := fun h14 => Rn.s rfl Yv.mv (Rn.s rfl (Yv.cmp _ rfl) (Rn.s rfl Yv.mv (Rn.and (is := [18, 19, 20]) (js := [21]) (t := 20) (d := 23) (hg := rfl) (ht := fun h17 => have h17 := of_decide_eq_true h17; Rn.s rfl Yv.mv (Rn.s rfl (Yv.cmp _ rfl) (Rn.s rfl Yv.pick_t ((Rn.e 3 rfl rfl))))) (hf := fun _ => Rn.no rfl (Rn.no rfl (Rn.s rfl Yv.pick_f (Rn.e 3 rfl rfl)))) (k := Rn.s rfl Yv.pick_f ((Rn.e 5 rfl rfl))))))) (ht := fun _ => Rn.no rfl (Rn.no rfl (Rn.no rfl (Rn.no rfl (Rn.no rfl (Rn.no rfl (Rn.s rfl Yv.pick_t (Rn.e 7 rfl rfl)))))))) (k := Rn.s rfl Yv.mv (Rn.or (is := [23, 24, 25]) (js := [26]) (t := 25) (d := 28) (hg := rfl) (hf := fun h22 => Rn.s rfl Yv.mv (Rn.s rfl (Yv.cmp _ rfl) (Rn.s rfl Yv.pick_f ((Rn.e 3 rfl rfl))))) (ht := fun _ => Rn.no rfl (Rn.no rfl (Rn.s rfl Yv.pick_t (Rn.e 3 rfl rfl)))) (k := Rn.s rfl Yv.as (Rn.nil)))))))))))) ?_)
  exact Wp.ret (Fin.ret (Res.one rfl rfl) ⟨rfl, Keep.refl _⟩)
theorem named_cv (c : Int) (w0 : World) : Cv Tryd.prog 82 [.int .u8 c] (.bool (namedB c)) w0 := by
  intro w hk
  refine calls_of_Wp (vs := [_]) Tryd.func82 ?_
  refine Wp.seq (Wp.reads (is := [0]) (Keep.refl _) (Rn.s rfl Yv.as (Rn.nil)) ?_)
  refine Wp.seq (Wp.regionL (l := [0, 1, 2, 3, 4, 5, 6, 7, 8, 9, 10]) (WO.rd (is := [0]) (js := [1, 2, 3, 4, 5, 6, 7, 8, 9, 10]) (Keep.refl _) (Rn.s rfl Yv.mv (Rn.nil)) (WO.cv rfl (letter_cv c w) (Keep.refl _) (FnOk.of Tryd.func105) (fun w1 k1 => WO.rd (is := [2, 3, 4, 5, 6, 7, 8, 9, 10]) (js := []) ((Keep.refl _).trans k1) (Rn.s rfl Yv.mv (Rn.or (is := [3, 4, 5]) (js := [6, 7, 8, 9, 10]) (t := 5) (d := 8) (hg := rfl) (hf := fun h2 => Rn.s rfl Yv.mv (Rn.s rfl (Yv.cmp _ rfl) (Rn.s rfl Yv.pick_f ((Rn.e 3 rfl rfl))))) (ht := fun _ => Rn.no rfl (Rn.no rfl (Rn.s rfl Yv.pick_t (Rn.e 3 rfl rfl)))) (k := Rn.s rfl Yv.mv (Rn.or (is := [7, 8, 9]) (js := [10]) (t := 9) (d := 12) (hg := rfl) (hf := fun h6 => Rn.s rfl Yv.mv (Rn.s rfl (Yv.cmp _ rfl) (Rn.s rfl Yv.pick_f ((Rn.e 3 rfl rfl))))) (ht := fun _ => Rn.no rfl (Rn.no rfl (Rn.s rfl Yv.pick_t (Rn.e 3 rfl rfl)))) (k := Rn.s rfl Yv.as (Rn.nil)))))) (WO.done ?_)))))
  exact Wp.ret (Fin.ret (Res.one rfl rfl) ⟨rfl, k1⟩)
def madeB (of : Int → Bool) (s : Bs) : Bool := !(s == [] || decide (64 < (s.length : Int))) && s.all (fun b => of b.toNat)
theorem made_cv (s : Bs) (f : FuncId) (of : Int → Bool) (w0 : World) (hf : FnOk Tryd.prog f) (hof : ∀ c w, Cv Tryd.prog f [.int .u8 c] (.bool (of c)) w) :
    Cv Tryd.prog 106 [S s, .func (.func f) #[] #[]] (.bool (madeB of s)) w0 := by
  intro w hk
  refine calls_of_Wp (vs := [_, _]) Tryd.func106 ?_
  refine Wp.seq (Wp.reads (is := [0]) (Keep.refl _) (Rn.s rfl Yv.as (Rn.nil)) ?_)
  refine Wp.seq (Wp.seq (Wp.reads (is := [0, 1, 2, 3, 4, 5, 6]) (Keep.refl _) (Rn.s rfl Yv.mv (Rn.s rfl (Yv.scm _ rfl) (Rn.s rfl Yv.mv (Rn.or (is := [3, 4, 5, 6]) (js := []) (t := 8) (d := 12) (hg := rfl) (hf := fun h2 => Rn.s rfl Yv.mv (Rn.s rfl Yv.len_s (Rn.s rfl (Yv.cmp _ rfl) (Rn.s rfl Yv.pick_f ((Rn.e 4 rfl rfl)))))) (ht := fun _ => Rn.no rfl (Rn.no rfl (Rn.no rfl (Rn.s rfl Yv.pick_t (Rn.e 4 rfl rfl))))) (k := Rn.nil))))) ?_))
  refine Wp.cond rfl (fun h => ?_) (fun h => ?_)
  · refine Wp.seq (Wp.reads (is := [0]) (Keep.refl _) (Rn.s rfl Yv.as (Rn.nil)) ?_)
    refine Wp.ret (Fin.ret (Res.one rfl rfl) ⟨?_, Keep.refl _⟩)
    simp only [madeB, h, Bool.not_true, Bool.false_and]
  refine Wp.skip ?_
  refine Wp.seq (Wp.seq (Wp.reads (is := [0]) (Keep.refl _) (Rn.s rfl Yv.as (Rn.nil)) ?_))
  refine Wp.block ?_
  refine Wp.loop (α := Nat) (fun k ρ ds w' => ds = [] ∧ Keep w w' ∧ k ≤ s.length ∧ (∀ j b, j < k → s[j]? = some b → of b.toNat = true) ∧ Sub [(0, S s), (1, .func (.func f) #[] #[]), (5, .int .i64 k)] ρ) (fun k => s.length - k) 0 ⟨rfl, Keep.refl _, by omega, by omega, rfl, rfl, rfl, trivial⟩ ?_
  rintro k ρ ds w' ⟨rfl, hk', h1, h2, hs⟩
  have hl : s.length ≤ 64 := by
    simp at h
    omega
  refine Wp.forget _ ?_ hs
  refine Wp.seq (Wp.seq (Wp.reads (is := [0, 1, 2, 3]) (Keep.refl _) (Rn.s rfl Yv.mv (Rn.s rfl Yv.mv (Rn.s rfl Yv.len_s (Rn.s rfl (Yv.cmp _ rfl) (Rn.nil))))) ?_))
  refine Wp.cond rfl (fun hlt => ?_) (fun hlt => ?_)
  · have hlt := of_decide_eq_true hlt
    refine Wp.skip (Wp.seq (Wp.block (Wp.seq (Wp.regionL (l := [0, 1, 2, 3, 4, 5]) (WO.rd (is := [0, 1, 2, 3]) (js := [4, 5]) (Keep.refl _) (Rn.s rfl Yv.mv (Rn.s rfl Yv.mv (Rn.s rfl Yv.mv (Rn.s rfl (Yv.ix (by omega) (by omega)) (Rn.nil))))) (WO.cv rfl (hof (byt s k) w') (Keep.refl _) hf (fun w1 k1 => WO.rd (is := [5]) (js := []) ((Keep.refl _).trans k1) (Rn.s rfl Yv.not (Rn.nil)) (WO.done ?_))))))))
    have hget : s[k]? = some (nth s (k : Int)) := nth_get (i := (k : Int)) (by omega) (by omega)
    have hby := byt_of hget
    refine Wp.cond rfl (fun hb => ?_) (fun hb => ?_)
    · refine Wp.seq (Wp.reads (is := [0]) (Keep.refl _) (Rn.s rfl Yv.as (Rn.nil)) ?_)
      refine Wp.ret (Fin.ret (Res.one rfl rfl) ⟨?_, hk'.trans k1⟩)
      have : s.all (fun b => of b.toNat) = false := by
        rw [List.all_eq_false]
        exact ⟨_, List.mem_of_getElem? hget, by simpa [← hby] using hb⟩
      simp [madeB, this]
    · refine Wp.skip (Wp.reads (is := [0, 1, 2]) (Keep.refl _) (Rn.s rfl Yv.mv (Rn.s rfl (Yv.add (by unfold inI; omega)) (Rn.s rfl Yv.as (Rn.nil)))) ?_)
      refine ⟨k + 1, ⟨rfl, hk'.trans k1, by omega, ?_, rfl, rfl, rfl, trivial⟩, by omega⟩
      intro j b hj hjb
      by_cases hjk : j < k
      · exact h2 j b hjk hjb
      · obtain rfl : j = k := by omega
        rw [hget] at hjb
        injection hjb with hjb
        subst hjb
        simpa [← hby] using hb
  · refine Wp.exit (Wp.seq (Wp.reads (is := [0]) (Keep.refl _) (Rn.s rfl Yv.as (Rn.nil)) ?_))
    refine Wp.ret (Fin.ret (Res.one rfl rfl) ⟨?_, hk'⟩)
    have hlt := of_decide_eq_false hlt
    have : s.all (fun b => of b.toNat) = true := by
      rw [List.all_eq_true]
      intro b hb
      obtain ⟨j, hj, rfl⟩ := List.mem_iff_getElem.1 hb
      exact h2 j _ (by omega) (List.getElem?_eq_getElem hj)
    simp only [madeB, h, this]
    rfl
def nameB (s : Bs) : Bool := madeB namedB s && byt s 0 != 45
theorem name_cv (s : Bs) (w0 : World) : Cv Tryd.prog 83 [S s] (.bool (nameB s)) w0 := by
  intro w hk
  refine calls_of_Wp (vs := [_]) Tryd.func83 ?_
  refine Wp.seq (Wp.reads (is := [0]) (Keep.refl _) (Rn.s rfl Yv.as (Rn.nil)) ?_)
  have hne : madeB namedB s = true → 0 < s.length := by
    intro h
    cases s with
    | nil => simp [madeB] at h
    | cons => simp
  refine Wp.seq (Wp.regionL (l := [0, 1, 2, 3, 4, 5, 6, 7]) (WO.rd (is := [0]) (js := [1, 2, 3, 4, 5, 6, 7]) (Keep.refl _) (Rn.s rfl Yv.mv (Rn.nil)) (WO.cv rfl (made_cv s _ namedB w (FnOk.of Tryd.func82) named_cv) (Keep.refl _) (FnOk.of Tryd.func106) (fun w1 k1 => WO.rd (is := [2, 3, 4, 5, 6, 7]) (js := []) ((Keep.refl _).trans k1) (Rn.s rfl Yv.mv (Rn.and (is := [3, 4, 5, 6]) (js := [7]) (t := 5) (d := 9) (hg := rfl) (ht := fun h2 => have := h2; Rn.s rfl Yv.mv (Rn.s rfl (Yv.ix (by omega) (by have := hne h2; omega)) (Rn.s rfl (Yv.cmp _ rfl) (Rn.s rfl Yv.pick_t ((Rn.e 4 rfl rfl)))))) (hf := fun _ => Rn.no rfl (Rn.no rfl (Rn.no rfl (Rn.s rfl Yv.pick_f (Rn.e 4 rfl rfl))))) (k := Rn.s rfl Yv.as (Rn.nil)))) (WO.done ?_)))))
  exact Wp.ret (Fin.ret (Res.one rfl rfl) ⟨rfl, k1⟩)
end Go.Proofs.YtgjhbapbomdpbaaDoor.C
/- The quoted texts' functions: what quote computes. -/
set_option linter.unusedVariables false
set_option linter.unusedSimpArgs false
set_option maxRecDepth 10000
namespace Go.Proofs.YtgjhbapbomdpbaaDoor.C
open Go.RowKit Go.Proofs.YtgjhbapbomdpbaaDoor.Sh
def digitI (c : Int) : Int := if 48 ≤ c ∧ c ≤ 57 then c - 48 else if 97 ≤ c ∧ c ≤ 102 then c - 97 + 10 else -1
theorem digitI_bd (c : Int) : -1 ≤ digitI c ∧ digitI c ≤ 15 := by
  unfold digitI
  repeat' split
  all_goals omega
theorem digit_cv (c : Int) (w0 : World) : Cv Tryd.prog 121 [.int .u8 c] (.int .i64 (digitI c)) w0 := by
  intro w hk
  refine calls_of_Wp (vs := [_]) Tryd.func121 ?_
  refine Wp.seq (Wp.reads (is := [0]) (Keep.refl _) (Rn.s rfl Yv.as (Rn.nil)) ?_)
  refine Wp.seq (Wp.block (Wp.seq (Wp.reads (is := [0, 1, 2, 3, 4, 5, 6]) (Keep.refl _) (Rn.s rfl Yv.mv (Rn.s rfl (Yv.cmp _ rfl) (Rn.s rfl Yv.mv (Rn.and (is := [3, 4, 5]) (js := [6]) (t := 6) (d := 9) (hg := rfl) (ht := fun h2 => have h2 := of_decide_eq_true h2; Rn.s rfl Yv.mv (Rn.s rfl (Yv.cmp _ rfl) (Rn.s rfl Yv.pick_t ((Rn.e 3 rfl rfl))))) (hf := fun _ => Rn.no rfl (Rn.no rfl (Rn.s rfl Yv.pick_f (Rn.e 3 rfl rfl)))) (k := Rn.s rfl Yv.as (Rn.nil)))))) ?_)))
  refine Wp.cond rfl (fun h => ?_) (fun h => ?_)
  · have h : 48 ≤ c ∧ c ≤ 57 := by simpa using h
    refine Wp.seq (Wp.reads (is := [0, 1, 2, 3]) (Keep.refl _) (Rn.s rfl Yv.mv (Rn.s rfl (Yv.subk (wrap_u8 (by omega))) (Rn.s rfl (Yv.conv (wrapI ⟨by omega, by omega⟩)) (Rn.s rfl Yv.as (Rn.nil))))) ?_)
    refine Wp.ret (Fin.ret (Res.one rfl rfl) ⟨?_, Keep.refl _⟩)
    rw [digitI, if_pos h]
  have h : ¬ (48 ≤ c ∧ c ≤ 57) := by simpa using h
  refine Wp.seq (Wp.reads (is := [0, 1, 2, 3, 4, 5, 6]) (Keep.refl _) (Rn.s rfl Yv.mv (Rn.s rfl (Yv.cmp _ rfl) (Rn.s rfl Yv.mv (Rn.and (is := [3, 4, 5]) (js := [6]) (t := 16) (d := 19) (hg := rfl) (ht := fun h2 => have h2 := of_decide_eq_true h2; Rn.s rfl Yv.mv (Rn.s rfl (Yv.cmp _ rfl) (Rn.s rfl Yv.pick_t ((Rn.e 3 rfl rfl))))) (hf := fun _ => Rn.no rfl (Rn.no rfl (Rn.s rfl Yv.pick_f (Rn.e 3 rfl rfl)))) (k := Rn.s rfl Yv.as (Rn.nil)))))) ?_)
  refine Wp.cond rfl (fun h' => ?_) (fun h' => ?_)
  · have h' : 97 ≤ c ∧ c ≤ 102 := by simpa using h'
    refine Wp.seq (Wp.reads (is := [0, 1, 2, 3, 4]) (Keep.refl _) (Rn.s rfl Yv.mv (Rn.s rfl (Yv.subk (wrap_u8 (by omega))) (Rn.s rfl (Yv.conv (wrapI ⟨by omega, by omega⟩)) (Rn.s rfl (Yv.add (by unfold inI; omega)) (Rn.s rfl Yv.as (Rn.nil)))))) ?_)
    refine Wp.ret (Fin.ret (Res.one rfl rfl) ⟨?_, Keep.refl _⟩)
    rw [digitI, if_neg h, if_pos h']
  · have h' : ¬ (97 ≤ c ∧ c ≤ 102) := by simpa using h'
    refine Wp.skip (Wp.seq (Wp.reads (is := [0]) (Keep.refl _) (Rn.s rfl Yv.as (Rn.nil)) ?_))
    refine Wp.ret (Fin.ret (Res.one rfl rfl) ⟨?_, Keep.refl _⟩)
    rw [digitI, if_neg h, if_neg h']
/-- what stands behind a backslash: the byte that is said, how many bytes there are -/
def escS (s : Bs) : Int × Int :=
  if s = [] then (0, 0)
  else if byt s 0 = 34 ∨ byt s 0 = 92 then (byt s 0, 1)
  else if byt s 0 = 110 then (10, 1)
  else if byt s 0 ≠ 120 ∨ (s.length : Int) < 3 ∨ digitI (byt s 1) < 0 ∨ digitI (byt s 2) < 0 then (0, 0)
  else (16 * digitI (byt s 1) + digitI (byt s 2), 3)
theorem escape_cv (s : Bs) (w0 : World) : Cv Tryd.prog 114 [S s] (.tuple #[.int .u8 (escS s).1, .int .i64 (escS s).2]) w0 := by
  intro w hk
  refine calls_of_Wp (vs := [_]) Tryd.func114 ?_
  refine Wp.seq (Wp.reads (is := [0, 1]) (Keep.refl _) (Rn.s rfl Yv.as (Rn.s rfl Yv.as (Rn.nil))) ?_)
  refine Wp.seq (Wp.seq (Wp.reads (is := [0, 1]) (Keep.refl _) (Rn.s rfl Yv.mv (Rn.s rfl (Yv.scm _ rfl) (Rn.nil))) ?_))
  refine Wp.cond rfl (fun h => ?_) (fun h => ?_)
  · have h : s = [] := by simpa using h
    refine Wp.seq (Wp.reads (is := [0, 1]) (Keep.refl _) (Rn.s rfl Yv.as (Rn.s rfl Yv.as (Rn.nil))) ?_)
    refine Wp.ret (Fin.ret (Res.two rfl rfl rfl) ⟨?_, Keep.refl _⟩)
    rw [escS, if_pos h]
  have h : s ≠ [] := by simpa using h
  have hp : 0 < s.length := List.length_pos_iff.2 h
  refine Wp.skip (Wp.seq (Wp.seq (Wp.reads (is := [0, 1]) (Keep.refl _) (Rn.s rfl Yv.mv (Rn.s rfl (Yv.ix (by omega) (by omega)) (Rn.nil))) ?_)))
  refine Wp.block (Wp.seq (Wp.seq (Wp.reads (is := [0, 1]) (Keep.refl _) (Rn.s rfl (Yv.cmp _ rfl) (Rn.s rfl Yv.as (Rn.nil))) ?_)))
  refine Wp.mid (fun ρ ds w' => ds = [] ∧ w' = w ∧ Sub [(0, S s), (7, .int .u8 (byt s 0)), (8, .bool (decide (byt s 0 = 34 ∨ byt s 0 = 92)))] ρ) ?_ ?_
  · refine Wp.cond rfl (fun h1 => ?_) (fun h1 => ?_)
    · have h1 := eq_of_beq h1
      exact Wp.skip ⟨rfl, rfl, rfl, rfl, by simp [lk, h1], trivial⟩
    · have h1 := ne_of_beq_false h1
      refine Wp.reads (is := [0, 1]) (Keep.refl _) (Rn.s rfl (Yv.cmp _ rfl) (Rn.s rfl Yv.as (Rn.nil))) ?_
      exact ⟨rfl, rfl, rfl, rfl, by simp [lk, h1]; rfl, trivial⟩
  rintro ρ ds w' ⟨rfl, rfl, hs⟩
  refine Wp.forget _ ?_ hs
  refine Wp.cond rfl (fun h1 => ?_) (fun h1 => ?_)
  · have h1 := of_decide_eq_true h1
    refine Wp.seq (Wp.reads (is := [0, 1, 2, 3]) (Keep.refl _) (Rn.s rfl Yv.mv (Rn.s rfl (Yv.ix (by omega) (by omega)) (Rn.s rfl Yv.as (Rn.s rfl Yv.as (Rn.nil))))) ?_)
    refine Wp.ret (Fin.ret (Res.two rfl rfl rfl) ⟨?_, Keep.refl _⟩)
    rw [escS, if_neg h, if_pos h1]
  have h1 := of_decide_eq_false h1
  refine Wp.seq (Wp.reads (is := [0, 1]) (Keep.refl _) (Rn.s rfl (Yv.cmp _ rfl) (Rn.s rfl Yv.as (Rn.nil))) ?_)
  refine Wp.cond rfl (fun h2 => ?_) (fun h2 => ?_)
  · have h2 := eq_of_beq h2
    refine Wp.seq (Wp.reads (is := [0, 1]) (Keep.refl _) (Rn.s rfl Yv.as (Rn.s rfl Yv.as (Rn.nil))) ?_)
    refine Wp.ret (Fin.ret (Res.two rfl rfl rfl) ⟨?_, Keep.refl _⟩)
    rw [escS, if_neg h, if_neg h1, if_pos h2]
  have h2 := ne_of_beq_false h2
  refine Wp.skip (Wp.seq (Wp.seq (Wp.regionL (l := [0, 1, 2, 3, 4, 5, 6, 7, 8, 9, 10, 11, 12, 13, 14, 15, 16, 17, 18, 19]) (WO.rd (is := [0, 1, 2, 3, 4, 5, 6, 7, 8]) (js := [9, 10, 11, 12, 13, 14, 15, 16, 17, 18, 19]) (Keep.refl _) (Rn.s rfl Yv.mv (Rn.s rfl (Yv.ix (by omega) (by omega)) (Rn.s rfl (Yv.cmp _ rfl) (Rn.s rfl Yv.mv (Rn.or (is := [4, 5, 6, 7]) (js := [8]) (t := 18) (d := 22) (hg := rfl) (hf := fun h3 => have h3 := bne_eq_false_iff_eq.1 h3; Rn.s rfl Yv.mv (Rn.s rfl Yv.len_s (Rn.s rfl (Yv.cmp _ rfl) (Rn.s rfl Yv.pick_f ((Rn.e 4 rfl rfl)))))) (ht := fun _ => Rn.no rfl (Rn.no rfl (Rn.no rfl (Rn.s rfl Yv.pick_t (Rn.e 4 rfl rfl))))) (k := Rn.s rfl Yv.mv (Rn.nil))))))) (WO.or (js := [14, 15, 16, 17, 18, 19]) 23 28 (hg := rfl) (hf := fun h8 q1 => WO.rd (is := [9, 10]) (js := [11, 12, 13, 14, 15, 16, 17, 18, 19]) (Keep.refl _) (Rn.s rfl Yv.mv (Rn.s rfl (Yv.ix (by omega) (by simp at h8; omega)) (Rn.nil))) (WO.cv rfl (digit_cv (byt s 1) w') (Keep.refl _) (FnOk.of Tryd.func121) (fun w2 k2 => WO.rd (is := [12, 13]) (js := [14, 15, 16, 17, 18, 19]) ((Keep.refl _).trans k2) (Rn.s rfl (Yv.cmp _ rfl) (Rn.s rfl Yv.pick_f (Rn.nil))) (WO.e 5 (q1 _ ((Keep.refl _).trans k2)))))) (ht := fun _ q1 => WO.rd (is := [9, 10, 11, 12, 13]) (js := [14, 15, 16, 17, 18, 19]) (Keep.refl _) (Rn.no rfl (Rn.no rfl (Rn.no rfl (Rn.no rfl (Rn.s rfl Yv.pick_t Rn.nil))))) (WO.e 5 (q1 _ (Keep.refl _)))) (k := fun w1 k1 => WO.rd (is := [14]) (js := [15, 16, 17, 18, 19]) ((Keep.refl _).trans k1) (Rn.s rfl Yv.mv (Rn.nil)) (WO.or (js := []) 29 34 (hg := rfl) (hf := fun h14 q3 => WO.rd (is := [15, 16]) (js := [17, 18, 19]) ((Keep.refl _).trans k1) (Rn.s rfl Yv.mv (Rn.s rfl (Yv.ix (by omega) (by simp at h14; omega)) (Rn.nil))) (WO.cv rfl (digit_cv (byt s 2) w') ((Keep.refl _).trans k1) (FnOk.of Tryd.func121) (fun w4 k4 => WO.rd (is := [18, 19]) (js := []) (((Keep.refl _).trans k1).trans k4) (Rn.s rfl (Yv.cmp _ rfl) (Rn.s rfl Yv.pick_f (Rn.nil))) (WO.e 5 (q3 _ ((Keep.refl _).trans k4)))))) (ht := fun _ q3 => WO.rd (is := [15, 16, 17, 18, 19]) (js := []) ((Keep.refl _).trans k1) (Rn.no rfl (Rn.no rfl (Rn.no rfl (Rn.no rfl (Rn.s rfl Yv.pick_t Rn.nil))))) (WO.e 5 (q3 _ (Keep.refl _)))) (k := fun w3 k3 => WO.done ?_))))))))
  refine Wp.cond rfl (fun h3 => ?_) (fun h3 => ?_)
  · have e : escS s = (0, 0) := by
      rw [escS, if_neg h, if_neg h1, if_neg h2, if_pos]
      simp only [Bool.or_eq_true, decide_eq_true_eq, bne_iff_ne, ne_eq] at h3
      rcases h3 with ((h3 | h3) | h3) | h3
      · exact .inl h3
      · exact .inr (.inl h3)
      · exact .inr (.inr (.inl h3))
      · exact .inr (.inr (.inr h3))
    refine Wp.seq (Wp.reads (is := [0, 1]) (Keep.refl _) (Rn.s rfl Yv.as (Rn.s rfl Yv.as (Rn.nil))) ?_)
    refine Wp.ret (Fin.ret (Res.two rfl rfl rfl) ⟨?_, k1.trans k3⟩)
    rw [e]
  simp only [Bool.or_eq_false_iff, decide_eq_false_iff_not, bne_eq_false_iff_eq] at h3
  obtain ⟨⟨⟨h4, h5⟩, h6⟩, h7⟩ := h3
  have d1 := digitI_bd (byt s 1)
  have d2 := digitI_bd (byt s 2)
  have kk := k1.trans k3
  refine Wp.skip (Wp.seq (Wp.draws [] mixed (WD.rd (is := [0, 1, 4, 5]) (fun _ _ _ _ _ h => h) (kk.trans (Keep.drew _)) (Rn.s rfl Yv.mv (Rn.s rfl (Yv.ix (by omega) (by omega)) (Rn.s rfl Yv.mv (Rn.s rfl (Yv.ix (by omega) (by omega)) (Rn.nil))))) (WD.cv 2 rfl (digit_cv (byt s 1) w') (kk.trans (Keep.drew _)) (FnOk.of Tryd.func121) (fun w1 k1 => WD.rd (is := [3]) (fun _ _ _ _ _ h => h) ((kk.trans (Keep.drew _)).trans k1) (Rn.s rfl (Yv.mul ⟨by omega, by omega⟩) (Rn.nil)) (WD.cv 6 rfl (digit_cv (byt s 2) w') ((kk.trans (Keep.drew _)).trans k1) (FnOk.of Tryd.func121) (fun w2 k2 => WD.rd (is := [7, 8, 9, 10]) (fun _ _ _ _ _ h => h) (((kk.trans (Keep.drew _)).trans k1).trans k2) (Rn.s rfl (Yv.add (by unfold inI; omega)) (Rn.s rfl (Yv.conv (wrap_u8 (by omega))) (Rn.s rfl Yv.as (Rn.s rfl Yv.as (Rn.nil))))) (WD.done ?_))))))))
  refine Wp.ret (Fin.ret (Res.two rfl rfl rfl) ⟨?_, (kk.trans (Keep.drew _)).trans (k1.trans k2)⟩)
  rw [escS, if_neg h, if_neg h1, if_neg h2, if_neg (by rintro (h | h | h | h) <;> omega)]
theorem escS_bd (s : Bs) : 0 ≤ (escS s).1 ∧ (escS s).1 ≤ 255 ∧ 0 ≤ (escS s).2 ∧ (escS s).2 ≤ 3 ∧ (escS s).2 ≤ s.length := by
  have d1 := digitI_bd (byt s 1)
  have d2 := digitI_bd (byt s 2)
  have b0 := byt_bd s 0
  unfold escS
  split
  · simp
  rename_i h
  have hp : 0 < s.length := List.length_pos_iff.2 h
  split
  · simp only; omega
  split
  · simp only; omega
  split
  · simp only; omega
  · simp only; omega
def escU (s : Bs) : UInt8 := UInt8.ofNat (escS s).1.toNat
theorem escU_eq (s : Bs) : (escS s).1 = (escU s).toNat := by
  have := escS_bd s
  simp only [escU, UInt8.toNat_ofNat']
  omega
theorem escape_cv' (s : Bs) (w0 : World) : Cv Tryd.prog 114 [S s] (.tuple #[.int .u8 ((escU s).toNat : Int), .int .i64 (escS s).2]) w0 := by
  rw [← escU_eq]
  exact escape_cv s w0
/-- what the rest of a quoted text says: acc is what has been said, t stands from place n on -/
def readQ (t : Bs) (n : Int) (acc : Bs) : Bs × Int × Bool :=
  match t with
  | [] => ([], n, false)
  | b :: t' =>
    if b.toNat = 34 then (acc, n + 1, true)
    else if b.toNat = 92 then
      if (escS t').2 = 0 then ([], n, false)
      else readQ (t'.drop (escS t').2.toNat) (n + 1 + (escS t').2) (acc ++ [escU t'])
    else readQ t' (n + 1) (acc ++ [b])
termination_by t.length
decreasing_by all_goals (simp; try omega)
def quoteR (s : Bs) : Bs × Int × Bool := if s = [] then ([], 0, false) else readQ (s.drop 1) 1 []
end Go.Proofs.YtgjhbapbomdpbaaDoor.C
/- Quoted texts are read as quote's functions say. -/
set_option linter.unusedVariables false
set_option linter.unusedSimpArgs false
set_option maxRecDepth 10000
namespace Go.Proofs.YtgjhbapbomdpbaaDoor.C
open Go.RowKit Go.Proofs.YtgjhbapbomdpbaaDoor.Sh
theorem readQ_nil (n : Int) (acc : Bs) : readQ [] n acc = ([], n, false) := by rw [readQ]
theorem readQ_cons (b : UInt8) (t : Bs) (n : Int) (acc : Bs) : readQ (b :: t) n acc = if b.toNat = 34 then (acc, n + 1, true) else if b.toNat = 92 then if (escS t).2 = 0 then ([], n, false) else readQ (t.drop (escS t).2.toNat) (n + 1 + (escS t).2) (acc ++ [escU t]) else readQ t (n + 1) (acc ++ [b]) := by
  rw [readQ]
theorem read_cv (s : Bs) (hl : s.length ≤ 4000000000) (w0 : World) : Cv Tryd.prog 104 [S s] (.tuple #[S (quoteR s).1, .int .i64 (quoteR s).2.1, .bool (quoteR s).2.2]) w0 := by
  intro w hk
  refine calls_of_Wp (vs := [_]) Tryd.func104 ?_
  refine Wp.seq (Wp.reads (is := [0, 1, 2]) (Keep.refl _) (Rn.s rfl Yv.as (Rn.s rfl Yv.as (Rn.s rfl Yv.as (Rn.nil)))) ?_)
  refine Wp.seq (Wp.reads (is := [0]) (Keep.refl _) (Rn.s rfl Yv.as (Rn.nil)) ?_)
  refine Wp.seq (Wp.seq (Wp.reads (is := [0]) (Keep.refl _) (Rn.s rfl Yv.as (Rn.nil)) ?_))
  refine Wp.block ?_
  refine Wp.loop (α := (Option Addr × Nat) × (Nat × Bs)) (fun x ρ ds w' => ds = [] ∧ (x.2.1 ≤ s.length ∨ x.2.1 = 1) ∧ 1 ≤ x.2.1 ∧ x.2.2.length ≤ x.2.1 ∧ (s ≠ [] → readQ (s.drop x.2.1) x.2.1 x.2.2 = quoteR s) ∧
    St w [] w' [Ch.row ByE 5 x.1.1 x.1.2 x.2.2] ∧ Sub [(0, S s), (5, .slice x.1.1 x.2.2.length x.1.2), (6, .int .i64 x.2.1)] ρ) (fun x => s.length - x.2.1) ((none, 0), (1, []))
    ⟨rfl, .inr rfl, by simp, by simp, fun h => by rw [quoteR, if_neg h]; rfl, (St.init w).nilrow _ _, rfl, rfl, rfl, trivial⟩ ?_
  rintro ⟨⟨A, c⟩, k, acc⟩ ρ ds w' ⟨rfl, h1, h2, h3, h4, hst, hs⟩
  simp only at h1 h2 h3 h4 hst hs
  refine Wp.forget _ ?_ hs
  refine Wp.seq (Wp.seq (Wp.reads (is := [0, 1, 2, 3]) (Keep.refl _) (Rn.s rfl Yv.mv (Rn.s rfl Yv.mv (Rn.s rfl Yv.len_s (Rn.s rfl (Yv.cmp _ rfl) (Rn.nil))))) ?_))
  refine Wp.cond rfl (fun hlt => ?_) (fun hlt => ?_)
  · have hlt := of_decide_eq_true hlt
    have hne : s ≠ [] := by rintro rfl; simp at hlt; omega
    have hkl : k < s.length := by omega
    have hget : s[k]? = some s[k] := List.getElem?_eq_getElem hkl
    have hby := byt_of hget
    have hd : s.drop k = s[k] :: s.drop (k + 1) := List.drop_eq_getElem_cons hkl
    have h4 := h4 hne
    rw [hd, readQ_cons] at h4
    refine Wp.skip (Wp.seq (Wp.block (Wp.seq (Wp.reads (is := [0, 1, 2]) (Keep.refl _) (Rn.s rfl Yv.mv (Rn.s rfl Yv.mv (Rn.s rfl (Yv.ix (by omega) (by omega)) (Rn.nil)))) ?_))))
    refine Wp.block (Wp.seq (Wp.reads (is := [0, 1]) (Keep.refl _) (Rn.s rfl (Yv.cmp _ rfl) (Rn.s rfl Yv.as (Rn.nil))) ?_))
    refine Wp.cond rfl (fun h5 => ?_) (fun h5 => ?_)
    · have h5 := eq_of_beq h5
      refine Wp.seq (Wp.reads (is := [0, 1, 2, 3, 4, 5, 6]) (Keep.refl _) (Rn.s rfl Yv.mv (Rn.s rfl (Yv.bstr (hst.rd 0)) (Rn.s rfl Yv.mv (Rn.s rfl (Yv.add (by unfold inI; omega)) (Rn.s rfl Yv.as (Rn.s rfl Yv.as (Rn.s rfl Yv.as (Rn.nil)))))))) ?_)
      refine Wp.ret (Fin.ret (Res.three rfl rfl rfl rfl) ⟨?_, hst.keep⟩)
      rw [← h4, if_pos (by omega)]
    have h5 := ne_of_beq_false h5
    rw [if_neg (by omega)] at h4
    refine Wp.seq (Wp.reads (is := [0, 1]) (Keep.refl _) (Rn.s rfl (Yv.cmp _ rfl) (Rn.s rfl Yv.as (Rn.nil))) ?_)
    refine Wp.cond rfl (fun h6 => ?_) (fun h6 => ?_)
    · have h6 := eq_of_beq h6
      rw [if_pos (by omega)] at h4
      obtain ⟨T, hT⟩ : ∃ T, T = s.drop ((k : Int) + 1).toNat := ⟨_, rfl⟩
      have hT' : s.drop (k + 1) = T := by rw [hT]; congr 1
      rw [hT'] at h4
      have he := escS_bd T
      have hTl : T.length = s.length - (k + 1) := by rw [← hT', List.length_drop]
      refine Wp.seq (Wp.regionL (l := [0, 1, 2, 3, 4, 5, 6, 7, 8, 9]) (WO.rd (is := [0, 1, 2, 3]) (js := [4, 5, 6, 7, 8, 9]) (Keep.refl _) (Rn.s rfl Yv.mv (Rn.s rfl Yv.mv (Rn.s rfl (Yv.add (by unfold inI; omega)) (Rn.s rfl (Yv.ss_f (by omega) (by omega)) (Rn.nil))))) (WO.cv rfl (escape_cv' (s.drop ((k : Int) + 1).toNat) w') (Keep.refl _) (FnOk.of Tryd.func114) (fun w1 k1 => WO.rd (is := [5, 6, 7, 8, 9]) (js := []) ((Keep.refl _).trans k1) (Rn.s rfl Yv.mv (Rn.s rfl Yv.ex (Rn.s rfl Yv.ex (Rn.s rfl Yv.as (Rn.s rfl Yv.as (Rn.nil)))))) (WO.done ?_)))))
      rw [← hT]
      refine Wp.seq (Wp.seq (Wp.reads (is := [0, 1]) (Keep.refl _) (Rn.s rfl Yv.mv (Rn.s rfl (Yv.cmp _ rfl) (Rn.nil))) ?_))
      refine Wp.cond rfl (fun h7 => ?_) (fun h7 => ?_)
      · have h7 := eq_of_beq h7
        refine Wp.seq (Wp.reads (is := [0, 1, 2, 3]) (Keep.refl _) (Rn.s rfl Yv.mv (Rn.s rfl Yv.as (Rn.s rfl Yv.as (Rn.s rfl Yv.as (Rn.nil))))) ?_)
        refine Wp.ret (Fin.ret (Res.three rfl rfl rfl rfl) ⟨?_, hst.keep.trans k1⟩)
        rw [← h4, if_pos h7]
        rfl
      · have h7 := ne_of_beq_false h7
        rw [if_neg h7] at h4
        have hst1 := hst.quiet k1
        refine Wp.skip (Wp.seq (Wp.regionL (l := [0, 1, 2, 3, 4]) (WO.rd (is := [0, 1]) (js := [2, 3, 4]) (Keep.refl _) (Rn.s rfl Yv.mv (Rn.s rfl Yv.mv (Rn.nil))) (WO.app ByE [escU T] rfl (fun _ => rfl) hst1 0 (.inl (by simp; omega)) (fun b1 A1 c1 w1 hs1 => WO.rd (is := [4]) (js := []) (Keep.refl _) (Rn.s rfl Yv.as (Rn.nil)) (WO.done ?_))))))
        refine Wp.reads (is := [0, 1, 2, 3]) (Keep.refl _) (Rn.s rfl Yv.mv (Rn.s rfl Yv.mv (Rn.s rfl (Yv.add (by unfold inI; omega)) (Rn.s rfl Yv.as (Rn.nil))))) ?_
        refine Wp.reads (is := [0, 1, 2]) (Keep.refl _) (Rn.s rfl Yv.mv (Rn.s rfl (Yv.add (by unfold inI; omega)) (Rn.s rfl Yv.as (Rn.nil)))) ?_
        refine ⟨((A1, c1), (k + 1 + (escS T).2.toNat, acc ++ [escU T])), ⟨rfl, ?_, ?_, ?_, ?_, hs1, rfl, rfl, ?_, trivial⟩, ?_⟩
        · simp only; omega
        · simp only; omega
        · simp; omega
        · intro _
          simp only
          have hdd : s.drop (k + 1 + (escS T).2.toNat) = T.drop (escS T).2.toNat := by rw [← List.drop_drop, hT']
          rw [← h4, hdd]
          congr 1
          omega
        · show some (Value.int .i64 ((k : Int) + (escS T).2 + 1)) = _
          congr 2
          simp only
          omega
        · simp only; omega
    · have h6 := ne_of_beq_false h6
      rw [if_neg (by omega)] at h4
      refine Wp.regionL (l := [0, 1, 2, 3, 4, 5, 6]) (WO.rd (is := [0, 1, 2, 3]) (js := [4, 5, 6]) (Keep.refl _) (Rn.s rfl Yv.mv (Rn.s rfl Yv.mv (Rn.s rfl Yv.mv (Rn.s rfl (Yv.ix (by omega) (by omega)) (Rn.nil))))) (WO.app ByE [nth s (k : Int)] rfl (fun _ => rfl) hst 0 (.inl (by simp; omega)) (fun b1 A1 c1 w1 hs1 => WO.rd (is := [6]) (js := []) (Keep.refl _) (Rn.s rfl Yv.as (Rn.nil)) (WO.done ?_))))
      refine Wp.reads (is := [0, 1, 2]) (Keep.refl _) (Rn.s rfl Yv.mv (Rn.s rfl (Yv.add (by unfold inI; omega)) (Rn.s rfl Yv.as (Rn.nil)))) ?_
      refine ⟨((A1, c1), (k + 1, acc ++ [nth s (k : Int)])), ⟨rfl, ?_, ?_, ?_, ?_, hs1, rfl, rfl, rfl, trivial⟩, ?_⟩
      · simp only; omega
      · simp only; omega
      · simp; omega
      · intro _
        simp only
        rw [nth_of hget, ← h4]
        congr 1
      · simp only; omega
  · have hlt := of_decide_eq_false hlt
    refine Wp.exit (Wp.seq (Wp.reads (is := [0, 1, 2, 3, 4]) (Keep.refl _) (Rn.s rfl Yv.mv (Rn.s rfl Yv.len_s (Rn.s rfl Yv.as (Rn.s rfl Yv.as (Rn.s rfl Yv.as (Rn.nil)))))) ?_))
    refine Wp.ret (Fin.ret (Res.three rfl rfl rfl rfl) ⟨?_, hst.keep⟩)
    by_cases hne : s = []
    · subst hne; simp [quoteR]; rfl
    · rw [← h4 hne, List.drop_eq_nil_of_le (by omega), readQ_nil]
      have : k = s.length := by
        rcases h1 with h1 | h1
        · omega
        · have := List.length_pos_iff.2 hne; omega
      rw [this]
      rfl
theorem readQ_bd : ∀ (k : Nat) (t : Bs) (n : Int) (acc : Bs), t.length ≤ k → n ≤ (readQ t n acc).2.1 ∧ (readQ t n acc).2.1 ≤ n + t.length ∧ (readQ t n acc).1.length ≤ acc.length + t.length
  | k, [], n, acc, _ => by rw [readQ_nil]; simp
  | 0, b :: t, n, acc, h => by simp at h
  | k + 1, b :: t, n, acc, h => by
    simp only [List.length_cons] at h
    have he := escS_bd t
    rw [readQ_cons]
    split
    · simp; omega
    split
    · split
      · simp; omega
      · have := readQ_bd k (t.drop (escS t).2.toNat) (n + 1 + (escS t).2) (acc ++ [escU t]) (by simp; omega)
        simp only [List.length_drop, List.length_append, List.length_cons, List.length_nil] at this ⊢
        omega
    · have := readQ_bd k t (n + 1) (acc ++ [b]) (by omega)
      simp only [List.length_append, List.length_cons, List.length_nil] at this ⊢
      omega
theorem quoteR_bd (s : Bs) : 0 ≤ (quoteR s).2.1 ∧ (quoteR s).2.1 ≤ s.length ∧ (quoteR s).1.length ≤ s.length := by
  unfold quoteR
  split
  · simp
  · rename_i h
    have hp : 0 < s.length := List.length_pos_iff.2 h
    have := readQ_bd _ (s.drop 1) 1 [] (Nat.le_refl _)
    simp only [List.length_drop, List.length_nil] at this
    omega
end Go.Proofs.YtgjhbapbomdpbaaDoor.C
