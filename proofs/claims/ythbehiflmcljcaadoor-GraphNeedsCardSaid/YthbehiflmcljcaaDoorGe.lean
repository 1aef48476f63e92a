/- container/heap at graph's items: up, down, Push, Pop. -/
import Derived.Test.YthbehiflmcljcaaDoorGd
set_option linter.unusedVariables false
set_option linter.unusedSimpArgs false
set_option maxRecDepth 10000
namespace Go.Proofs.YthbehiflmcljcaaDoor.C
open Go.RowKit Go.Proofs.YthbehiflmcljcaaDoor.Sh
section
variable {w w0 : World} {M : List Nat} {D : List Chunk} {b c : Nat} {A : Option Addr} {xs : List It}
theorem hmLen (c0 : Cells w b [.slice A xs.length c]) (n : Nat) : (method (n + 1) 55 (PB b) "Len").run Tryd.prog w = .ok (27, .slice A xs.length c) w := run_method_load (E := 57) (by kernel_rfl) (by kernel_rfl) (by kernel_rfl) (c0.at_ 0) n
theorem hmLess (c0 : Cells w b [.slice A xs.length c]) (n : Nat) : (method (n + 1) 55 (PB b) "Less").run Tryd.prog w = .ok (117, .slice A xs.length c) w := run_method_load (E := 57) (by kernel_rfl) (by kernel_rfl) (by kernel_rfl) (c0.at_ 0) n
theorem hmSwap (c0 : Cells w b [.slice A xs.length c]) (n : Nat) : (method (n + 1) 55 (PB b) "Swap").run Tryd.prog w = .ok (120, .slice A xs.length c) w := run_method_load (E := 57) (by kernel_rfl) (by kernel_rfl) (by kernel_rfl) (c0.at_ 0) n
theorem hmPush (n : Nat) : (method (n + 1) 55 (PB b) "Push").run Tryd.prog w = .ok (119, PB b) w := run_method_ptr (E := 57) (by kernel_rfl) (by kernel_rfl) n
theorem hmPop (n : Nat) : (method (n + 1) 55 (PB b) "Pop").run Tryd.prog w = .ok (118, PB b) w := run_method_ptr (E := 57) (by kernel_rfl) (by kernel_rfl) n
end
/-- the exchange, behind the pointer -/
theorem swapH {w w0 : World} {M : List Nat} {D : List Chunk} {b c : Nat} {A : Option Addr} {xs : List It} (i j : Nat) (hi : i < xs.length) (hj : j < xs.length) (hst : St w0 M w (HpD b A c xs ++ D)) :
    Calls Tryd.prog 120 [.slice A xs.length c, .int .i64 i, .int .i64 j].toArray w fun e w' => e = .returned (.tuple #[]) ∧ St w0 M w' (HpD b A c (swp xs i j) ++ D) := by
  have h1 := St.pickT (P := HpD b A c xs) (T := D) hst [1, 0]
  refine Calls.mono (swap_calls A xs.length c xs i j w0 w M (Ch.cells b 57 [.slice A xs.length c] :: D) rfl hi hj h1) ?_
  rintro e w' ⟨rfl, hs⟩
  refine ⟨rfl, ?_⟩
  have h2 := St.pickT (P := [Ch.row ItE 60 A c (swp xs i j), Ch.cells b 57 [.slice A xs.length c]]) (T := D) hs [1, 0]
  show St w0 M w' ([Ch.cells b 57 [.slice A (swp xs i j).length c], Ch.row ItE 60 A c (swp xs i j)] ++ D)
  rw [swp_length]
  exact h2
theorem up_calls (b : Nat) (A : Option Addr) (c : Nat) (xs : List It) (j : Nat) (w0 w : World) (M : List Nat) (D : List Chunk) (hj : j < xs.length) (hl : xs.length ≤ 8796093022208) (hst : St w0 M w (HpD b A c xs ++ D)) :
    Calls Tryd.prog 42 #[HV b, .int .i64 j] w fun e w' => e = .returned (.tuple #[]) ∧ St w0 M w' (HpD b A c (upL xs j) ++ D) := by
  refine calls_of_Wp (vs := [_, _]) Tryd.func42 ?_
  refine Wp.block ?_
  refine Wp.loop (α := Nat × List It) (fun x ρ ds w' => ds = [] ∧ x.1 < x.2.length ∧ x.2.length = xs.length ∧ upL x.2 x.1 = upL xs j ∧ St w0 M w' (HpD b A c x.2 ++ D) ∧ Sub [(0, HV b), (1, .int .i64 (x.1 : Int))] ρ) (fun x => x.1) (j, xs)
    ⟨rfl, hj, rfl, rfl, hst, rfl, rfl, trivial⟩ ?_
  clear hst
  rintro ⟨k, ys⟩ ρ ds w1 ⟨rfl, hk, hlen, hup, hst, hs⟩
  dsimp only at hk hlen hup hst hs ⊢
  refine Wp.forget _ ?_ hs
  clear hs ρ
  have c0 := hst.cells 0
  have hr := hst.rd 1
  have hq : Int.tdiv ((k : Int) - 1) 2 = (par k : Nat) := by
    unfold par
    by_cases h0 : k = 0
    · subst h0; rfl
    · rw [Int.tdiv_eq_ediv_of_nonneg (by omega)]; omega
  have hpk : par k ≤ k := by unfold par; omega
  refine Wp.block ?_
  refine Wp.seq (Wp.reads (is := [0, 1, 2, 3]) (Keep.refl _) (Rn.s rfl Yv.mv (Rn.s rfl (Yv.sub (by unfold inI; omega)) (Rn.s rfl (Yv.quo (c := ((par k : Nat) : Int)) (by omega) (by omega) hq ⟨by omega, by omega⟩) (Rn.s rfl Yv.as (Rn.nil))))) ?_)
  refine Wp.seq (Wp.seq (Wp.regionL (l := [0, 1, 2, 3, 4, 5, 6, 7, 8, 9]) (WO.rd (is := [0, 1, 2, 3]) (js := [4, 5, 6, 7, 8, 9]) (Keep.refl _) (Rn.s rfl Yv.mv (Rn.s rfl Yv.mv (Rn.s rfl (Yv.cmp _ rfl) (Rn.s rfl Yv.mv (Rn.nil))))) (WO.or (js := []) 11 17 (hg := rfl) (hf := fun h3 qy1 => have h3 := ne_of_beq_false h3; WO.rd (is := [4, 5, 6]) (js := [7, 8, 9]) (Keep.refl _) (Rn.s rfl Yv.mv (Rn.s rfl Yv.mv (Rn.s rfl Yv.mv (Rn.nil)))) (WO.act (hc := rfl) (he := Ef.invq (less_cv A ys.length c ys k (par k) w1 hr rfl hk (by omega)) (Keep.refl _) (hmLess c0) (FnOk.of Tryd.func117) (fun wy2 ky2 => WO.rd (is := [8, 9]) (js := []) ((Keep.refl _).trans ky2) (Rn.s rfl Yv.not (Rn.s rfl Yv.pick_f (Rn.nil))) (WO.e 6 (qy1 _ ((Keep.refl _).trans ky2))))))) (ht := fun _ qy1 => WO.rd (is := [4, 5, 6, 7, 8, 9]) (js := []) (Keep.refl _) (Rn.no rfl (Rn.no rfl (Rn.no rfl (Rn.no rfl (Rn.no rfl (Rn.s rfl Yv.pick_t Rn.nil)))))) (WO.e 6 (qy1 _ (Keep.refl _)))) (k := fun wy1 ky1 => WO.done ?_)))))
  have hst := hst.quiet ky1
  refine Wp.cond rfl (fun h => ?_) (fun h => ?_)
  · have hstop : ¬ (0 < k ∧ ilt (G ys k) (G ys (par k)) = true) := by
      rintro ⟨q1, q2⟩
      have hne : ((par k : Nat) : Int) ≠ (k : Int) := by unfold par; omega
      rw [q2] at h
      simp [hne] at h
    rw [upL_stop hstop] at hup
    refine Wp.exit (Fin.normal (Res.none rfl) ⟨rfl, ?_⟩)
    rw [← hup]
    exact hst
  · have hgo : 0 < k ∧ ilt (G ys k) (G ys (par k)) = true := by
      simp only [Bool.or_eq_false_iff, Bool.not_eq_false', beq_eq_false_iff_ne] at h
      refine ⟨?_, h.2⟩
      have := h.1
      unfold par at this
      omega
    rw [upL_go hgo] at hup
    have c0 := hst.cells 0
    refine Wp.skip ?_
    refine Wp.seq (Wp.regionL (l := [0, 1, 2, 3]) (WO.rd (is := [0, 1, 2]) (js := [3]) (Keep.refl _) (Rn.s rfl Yv.mv (Rn.s rfl Yv.mv (Rn.s rfl Yv.mv (Rn.nil)))) (WO.act (hc := rfl) (he := Ef.invk (hmSwap c0) Tryd.func120 (Calls.mono (swapH (par k) k (by omega) hk hst) ?_)))))
    rintro e w2 ⟨rfl, hs2⟩
    refine WO.done ?_
    refine Wp.reads (is := [0, 1]) (Keep.refl _) (Rn.s rfl Yv.mv (Rn.s rfl Yv.as (Rn.nil))) ?_
    refine ⟨(par k, swp ys (par k) k), ⟨rfl, by dsimp only; rw [swp_length]; omega, by dsimp only; rw [swp_length]; exact hlen, hup, hs2, rfl, rfl, trivial⟩, ?_⟩
    show par k < k
    unfold par
    omega
theorem down_calls (b : Nat) (A : Option Addr) (c : Nat) (xs : List It) (n : Nat) (w0 w : World) (M : List Nat) (D : List Chunk) (h0 : 0 < xs.length) (hn : n ≤ xs.length) (hl : xs.length ≤ 8796093022208) (hst : St w0 M w (HpD b A c xs ++ D)) :
    Calls Tryd.prog 43 #[HV b, .int .i64 0, .int .i64 n] w fun e w' => (∃ t : Bool, e = .returned (.bool t)) ∧ St w0 M w' (HpD b A c (dnL xs 0 n) ++ D) := by
  refine calls_of_Wp (vs := [_, _, _]) Tryd.func43 ?_
  refine Wp.seq (Wp.reads (is := [0]) (Keep.refl _) (Rn.s rfl Yv.as (Rn.nil)) ?_)
  refine Wp.seq (Wp.reads (is := [0, 1]) (Keep.refl _) (Rn.s rfl Yv.mv (Rn.s rfl Yv.as (Rn.nil))) ?_)
  refine Wp.cut (fun ρ ds w' => ds = [] ∧ St w0 M w' (HpD b A c (dnL xs 0 n) ++ D) ∧ ∃ i : Nat, Sub [(1, .int .i64 0), (7, .int .i64 (i : Int))] ρ) (Wp.block ?_) ?_
  · refine Wp.loop (α := Nat × List It) (fun x ρ ds w' => ds = [] ∧ x.1 < x.2.length ∧ x.2.length = xs.length ∧ dnL x.2 x.1 n = dnL xs 0 n ∧ St w0 M w' (HpD b A c x.2 ++ D) ∧ Sub [(0, HV b), (1, .int .i64 0), (2, .int .i64 (n : Int)), (7, .int .i64 (x.1 : Int))] ρ) (fun x => xs.length - x.1) (0, xs)
      ⟨rfl, h0, rfl, rfl, hst, rfl, rfl, rfl, rfl, trivial⟩ ?_
    clear hst
    rintro ⟨k, ys⟩ ρ ds w1 ⟨rfl, hk, hlen, hdn, hst, hs⟩
    dsimp only at hk hlen hdn hst hs ⊢
    refine Wp.forget _ ?_ hs
    clear hs ρ
    have c0 := hst.cells 0
    have hr := hst.rd 1
    have e1 : 2 * (k : Int) + 1 = ((2 * k + 1 : Nat) : Int) := by omega
    have e2 : ((2 * k + 1 : Nat) : Int) + 1 = ((2 * k + 2 : Nat) : Int) := by omega
    refine Wp.block ?_
    refine Wp.seq (Wp.reads (is := [0, 1, 2, 3]) (Keep.refl _) (Rn.s rfl Yv.mv (Rn.s rfl (Yv.mul (by unfold inI; omega)) (Rn.s rfl (Yv.add (by unfold inI; omega)) (Rn.s rfl Yv.as (Rn.nil))))) ?_)
    rw [e1]
    refine Wp.seq (Wp.seq (Wp.reads (is := [0, 1, 2, 3, 4, 5, 6]) (Keep.refl _) (Rn.s rfl Yv.mv (Rn.s rfl Yv.mv (Rn.s rfl (Yv.cmp _ rfl) (Rn.s rfl Yv.mv (Rn.or (is := [4, 5, 6]) (js := []) (t := 18) (d := 21) (hg := rfl) (hf := fun h3 => have h3 := of_decide_eq_false h3; Rn.s rfl Yv.mv (Rn.s rfl (Yv.cmp _ rfl) (Rn.s rfl Yv.pick_f ((Rn.e 3 rfl rfl))))) (ht := fun _ => Rn.no rfl (Rn.no rfl (Rn.s rfl Yv.pick_t (Rn.e 3 rfl rfl)))) (k := Rn.nil)))))) ?_))
    refine Wp.cond rfl (fun h => ?_) (fun h => ?_)
    · have hstop : ¬ (2 * k + 1 < n ∧ ilt (G ys (low ys k n)) (G ys k) = true) := by
        rintro ⟨q1, -⟩
        simp at h
        omega
      rw [dnL_stop hstop] at hdn
      refine Wp.exit ⟨rfl, ?_, k, rfl, rfl, trivial⟩
      rw [← hdn]
      exact hst
    have h3 : 2 * k + 1 < n := by
      simp at h
      omega
    refine Wp.skip ?_
    refine Wp.seq (Wp.reads (is := [0, 1]) (Keep.refl _) (Rn.s rfl Yv.mv (Rn.s rfl Yv.as (Rn.nil))) ?_)
    refine Wp.seq (Wp.seq (Wp.reads (is := [0, 1, 2]) (Keep.refl _) (Rn.s rfl Yv.mv (Rn.s rfl (Yv.add (by unfold inI; omega)) (Rn.s rfl Yv.as (Rn.nil)))) ?_))
    rw [e2]
    refine Wp.seq (Wp.regionL (l := [0, 1, 2, 3, 4, 5, 6, 7, 8]) (WO.rd (is := [0, 1, 2, 3]) (js := [4, 5, 6, 7, 8]) (Keep.refl _) (Rn.s rfl Yv.mv (Rn.s rfl Yv.mv (Rn.s rfl (Yv.cmp _ rfl) (Rn.s rfl Yv.mv (Rn.nil))))) (WO.and (js := []) 28 33 (b := ilt (G ys (2 * k + 2)) (G ys (2 * k + 1))) (hg := rfl) (ht := fun h3 qy1 => have h3 := of_decide_eq_true h3; WO.rd (is := [4, 5, 6]) (js := [7, 8]) (Keep.refl _) (Rn.s rfl Yv.mv (Rn.s rfl Yv.mv (Rn.s rfl Yv.mv (Rn.nil)))) (WO.act (hc := rfl) (he := Ef.invq (less_cv A ys.length c ys (2 * k + 2) (2 * k + 1) w1 hr rfl (by omega) (by omega)) (Keep.refl _) (hmLess c0) (FnOk.of Tryd.func117) (fun wy2 ky2 => WO.rd (is := [8]) (js := []) ((Keep.refl _).trans ky2) (Rn.s rfl Yv.pick_t (Rn.nil)) (WO.e 5 (qy1 _ ((Keep.refl _).trans ky2))))))) (hf := fun _ qy1 => WO.rd (is := [4, 5, 6, 7, 8]) (js := []) (Keep.refl _) (Rn.no rfl (Rn.no rfl (Rn.no rfl (Rn.no rfl (Rn.s rfl Yv.pick_f Rn.nil))))) (WO.e 5 (qy1 _ (Keep.refl _)))) (k := fun wy1 ky1 => WO.done ?_))))
    have hst := hst.quiet ky1
    have hlow := low_lt (xs := ys) (i := k) h3
    refine Wp.mid (fun ρ ds w' => ds = [] ∧ St w0 M w' (HpD b A c ys ++ D) ∧ Sub [(0, HV b), (1, .int .i64 0), (2, .int .i64 (n : Int)), (7, .int .i64 (k : Int)), (9, .int .i64 (low ys k n : Int))] ρ) ?_ ?_
    · refine Wp.cond rfl (fun h => ?_) (fun h => ?_)
      · have hl2 : low ys k n = 2 * k + 2 := by
          unfold low
          rw [if_pos]
          simp only [Bool.and_eq_true, decide_eq_true_eq] at h
          exact ⟨by omega, h.2⟩
        refine Wp.reads (is := [0, 1]) (Keep.refl _) (Rn.s rfl Yv.mv (Rn.s rfl Yv.as (Rn.nil))) ?_
        refine ⟨rfl, hst, rfl, rfl, rfl, rfl, ?_, trivial⟩
        rw [hl2]
        rfl
      · have hl2 : low ys k n = 2 * k + 1 := by
          unfold low
          rw [if_neg]
          rintro ⟨q1, q2⟩
          rw [q2] at h
          simp at h
          omega
        refine Wp.skip ⟨rfl, hst, rfl, rfl, rfl, rfl, ?_, trivial⟩
        rw [hl2]
        rfl
    clear hst ky1 c0 hr
    rintro ρ ds w2 ⟨rfl, hst, hs⟩
    refine Wp.forget _ ?_ hs
    clear hs ρ
    have c0 := hst.cells 0
    have hr := hst.rd 1
    generalize hj : low ys k n = j at *
    refine Wp.seq (Wp.seq (Wp.regionL (l := [0, 1, 2, 3, 4]) (WO.rd (is := [0, 1, 2]) (js := [3, 4]) (Keep.refl _) (Rn.s rfl Yv.mv (Rn.s rfl Yv.mv (Rn.s rfl Yv.mv (Rn.nil)))) (WO.act (hc := rfl) (he := Ef.invq (less_cv A ys.length c ys j k w2 hr rfl (by omega) (by omega)) (Keep.refl _) (hmLess c0) (FnOk.of Tryd.func117) (fun wz1 kz1 => WO.rd (is := [4]) (js := []) ((Keep.refl _).trans kz1) (Rn.s rfl Yv.not (Rn.nil)) (WO.done ?_)))))))
    have hst := hst.quiet kz1
    refine Wp.cond rfl (fun h => ?_) (fun h => ?_)
    · have hstop : ¬ (2 * k + 1 < n ∧ ilt (G ys (low ys k n)) (G ys k) = true) := by
        rintro ⟨q1, q2⟩
        rw [hj] at q2
        rw [q2] at h
        cases h
      rw [dnL_stop hstop] at hdn
      refine Wp.exit ⟨rfl, ?_, k, rfl, rfl, trivial⟩
      rw [← hdn]
      exact hst
    have hgo : 2 * k + 1 < n ∧ ilt (G ys (low ys k n)) (G ys k) = true := by
      rw [hj]
      refine ⟨h3, ?_⟩
      simpa using h
    rw [dnL_go hgo, hj] at hdn
    have hj2 := low_two ys k n
    have c0 := hst.cells 0
    refine Wp.skip ?_
    refine Wp.seq (Wp.regionL (l := [0, 1, 2, 3]) (WO.rd (is := [0, 1, 2]) (js := [3]) (Keep.refl _) (Rn.s rfl Yv.mv (Rn.s rfl Yv.mv (Rn.s rfl Yv.mv (Rn.nil)))) (WO.act (hc := rfl) (he := Ef.invk (hmSwap c0) Tryd.func120 (Calls.mono (swapH k j hk (by omega) hst) ?_)))))
    rintro e w3 ⟨rfl, hs2⟩
    refine WO.done ?_
    refine Wp.reads (is := [0, 1]) (Keep.refl _) (Rn.s rfl Yv.mv (Rn.s rfl Yv.as (Rn.nil))) ?_
    refine ⟨(j, swp ys k j), ⟨rfl, by dsimp only; rw [swp_length]; omega, by dsimp only; rw [swp_length]; exact hlen, hdn, hs2, rfl, rfl, rfl, rfl, trivial⟩, ?_⟩
    show xs.length - j < xs.length - k
    omega
  · rintro ρ ds w' ⟨rfl, hst, i, hs⟩
    refine Wp.forget _ ?_ hs
    refine Wp.seq (Wp.reads (is := [0, 1, 2, 3]) (Keep.refl _) (Rn.s rfl Yv.mv (Rn.s rfl Yv.mv (Rn.s rfl (Yv.cmp _ rfl) (Rn.s rfl Yv.as (Rn.nil))))) ?_)
    exact Wp.ret (Fin.ret (Res.one rfl rfl) ⟨⟨_, rfl⟩, hst⟩)
theorem hpush_calls (b : Nat) (A : Option Addr) (c : Nat) (xs : List It) (x : It) (w0 w : World) (M : List Nat) (D : List Chunk) (hl : xs.length < 8796093022208) (hp : Hp xs xs.length) (hst : St w0 M w (HpD b A c xs ++ D)) :
    Calls Tryd.prog 26 #[HV b, ItV x] w fun e w' => e = .returned (.tuple #[]) ∧ ∃ A' c', St w0 M w' (HpD b A' c' (pushL xs x) ++ D) := by
  refine calls_of_Wp (vs := [_, _]) Tryd.func26 ?_
  refine Wp.seq (Wp.regionL (l := [0, 1, 2]) (WO.rd (is := [0, 1]) (js := [2]) (Keep.refl _) (Rn.s rfl Yv.mv (Rn.s rfl Yv.mv (Rn.nil))) (WO.act (hc := rfl) (he := Ef.invk hmPush Tryd.func119 (Calls.mono (ipush_calls b A c xs x w0 w M D hl hst) ?_)))))
  rintro e w1 ⟨rfl, A', c', hs1⟩
  refine WO.done ?_
  have c0 := hs1.cells 0
  refine Wp.regionL (l := [0, 1, 2, 3, 4]) (WO.rd (is := [0, 1]) (js := [2, 3, 4]) (Keep.refl _) (Rn.s rfl Yv.mv (Rn.s rfl Yv.mv (Rn.nil))) (WO.act (hc := rfl) (he := Ef.invq (len_cv A' (xs ++ [x]).length c' w1) (Keep.refl _) (hmLen c0) (FnOk.of Tryd.func27) ?_)))
  intro w2 k2
  have hlen : (xs ++ [x]).length = xs.length + 1 := by simp
  refine WO.rd (is := [3]) (js := [4]) (Keep.refl _) (Rn.s rfl (Yv.sub ⟨by rw [hlen]; omega, by rw [hlen]; omega⟩) (Rn.nil)) ?_
  have e1 : (((xs ++ [x]).length : Nat) : Int) - 1 = (xs.length : Int) := by rw [hlen]; omega
  rw [e1]
  refine WO.act (hc := rfl) (he := Ef.callv (caps := #[]) Tryd.func42 (Calls.mono (up_calls b A' c' (xs ++ [x]) xs.length w0 w2 M D (by omega) (by omega) (hs1.quiet k2)) ?_))
  rintro e w3 ⟨rfl, hs3⟩
  refine WO.done ?_
  exact Fin.normal (Res.none rfl) ⟨rfl, A', c', hs3⟩
theorem hpop_calls (b : Nat) (A : Option Addr) (c : Nat) (xs : List It) (w0 w : World) (M : List Nat) (D : List Chunk) (h0 : 0 < xs.length) (hl : xs.length < 8796093022208) (hp : Hp xs xs.length) (hst : St w0 M w (HpD b A c xs ++ D)) :
    Calls Tryd.prog 28 #[HV b] w fun e w' => e = .returned (ItV (G xs 0)) ∧ St w0 M w' (HpD b A c ((popL xs).take (xs.length - 1)) ++ D) := by
  obtain ⟨n, hn⟩ : ∃ n, xs.length = n + 1 := ⟨xs.length - 1, by omega⟩
  have hn1 : (xs.length : Int) - 1 = (n : Int) := by omega
  have hn2 : xs.length - 1 = n := by omega
  obtain ⟨p1, p2, p3, p4⟩ := pop_ok hp h0
  have c0 := hst.cells 0
  refine calls_of_Wp (vs := [_]) Tryd.func28 ?_
  refine Wp.seq (Wp.reads (is := [0]) (Keep.refl _) (Rn.s rfl Yv.as (Rn.nil)) ?_)
  refine Wp.seq (Wp.regionL (l := [0, 1, 2, 3]) (WO.rd (is := [0]) (js := [1, 2, 3]) (Keep.refl _) (Rn.s rfl Yv.mv (Rn.nil)) (WO.act (hc := rfl) (he := Ef.invq (len_cv A xs.length c w) (Keep.refl _) (hmLen c0) (FnOk.of Tryd.func27) (fun wy1 ky1 => WO.rd (is := [2, 3]) (js := []) ((Keep.refl _).trans ky1) (Rn.s rfl (Yv.sub (by unfold inI; omega)) (Rn.s rfl Yv.as (Rn.nil))) (WO.done ?_))))))
  rw [hn1]
  have hst := hst.quiet ky1
  have c0 := hst.cells 0
  refine Wp.seq (Wp.regionL (l := [0, 1, 2]) (WO.rd (is := [0, 1]) (js := [2]) (Keep.refl _) (Rn.s rfl Yv.mv (Rn.s rfl Yv.mv (Rn.nil))) (WO.act (hc := rfl) (he := Ef.invk (hmSwap c0) Tryd.func120 (Calls.mono (swapH 0 n h0 (by omega) hst) ?_)))))
  rintro e w2 ⟨rfl, hs2⟩
  refine WO.done ?_
  refine Wp.seq (Wp.regionL (l := [0, 1, 2]) (WO.rd (is := [0, 1]) (js := [2]) (Keep.refl _) (Rn.s rfl Yv.mv (Rn.s rfl Yv.mv (Rn.nil))) (WO.act (hc := rfl) (he := Ef.callv (caps := #[]) Tryd.func43 (Calls.mono (down_calls b A c (swp xs 0 n) n w0 w2 M D (by rw [swp_length]; exact h0) (by rw [swp_length]; omega) (by rw [swp_length]; omega) hs2) ?_)))))
  rintro e w3 ⟨⟨t, rfl⟩, hs3⟩
  refine WO.done ?_
  have hpop : dnL (swp xs 0 n) 0 n = popL xs := by unfold popL; rw [hn2]
  rw [hpop] at hs3
  refine Wp.seq (Wp.regionL (l := [0, 1, 2]) (WO.rd (is := [0]) (js := [1, 2]) (Keep.refl _) (Rn.s rfl Yv.mv (Rn.nil)) (WO.act (hc := rfl) (he := Ef.invk hmPop Tryd.func118 (Calls.mono (ipop_calls b A c (popL xs) w0 w3 M D (by omega) (by omega) hs3) ?_)))))
  rintro e w4 ⟨rfl, hs4⟩
  refine WO.rd (is := [2]) (js := []) (Keep.refl _) (Rn.s rfl Yv.as (Rn.nil)) (WO.done ?_)
  rw [p1] at hs4
  rw [p1, p2]
  exact Wp.ret (Fin.ret (Res.one rfl rfl) ⟨rfl, hs4⟩)
end Go.Proofs.YthbehiflmcljcaaDoor.C
