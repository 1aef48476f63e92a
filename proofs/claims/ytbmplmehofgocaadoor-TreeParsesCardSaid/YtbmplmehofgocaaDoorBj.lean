/- What the laws share: lists of nodes held against one another, lent, and looked at again. -/
import Derived.Test.YtbmplmehofgocaaDoorBi
set_option linter.unusedVariables false
set_option linter.unusedSimpArgs false
set_option maxRecDepth 10000
namespace Go.Proofs.YtbmplmehofgocaaDoor.C
open Go.RowKit Go.Proofs.YtbmplmehofgocaaDoor.Sh
theorem take_ext {α : Type} [Inhabited α] {xs ys : List α} (hl : xs.length = ys.length) (h : ∀ j : Nat, j < xs.length → nth xs (j : Int) = nth ys (j : Int)) : xs = ys := by
  refine List.ext_getElem hl fun j h1 h2 => ?_
  have := h j h1
  rw [nth_nat, nth_nat] at this
  simpa [h1, h2] using this
theorem same_cv (A : Option Addr) (c : Nat) (xs : List Nd) (B : Option Addr) (d : Nat) (ys : List Nd) (w0 : World) (hx : Rd NdE w0 A xs) (hy : Rd NdE w0 B ys) (hl : xs.length < 4000000000000000000) :
    Cv Tryd.prog 22 [.slice A xs.length c, .slice B ys.length d] (.bool (decide (xs = ys))) w0 := by
  intro w hk
  have hx := hx.keep hk
  have hy := hy.keep hk
  refine calls_of_Wp (vs := [_, _]) Tryd.func22 ?_
  refine Wp.seq (Wp.reads (is := [0]) (Keep.refl _) (Rn.s rfl Yv.as (Rn.nil)) ?_)
  refine Wp.seq (Wp.seq (Wp.reads (is := [0, 1, 2, 3, 4]) (Keep.refl _) (Rn.s rfl Yv.mv (Rn.s rfl (Yv.len_v (e := 32) (m := 8)) (Rn.s rfl Yv.mv (Rn.s rfl (Yv.len_v (e := 32) (m := 8)) (Rn.s rfl (Yv.cmp _ rfl) (Rn.nil)))))) ?_))
  refine Wp.cond rfl (fun h => ?_) (fun h => ?_)
  · refine Wp.seq (Wp.reads (is := [0]) (Keep.refl _) (Rn.s rfl Yv.as (Rn.nil)) ?_)
    have hne : xs ≠ ys := by rintro rfl; simp at h
    exact Wp.ret (Fin.ret (Res.one rfl rfl) ⟨by rw [decide_eq_false hne], Keep.refl _⟩)
  have hle : xs.length = ys.length := by
    have : (xs.length : Int) = ys.length := by simpa using h
    omega
  refine Wp.skip (Wp.seq (Wp.seq (Wp.reads (is := [0]) (Keep.refl _) (Rn.s rfl Yv.as (Rn.nil)) ?_)))
  refine Wp.block ?_
  refine Wp.loop (α := Nat) (fun i ρ ds w' => ds = [] ∧ Keep w w' ∧ i ≤ xs.length ∧ (∀ j : Nat, j < i → nth xs (j : Int) = nth ys (j : Int)) ∧ Sub [(0, .slice A xs.length c), (1, .slice B ys.length d), (5, .int .i64 (i : Int))] ρ) (fun i => xs.length - i) 0
    ⟨rfl, Keep.refl _, Nat.zero_le _, fun j hj => absurd hj (Nat.not_lt_zero j), rfl, rfl, rfl, trivial⟩ ?_
  rintro i ρ ds w' ⟨rfl, hk, hi, hall, hs⟩
  refine Wp.forget _ ?_ hs
  have hx' := hx.keep hk
  have hy' := hy.keep hk
  refine Wp.seq (Wp.seq (Wp.reads (is := [0, 1, 2, 3]) (Keep.refl _) (Rn.s rfl Yv.mv (Rn.s rfl Yv.mv (Rn.s rfl (Yv.len_v (e := 32) (m := 8)) (Rn.s rfl (Yv.cmp _ rfl) (Rn.nil))))) ?_))
  refine Wp.cond rfl (fun h2 => ?_) (fun h2 => ?_)
  · have h2 := of_decide_eq_true h2
    refine Wp.skip (Wp.seq (Wp.block ?_))
    refine Wp.seq (Wp.readsD (is := [0, 1, 2, 3, 4, 5, 6, 7, 8]) mixed (fun _ _ _ _ _ h => h) (Keep.refl _) (Rn.s rfl Yv.mv (Rn.s rfl Yv.mv (Rn.s rfl (Yv.ia (e := 32) hx' (by omega) (by omega)) (Rn.s rfl (Yv.ldel hx' rfl rfl (by omega) (by omega)) (Rn.s rfl Yv.mv (Rn.s rfl Yv.mv (Rn.s rfl (Yv.ia (e := 32) hy' (by omega) (by omega)) (Rn.s rfl (Yv.ldel hy' rfl rfl (by omega) (by omega)) (Rn.s rfl (Yv.nes (ndEq (nth xs (i : Int)) (nth ys (i : Int)))) (Rn.nil)))))))))) ?_)
    refine Wp.cond rfl (fun h3 => ?_) (fun h3 => ?_)
    · refine Wp.seq (Wp.reads (is := [0]) (Keep.refl _) (Rn.s rfl Yv.as (Rn.nil)) ?_)
      have hne : xs ≠ ys := by rintro rfl; simp at h3
      exact Wp.ret (Fin.ret (Res.one rfl rfl) ⟨by rw [decide_eq_false hne], hk.trans (Keep.drew _)⟩)
    · have h3 : nth xs (i : Int) = nth ys (i : Int) := by simpa using h3
      refine Wp.skip (Wp.reads (is := [0, 1, 2]) (Keep.refl _) (Rn.s rfl Yv.mv (Rn.s rfl (Yv.add (by unfold inI; omega)) (Rn.s rfl Yv.as (Rn.nil)))) ?_)
      refine ⟨i + 1, ⟨rfl, hk.trans (Keep.drew _), by omega, fun j hj => ?_, rfl, rfl, rfl, trivial⟩, by omega⟩
      by_cases hji : j = i
      · subst hji; exact h3
      · exact hall j (by omega)
  · have h2 := of_decide_eq_false h2
    refine Wp.exit ?_
    refine Wp.seq (Wp.reads (is := [0]) (Keep.refl _) (Rn.s rfl Yv.as (Rn.nil)) ?_)
    have he : xs = ys := take_ext hle fun j hj => hall j (by omega)
    exact Wp.ret (Fin.ret (Res.one rfl rfl) ⟨by rw [decide_eq_true he], hk⟩)
abbrev spN : Nd := ⟨77, 0, [], [115, 112, 111, 105, 108, 116], [], 0, 0, 0⟩
theorem rd_pre {α : Type} {E : Enc α} {w : World} {A : Option Addr} {xs ys : List α} (h : Rd E w A (xs ++ ys)) : Rd E w A xs :=
  ⟨fun hl => h.adr (by simp; omega), fun j x hx k u hu => h.cell j x (by rw [List.getElem?_append_left (List.getElem?_eq_some_iff.1 hx).1]; exact hx) k u hu⟩
theorem fitN {n : Nat} (h : n ≤ 1599289640401) : Fits Tryd.prog 32 n := .inr ⟨1599289640401, by kernel_rfl, h⟩
theorem copyL_cx (A : Option Addr) (c : Nat) (t : List Nd) (w : World) (hr : Rd NdE w A t) (hc : A = none → c = 0) (hl : t.length ≤ 1599289640390) : Cx Tryd.prog 21 [.slice A t.length c] [] (fun v D => ∃ B d, v = .slice B t.length d ∧ D = [Ch.row NdE 32 B d t]) w := by
  refine calls_of_Wp (vs := [_]) Tryd.func21 ?_
  refine Wp.seq (Wp.reads (is := [0]) (Keep.refl _) (Rn.s rfl Yv.as (Rn.nil)) ?_)
  refine Wp.seq (Wp.regionL (l := [0, 1, 2, 3]) (WO.act (hc := rfl) (he := Ef.bsl (T := 32) NdE ([] : List Nd) (St.init w) (fun b w1 k1 hs1 => WO.rd (is := [1]) (js := [2, 3]) (Keep.refl _) (Rn.s rfl Yv.mv (Rn.nil)) (WO.act (he := Ef.append hs1 0 (hr.keep k1) hc (fitN (by simp only [List.length_nil]; omega)) (fun A' c' w' hs' => WO.rd (is := [3]) (js := []) (Keep.refl _) (Rn.s rfl Yv.as (Rn.nil)) (WO.done ?_))))))))
  exact Wp.ret (Fin.ret (Res.one rfl rfl) ⟨_, _, rfl, ⟨A', c', rfl, rfl⟩, hs'⟩)
theorem lend_cx (A : Option Addr) (c : Nat) (t : List Nd) (w : World) (hr : Rd NdE w A t) (hc : A = none → c = 0) (hl : t.length ≤ 1599289640390) : Cx Tryd.prog 18 [.slice A t.length c] [] (fun v D => ∃ B d, v = .slice B t.length d ∧ D = [Ch.row NdE 32 B d (t ++ [spN, spN])]) w := by
  refine calls_of_Wp (vs := [_]) Tryd.func18 ?_
  refine Wp.seq (Wp.reads (is := [0]) (Keep.refl _) (Rn.s rfl Yv.as (Rn.nil)) ?_)
  refine Wp.seq (Wp.regionL (l := [0, 1, 2, 3, 4, 5, 6]) (WO.rd (is := [0]) (js := [1, 2, 3, 4, 5, 6]) (Keep.refl _) (Rn.s rfl Yv.mv (Rn.nil)) (WO.act (hc := rfl) (he := Ef.cx (copyL_cx A c t w hr hc hl) (St.init w) (FnOk.of Tryd.func21) ?_))))
  rintro v D w1 ⟨B, d, rfl, rfl⟩ hs1
  have hs1 : St w [] w1 [Ch.row NdE 32 B d t] := hs1
  refine WO.rd (is := [2, 3]) (js := [4, 5, 6]) (Keep.refl _) (Rn.s rfl (Yv.bd (cs := spN.cs)) (Rn.s rfl (Yv.bd (cs := spN.cs)) (Rn.nil))) ?_
  refine WO.app NdE [spN, spN] rfl (fun _ => rfl) hs1 0 (fitN (by simp only [List.length_cons, List.length_nil]; omega)) (fun b A' c' w' hs' => WO.rd (is := [6]) (js := []) (Keep.refl _) (Rn.s rfl Yv.as (Rn.nil)) (WO.done ?_))
  have hs' : St w [] w' [Ch.row NdE 32 A' c' (t ++ [spN, spN])] := hs'
  have hcap := hs'.cap 0
  simp only [List.length_append, List.length_cons, List.length_nil] at hcap
  refine Wp.seq (Wp.reads (is := [0, 1, 2, 3, 4]) (Keep.refl _) (Rn.s rfl Yv.mv (Rn.s rfl Yv.mv (Rn.s rfl (Yv.len_v (e := 32) (m := 8)) (Rn.s rfl (Yv.sl_t (n := 8) (e := 32) (by omega) (by omega)) (Rn.s rfl Yv.as (Rn.nil)))))) ?_)
  exact Wp.ret (Fin.ret (Res.one rfl rfl) ⟨_, _, rfl, ⟨A', c', by simp, rfl⟩, hs'⟩)
end Go.Proofs.YtbmplmehofgocaaDoor.C
