/- What the Door's own seat needs of nodes and texts: the same contracts once more, without the document's functions. -/
import Derived.Test.YtgjhbapbomdpbaaDoorJ6
import Derived.Test.YtgjhbapbomdpbaaDoorJ2
import Derived.Lib.SlicesS
set_option linter.unusedVariables false
set_option linter.unusedSimpArgs false
set_option maxRecDepth 10000
namespace Go.Proofs.YtgjhbapbomdpbaaDoor.C
open Go.RowKit Go.Proofs.YtgjhbapbomdpbaaDoor.Sh
theorem take_ext {α : Type} [Inhabited α] {xs ys : List α} (hl : xs.length = ys.length) (h : ∀ j : Nat, j < xs.length → nth xs (j : Int) = nth ys (j : Int)) : xs = ys := by
  refine List.ext_getElem hl fun j h1 h2 => ?_
  have := h j h1
  rw [nth_nat, nth_nat] at this
  simpa [h1, h2] using this
theorem same_cv (A : Option Addr) (c : Nat) (xs : List Nd) (B : Option Addr) (d : Nat) (ys : List Nd) (w0 : World) (hx : Rd NdE w0 A xs) (hy : Rd NdE w0 B ys) (hl : xs.length < 4000000000000000000) :
    Cv Tryd.prog 24 [.slice A xs.length c, .slice B ys.length d] (.bool (decide (xs = ys))) w0 := by
  intro w hk
  have hx := hx.keep hk
  have hy := hy.keep hk
  refine calls_of_Wp (vs := [_, _]) Tryd.func24 ?_
  refine Wp.seq (Wp.reads (is := [0]) (Keep.refl _) (Rn.s rfl Yv.as (Rn.nil)) ?_)
  refine Wp.seq (Wp.seq (Wp.reads (is := [0, 1, 2, 3, 4]) (Keep.refl _) (Rn.s rfl Yv.mv (Rn.s rfl (Yv.len_v (e := 48) (m := 8)) (Rn.s rfl Yv.mv (Rn.s rfl (Yv.len_v (e := 48) (m := 8)) (Rn.s rfl (Yv.cmp _ rfl) (Rn.nil)))))) ?_))
  refine Wp.cond rfl (fun h => ?_) (fun h => ?_)
  · refine Wp.seq (Wp.reads (is := [0]) (Keep.refl _) (Rn.s rfl Yv.as (Rn.nil)) ?_)
    have hne : xs ≠ ys := by rintro rfl; simp at h
    exact Wp.ret (Fin.ret (Res.one rfl rfl) ⟨by rw [decide_eq_false hne], Keep.refl _⟩)
  have hle : xs.length = ys.length := by
    have : (xs.length : Int) = ys.length := by simpa using h
    omega
  refine Wp.skip (Wp.seq (Wp.seq (Wp.reads (is := [0]) (Keep.refl _) (Rn.s rfl Yv.as (Rn.nil)) ?_)))
  refine Wp.block ?_
  refine Wp.loop (α := Nat) (fun i ρ ds w' => ds = [] ∧ Keep w w' ∧ i ≤ xs.length ∧ (∀ j : Nat, j < i → nth xs (j : Int) = nth ys (j : Int)) ∧ Sub [(0, .slice A xs.length c), (1, .slice B ys.length d), (5, .int .i64 (i : Int))] ρ) (fun i => xs.length - i) 0
    ⟨rfl, Keep.refl _, Nat.zero_le _, fun j hj => absurd hj (Nat.not_lt_zero j), rfl, rfl, rfl, trivial⟩ ?_
  rintro i ρ ds w' ⟨rfl, hk, hi, hall, hs⟩
  refine Wp.forget _ ?_ hs
  have hx' := hx.keep hk
  have hy' := hy.keep hk
  refine Wp.seq (Wp.seq (Wp.reads (is := [0, 1, 2, 3]) (Keep.refl _) (Rn.s rfl Yv.mv (Rn.s rfl Yv.mv (Rn.s rfl (Yv.len_v (e := 48) (m := 8)) (Rn.s rfl (Yv.cmp _ rfl) (Rn.nil))))) ?_))
  refine Wp.cond rfl (fun h2 => ?_) (fun h2 => ?_)
  · have h2 := of_decide_eq_true h2
    refine Wp.skip (Wp.seq (Wp.block ?_))
    refine Wp.seq (Wp.readsD (is := [0, 1, 2, 3, 4, 5, 6, 7, 8]) mixed (fun _ _ _ _ _ h => h) (Keep.refl _) (Rn.s rfl Yv.mv (Rn.s rfl Yv.mv (Rn.s rfl (Yv.ia (e := 48) hx' (by omega) (by omega)) (Rn.s rfl (Yv.ldel hx' rfl rfl (by omega) (by omega)) (Rn.s rfl Yv.mv (Rn.s rfl Yv.mv (Rn.s rfl (Yv.ia (e := 48) hy' (by omega) (by omega)) (Rn.s rfl (Yv.ldel hy' rfl rfl (by omega) (by omega)) (Rn.s rfl (Yv.nes (ndEq (nth xs (i : Int)) (nth ys (i : Int)))) (Rn.nil)))))))))) ?_)
    refine Wp.cond rfl (fun h3 => ?_) (fun h3 => ?_)
    · refine Wp.seq (Wp.reads (is := [0]) (Keep.refl _) (Rn.s rfl Yv.as (Rn.nil)) ?_)
      have hne : xs ≠ ys := by rintro rfl; simp at h3
      exact Wp.ret (Fin.ret (Res.one rfl rfl) ⟨by rw [decide_eq_false hne], hk.trans (Keep.drew _)⟩)
    · have h3 : nth xs (i : Int) = nth ys (i : Int) := by simpa using h3
      refine Wp.skip (Wp.reads (is := [0, 1, 2]) (Keep.refl _) (Rn.s rfl Yv.mv (Rn.s rfl (Yv.add (by unfold inI; omega)) (Rn.s rfl Yv.as (Rn.nil)))) ?_)
      refine ⟨i + 1, ⟨rfl, hk.trans (Keep.drew _), by omega, fun j hj => ?_, rfl, rfl, rfl, trivial⟩, by omega⟩
      by_cases hji : j = i
      · subst hji; exact h3
      · exact hall j (by omega)
  · have h2 := of_decide_eq_false h2
    refine Wp.exit ?_
    refine Wp.seq (Wp.reads (is := [0]) (Keep.refl _) (Rn.s rfl Yv.as (Rn.nil)) ?_)
    have he : xs = ys := take_ext hle fun j hj => hall j (by omega)
    exact Wp.ret (Fin.ret (Res.one rfl rfl) ⟨by rw [decide_eq_true he], hk⟩)
theorem rd_pre {α : Type} {E : Enc α} {w : World} {A : Option Addr} {xs ys : List α} (h : Rd E w A (xs ++ ys)) : Rd E w A xs :=
  ⟨fun hl => h.adr (by simp; omega), fun j x hx k u hu => h.cell j x (by rw [List.getElem?_append_left (List.getElem?_eq_some_iff.1 hx).1]; exact hx) k u hu⟩
theorem fitN {n : Nat} (h : n ≤ 1599289640401) : Fits Tryd.prog 48 n := .inr ⟨1599289640401, by kernel_rfl, h⟩
theorem copyL_cx (A : Option Addr) (c : Nat) (t : List Nd) (w : World) (hr : Rd NdE w A t) (hc : A = none → c = 0) (hl : t.length ≤ 1599289640390) : Cx Tryd.prog 23 [.slice A t.length c] [] (fun v D => ∃ B d, v = .slice B t.length d ∧ D = [Ch.row NdE 48 B d t]) w := by
  refine calls_of_Wp (vs := [_]) Tryd.func23 ?_
  refine Wp.seq (Wp.reads (is := [0]) (Keep.refl _) (Rn.s rfl Yv.as (Rn.nil)) ?_)
  refine Wp.seq (Wp.regionL (l := [0, 1, 2, 3]) (WO.act (hc := rfl) (he := Ef.bsl (T := 48) NdE ([] : List Nd) (St.init w) (fun b w1 k1 hs1 => WO.rd (is := [1]) (js := [2, 3]) (Keep.refl _) (Rn.s rfl Yv.mv (Rn.nil)) (WO.act (he := Ef.append hs1 0 (hr.keep k1) hc (fitN (by simp only [List.length_nil]; omega)) (fun A' c' w' hs' => WO.rd (is := [3]) (js := []) (Keep.refl _) (Rn.s rfl Yv.as (Rn.nil)) (WO.done ?_))))))))
  exact Wp.ret (Fin.ret (Res.one rfl rfl) ⟨_, _, rfl, ⟨A', c', rfl, rfl⟩, hs'⟩)
def endR (d : Int) : List Nd → Nat → Nat
  | [], k => k
  | n :: r, k => if d < n.depth then endR d r (k + 1) else k
def endS (t : List Nd) (i : Nat) : Nat := endR (nth t (i : Int)).depth (t.drop (i + 1)) (i + 1)
theorem endR_bd (d : Int) : ∀ (r : List Nd) (k : Nat), k ≤ endR d r k ∧ endR d r k ≤ k + r.length
  | [], k => by simp [endR]
  | n :: r, k => by
    rw [endR]
    have := endR_bd d r (k + 1)
    simp only [List.length_cons]
    split <;> omega
theorem endS_bd {t : List Nd} {i : Nat} (hi : i < t.length) : i < endS t i ∧ endS t i ≤ t.length := by
  have := endR_bd (nth t (i : Int)).depth (t.drop (i + 1)) (i + 1)
  simp only [List.length_drop] at this
  unfold endS
  omega
theorem drop_cons {α : Type} [Inhabited α] {l : List α} {k : Nat} (hk : k < l.length) : l.drop k = nth l (k : Int) :: l.drop (k + 1) := by
  have h : l[k] = nth l (k : Int) := by rw [nth_nat]; simp [hk]
  rw [List.drop_eq_getElem_cons hk, h]
theorem end_cv' (A : Option Addr) (c : Nat) (t : List Nd) (i : Nat) (w0 : World) (hr : Rd NdE w0 A t) (hi : i < t.length) (hl : t.length < 4000000000000000000) :
    Cv Tryd.prog 46 [.slice A t.length c, .int .i64 i] (.int .i64 (endS t i)) w0 := by
  intro w hk
  have hr := hr.keep hk
  refine calls_of_Wp (vs := [_, _]) Tryd.func46 ?_
  refine Wp.seq (Wp.reads (is := [0]) (Keep.refl _) (Rn.s rfl Yv.as (Rn.nil)) ?_)
  refine Wp.seq (Wp.reads (is := [0, 1, 2]) (Keep.refl _) (Rn.s rfl Yv.mv (Rn.s rfl (Yv.add (by unfold inI; omega)) (Rn.s rfl Yv.as (Rn.nil)))) ?_)
  refine Wp.seq (Wp.block ?_)
  refine Wp.loop (α := Nat) (fun k ρ ds w' => ds = [] ∧ Keep w w' ∧ i < k ∧ k ≤ t.length ∧ endS t i = endR (nth t (i : Int)).depth (t.drop k) k ∧
    Sub [(0, .slice A t.length c), (1, .int .i64 i), (5, .int .i64 (k : Int))] ρ) (fun k => t.length - k) (i + 1) ⟨rfl, Keep.refl _, by omega, by omega, rfl, rfl, rfl, by simp; rfl, trivial⟩ ?_
  rintro k ρ ds w' ⟨rfl, hk, h1, h2, h3, hs⟩
  refine Wp.forget _ ?_ hs
  have hr' := hr.keep hk
  refine Wp.seq (Wp.seq (Wp.readsD (is := [0, 1, 2, 3, 4, 5, 6, 7, 8, 9, 10, 11, 12, 13, 14, 15, 16]) mixed (fun _ _ _ _ _ h => h) (Keep.refl _) (Rn.s rfl Yv.mv (Rn.s rfl Yv.mv (Rn.s rfl (Yv.len_v (e := 48) (m := 8)) (Rn.s rfl (Yv.cmp _ rfl) (Rn.s rfl Yv.mv (Rn.and (is := [5, 6, 7, 8, 9, 10, 11, 12, 13, 14, 15, 16]) (js := []) (t := 12) (d := 24) (hg := rfl) (ht := fun h4 => have h4 := of_decide_eq_true h4; Rn.s rfl Yv.mv (Rn.s rfl Yv.mv (Rn.s rfl (Yv.ia (e := 48) hr' (by omega) (by omega)) (Rn.s rfl (Yv.fa (off := 1)) (Rn.s rfl (Yv.ld (hr'.ld 1 (by omega) (by omega))) (Rn.s rfl Yv.mv (Rn.s rfl Yv.mv (Rn.s rfl (Yv.ia (e := 48) hr' (j := i) (by omega) (by omega)) (Rn.s rfl (Yv.fa (off := 1)) (Rn.s rfl (Yv.ld (hr'.ld (i := i) 1 (by omega) (by omega))) (Rn.s rfl (Yv.cmp _ rfl) (Rn.s rfl Yv.pick_t ((Rn.e 12 rfl rfl)))))))))))))) (hf := fun _ => Rn.no rfl (Rn.no rfl (Rn.no rfl (Rn.no rfl (Rn.no rfl (Rn.no rfl (Rn.no rfl (Rn.no rfl (Rn.no rfl (Rn.no rfl (Rn.no rfl (Rn.s rfl Yv.pick_f (Rn.e 12 rfl rfl))))))))))))) (k := Rn.nil))))))) ?_))
  refine Wp.cond rfl (fun h => ?_) (fun h => ?_)
  · simp only [Bool.and_eq_true, decide_eq_true_eq] at h
    have hkl : k < t.length := by omega
    rw [drop_cons hkl, endR, if_pos h.2] at h3
    refine Wp.skip (Wp.block (Wp.reads (is := [0, 1, 2]) (Keep.refl _) (Rn.s rfl Yv.mv (Rn.s rfl (Yv.add (by unfold inI; omega)) (Rn.s rfl Yv.as (Rn.nil)))) ?_))
    exact ⟨k + 1, ⟨rfl, hk.trans (Keep.drew _), by omega, hkl, h3, rfl, rfl, rfl, trivial⟩, by omega⟩
  · refine Wp.exit ?_
    refine Wp.seq (Wp.reads (is := [0, 1]) (Keep.refl _) (Rn.s rfl Yv.mv (Rn.s rfl Yv.as (Rn.nil))) ?_)
    have e : endS t i = k := by
      rw [h3]
      by_cases hkl : k < t.length
      · rw [drop_cons hkl, endR, if_neg]
        simp only [Bool.and_eq_false_iff, decide_eq_false_iff_not] at h
        omega
      · rw [List.drop_eq_nil_of_le (by omega), endR]
    exact Wp.ret (Fin.ret (Res.one rfl rfl) ⟨by rw [e], hk.trans (Keep.drew _)⟩)
theorem rd_some {α : Type} {E : Enc α} {w : World} {A : Option Addr} {xs : List α} (h : Rd E w A xs) (h0 : 0 < xs.length) : A ≠ none := by
  intro e
  have := h.adr h0
  rw [e] at this
  cases this
theorem parse_cx (file s : Bs) (w : World) (hg : Gm w) : Cx Tryd.prog 21 [S file, S s] [] (fun v D => ∃ A c, v = .tuple #[.slice A (parseS file s).1.length c, .agg (parseS file s).2.cs.toArray] ∧ D = [Ch.row NdE 48 A c (parseS file s).1]) w := by
  refine Calls.mono (parse_calls file s w hg w (Keep.refl _)) ?_
  rintro e w' ⟨A, c, rfl, h⟩
  exact ⟨_, _, rfl, ⟨A, c, rfl, rfl⟩, h⟩
theorem sameT_cv (A : Option Addr) (c : Nat) (xs : List Bs) (B : Option Addr) (d : Nat) (ys : List Bs) (w0 : World) (hx : Rd StE w0 A xs) (hy : Rd StE w0 B ys) (hl : xs.length < 4000000000000000000) :
    Cv Tryd.prog 14 [.slice A xs.length c, .slice B ys.length d] (.bool (decide (xs = ys))) w0 := by
  intro w hk
  have hx := hx.keep hk
  have hy := hy.keep hk
  refine calls_of_Wp (vs := [_, _]) Tryd.func14 ?_
  refine Wp.seq (Wp.reads (is := [0]) (Keep.refl _) (Rn.s rfl Yv.as (Rn.nil)) ?_)
  refine Wp.seq (Wp.seq (Wp.reads (is := [0, 1, 2, 3, 4]) (Keep.refl _) (Rn.s rfl Yv.mv (Rn.s rfl (Yv.len_v (e := 9) (m := 1)) (Rn.s rfl Yv.mv (Rn.s rfl (Yv.len_v (e := 9) (m := 1)) (Rn.s rfl (Yv.cmp _ rfl) (Rn.nil)))))) ?_))
  refine Wp.cond rfl (fun h => ?_) (fun h => ?_)
  · refine Wp.seq (Wp.reads (is := [0]) (Keep.refl _) (Rn.s rfl Yv.as (Rn.nil)) ?_)
    have hne : xs ≠ ys := by rintro rfl; simp at h
    exact Wp.ret (Fin.ret (Res.one rfl rfl) ⟨by rw [decide_eq_false hne], Keep.refl _⟩)
  have hle : xs.length = ys.length := by
    have : (xs.length : Int) = ys.length := by simpa using h
    omega
  refine Wp.skip (Wp.seq (Wp.seq (Wp.reads (is := [0]) (Keep.refl _) (Rn.s rfl Yv.as (Rn.nil)) ?_)))
  refine Wp.block ?_
  refine Wp.loop (α := Nat) (fun i ρ ds w' => ds = [] ∧ Keep w w' ∧ i ≤ xs.length ∧ (∀ j : Nat, j < i → nth xs (j : Int) = nth ys (j : Int)) ∧ Sub [(0, .slice A xs.length c), (1, .slice B ys.length d), (5, .int .i64 (i : Int))] ρ) (fun i => xs.length - i) 0
    ⟨rfl, Keep.refl _, Nat.zero_le _, fun j hj => absurd hj (Nat.not_lt_zero j), rfl, rfl, rfl, trivial⟩ ?_
  rintro i ρ ds w' ⟨rfl, hk, hi, hall, hs⟩
  refine Wp.forget _ ?_ hs
  have hx' := hx.keep hk
  have hy' := hy.keep hk
  refine Wp.seq (Wp.seq (Wp.reads (is := [0, 1, 2, 3]) (Keep.refl _) (Rn.s rfl Yv.mv (Rn.s rfl Yv.mv (Rn.s rfl (Yv.len_v (e := 9) (m := 1)) (Rn.s rfl (Yv.cmp _ rfl) (Rn.nil))))) ?_))
  refine Wp.cond rfl (fun h2 => ?_) (fun h2 => ?_)
  · have h2 := of_decide_eq_true h2
    refine Wp.skip (Wp.seq (Wp.block ?_))
    refine Wp.seq (Wp.readsD (is := [0, 1, 2, 3, 4, 5, 6, 7, 8]) mixed (fun _ _ _ _ _ h => h) (Keep.refl _) (Rn.s rfl Yv.mv (Rn.s rfl Yv.mv (Rn.s rfl (Yv.ia (e := 9) hx' (by omega) (by omega)) (Rn.s rfl (Yv.ld (hx'.ld 0 (by omega) (by omega))) (Rn.s rfl Yv.mv (Rn.s rfl Yv.mv (Rn.s rfl (Yv.ia (e := 9) hy' (by omega) (by omega)) (Rn.s rfl (Yv.ld (hy'.ld 0 (by omega) (by omega))) (Rn.s rfl (Yv.scm _ rfl) (Rn.nil)))))))))) ?_)
    refine Wp.cond rfl (fun h3 => ?_) (fun h3 => ?_)
    · refine Wp.seq (Wp.reads (is := [0]) (Keep.refl _) (Rn.s rfl Yv.as (Rn.nil)) ?_)
      have hne : xs ≠ ys := by rintro rfl; simp at h3
      exact Wp.ret (Fin.ret (Res.one rfl rfl) ⟨by rw [decide_eq_false hne], hk.trans (Keep.drew _)⟩)
    · have h3 : nth xs (i : Int) = nth ys (i : Int) := by simpa using h3
      refine Wp.skip (Wp.reads (is := [0, 1, 2]) (Keep.refl _) (Rn.s rfl Yv.mv (Rn.s rfl (Yv.add (by unfold inI; omega)) (Rn.s rfl Yv.as (Rn.nil)))) ?_)
      refine ⟨i + 1, ⟨rfl, hk.trans (Keep.drew _), by omega, fun j hj => ?_, rfl, rfl, rfl, trivial⟩, by omega⟩
      by_cases hji : j = i
      · subst hji; exact h3
      · exact hall j (by omega)
  · have h2 := of_decide_eq_false h2
    refine Wp.exit ?_
    refine Wp.seq (Wp.reads (is := [0]) (Keep.refl _) (Rn.s rfl Yv.as (Rn.nil)) ?_)
    have he : xs = ys := take_ext hle fun j hj => hall j (by omega)
    exact Wp.ret (Fin.ret (Res.one rfl rfl) ⟨by rw [decide_eq_true he], hk⟩)
theorem fitT {n : Nat} (h : n ≤ 8796093022208) : Fits Tryd.prog 9 n := .inr ⟨8796093022208, by kernel_rfl, h⟩
theorem goS_len (file : Bs) : ∀ (ls : List Ln) (nodes : List Nd) (st : List OB) (last : Bool) (ind : Int), (goS file ls nodes st last ind).1.length ≤ nodes.length + ls.length
  | [], nodes, st, last, ind => by simp [goS]
  | l :: ls, nodes, st, last, ind => by
    rw [goS]
    split
    · simp
    split
    · simp
    · rename_i h2
      obtain ⟨E1, N2, S2, hE⟩ : ∃ E1 N2 S2, enterS nodes st last ind l (readC l.text).1 = (E1, N2, S2) := ⟨_, _, _, rfl⟩
      rw [hE] at h2 ⊢
      simp only [ne_eq, Decidable.not_not] at h2
      subst h2
      have h3 := (enterS_len hE).1
      have := goS_len file ls (N2 ++ [nodeS file S2.length l (readC l.text).1]) S2 (!(readC l.text).1.has) l.indent
      simp only [List.length_append, List.length_cons, List.length_nil] at this ⊢
      omega
theorem parseS_len (file s : Bs) : (parseS file s).1.length ≤ 1599289640390 := by
  unfold parseS
  split
  · simp
  · have := goS_len file (linesS s).ls [nd0 file] [ob0] false 0
    have h2 := (linesS_ok s).2
    simp only [List.length_cons, List.length_nil] at this
    omega
theorem cut_none {t : List Nd} {A : Option Addr} {c l : Nat} (hA : A ≠ none) : cutA A c l 8 = none → c - l = 0 := by
  intro h
  unfold cutA at h
  split at h
  · omega
  · simp only [Option.map_eq_none_iff] at h
    exact (hA h).elim
theorem rd_drop {w : World} {A : Option Addr} {t : List Nd} {c l : Nat} (hr : Rd NdE w A t) (hc : t.length ≤ c) : Rd NdE w (cutA A c l 8) (t.drop l) := by
  have := hr.cut (l := l) hc (Nat.le_refl _)
  rwa [List.take_length] at this
theorem rd_take {w : World} {A : Option Addr} {t : List Nd} {m : Nat} (hr : Rd NdE w A t) : Rd NdE w A (t.take m) := by
  have : Rd NdE w A (t.take m ++ t.drop m) := by rw [List.take_append_drop]; exact hr
  exact rd_pre this
theorem resCA {P : Program} {fn : Func} {N n : Nat} {ρ : Env} {w : World} {t b : Nat} {ty : TypeId} {vs : List Value} (h : fn.results = #[.cell t ty]) (hp : lk ρ t = some (PB b)) (hc : Cells w b vs) (hn : vs.length = n := by rfl) (ht : agB P ty n = true := by kernel_rfl) : Res P fn N ρ w (.agg vs.toArray) := fun a ds ha => by
  have h1 := ha.val t _ hp
  have h2 : (loadVar ty ⟨b, 0, none⟩).run P w = .ok (.agg vs.toArray) w := run_loadVar_ag (agB_of ht) ⟨b, 0, none⟩ vs hn (fun j v hj => by rw [add_off, Nat.zero_add]; exact hc j v hj)
  simp only [results, h]
  simp at h1
  simp [h1, h2, asAddr]
theorem resCCC {P : Program} {fn : Func} {N : Nat} {ρ : Env} {w : World} {t u v bt bu bv : Nat} {ty tu tv : TypeId} {x y z : Value} (h : fn.results = #[.cell t ty, .cell u tu, .cell v tv]) (hp : lk ρ t = some (PB bt)) (hq : lk ρ u = some (PB bu)) (hr : lk ρ v = some (PB bv))
    (hc : Cells w bt [x]) (hx : Cells w bu [y]) (hy : Cells w bv [z]) (ht : scB P ty = true := by kernel_rfl) (hu : scB P tu = true := by kernel_rfl) (hv : scB P tv = true := by kernel_rfl) : Res P fn N ρ w (.tuple #[x, y, z]) := fun a ds ha => by
  have h1 := ha.val t _ hp
  have h2 := ha.val u _ hq
  have h3 := ha.val v _ hr
  have e1 : (loadVar ty ⟨bt, 0, none⟩).run P w = .ok x w := by simp [loadVar, run_isAgg_sc (scB_of ht), hc 0 x rfl]
  have e2 : (loadVar tu ⟨bu, 0, none⟩).run P w = .ok y w := by simp [loadVar, run_isAgg_sc (scB_of hu), hx 0 y rfl]
  have e3 : (loadVar tv ⟨bv, 0, none⟩).run P w = .ok z w := by simp [loadVar, run_isAgg_sc (scB_of hv), hy 0 z rfl]
  simp only [results, h]
  simp at h1 h2 h3
  simp [h1, h2, h3, e1, e2, e3, asAddr]
/-! ### a node's place; the texts of a node -/
def placeS (why : Int) (n : Nd) : Ft := ⟨why, n.file, n.line, if n.val = 0 then n.col else n.val⟩
theorem place_cv (why : Int) (n : Nd) (w0 : World) : Cv Tryd.prog 40 [.int .i64 why, .agg n.cs.toArray] (.agg (placeS why n).cs.toArray) w0 := by
  intro w hk
  refine calls_of_Wp (vs := [_, _]) Tryd.func40 ?_
  refine Wp.seq (Wp.regionL (l := [0, 1]) (WO.act (hc := rfl) (he := Ef.boxL (n.cs) (St.init w) (fun ba1 wa1 ka1 hsa1 => WO.act (hc := rfl) (he := Ef.allocL (vs := [.int .i64 0, S [], .int .i64 0, .int .i64 0]) hsa1 (fun ba2 wa2 ka2 hsa2 => WO.done ?_))))))
  have hst : St w [] wa2 [Ch.cells ba2 27 ft0.cs, Ch.cells ba1 48 n.cs] := hsa2
  have c3 := hst.cells 1
  refine Wp.seq (Wp.reads (is := [0, 1, 2]) (Keep.refl _) (Rn.s rfl (Yv.fa (off := 7)) (Rn.s rfl (Yv.ld (c3.at_ 7)) (Rn.s rfl Yv.as (Rn.nil)))) ?_)
  refine Wp.seq (Wp.seq (Wp.reads (is := [0, 1]) (Keep.refl _) (Rn.s rfl Yv.mv (Rn.s rfl (Yv.cmp _ rfl) (Rn.nil))) ?_))
  refine Wp.cond rfl (fun h => ?_) (fun h => ?_)
  · have h := eq_of_beq h
    refine Wp.reads (is := [0, 1, 2]) (Keep.refl _) (Rn.s rfl (Yv.fa (off := 6)) (Rn.s rfl (Yv.ld (c3.at_ 6)) (Rn.s rfl Yv.as (Rn.nil)))) ?_
    refine Wp.seq (Wp.regionL (l := [0, 1, 2, 3, 4, 5, 6, 7]) (WO.rd (is := [0, 1, 2, 3, 4, 5, 6]) (js := [7]) (Keep.refl _) (Rn.s rfl Yv.mv (Rn.s rfl (Yv.fa (off := 4)) (Rn.s rfl (Yv.ld (c3.at_ 4)) (Rn.s rfl (Yv.fa (off := 5)) (Rn.s rfl (Yv.ld (c3.at_ 5)) (Rn.s rfl Yv.mv (Rn.s rfl (Yv.bd (cs := Ft.cs ⟨why, n.file, n.line, n.col⟩)) (Rn.nil)))))))) (WO.act (hc := rfl) (he := Ef.stores hst 0 (fun wx1 hsx1 => WO.done ?_)))))
    refine Wp.ret (Fin.ret (resCA rfl rfl (hsx1.cells 0)) ⟨?_, hsx1.keep⟩)
    unfold placeS
    rw [if_pos h]
    rfl
  · have h := ne_of_beq_false h
    refine Wp.skip (Wp.seq (Wp.regionL (l := [0, 1, 2, 3, 4, 5, 6, 7]) (WO.rd (is := [0, 1, 2, 3, 4, 5, 6]) (js := [7]) (Keep.refl _) (Rn.s rfl Yv.mv (Rn.s rfl (Yv.fa (off := 4)) (Rn.s rfl (Yv.ld (c3.at_ 4)) (Rn.s rfl (Yv.fa (off := 5)) (Rn.s rfl (Yv.ld (c3.at_ 5)) (Rn.s rfl Yv.mv (Rn.s rfl (Yv.bd (cs := Ft.cs ⟨why, n.file, n.line, n.val⟩)) (Rn.nil)))))))) (WO.act (hc := rfl) (he := Ef.stores hst 0 (fun wx1 hsx1 => WO.done ?_))))))
    refine Wp.ret (Fin.ret (resCA rfl rfl (hsx1.cells 0)) ⟨?_, hsx1.keep⟩)
    unfold placeS
    rw [if_neg h]
    rfl
abbrev IvE : Enc Nat := ⟨1, fun n => [.int .i64 (n : Int)], fun _ => rfl⟩
def textsG (t : List Nd) (i : Nat) : Option Nat → List Nat × Int × Bool
  | some n => ([], n, false)
  | none => (partsS t i, 0, true)
/-- the texts of a node: its own place, or those of its parts; else the node that is wrong -/
def textsS (t : List Nd) (i : Nat) : List Nat × Int × Bool :=
  if (nth t (i : Int)).kind = 3 then ([i], 0, true) else if (nth t (i : Int)).kind = 1 then ([], i, false) else
  textsG t i ((partsS t i).find? (fun n : Nat => (nth t (n : Int)).kind != 3))
theorem partsR_len' (d : Int) : ∀ (r : List Nd) (k : Nat), (partsR d r k).length ≤ r.length := partsR_len d
theorem texts_cx (A : Option Addr) (c : Nat) (t : List Nd) (i : Nat) (w : World) (hr : Rd NdE w A t) (hi : i < t.length) (hl : t.length ≤ 1000000) (hd : -1000000 ≤ (nth t (i : Int)).depth ∧ (nth t (i : Int)).depth ≤ 1000000) :
    Cx Tryd.prog 63 [.slice A t.length c, .int .i64 i] [] (fun v D => ∃ O co, v = .tuple #[.slice O (textsS t i).1.length co, .int .i64 (textsS t i).2.1, .bool (textsS t i).2.2] ∧ D = [Ch.row IvE 3 O co (textsS t i).1]) w := by
  refine calls_of_Wp (vs := [_, _]) Tryd.func63 ?_
  refine Wp.seq (Wp.regionL (l := [0, 1, 2, 3]) (WO.act (hc := rfl) (he := Ef.boxL ([.slice A t.length c]) (St.init w) (fun ba1 wa1 ka1 hsa1 => WO.act (hc := rfl) (he := Ef.allocL (vs := [.slice none 0 0]) hsa1 (fun ba2 wa2 ka2 hsa2 => WO.act (hc := rfl) (he := Ef.allocL (vs := [.int .i64 0]) hsa2 (fun ba3 wa3 ka3 hsa3 => WO.act (hc := rfl) (he := Ef.allocL (vs := [.bool false]) hsa3 (fun ba4 wa4 ka4 hsa4 => WO.done ?_))))))))))
  have hst : St w [] wa4 [Ch.cells ba4 4 [.bool false], Ch.cells ba3 3 [.int .i64 0], Ch.cells ba2 129 [.slice none 0 0], Ch.cells ba1 43 [.slice A t.length c]] := hsa4
  clear hsa1 hsa2 hsa3 hsa4
  have c2 := hst.cells 3
  have hr1 := hr.keep hst.keep
  refine Wp.seq (Wp.seq (Wp.reads (is := [0, 1, 2, 3, 4]) (Keep.refl _) (Rn.s rfl (Yv.ld (c2.at_ 0)) (Rn.s rfl Yv.mv (Rn.s rfl (Yv.ia (e := 48) hr1 (by omega) (by omega)) (Rn.s rfl (Yv.fa (off := 0)) (Rn.s rfl (Yv.ld (hr1.ld 0 (by omega) (by omega))) (Rn.nil)))))) ?_))
  refine Wp.block ?_
  refine Wp.seq (Wp.reads (is := [0, 1]) (Keep.refl _) (Rn.s rfl (Yv.cmp _ rfl) (Rn.s rfl Yv.as (Rn.nil))) ?_)
  refine Wp.cond rfl (fun h => ?_) (fun h => ?_)
  · have h := eq_of_beq h
    have e : textsS t i = ([i], 0, true) := by unfold textsS; rw [if_pos h]
    rw [e]
    refine Wp.seq (Wp.regionL (l := [0, 1, 2, 3, 4]) (WO.rd (is := [0]) (js := [1, 2, 3, 4]) (Keep.refl _) (Rn.s rfl Yv.mv (Rn.nil)) (WO.act (hc := rfl) (he := Ef.bsl (T := 3) IvE [i] hst (fun bx1 wx1 kx1 hsx1 => WO.act (hc := rfl) (he := Ef.store hsx1 3 (fun wx2 hsx2 => WO.act (hc := rfl) (he := Ef.store hsx2 3 (fun wx3 hsx3 => WO.act (hc := rfl) (he := Ef.store hsx3 3 (fun wx4 hsx4 => WO.done ?_)))))))))))
    have hst : St w [] wx4 [Ch.cells ba4 4 [.bool true], Ch.cells ba3 3 [.int .i64 0], Ch.cells ba2 129 [.slice (some ⟨bx1, 0, none⟩) 1 1], Ch.row IvE 3 (some ⟨bx1, 0, none⟩) 1 [i], Ch.cells ba1 43 [.slice A t.length c]] := hsx4
    exact Wp.ret (Fin.ret (resCCC rfl rfl rfl rfl (hst.cells 2) (hst.cells 1) (hst.cells 0)) ⟨_, _, rfl, ⟨_, _, rfl, rfl⟩, hst.pick [3]⟩)
  have h := ne_of_beq_false h
  refine Wp.seq (Wp.reads (is := [0, 1]) (Keep.refl _) (Rn.s rfl (Yv.cmp _ rfl) (Rn.s rfl Yv.as (Rn.nil))) ?_)
  refine Wp.cond rfl (fun h2 => ?_) (fun h2 => ?_)
  · have h2 := eq_of_beq h2
    have e : textsS t i = ([], (i : Int), false) := by unfold textsS; rw [if_neg h, if_pos h2]
    rw [e]
    refine Wp.seq (Wp.regionL (l := [0, 1, 2, 3]) (WO.rd (is := [0]) (js := [1, 2, 3]) (Keep.refl _) (Rn.s rfl Yv.mv (Rn.nil)) (WO.act (hc := rfl) (he := Ef.store hst 2 (fun wx1 hsx1 => WO.act (hc := rfl) (he := Ef.store hsx1 2 (fun wx2 hsx2 => WO.act (hc := rfl) (he := Ef.store hsx2 2 (fun wx3 hsx3 => WO.done ?_)))))))))
    have hst : St w [] wx3 [Ch.cells ba4 4 [.bool false], Ch.cells ba3 3 [.int .i64 i], Ch.cells ba2 129 [.slice none 0 0], Ch.cells ba1 43 [.slice A t.length c]] := hsx3
    exact Wp.ret (Fin.ret (resCCC rfl rfl rfl rfl (hst.cells 2) (hst.cells 1) (hst.cells 0)) ⟨_, _, rfl, ⟨none, 0, rfl, rfl⟩, (hst.pick []).nilrow _ _⟩)
  have h2 := ne_of_beq_false h2
  obtain ⟨G, hG⟩ : ∃ G, G = (partsS t i).find? (fun n : Nat => (nth t (n : Int)).kind != 3) := ⟨_, rfl⟩
  have e : textsS t i = textsG t i G := by unfold textsS; rw [if_neg h, if_neg h2, ← hG]
  rw [e]
  clear e
  refine Wp.skip (Wp.seq (Wp.regionL (l := [0]) (WO.act (hc := rfl) (he := Ef.allocL (vs := [.slice none 0 0]) hst (fun bb1 wb1 kb1 hsb1 => WO.done ?_)))))
  have c2 := hsb1.cells 4
  refine Wp.seq (Wp.seq (Wp.regionL (l := [0, 1, 2]) (WO.rd (is := [0, 1]) (js := [2]) (Keep.refl _) (Rn.s rfl (Yv.ld (c2.at_ 0)) (Rn.s rfl Yv.mv (Rn.nil))) (WO.act (hc := rfl) (he := Ef.cx (of_calls i A c t wb1) hsb1 (FnOk.of Tryd.func59) ?_)))))
  rintro v D wd1 ⟨b1, b2, rfl, rfl⟩ hsd1
  refine WO.done ?_
  have hst : St w [] wd1 (Ch.row IvE 3 none 0 [] :: [Ch.cells b1 3 [.int .i64 i], Ch.cells b2 43 [.slice A t.length c], Ch.cells bb1 129 [.slice none 0 0], Ch.cells ba4 4 [.bool false], Ch.cells ba3 3 [.int .i64 0], Ch.cells ba2 129 [.slice none 0 0], Ch.cells ba1 43 [.slice A t.length c]]) := hsd1.nilrow IvE 3
  have hpl : (partsS t i).length ≤ t.length := by
    have := partsR_len (nth t (i : Int)).depth (t.drop (i + 1)) (i + 1)
    simp only [List.length_drop] at this
    unfold partsS
    omega
  refine Wp.block ?_
  refine Wp.ranges hst (of_tells b1 b2 i A c t hi (by omega) hd)
    (fun k D => ∃ O co, D = [Ch.row IvE 3 O co ((partsS t i).take k), Ch.cells b1 3 [.int .i64 i], Ch.cells b2 43 [.slice A t.length c], Ch.cells bb1 129 [.slice O ((partsS t i).take k).length co], Ch.cells ba4 4 [.bool false], Ch.cells ba3 3 [.int .i64 0], Ch.cells ba2 129 [.slice none 0 0], Ch.cells ba1 43 [.slice A t.length c]] ∧ ((partsS t i).drop k).find? (fun n : Nat => (nth t (n : Int)).kind != 3) = G)
    (fun c' D => c' = .ret ∧ ∃ n : Nat, G = some n ∧ D = [Ch.cells ba4 4 [.bool false], Ch.cells ba3 3 [.int .i64 n], Ch.cells ba2 129 [.slice none 0 0]])
    ?_ ⟨none, 0, rfl, hG.symm⟩ ?_ ?_ ?_ (hf := Tryd.func87)
  · rintro k D' W ⟨O, co, rfl, -⟩ h
    exact ⟨h.cells 1, h.cells 2, hr.keep h.keep⟩
  · rintro k x l kb busy D' W hx ⟨O, co, rfl, hfd⟩ hW
    have hxm := partsS_mem hi x (List.mem_of_getElem? hx)
    have hkl : k < (partsS t i).length := (List.getElem?_eq_some_iff.1 hx).1
    refine Wp.reads (is := [0]) (Keep.refl _) (Rn.s rfl Yv.as (Rn.nil)) ⟨rfl, Keep.refl _, ?_⟩
    intro W2 hW2
    have hr2 : Rd NdE W2 A t := hr.keep hW2.keep
    have c2 := hW2.cells 9
    have c7 := hW2.cells 5
    rw [List.drop_eq_getElem_cons hkl, (List.getElem?_eq_some_iff.1 hx).2, List.find?_cons] at hfd
    refine Wp.block (Wp.seq (Wp.seq (Wp.reads (is := [0, 1, 2, 3, 4, 5]) (Keep.refl _) (Rn.s rfl (Yv.ld (c2.at_ 0)) (Rn.s rfl Yv.mv (Rn.s rfl (Yv.ia (e := 48) hr2 (by omega) (by omega)) (Rn.s rfl (Yv.fa (off := 0)) (Rn.s rfl (Yv.ld (hr2.ld 0 (by omega) (by omega))) (Rn.s rfl (Yv.cmp _ rfl) (Rn.nil))))))) ?_)))
    refine Wp.cond rfl (fun h3 => ?_) (fun h3 => ?_)
    · rw [h3] at hfd
      refine Wp.seq (Wp.regionL (l := [0, 1, 2, 3]) (WO.rd (is := [0]) (js := [1, 2, 3]) (Keep.refl _) (Rn.s rfl Yv.mv (Rn.nil)) (WO.act (hc := rfl) (he := Ef.store hW2 8 (fun wy1 hsy1 => WO.act (hc := rfl) (he := Ef.store hsy1 8 (fun wy2 hsy2 => WO.act (hc := rfl) (he := Ef.store hsy2 8 (fun wy3 hsy3 => WO.done ?_)))))))))
      exact Wp.ret ⟨_, ⟨rfl, x, hfd.symm, rfl⟩, hsy3.pick [3, 4, 0, 1, 2]⟩
    · rw [h3] at hfd
      have etk : (partsS t i).take (k + 1) = (partsS t i).take k ++ [x] := by rw [List.take_add_one, hx]; rfl
      refine Wp.skip (Wp.regionL (l := [0, 1, 2, 3, 4]) (WO.rd (is := [0, 1]) (js := [2, 3, 4]) (Keep.refl _) (Rn.s rfl (Yv.ld (c7.at_ 0)) (Rn.s rfl Yv.mv (Rn.nil))) (WO.app IvE [x] rfl (fun _ => rfl) hW2 2 (.inl (by simp only [List.length_cons, List.length_nil, List.length_take]; omega)) (fun by1 Ay1 cy1 wy1 hsy1 => WO.act (hc := rfl) (he := Ef.store hsy1 5 (fun wy2 hsy2 => WO.done ?_))))))
      refine ⟨_, ⟨Ay1, cy1, rfl, hfd⟩, ?_⟩
      rw [etk]
      exact hsy2.pick [2, 3, 1, 4, 5, 0, 6, 7, 8, 9]
  · rintro kb D' W ⟨O, co, rfl, hfd⟩ hW
    rw [List.drop_eq_nil_of_le (Nat.le_refl _), List.find?_nil] at hfd
    subst hfd
    rw [List.take_of_length_le (Nat.le_refl _)] at hW
    have c7 := hW.cells 4
    refine Wp.seq (Wp.regionL (l := [0, 1, 2, 3]) (WO.rd (is := [0]) (js := [1, 2, 3]) (Keep.refl _) (Rn.s rfl (Yv.ld (c7.at_ 0)) (Rn.nil)) (WO.act (hc := rfl) (he := Ef.store hW 7 (fun wy1 hsy1 => WO.act (hc := rfl) (he := Ef.store hsy1 7 (fun wy2 hsy2 => WO.act (hc := rfl) (he := Ef.store hsy2 7 (fun wy3 hsy3 => WO.done ?_)))))))))
    have hs2 := hsy3.pick [3, 0, 1, 2, 4]
    exact Wp.ret (Fin.retM (Lv.one hs2 0 fun w2 hst2 => ⟨_, resCCC rfl rfl rfl rfl (hst2.cells 2) (hst2.cells 1) (hst2.cells 0), _, _, rfl, ⟨O, co, rfl, rfl⟩, hst2.pick [3]⟩))
  · rintro kb c' D' W ⟨rfl, n, hGn, rfl⟩ hW
    subst hGn
    exact Wp.ret (Fin.retM (Lv.one hW 0 fun w2 hst2 => ⟨_, resCCC rfl rfl rfl rfl (hst2.cells 2) (hst2.cells 1) (hst2.cells 0), _, _, rfl, ⟨none, 0, rfl, rfl⟩, (hst2.pick []).nilrow _ _⟩))
end Go.Proofs.YtgjhbapbomdpbaaDoor.C
/- Files that include files: what include.Load computes, in plain words. -/
set_option linter.unusedVariables false
set_option linter.unusedSimpArgs false
set_option maxRecDepth 10000
namespace Go.Proofs.YtgjhbapbomdpbaaDoor.C
open Go.RowKit Go.Proofs.YtgjhbapbomdpbaaDoor.Sh
structure Fl where
  name : Bs
  text : Bs
deriving Inhabited, DecidableEq
abbrev Fl.cs (f : Fl) : List Value := [S f.name, S f.text]
abbrev FlE : Enc Fl := ⟨2, Fl.cs, fun _ => rfl⟩
abbrev VF (f : Fl) : Value := .agg f.cs.toArray
def incl : Bs := [105, 110, 99, 108, 117, 100, 101]
/-- the names that a tree includes, or a fault -/
def namesS (t : List Nd) : List Nd × Ft :=
  if findS t 0 incl < 0 then ([], ft0)
  else if (textsS t (findS t 0 incl).toNat).2.2 = false then ([], placeS 72 (nth t (textsS t (findS t 0 incl).toNat).2.1))
  else ((textsS t (findS t 0 incl).toNat).1.map (fun n : Nat => nth t (n : Int)), ft0)
def wcutS (t : List Nd) (key : Bs) : List Nd := if findS t 0 key < 0 then t else t.take (findS t 0 key).toNat ++ t.drop (endS t (findS t 0 key).toNat)
/-- a reader's state -/
structure LS where
  rd : List (Bs × Int)
  opn : List Bs
  nms : List Bs
  trs : List (List Nd)
  cyc : List Bs
deriving Inhabited
def idxS (l : List Bs) (x : Bs) : Nat := l.idxOf x
/-- a name that is met: is it to be read? -/
def mayS (set : List (Bs × Fl)) (s : LS) (n : Nd) : Bool × Ft × LS :=
  if (alook n.text set).isSome = false then (false, placeS 73 n, s)
  else if n.text ∈ s.opn then (false, placeS 74 n, { s with cyc := s.opn.drop (idxS s.opn n.text) })
  else if 0 < (alook n.text s.rd).getD 0 then (false, ft0, s)
  else if 16 ≤ s.opn.length then (false, placeS 75 n, s)
  else (true, ft0, s)
def visL (rd : LS → Bs → LS × Ft) (set : List (Bs × Fl)) : List Nd → LS → LS × Ft
  | [], s => (s, ft0)
  | n :: r, s =>
    if (mayS set s n).1 then
      if (rd (mayS set s n).2.2 n.text).2.code ≠ 0 then rd (mayS set s n).2.2 n.text else visL rd set r (rd (mayS set s n).2.2 n.text).1
    else if (mayS set s n).2.1.code ≠ 0 then ((mayS set s n).2.2, (mayS set s n).2.1) else visL rd set r (mayS set s n).2.2
def fileS (set : List (Bs × Fl)) (name : Bs) : Bs := ((alook name set).getD ⟨[], []⟩).text
def pushS (s : LS) (name : Bs) : LS := { s with opn := s.opn ++ [name] }
def doneS (s : LS) (name : Bs) (t : List Nd) : LS :=
  { s with opn := s.opn.dropLast, rd := aput name (w64 ((alook name s.rd).getD 0 + 1)) s.rd, nms := s.nms ++ [name], trs := s.trs ++ [wcutS t incl] }
def loadF (set : List (Bs × Fl)) : Nat → LS → Bs → LS × Ft
  | 0, s, _ => (s, ft0)
  | f + 1, s, name =>
    if (parseS name (fileS set name)).2.code ≠ 0 then (s, (parseS name (fileS set name)).2)
    else if (namesS (parseS name (fileS set name)).1).2.code ≠ 0 then (s, (namesS (parseS name (fileS set name)).1).2)
    else if (visL (loadF set f) set (namesS (parseS name (fileS set name)).1).1 (pushS s name)).2.code ≠ 0 then visL (loadF set f) set (namesS (parseS name (fileS set name)).1).1 (pushS s name)
    else (doneS (visL (loadF set f) set (namesS (parseS name (fileS set name)).1).1 (pushS s name)).1 name (parseS name (fileS set name)).1, ft0)
def ls0 : LS := ⟨[], [], [], [], []⟩
def setS (files : List Fl) : List (Bs × Fl) := files.foldl (fun m f => aput f.name f m) []
/-- what include.load comes to -/
def loadS (files : List Fl) (root : Bs) : LS × Ft :=
  if 64 < files.length ∨ (setS files).length < files.length then (ls0, ⟨70, [], 0, 0⟩)
  else if (alook root (setS files)).isSome = false then (ls0, ⟨71, [], 0, 0⟩)
  else loadF (setS files) 16 ls0 root
/-! ### what stays true -/
/-- what has been read: each once, all in the set, none that is open -/
structure Inv (set : List (Bs × Fl)) (s : LS) : Prop where
  pos : ∀ key, 0 ≤ (alook key s.rd).getD 0
  rd : ∀ key, 0 < (alook key s.rd).getD 0 ↔ key ∈ s.nms
  nd : s.nms.Nodup
  inset : ∀ key ∈ s.nms, (alook key set).isSome = true
  opn : ∀ key ∈ s.opn, key ∉ s.nms
  len : s.trs.length = s.nms.length
theorem mayS_st (set : List (Bs × Fl)) (s : LS) (n : Nd) : (mayS set s n).2.2.rd = s.rd ∧ (mayS set s n).2.2.opn = s.opn ∧ (mayS set s n).2.2.nms = s.nms ∧ (mayS set s n).2.2.trs = s.trs := by
  unfold mayS
  split
  · exact ⟨rfl, rfl, rfl, rfl⟩
  split
  · exact ⟨rfl, rfl, rfl, rfl⟩
  split
  · exact ⟨rfl, rfl, rfl, rfl⟩
  split
  · exact ⟨rfl, rfl, rfl, rfl⟩
  · exact ⟨rfl, rfl, rfl, rfl⟩
theorem mayS_inv {set : List (Bs × Fl)} {s : LS} (h : Inv set s) (n : Nd) : Inv set (mayS set s n).2.2 := by
  obtain ⟨e1, e2, e3, e4⟩ := mayS_st set s n
  exact ⟨by rw [e1]; exact h.pos, by rw [e1, e3]; exact h.rd, by rw [e3]; exact h.nd, by rw [e3]; exact h.inset, by rw [e2, e3]; exact h.opn, by rw [e3, e4]; exact h.len⟩
theorem mayS_true {set : List (Bs × Fl)} {s : LS} {n : Nd} (h : (mayS set s n).1 = true) : (mayS set s n).2.2 = s ∧ (mayS set s n).2.1 = ft0 ∧ (alook n.text set).isSome = true ∧ n.text ∉ s.opn ∧ ¬ 0 < (alook n.text s.rd).getD 0 ∧ s.opn.length < 16 := by
  unfold mayS at h ⊢
  by_cases h1 : (alook n.text set).isSome = false
  · rw [if_pos h1] at h; cases h
  · rw [if_neg h1] at h ⊢
    by_cases h2 : n.text ∈ s.opn
    · rw [if_pos h2] at h; cases h
    · rw [if_neg h2] at h ⊢
      by_cases h3 : 0 < (alook n.text s.rd).getD 0
      · rw [if_pos h3] at h; cases h
      · rw [if_neg h3] at h ⊢
        by_cases h4 : 16 ≤ s.opn.length
        · rw [if_pos h4] at h; cases h
        · rw [if_neg h4]
          exact ⟨rfl, rfl, by rwa [Bool.not_eq_false] at h1, h2, h3, by omega⟩
/-- what reading a file does, where it does not fail: the names grow, what is open is what it was -/
def Good (set : List (Bs × Fl)) (f : Nat) (rd : LS → Bs → LS × Ft) : Prop := ∀ s name, Inv set s → 16 ≤ s.opn.length + f → (alook name set).isSome = true → name ∉ s.nms → name ∉ s.opn → s.opn.length < 16 → (rd s name).2.code = 0 → Inv set (rd s name).1 ∧ (rd s name).1.opn = s.opn ∧ name ∈ (rd s name).1.nms ∧ ∃ more, (rd s name).1.nms = s.nms ++ more
theorem visL_good {set : List (Bs × Fl)} {f : Nat} {rd : LS → Bs → LS × Ft} (hg : Good set f rd) : ∀ (ns : List Nd) (s : LS), Inv set s → 16 ≤ s.opn.length + f → (visL rd set ns s).2.code = 0 → Inv set (visL rd set ns s).1 ∧ (visL rd set ns s).1.opn = s.opn ∧ ∃ more, (visL rd set ns s).1.nms = s.nms ++ more
  | [], s, h, _, _ => ⟨h, rfl, [], by simp [visL]⟩
  | n :: r, s, h, hf, he => by
    rw [visL] at he ⊢
    by_cases h1 : (mayS set s n).1 = true
    · rw [if_pos h1] at he ⊢
      obtain ⟨e1, e2, e3, e4, e5, e6⟩ := mayS_true h1
      rw [e1] at he ⊢
      by_cases h2 : (rd s n.text).2.code ≠ 0
      · rw [if_pos h2] at he; exact (h2 he).elim
      · rw [if_neg h2] at he ⊢
        obtain ⟨g1, g2, g3, more, g4⟩ := hg s n.text h hf e3 (fun hm => e5 ((h.rd _).2 hm)) e4 e6 (by simpa using h2)
        obtain ⟨k1, k2, more', k3⟩ := visL_good hg r _ g1 (by rw [g2]; exact hf) he
        exact ⟨k1, by rw [k2, g2], more ++ more', by rw [k3, g4, List.append_assoc]⟩
    · rw [if_neg h1] at he ⊢
      by_cases h2 : (mayS set s n).2.1.code ≠ 0
      · rw [if_pos h2] at he; exact (h2 he).elim
      · rw [if_neg h2] at he ⊢
        obtain ⟨e1, e2, e3, e4⟩ := mayS_st set s n
        obtain ⟨k1, k2, more', k3⟩ := visL_good hg r _ (mayS_inv h n) (by rw [e2]; exact hf) he
        exact ⟨k1, by rw [k2, e2], more', by rw [k3, e3]⟩
theorem done_inv {set : List (Bs × Fl)} {s : LS} {name : Bs} (t : List Nd) (h : Inv set s) (hs : (alook name set).isSome = true) (hn : name ∉ s.nms) (ho : ∀ key ∈ s.opn.dropLast, key ≠ name) : Inv set (doneS s name t) := by
  have h0 : (alook name s.rd).getD 0 = 0 := by
    have h2 := h.pos name
    by_cases q : 0 < (alook name s.rd).getD 0
    · exact (hn ((h.rd name).1 q)).elim
    · omega
  have h1 : w64 ((alook name s.rd).getD 0 + 1) = 1 := by rw [h0]; decide
  refine ⟨?_, ?_, ?_, ?_, ?_, ?_⟩
  · intro key
    show 0 ≤ (alook key (aput name _ s.rd)).getD 0
    rw [alook_aput, h1]
    split
    · simp
    · exact h.pos key
  · intro key
    show 0 < (alook key (aput name _ s.rd)).getD 0 ↔ key ∈ s.nms ++ [name]
    rw [alook_aput, List.mem_append, List.mem_singleton]
    by_cases hk : name = key
    · subst hk
      rw [if_pos rfl]
      constructor
      · intro _; exact .inr rfl
      · intro _
        rw [h1]; simp
    · rw [if_neg hk, h.rd key]
      exact ⟨.inl, fun q => q.elim id (fun q => (hk q.symm).elim)⟩
  · show (s.nms ++ [name]).Nodup
    rw [List.nodup_append]
    refine ⟨h.nd, by simp, ?_⟩
    intro a ha b hb
    rw [List.mem_singleton] at hb
    rintro rfl
    exact hn (hb ▸ ha)
  · intro key hk
    rcases List.mem_append.1 hk with hk | hk
    · exact h.inset key hk
    · rw [List.mem_singleton.1 hk]; exact hs
  · intro key hk hm
    rcases List.mem_append.1 hm with hm | hm
    · exact h.opn key (List.dropLast_subset _ hk) hm
    · exact ho key hk (List.mem_singleton.1 hm)
  · show (s.trs ++ [_]).length = (s.nms ++ [name]).length
    simp [h.len]
theorem push_inv {set : List (Bs × Fl)} {s : LS} {name : Bs} (h : Inv set s) (hn : name ∉ s.nms) : Inv set (pushS s name) :=
  ⟨h.pos, h.rd, h.nd, h.inset, fun key hk => by
    rcases List.mem_append.1 hk with hk | hk
    · exact h.opn key hk
    · rw [List.mem_singleton.1 hk]; exact hn, h.len⟩
theorem loadF_good (set : List (Bs × Fl)) : ∀ f, Good set f (loadF set f)
  | 0 => fun s name h hf hs hn ho hl _ => by omega
  | f + 1 => fun s name h hf hs hn ho hl he => by
    rw [loadF] at he ⊢
    split at he
    · rename_i q; exact (q he).elim
    rename_i q1
    rw [if_neg q1]
    split at he
    · rename_i q; exact (q he).elim
    rename_i q2
    rw [if_neg q2]
    split at he
    · rename_i q; exact (q he).elim
    rename_i q3
    rw [if_neg q3]
    obtain ⟨g1, g2, more, g3⟩ := visL_good (loadF_good set f) _ (pushS s name) (push_inv h hn) (by simp [pushS]; omega) (by simpa using q3)
    have hop : (visL (loadF set f) set (namesS (parseS name (fileS set name)).1).1 (pushS s name)).1.opn.dropLast = s.opn := by rw [g2]; simp [pushS]
    refine ⟨done_inv _ g1 hs ?_ ?_, hop, ?_, more ++ [name], ?_⟩
    · exact g1.opn name (by rw [g2]; simp [pushS])
    · rw [hop]
      rintro key hk rfl
      exact ho hk
    · show name ∈ _ ++ [name]
      simp
    · show _ ++ [name] = _
      rw [g3]
      simp [pushS]
theorem nodup_le : ∀ (l : List Bs) (m : List (Bs × Fl)), l.Nodup → (∀ key ∈ l, (alook key m).isSome = true) → l.length ≤ m.length
  | [], m, _, _ => by simp
  | x :: l, m, hn, hs => by
    rw [List.nodup_cons] at hn
    have hx := hs x (List.mem_cons_self ..)
    have key : ∀ (m : List (Bs × Fl)), (alook x m).isSome = true → ∃ m' : List (Bs × Fl), m'.length + 1 = m.length ∧ ∀ y, y ≠ x → (alook y m).isSome = true → (alook y m').isSome = true := by
      intro m
      induction m with
      | nil => intro h; cases h
      | cons p m ih =>
        intro h
        obtain ⟨k, v⟩ := p
        by_cases hk : k = x
        · refine ⟨m, rfl, fun y hy hs => ?_⟩
          unfold alook at hs
          rw [if_neg (fun e => hy (e.symm.trans hk))] at hs
          exact hs
        · unfold alook at h
          rw [if_neg hk] at h
          obtain ⟨m', e1, e2⟩ := ih h
          refine ⟨(k, v) :: m', by simp [e1], fun y hy hs => ?_⟩
          unfold alook at hs ⊢
          by_cases hky : k = y
          · rw [if_pos hky]; rfl
          · rw [if_neg hky] at hs ⊢
            exact e2 y hy hs
    obtain ⟨m', e1, e2⟩ := key m hx
    have := nodup_le l m' hn.2 (fun y hy => e2 y (fun e => hn.1 (e ▸ hy)) (hs y (List.mem_cons_of_mem _ hy)))
    simp only [List.length_cons]
    omega
theorem Inv.le {set : List (Bs × Fl)} {s : LS} (h : Inv set s) : s.nms.length ≤ set.length := nodup_le _ _ h.nd h.inset
end Go.Proofs.YtgjhbapbomdpbaaDoor.C
/- Files that include files: the names of a tree, a tree without its part, and what is to be read: walked. -/
set_option linter.unusedVariables false
set_option linter.unusedSimpArgs false
set_option maxRecDepth 10000
namespace Go.Proofs.YtgjhbapbomdpbaaDoor.C
open Go.RowKit Go.Proofs.YtgjhbapbomdpbaaDoor.Sh
def DepOk (t : List Nd) : Prop := ∀ i : Nat, i < t.length → -1000000 ≤ (nth t (i : Int)).depth ∧ (nth t (i : Int)).depth ≤ 1000000
theorem textsS_mem {t : List Nd} {i : Nat} (hi : i < t.length) : (∀ x ∈ (textsS t i).1, x < t.length) ∧ (0 ≤ (textsS t i).2.1 ∧ (textsS t i).2.1 < t.length) ∧ (textsS t i).1.length ≤ t.length := by
  unfold textsS
  split
  · refine ⟨?_, by simp only; omega, by simp; omega⟩
    intro x hx
    simp at hx
    omega
  split
  · exact ⟨by simp, by simp only; omega, by simp⟩
  · cases hf : (partsS t i).find? (fun n : Nat => (nth t (n : Int)).kind != 3) with
    | none =>
      have hpl : (partsS t i).length ≤ t.length := by
        have := partsR_len (nth t (i : Int)).depth (t.drop (i + 1)) (i + 1)
        simp only [List.length_drop] at this
        unfold partsS
        omega
      exact ⟨fun x hx => (partsS_mem hi x hx).2, by simp only [textsG]; omega, hpl⟩
    | some n =>
      have := partsS_mem hi n (List.mem_of_find?_eq_some hf)
      exact ⟨by simp [textsG], by simp only [textsG]; omega, by simp [textsG]⟩
theorem findS_bd {t : List Nd} {i : Nat} (hi : i < t.length) (key : Bs) : -1 ≤ findS t i key ∧ findS t i key < t.length := by
  unfold findS
  cases h : (partsS t i).find? (fun n : Nat => (nth t (n : Int)).key == key) with
  | none => simp [orN]; omega
  | some n =>
    have := partsS_mem hi n (List.mem_of_find?_eq_some h)
    simp [orN]
    omega
theorem names_cx (A : Option Addr) (c : Nat) (t : List Nd) (w : World) (hr : Rd NdE w A t) (h0 : 0 < t.length) (hl : t.length ≤ 1000000) (hd : DepOk t) :
    Cx Tryd.prog 66 [.slice A t.length c] [] (fun v D => ∃ O co, v = .tuple #[.slice O (namesS t).1.length co, .agg (namesS t).2.cs.toArray] ∧ D = [Ch.row NdE 48 O co (namesS t).1]) w := by
  refine calls_of_Wp (vs := [_]) Tryd.func66 ?_
  refine Wp.seq (Wp.regionL (l := [0, 1]) (WO.rd (is := [0]) (js := [1]) (Keep.refl _) (Rn.s rfl Yv.as (Rn.nil)) (WO.act (hc := rfl) (he := Ef.allocL (vs := [.int .i64 0, S [], .int .i64 0, .int .i64 0]) (St.init w) (fun ba1 wa1 ka1 hsa1 => WO.done ?_)))))
  obtain ⟨F, hF⟩ : ∃ F, F = findS t 0 incl := ⟨_, rfl⟩
  have hfb := findS_bd h0 incl
  have hfc : Cv Tryd.prog 39 [.slice A t.length c, .int .i64 0, S incl] (.int .i64 F) wa1 := by
    rw [hF]
    exact find_cv A c t 0 incl wa1 (hr.keep ka1) h0 (by omega) (hd 0 h0)
  unfold namesS
  rw [← hF] at hfb ⊢
  refine Wp.seq (Wp.regionL (l := [0, 1, 2]) (WO.rd (is := [0]) (js := [1, 2]) (Keep.refl _) (Rn.s rfl Yv.mv (Rn.nil)) (WO.cv rfl hfc (Keep.refl _) (FnOk.of Tryd.func39) (fun wx1 kx1 => WO.rd (is := [2]) (js := []) ((Keep.refl _).trans kx1) (Rn.s rfl Yv.as (Rn.nil)) (WO.done ?_)))))
  have hst := hsa1.quiet kx1
  refine Wp.seq (Wp.seq (Wp.reads (is := [0, 1]) (Keep.refl _) (Rn.s rfl Yv.mv (Rn.s rfl (Yv.cmp _ rfl) (Rn.nil))) ?_))
  refine Wp.cond rfl (fun h => ?_) (fun h => ?_)
  · have h := of_decide_eq_true h
    refine Wp.seq (Wp.regionL (l := [0, 1, 2]) (WO.rd (is := [0, 1]) (js := [2]) (Keep.refl _) (Rn.s rfl (Yv.bd (cs := ft0.cs)) (Rn.s rfl Yv.as (Rn.nil))) (WO.act (hc := rfl) (he := Ef.stores hst 0 (fun wy1 hsy1 => WO.done ?_)))))
    refine Wp.ret (Fin.ret (resTA rfl rfl rfl (hsy1.cells 0)) ?_)
    rw [if_pos h]
    exact ⟨_, _, rfl, ⟨none, 0, rfl, rfl⟩, (hsy1.pick []).nilrow _ _⟩
  have h := of_decide_eq_false h
  obtain ⟨m, hm⟩ : ∃ m : Nat, F = m := ⟨F.toNat, by omega⟩
  have hml : m < t.length := by omega
  have hmn : F.toNat = m := by omega
  rw [hm] at h ⊢
  clear hfc
  rw [show ((m : Int)).toNat = m from Int.toNat_natCast m]
  obtain ⟨tm1, tm2, tm3⟩ := textsS_mem hml
  refine Wp.skip ?_
  refine Wp.seq (Wp.regionL (l := [0, 1, 2, 3, 4, 5, 6, 7, 8, 9]) (WO.rd (is := [0, 1]) (js := [2, 3, 4, 5, 6, 7, 8, 9]) (Keep.refl _) (Rn.s rfl Yv.mv (Rn.s rfl Yv.mv (Rn.nil))) (WO.act (hc := rfl) (he := Ef.cx (texts_cx A c t m wx1 (hr.keep hst.keep) hml hl (hd m hml)) hst (FnOk.of Tryd.func63) ?_))))
  rintro v D w2 ⟨O, co, rfl, rfl⟩ hs2
  refine WO.rd (is := [3, 4, 5, 6, 7, 8, 9]) (js := []) (Keep.refl _) (Rn.s rfl Yv.mv (Rn.s rfl Yv.ex (Rn.s rfl Yv.ex (Rn.s rfl Yv.ex (Rn.s rfl Yv.as (Rn.s rfl Yv.as (Rn.s rfl Yv.as (Rn.nil)))))))) (WO.done ?_)
  have hst : St w [] w2 [Ch.row IvE 3 O co (textsS t m).1, Ch.cells ba1 27 ft0.cs] := hs2
  obtain ⟨L, bad, ok, hL⟩ : ∃ L bad ok, textsS t m = (L, bad, ok) := ⟨_, _, _, rfl⟩
  rw [hL] at hst tm1 tm2 tm3 ⊢
  simp only at hst tm1 tm2 tm3 ⊢
  refine Wp.seq (Wp.seq (Wp.reads (is := [0, 1]) (Keep.refl _) (Rn.s rfl Yv.mv (Rn.s rfl Yv.not (Rn.nil))) ?_))
  cases ok with
  | false =>
    refine Wp.cond_t rfl ?_
    have hrt := hr.keep hst.keep
    refine Wp.seq (Wp.regionL (l := [0, 1, 2, 3, 4, 5, 6]) (WO.rd (is := [0, 1, 2, 3]) (js := [4, 5, 6]) (Keep.refl _) (Rn.s rfl Yv.mv (Rn.s rfl Yv.mv (Rn.s rfl (Yv.ia (e := 48) hrt (by omega) (by omega)) (Rn.s rfl (Yv.ldel hrt rfl rfl (by omega) (by omega)) (Rn.nil))))) (WO.cv rfl (place_cv 72 (nth t bad) _) (Keep.refl _) (FnOk.of Tryd.func40) (fun wy1 ky1 => WO.rd (is := [5]) (js := [6]) ((Keep.refl _).trans ky1) (Rn.s rfl Yv.as (Rn.nil)) (WO.act (hc := rfl) (he := Ef.stores (hst.quiet ky1) 1 (fun wy2 hsy2 => WO.done ?_)))))))
    refine Wp.ret (Fin.ret (resTA rfl rfl rfl (hsy2.cells 0)) ?_)
    rw [if_neg h, if_pos rfl]
    exact ⟨_, _, rfl, ⟨none, 0, rfl, rfl⟩, (hsy2.pick []).nilrow _ _⟩
  | true =>
  refine Wp.cond_f rfl (Wp.skip ?_)
  refine Wp.seq (Wp.reads (is := [0]) (Keep.refl _) (Rn.s rfl Yv.as (Rn.nil)) ?_)
  refine Wp.seq (Wp.seq (Wp.reads (is := [0, 1, 2]) (Keep.refl _) (Rn.s rfl Yv.mv (Rn.s rfl (Yv.len_v (e := 3) (m := 1)) (Rn.s rfl Yv.mv (Rn.nil)))) ?_))
  refine Wp.block ?_
  refine Wp.loop (α := Nat) (fun k ρ ds w' => ds = [] ∧ k ≤ L.length ∧ (∃ B d, St w [] w' [Ch.row NdE 48 B d ((L.take k).map (fun n : Nat => nth t (n : Int))), Ch.row IvE 3 O co L, Ch.cells ba1 27 ft0.cs] ∧
    Sub [(0, .slice A t.length c), (3, PB ba1), (8, .slice B ((L.take k).map (fun n : Nat => nth t (n : Int))).length d), (30, .slice O L.length co), (31, .int .i64 (L.length : Int)), (32, .int .i64 (k : Int))] ρ)) (fun k => L.length - k) 0
    ⟨rfl, Nat.zero_le _, ⟨none, 0, hst.nilrow NdE _, rfl, rfl, rfl, rfl, rfl, rfl, trivial⟩⟩ ?_
  clear hst hs2
  rintro k ρ ds w3 ⟨rfl, hk, B, d, hst, hs⟩
  refine Wp.forget _ ?_ hs
  clear hs ρ
  refine Wp.seq (Wp.reads (is := [0]) (Keep.refl _) (Rn.s rfl (Yv.cmp _ rfl) (Rn.nil)) ?_)
  refine Wp.seq (Wp.cond rfl (fun h2 => ?_) (fun h2 => ?_))
  · have h2 := of_decide_eq_true h2
    have hkl : k < L.length := by omega
    have hget : nth L (k : Int) = L[k] := nth_of (List.getElem?_eq_getElem hkl)
    have hxl := tm1 L[k] (List.getElem_mem hkl)
    rw [← hget] at hxl
    have hrl := hst.rd 1
    have hrt := hr.keep hst.keep
    refine Wp.skip (Wp.seq (Wp.block ?_))
    refine Wp.seq (Wp.reads (is := [0, 1, 2]) (Keep.refl _) (Rn.s rfl (Yv.ia (e := 3) hrl (by omega) (by omega)) (Rn.s rfl (Yv.ld (hrl.ld 0 (by omega) (by omega))) (Rn.s rfl Yv.as (Rn.nil)))) ?_)
    refine Wp.regionL (l := [0, 1, 2, 3, 4, 5, 6, 7]) (WO.rd (is := [0, 1, 2, 3, 4]) (js := [5, 6, 7]) (Keep.refl _) (Rn.s rfl Yv.mv (Rn.s rfl Yv.mv (Rn.s rfl Yv.mv (Rn.s rfl (Yv.ia (e := 48) hrt (j := (nth L (k : Int) : Nat)) (by omega) (by omega)) (Rn.s rfl (Yv.ldel (i := (nth L (k : Int) : Nat)) hrt rfl rfl (by omega) (by omega)) (Rn.nil)))))) (WO.app NdE [nth t ((nth L (k : Int) : Nat) : Int)] rfl (fun _ => rfl) hst 0 (fitN (by simp; omega)) (fun by1 Ay1 cy1 wy1 hsy1 => WO.rd (is := [7]) (js := []) (Keep.refl _) (Rn.s rfl Yv.as (Rn.nil)) (WO.done ?_))))
    refine Wp.reads (is := [0, 1]) (Keep.refl _) (Rn.s rfl (Yv.add (by unfold inI; omega)) (Rn.s rfl Yv.mv (Rn.nil))) ?_
    have e : (L.take (k + 1)).map (fun n : Nat => nth t (n : Int)) = (L.take k).map (fun n : Nat => nth t (n : Int)) ++ [nth t ((nth L (k : Int) : Nat) : Int)] := by
      rw [List.take_add_one, List.getElem?_eq_getElem hkl, hget, List.map_append]; rfl
    refine ⟨k + 1, ⟨rfl, by omega, ⟨Ay1, cy1, ?_, rfl, rfl, ?_, rfl, rfl, rfl, trivial⟩⟩, by omega⟩
    · rw [e]; exact hsy1
    · rw [e]; rfl
  · have h2 := of_decide_eq_false h2
    have e : L.take k = L := List.take_of_length_le (by omega)
    rw [e] at hst
    refine Wp.exit ?_
    refine Wp.seq (Wp.regionL (l := [0, 1, 2, 3]) (WO.rd (is := [0, 1, 2]) (js := [3]) (Keep.refl _) (Rn.s rfl Yv.mv (Rn.s rfl (Yv.bd (cs := ft0.cs)) (Rn.s rfl Yv.as (Rn.nil)))) (WO.act (hc := rfl) (he := Ef.stores hst 2 (fun wy1 hsy1 => WO.done ?_)))))
    refine Wp.ret (Fin.ret (resTA rfl rfl rfl (hsy1.cells 0)) ?_)
    rw [if_neg h, if_neg (by decide), e]
    exact ⟨_, _, rfl, ⟨B, d, rfl, rfl⟩, hsy1.pick [1]⟩
theorem wcut_calls {M : List Nat} (A : Option Addr) (c : Nat) (t : List Nd) (w : World) (hst : St w M w [Ch.row NdE 48 A c t]) (h0 : 0 < t.length) (hl : t.length ≤ 1000000) (hd : DepOk t) :
    Calls Tryd.prog 68 #[.slice A t.length c, S incl] w fun e w' => ∃ O co, e = .returned (.slice O (wcutS t incl).length co) ∧ St w M w' [Ch.row NdE 48 O co (wcutS t incl)] := by
  have hr := hst.rd 0
  have hcap := hst.cap 0
  have hA := rd_some hr h0
  refine calls_of_Wp (vs := [_, _]) Tryd.func68 ?_
  refine Wp.seq (Wp.reads (is := [0]) (Keep.refl _) (Rn.s rfl Yv.as (Rn.nil)) ?_)
  obtain ⟨F, hF⟩ : ∃ F, F = findS t 0 incl := ⟨_, rfl⟩
  have hfb := findS_bd h0 incl
  have hfc : Cv Tryd.prog 39 [.slice A t.length c, .int .i64 0, S incl] (.int .i64 F) w := by
    rw [hF]
    exact find_cv A c t 0 incl w hr h0 (by omega) (hd 0 h0)
  unfold wcutS
  rw [← hF] at hfb ⊢
  refine Wp.seq (Wp.regionL (l := [0, 1, 2, 3]) (WO.rd (is := [0, 1]) (js := [2, 3]) (Keep.refl _) (Rn.s rfl Yv.mv (Rn.s rfl Yv.mv (Rn.nil))) (WO.cv rfl hfc (Keep.refl _) (FnOk.of Tryd.func39) (fun wx1 kx1 => WO.rd (is := [3]) (js := []) ((Keep.refl _).trans kx1) (Rn.s rfl Yv.as (Rn.nil)) (WO.done ?_)))))
  have hst := hst.quiet kx1
  refine Wp.seq (Wp.seq (Wp.reads (is := [0, 1]) (Keep.refl _) (Rn.s rfl Yv.mv (Rn.s rfl (Yv.cmp _ rfl) (Rn.nil))) ?_))
  refine Wp.cond rfl (fun h => ?_) (fun h => ?_)
  · have h := of_decide_eq_true h
    refine Wp.seq (Wp.reads (is := [0, 1]) (Keep.refl _) (Rn.s rfl Yv.mv (Rn.s rfl Yv.as (Rn.nil))) ?_)
    refine Wp.ret (Fin.ret (Res.one rfl rfl) ?_)
    rw [if_pos h]
    exact ⟨A, c, rfl, hst⟩
  have h := of_decide_eq_false h
  obtain ⟨m, hm⟩ : ∃ m : Nat, F = m := ⟨F.toNat, by omega⟩
  have hml : m < t.length := by omega
  rw [hm] at h ⊢
  rw [show ((m : Int)).toNat = m from Int.toNat_natCast m]
  obtain ⟨e1, e2⟩ := endS_bd hml
  refine Wp.skip ?_
  refine Wp.seq (Wp.regionL (l := [0, 1, 2, 3, 4, 5, 6, 7, 8, 9, 10, 11]) (WO.act (hc := rfl) (he := Ef.bsl (T := 48) NdE ([] : List Nd) hst (fun b2 w2 k2 hs2 => ?_))))
  have htk : (t.take m).length = (m : Int).toNat := by rw [Int.toNat_natCast]; simp; omega
  refine WO.rd (is := [1, 2, 3]) (js := [4, 5, 6, 7, 8, 9, 10, 11]) (Keep.refl _) (Rn.s rfl Yv.mv (Rn.s rfl Yv.mv (Rn.s rfl (Yv.sl_t (n := 8) (e := 48) (k := (t.take m).length) (by omega) (by omega) htk) (Rn.nil)))) (WO.act (hc := rfl) (he := Ef.append (ys := t.take m) hs2 0 (rd_take (hs2.rd 1)) (fun h => (hA h).elim) (fitN (by simp; omega)) ?_))
  intro O1 c1 w3 hs3
  have hs3 : St w M w3 [Ch.row NdE 48 O1 c1 (t.take m), Ch.row NdE 48 A c t] := hs3
  refine WO.rd (is := [5, 6, 7]) (js := [8, 9, 10, 11]) (Keep.refl _) (Rn.s rfl Yv.mv (Rn.s rfl Yv.mv (Rn.s rfl Yv.mv (Rn.nil)))) (WO.cv rfl (end_cv' A c t m w3 (hs3.rd 1) hml (by omega)) (Keep.refl _) (FnOk.of Tryd.func46) (fun w4 k4 => ?_))
  have hs4 := hs3.quiet k4
  have htd : (t.drop (endS t m)).length = t.length - (endS t m : Int).toNat := by rw [Int.toNat_natCast]; simp
  refine WO.rd (is := [9]) (js := [10, 11]) (Keep.refl _) (Rn.s rfl (Yv.sl_f (n := 8) (e := 48) (k := (t.drop (endS t m)).length) (by omega) (by omega) htd) (Rn.nil)) (WO.act (hc := rfl) (he := Ef.append (ys := t.drop (endS t m)) hs4 0 (rd_drop (hs4.rd 1) hcap) (cut_none (t := t) hA) (fitN (by simp; omega)) ?_))
  intro O2 c2 w5 hs5
  refine WO.rd (is := [11]) (js := []) (Keep.refl _) (Rn.s rfl Yv.as (Rn.nil)) (WO.done ?_)
  refine Wp.ret (Fin.ret (Res.one rfl rfl) ?_)
  rw [if_neg h]
  exact ⟨O2, c2, rfl, hs5.pick [0]⟩
/-! ### is a text in a list of texts? -/
theorem zs_getD (l : List Bs) (j : Nat) (h : j < l.length) : (l.map fun s : Bs => (⟨⟨s⟩⟩ : ByteArray)).getD j ByteArray.empty = ⟨⟨l[j]⟩⟩ := by
  rw [List.getD_eq_getElem?_getD, List.getElem?_map, List.getElem?_eq_getElem h]; rfl
theorem zs_inj {x y : Bs} (h : (⟨⟨x⟩⟩ : ByteArray) = ⟨⟨y⟩⟩) : x = y := by
  injection h with h
  injection h
theorem contains_cv (A : Option Addr) (c : Nat) (l : List Bs) (x : Bs) (w0 : World) (hr : Rd StE w0 A l) (hl : l.length ≤ 1000000) : Cv Tryd.prog 92 [.slice A l.length c, S x] (.bool (decide (x ∈ l))) w0 := by
  intro w hk
  have hr := hr.keep hk
  cases l with
  | nil =>
    refine Calls.mono (Tryd.slices_Contains_string_empty A c ⟨⟨x⟩⟩ w) ?_
    rintro e w' ⟨rfl, rfl⟩
    exact ⟨by simp, Keep.refl _⟩
  | cons y l =>
    have ha := hr.adr (by simp)
    rw [ha]
    refine Calls.mono (Tryd.slices_Contains_string (pb A) (pq A) (y :: l).length c ((y :: l).map fun s : Bs => (⟨⟨s⟩⟩ : ByteArray)) ⟨⟨x⟩⟩ w (by simp) (by omega) ?_) ?_
    · intro j hj
      simp only [List.length_map] at hj
      rw [zs_getD _ j hj]
      have := hr.cell j _ (List.getElem?_eq_getElem hj) 0 (S (y :: l)[j]) rfl
      simpa [S_def] using this
    · rintro e w' ⟨rfl, rfl⟩
      refine ⟨?_, Keep.refl _⟩
      have e1 : Lib.containsS (((y :: l).map fun s : Bs => (⟨⟨s⟩⟩ : ByteArray)).take (y :: l).length) ⟨⟨x⟩⟩ = decide (x ∈ y :: l) := by
        rw [List.take_of_length_le (by simp)]
        rw [Bool.eq_iff_iff, Lib.containsS_iff, decide_eq_true_eq, List.mem_map]
        constructor
        · rintro ⟨s, h1, h2⟩
          rw [← zs_inj h2]; exact h1
        · intro h; exact ⟨x, h, rfl⟩
      rw [e1]
theorem index_cv (A : Option Addr) (c : Nat) (l : List Bs) (x : Bs) (hx : x ∈ l) (w0 : World) (hr : Rd StE w0 A l) (hl : l.length ≤ 1000000) : Cv Tryd.prog 93 [.slice A l.length c, S x] (.int .i64 (idxS l x : Nat)) w0 := by
  intro w hk
  have hr := hr.keep hk
  have h0 : 0 < l.length := List.length_pos_of_mem hx
  have ha := hr.adr h0
  rw [ha]
  refine Calls.mono (Tryd.slices_Index_string (pb A) (pq A) l.length c (l.map fun s : Bs => (⟨⟨s⟩⟩ : ByteArray)) ⟨⟨x⟩⟩ w (by simp) (by omega) ?_) ?_
  · intro j hj
    simp only [List.length_map] at hj
    rw [zs_getD _ j hj]
    have := hr.cell j _ (List.getElem?_eq_getElem hj) 0 (S l[j]) rfl
    simpa [S_def] using this
  · rintro e w' ⟨rfl, rfl⟩
    refine ⟨?_, Keep.refl _⟩
    have hi : l.idxOf x < l.length := List.idxOf_lt_length_of_mem hx
    have e1 : Lib.idxOfS ((l.map fun s : Bs => (⟨⟨s⟩⟩ : ByteArray)).take l.length) ⟨⟨x⟩⟩ = ((0 + l.idxOf x : Nat) : Int) := by
      rw [List.take_of_length_le (by simp)]
      refine Lib.idxFromS_hit _ _ (l.idxOf x) 0 (by simpa using hi) ?_ ?_
      · rw [zs_getD _ _ hi, List.getElem_idxOf]
      · intro j hj
        rw [zs_getD _ j (by omega)]
        intro q
        have h1 := zs_inj q
        have h2 : (l[j] == x) = false := List.not_of_lt_findIdx hj
        rw [h1] at h2
        simp at h2
    rw [e1, Nat.zero_add]
    rfl
end Go.Proofs.YtgjhbapbomdpbaaDoor.C
/- Files that include files: a name that is met, and a file that is read: walked. -/
set_option linter.unusedVariables false
set_option linter.unusedSimpArgs false
set_option maxRecDepth 10000
namespace Go.Proofs.YtgjhbapbomdpbaaDoor.C
open Go.RowKit Go.Proofs.YtgjhbapbomdpbaaDoor.Sh
abbrev Tr := Option Addr × Nat × List Nd
abbrev TsE : Enc Tr := ⟨1, fun x => [.slice x.1 x.2.2.length x.2.1], fun _ => rfl⟩
abbrev ts1 (x : Tr) : List Nd := x.2.2
abbrev trow (x : Tr) : Chunk := Ch.row NdE 48 x.1 x.2.1 x.2.2
def trows (l : List Tr) : List Chunk := l.map trow
/-- where a loader's parts lie -/
structure LM where
  O : Option Addr
  oc : Nat
  Nm : Option Addr
  nc : Nat
  T : Option Addr
  tc : Nat
  C : Option Addr
  cc : Nat
  trs : List Tr
abbrev ldcs (ms mr : Nat) (s : LS) (m : LM) : List Value := [.map (some ms), .map (some mr), .slice m.O s.opn.length m.oc, .slice m.Nm s.nms.length m.nc, .slice m.T m.trs.length m.tc, .slice m.C s.cyc.length m.cc]
abbrev rdF (bl br : Nat) : Value := .func (.func 65) #[] #[PB bl, PB br]
/-- a loader, its parts, and the two variables that its reader holds -/
abbrev ChV (b bl br ms mr : Nat) (set : List (Bs × Fl)) (s : LS) (m : LM) : List Chunk :=
  [Ch.cells b 66 (ldcs ms mr s m), Ch.mp KyS VF ms set, Ch.mp KyS VI mr s.rd, Ch.row StE 9 m.O m.oc s.opn, Ch.row StE 9 m.Nm m.nc s.nms, Ch.row TsE 43 m.T m.tc m.trs, Ch.row StE 9 m.C m.cc s.cyc, Ch.cells bl 60 [PB b], Ch.cells br 109 [rdF bl br]]
set_option maxHeartbeats 1600000 in
theorem may_calls {M : List Nat} (b bl br ms mr : Nat) (set : List (Bs × Fl)) (s : LS) (m : LM) (n : Nd) (w0 w : World) (D : List Chunk) (hst : St w0 M w (ChV b bl br ms mr set s m ++ D)) (hol : s.opn.length ≤ 1000) :
    Calls Tryd.prog 67 #[PB b, .agg n.cs.toArray] w fun e w' => e = .returned (.tuple #[.bool (mayS set s n).1, .agg (mayS set s n).2.1.cs.toArray]) ∧ ∃ m', m'.trs = m.trs ∧ St w0 M w' (ChV b bl br ms mr set (mayS set s n).2.2 m' ++ D) := by
  refine calls_of_Wp (vs := [_, _]) Tryd.func67 ?_
  refine Wp.seq (Wp.regionL (l := [0, 1, 2]) (WO.act (hc := rfl) (he := Ef.boxL (n.cs) hst (fun ba1 wa1 ka1 hsa1 => WO.rd (is := [1]) (js := [2]) ((Keep.refl _).trans ka1) (Rn.s rfl Yv.as (Rn.nil)) (WO.act (hc := rfl) (he := Ef.allocL (vs := [.int .i64 0, S [], .int .i64 0, .int .i64 0]) hsa1 (fun ba2 wa2 ka2 hsa2 => WO.done ?_)))))))
  have hst : St w0 M wa2 (Ch.cells ba2 27 ft0.cs :: Ch.cells ba1 48 n.cs :: (ChV b bl br ms mr set s m ++ D)) := hsa2
  clear hsa1 hsa2
  have c3 := hst.cells 1
  have hc := hst.cells 2
  have hm := mp_keep (Keep.drew _) (hst.at_ 3 rfl)
  refine Wp.seq (Wp.seq (Wp.draws [11] mixed (WD.rd (is := [0, 1, 2, 3, 4, 5, 6, 7, 8, 9]) (fun _ _ _ _ _ h => h) (Keep.drew _) (Rn.s rfl Yv.mv (Rn.s rfl Yv.nc (Rn.s rfl (Yv.fa (off := 0)) (Rn.s rfl (Yv.ld (hc.at_ 0)) (Rn.s rfl (Yv.fa (off := 3)) (Rn.s rfl (Yv.ld (c3.at_ 3)) (Rn.s rfl (Yv.look2 (hst.at_ 3 rfl) ⟨[], []⟩) (Rn.s rfl Yv.mv (Rn.s rfl Yv.ex (Rn.s rfl Yv.ex (Rn.nil))))))))))) (WD.act 10 (hc := rfl) (he := Ef.allocL (vs := [S [], S []]) (hst.quiet (Keep.drew _)) (fun bx1 wx1 kx1 hsx1 => ⟨fun _ => kx1, WD.act 11 (hc := rfl) (he := Ef.stores hsx1 0 (fun wx2 hsx2 => ⟨fun hn => (hn (by decide)).elim, WD.rd (is := [12]) (fun _ _ _ _ _ h => h) (Keep.refl _) (Rn.s rfl Yv.as (Rn.nil)) (WD.done ?_)⟩))⟩))))))
  have hst : St w0 M wx2 (Ch.cells ba2 27 ft0.cs :: Ch.cells ba1 48 n.cs :: (ChV b bl br ms mr set s m ++ D)) := hsx2.pickT (P := [_, _, _, _, _, _, _, _, _, _, _, _]) (T := D) [1, 2, 3, 4, 5, 6, 7, 8, 9, 10, 11]
  clear hsx1 hsx2 hm
  have c3 := hst.cells 1
  have hc := hst.cells 2
  unfold mayS
  refine Wp.block ?_
  refine Wp.seq (Wp.reads (is := [0, 1, 2]) (Keep.refl _) (Rn.s rfl Yv.mv (Rn.s rfl Yv.not (Rn.s rfl Yv.as (Rn.nil)))) ?_)
  refine Wp.cond rfl (fun h => ?_) (fun h => ?_)
  · have h : (alook n.text set).isSome = false := by simpa using h
    refine Wp.seq (Wp.regionL (l := [0, 1, 2, 3]) (WO.rd (is := [0]) (js := [1, 2, 3]) (Keep.refl _) (Rn.s rfl (Yv.ldb c3) (Rn.nil)) (WO.cv rfl (place_cv 73 n _) (Keep.refl _) (FnOk.of Tryd.func40) (fun wy1 ky1 => WO.rd (is := [2]) (js := [3]) ((Keep.refl _).trans ky1) (Rn.s rfl Yv.as (Rn.nil)) (WO.act (hc := rfl) (he := Ef.stores (hst.quiet ky1) 0 (fun wy2 hsy2 => WO.done ?_)))))))
    refine Wp.ret (Fin.ret (resTA rfl rfl rfl (hsy2.cells 0)) ?_)
    rw [if_pos h]
    exact ⟨rfl, m, rfl, hsy2.pickT (P := [_, _, _, _, _, _, _, _, _, _, _]) (T := D) [2, 3, 4, 5, 6, 7, 8, 9, 10]⟩
  have h : ¬ (alook n.text set).isSome = false := by
    have h5 : (!(alook n.text set).isSome) = false := h
    cases q : (alook n.text set).isSome with
    | true => decide
    | false => rw [q] at h5; cases h5
  have hro := hst.rd (E := StE) (A := m.O) (c := m.oc) (xs := s.opn) 5
  refine Wp.seq (Wp.draws [] mixed (WD.rd (is := [0, 1, 2, 3, 4, 5]) (fun _ _ _ _ _ h => h) (Keep.drew _) (Rn.s rfl Yv.mv (Rn.s rfl Yv.nc (Rn.s rfl (Yv.fa (off := 2)) (Rn.s rfl (Yv.ld (hc.at_ 2)) (Rn.s rfl (Yv.fa (off := 3)) (Rn.s rfl (Yv.ld (c3.at_ 3)) (Rn.nil))))))) (WD.cv 6 rfl (contains_cv m.O m.oc s.opn n.text wx2 hro (by omega)) (Keep.drew _) (FnOk.of Tryd.func92) (fun wy1 ky1 => WD.rd (is := [7]) (fun _ _ _ _ _ h => h) ((Keep.drew _).trans ky1) (Rn.s rfl Yv.as (Rn.nil)) (WD.done ?_)))))
  have hst := hst.quiet ((Keep.drew _).trans ky1)
  have c3 := hst.cells 1
  have hc := hst.cells 2
  have hro := hst.rd (E := StE) (A := m.O) (c := m.oc) (xs := s.opn) 5
  refine Wp.cond rfl (fun h2 => ?_) (fun h2 => ?_)
  · have h2 : n.text ∈ s.opn := of_decide_eq_true h2
    have hoc := hst.cap (E := StE) (A := m.O) (c := m.oc) (xs := s.opn) 5
    have h0 : 0 < s.opn.length := List.length_pos_of_mem h2
    have hix : idxS s.opn n.text < s.opn.length := List.idxOf_lt_length_of_mem h2
    have hO := rd_some hro h0
    have hdl : (s.opn.drop (idxS s.opn n.text)).length = s.opn.length - ((idxS s.opn n.text : Nat) : Int).toNat := by rw [Int.toNat_natCast]; simp
    have hd := hst.quiet (Keep.drew wy1)
    have hcn : cutA m.O m.oc (idxS s.opn n.text) 1 = none → m.oc - idxS s.opn n.text = 0 := by
      intro q
      unfold cutA at q
      split at q
      · omega
      · simp only [Option.map_eq_none_iff] at q
        exact (hO q).elim
    have hidx := index_cv m.O m.oc s.opn n.text h2 wy1 hro (by omega)
    have hcut : ∀ {w2 : World}, Keep wy1 w2 → Rd StE w2 (cutA m.O m.oc (idxS s.opn n.text) 1) (s.opn.drop (idxS s.opn n.text)) := fun k => by
      have := (hro.keep k).cut (l := idxS s.opn n.text) hoc (Nat.le_refl _)
      rwa [List.take_length] at this
    obtain ⟨s1, hs1⟩ : ∃ s1 : LS, s1 = { s with cyc := s.opn.drop (idxS s.opn n.text) } := ⟨_, rfl⟩
    refine Wp.seq (Wp.mid (fun ρ ds w' => ds = [] ∧ (∃ m', m'.trs = m.trs ∧ St w0 M w' (Ch.cells ba2 27 ft0.cs :: Ch.cells ba1 48 n.cs :: (ChV b bl br ms mr set s1 m' ++ D))) ∧ Sub [(3, PB ba1), (5, PB ba2)] ρ) ?_ ?_)
    · refine Wp.drawsB [14, 17] mixed (WDB.rd (is := [0]) (fun _ _ _ _ _ h => h) (Keep.refl _) (Keep.drew _) (Rn.s rfl Yv.mv (Rn.nil)) ?_)
      refine WDB.rd (is := [2, 3, 4, 5, 6, 7, 8, 9, 10, 11]) (fun _ _ _ _ _ h => h) (Keep.refl _) (Keep.drew _) (Rn.s rfl Yv.mv (Rn.s rfl Yv.nc (Rn.s rfl (Yv.fa (off := 2)) (Rn.s rfl (Yv.ld (hc.at_ 2)) (Rn.s rfl Yv.mv (Rn.s rfl Yv.nc (Rn.s rfl (Yv.fa (off := 2)) (Rn.s rfl (Yv.ld (hc.at_ 2)) (Rn.s rfl (Yv.fa (off := 3)) (Rn.s rfl (Yv.ld (c3.at_ 3)) (Rn.nil))))))))))) ?_
      refine WDB.act2 1 12 (hci := rfl) (hcj := rfl) (hi := Ef.bsl (T := 9) StE ([] : List Bs) hd (fun bA1 wA1 kA1 hsA1 => ⟨fun _ h => h.trans kA1, ?_⟩)) (hj := Ef.quiet hidx (Keep.drew _) (FnOk.of Tryd.func93) (fun wI2 kI2 => ⟨fun _ h => h.trans kI2, ?_⟩))
      · refine WDB.act 12 (hc := rfl) (he := Ef.quiet hidx ((Keep.drew _).trans kA1) (FnOk.of Tryd.func93) (fun wI3 kI3 => ⟨fun _ h => h.trans kI3, ?_⟩))
        refine WDB.rd0 (is := [13]) (fun _ _ _ _ _ h => h) (Keep.refl _) (Rn.s rfl (Yv.sl_f (n := 1) (e := 9) (k := (s.opn.drop (idxS s.opn n.text)).length) (by omega) (by omega) hdl) (Rn.nil)) ?_
        refine WDB.act 14 (hc := rfl) (he := Ef.append (ys := s.opn.drop (idxS s.opn n.text)) (hsA1.quiet kI3) 0 (hcut ((Keep.drew _).trans (kA1.trans kI3))) hcn (fitT (by simp; omega)) (fun AB4 cB4 wB4 hsB4 => ⟨fun h => (h (by simp)).elim, ?_⟩))
        refine WDB.rd0 (is := [15, 16]) (fun _ _ _ _ _ h => h) (Keep.refl _) (Rn.s rfl Yv.nc (Rn.s rfl (Yv.fa (off := 5)) (Rn.nil))) ?_
        refine WDB.act 17 (hc := rfl) (he := Ef.store hsB4 3 (fun wC5 hsC5 => ⟨fun h => (h (by simp)).elim, WDB.done ?_⟩))
        refine ⟨rfl, ⟨{ m with C := AB4, cc := cB4 }, rfl, ?_⟩, rfl, rfl, trivial⟩
        rw [hs1]
        exact hsC5.pickT (P := [_, _, _, _, _, _, _, _, _, _, _, _]) (T := D) [2, 3, 0, 4, 5, 6, 7, 8, 1, 10, 11]
      · refine WDB.rd0 (is := [13]) (fun _ _ _ _ _ h => h) (Keep.refl _) (Rn.s rfl (Yv.sl_f (n := 1) (e := 9) (k := (s.opn.drop (idxS s.opn n.text)).length) (by omega) (by omega) hdl) (Rn.nil)) ?_
        refine WDB.act 1 (hc := rfl) (he := Ef.bsl (T := 9) StE ([] : List Bs) (hd.quiet kI2) (fun bA6 wA6 kA6 hsA6 => ⟨fun _ h => h.trans kA6, ?_⟩))
        refine WDB.act 14 (hc := rfl) (he := Ef.append (ys := s.opn.drop (idxS s.opn n.text)) hsA6 0 (hcut ((Keep.drew _).trans (kI2.trans kA6))) hcn (fitT (by simp; omega)) (fun AB7 cB7 wB7 hsB7 => ⟨fun h => (h (by simp)).elim, ?_⟩))
        refine WDB.rd0 (is := [15, 16]) (fun _ _ _ _ _ h => h) (Keep.refl _) (Rn.s rfl Yv.nc (Rn.s rfl (Yv.fa (off := 5)) (Rn.nil))) ?_
        refine WDB.act 17 (hc := rfl) (he := Ef.store hsB7 3 (fun wC8 hsC8 => ⟨fun h => (h (by simp)).elim, WDB.done ?_⟩))
        refine ⟨rfl, ⟨{ m with C := AB7, cc := cB7 }, rfl, ?_⟩, rfl, rfl, trivial⟩
        rw [hs1]
        exact hsC8.pickT (P := [_, _, _, _, _, _, _, _, _, _, _, _]) (T := D) [2, 3, 0, 4, 5, 6, 7, 8, 1, 10, 11]
    rintro ρ ds w2 ⟨rfl, ⟨m', hm', hst⟩, hs⟩
    refine Wp.forget _ ?_ hs
    have c3 := hst.cells 1
    refine Wp.seq (Wp.regionL (l := [0, 1, 2, 3]) (WO.rd (is := [0]) (js := [1, 2, 3]) (Keep.refl _) (Rn.s rfl (Yv.ldb c3) (Rn.nil)) (WO.cv rfl (place_cv 74 n _) (Keep.refl _) (FnOk.of Tryd.func40) (fun wu1 ku1 => WO.rd (is := [2]) (js := [3]) ((Keep.refl _).trans ku1) (Rn.s rfl Yv.as (Rn.nil)) (WO.act (hc := rfl) (he := Ef.stores (hst.quiet ku1) 0 (fun wu2 hsu2 => WO.done ?_)))))))
    refine Wp.ret (Fin.ret (resTA rfl rfl rfl (hsu2.cells 0)) ?_)
    rw [if_neg h, if_pos h2]
    rw [hs1] at hsu2
    exact ⟨rfl, m', hm', hsu2.pickT (P := [_, _, _, _, _, _, _, _, _, _, _]) (T := D) [2, 3, 4, 5, 6, 7, 8, 9, 10]⟩
  have h2 : ¬ n.text ∈ s.opn := of_decide_eq_false h2
  refine Wp.seq (Wp.readsD (is := [0, 1, 2, 3, 4, 5, 6, 7, 8]) mixed (fun _ _ _ _ _ h => h) (Keep.refl _) (Rn.s rfl Yv.mv (Rn.s rfl Yv.nc (Rn.s rfl (Yv.fa (off := 1)) (Rn.s rfl (Yv.ld (hc.at_ 1)) (Rn.s rfl (Yv.fa (off := 3)) (Rn.s rfl (Yv.ld (c3.at_ 3)) (Rn.s rfl (Yv.look (hst.at_ 4 rfl) 0) (Rn.s rfl (Yv.cmp _ rfl) (Rn.s rfl Yv.as (Rn.nil)))))))))) ?_)
  have hst := hst.quiet (Keep.drew _)
  have c3 := hst.cells 1
  have hc := hst.cells 2
  refine Wp.cond rfl (fun h3 => ?_) (fun h3 => ?_)
  · have h3 : 0 < (alook n.text s.rd).getD 0 := of_decide_eq_true h3
    refine Wp.seq (Wp.regionL (l := [0, 1, 2]) (WO.rd (is := [0, 1]) (js := [2]) (Keep.refl _) (Rn.s rfl (Yv.bd (cs := ft0.cs)) (Rn.s rfl Yv.as (Rn.nil))) (WO.act (hc := rfl) (he := Ef.stores hst 0 (fun wz1 hsz1 => WO.done ?_)))))
    refine Wp.ret (Fin.ret (resTA rfl rfl rfl (hsz1.cells 0)) ?_)
    rw [if_neg h, if_neg h2, if_pos h3]
    exact ⟨rfl, m, rfl, hsz1.pickT (P := [_, _, _, _, _, _, _, _, _, _, _]) (T := D) [2, 3, 4, 5, 6, 7, 8, 9, 10]⟩
  have h3 : ¬ 0 < (alook n.text s.rd).getD 0 := of_decide_eq_false h3
  refine Wp.seq (Wp.reads (is := [0, 1, 2, 3, 4, 5, 6]) (Keep.refl _) (Rn.s rfl Yv.mv (Rn.s rfl Yv.nc (Rn.s rfl (Yv.fa (off := 2)) (Rn.s rfl (Yv.ld (hc.at_ 2)) (Rn.s rfl (Yv.len_v (e := 9) (m := 1)) (Rn.s rfl (Yv.cmp _ rfl) (Rn.s rfl Yv.as (Rn.nil)))))))) ?_)
  refine Wp.cond rfl (fun h4 => ?_) (fun h4 => ?_)
  · have h4 : 16 ≤ s.opn.length := by have := of_decide_eq_true h4; omega
    refine Wp.seq (Wp.regionL (l := [0, 1, 2, 3]) (WO.rd (is := [0]) (js := [1, 2, 3]) (Keep.refl _) (Rn.s rfl (Yv.ldb c3) (Rn.nil)) (WO.cv rfl (place_cv 75 n _) (Keep.refl _) (FnOk.of Tryd.func40) (fun wz1 kz1 => WO.rd (is := [2]) (js := [3]) ((Keep.refl _).trans kz1) (Rn.s rfl Yv.as (Rn.nil)) (WO.act (hc := rfl) (he := Ef.stores (hst.quiet kz1) 0 (fun wz2 hsz2 => WO.done ?_)))))))
    refine Wp.ret (Fin.ret (resTA rfl rfl rfl (hsz2.cells 0)) ?_)
    rw [if_neg h, if_neg h2, if_neg h3, if_pos h4]
    exact ⟨rfl, m, rfl, hsz2.pickT (P := [_, _, _, _, _, _, _, _, _, _, _]) (T := D) [2, 3, 4, 5, 6, 7, 8, 9, 10]⟩
  have h4 : ¬ 16 ≤ s.opn.length := by have := of_decide_eq_false h4; omega
  refine Wp.skip (Wp.seq (Wp.regionL (l := [0, 1, 2]) (WO.rd (is := [0, 1]) (js := [2]) (Keep.refl _) (Rn.s rfl (Yv.bd (cs := ft0.cs)) (Rn.s rfl Yv.as (Rn.nil))) (WO.act (hc := rfl) (he := Ef.stores hst 0 (fun wz1 hsz1 => WO.done ?_))))))
  refine Wp.ret (Fin.ret (resTA rfl rfl rfl (hsz1.cells 0)) ?_)
  rw [if_neg h, if_neg h2, if_neg h3, if_neg h4]
  exact ⟨rfl, m, rfl, hsz1.pickT (P := [_, _, _, _, _, _, _, _, _, _, _]) (T := D) [2, 3, 4, 5, 6, 7, 8, 9, 10]⟩
end Go.Proofs.YtgjhbapbomdpbaaDoor.C
