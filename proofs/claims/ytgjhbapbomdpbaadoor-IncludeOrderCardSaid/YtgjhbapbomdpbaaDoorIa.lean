/- What the Door's own seat needs of nodes and texts: the same contracts once more, without the document's functions. -/
import Derived.Test.YtgjhbapbomdpbaaDoorBd
import Derived.Test.YtgjhbapbomdpbaaDoorShO
set_option linter.unusedVariables false
set_option linter.unusedSimpArgs false
set_option maxRecDepth 10000
namespace Go.Proofs.YtgjhbapbomdpbaaDoor.C
open Go.RowKit Go.Proofs.YtgjhbapbomdpbaaDoor.Sh
theorem take_ext {α : Type} [Inhabited α] {xs ys : List α} (hl : xs.length = ys.length) (h : ∀ j : Nat, j < xs.length → nth xs (j : Int) = nth ys (j : Int)) : xs = ys := by
  refine List.ext_getElem hl fun j h1 h2 => ?_
  have := h j h1
  rw [nth_nat, nth_nat] at this
  simpa [h1, h2] using this
theorem same_cv (A : Option Addr) (c : Nat) (xs : List Nd) (B : Option Addr) (d : Nat) (ys : List Nd) (w0 : World) (hx : Rd NdE w0 A xs) (hy : Rd NdE w0 B ys) (hl : xs.length < 4000000000000000000) :
    Cv Tryd.prog 24 [.slice A xs.length c, .slice B ys.length d] (.bool (decide (xs = ys))) w0 := by
  intro w hk
  have hx := hx.keep hk
  have hy := hy.keep hk
  refine calls_of_Wp (vs := [_, _]) Tryd.func24 ?_
  refine Wp.seq (Wp.reads (is := [0]) (Keep.refl _) (Rn.s rfl Yv.as (Rn.nil)) ?_)
  refine Wp.seq (Wp.seq (Wp.reads (is := [0, 1, 2, 3, 4]) (Keep.refl _) (Rn.s rfl Yv.mv (Rn.s rfl (Yv.len_v (e := 48) (m := 8)) (Rn.s rfl Yv.mv (Rn.s rfl (Yv.len_v (e := 48) (m := 8)) (Rn.s rfl (Yv.cmp _ rfl) (Rn.nil)))))) ?_))
  refine Wp.cond rfl (fun h => ?_) (fun h => ?_)
  · refine Wp.seq (Wp.reads (is := [0]) (Keep.refl _) (Rn.s rfl Yv.as (Rn.nil)) ?_)
    have hne : xs ≠ ys := by rintro rfl; simp at h
    exact Wp.ret (Fin.ret (Res.one rfl rfl) ⟨by rw [decide_eq_false hne], Keep.refl _⟩)
  have hle : xs.length = ys.length := by
    have : (xs.length : Int) = ys.length := by simpa using h
    omega
  refine Wp.skip (Wp.seq (Wp.seq (Wp.reads (is := [0]) (Keep.refl _) (Rn.s rfl Yv.as (Rn.nil)) ?_)))
  refine Wp.block ?_
  refine Wp.loop (α := Nat) (fun i ρ ds w' => ds = [] ∧ Keep w w' ∧ i ≤ xs.length ∧ (∀ j : Nat, j < i → nth xs (j : Int) = nth ys (j : Int)) ∧ Sub [(0, .slice A xs.length c), (1, .slice B ys.length d), (5, .int .i64 (i : Int))] ρ) (fun i => xs.length - i) 0
    ⟨rfl, Keep.refl _, Nat.zero_le _, fun j hj => absurd hj (Nat.not_lt_zero j), rfl, rfl, rfl, trivial⟩ ?_
  rintro i ρ ds w' ⟨rfl, hk, hi, hall, hs⟩
  refine Wp.forget _ ?_ hs
  have hx' := hx.keep hk
  have hy' := hy.keep hk
  refine Wp.seq (Wp.seq (Wp.reads (is := [0, 1, 2, 3]) (Keep.refl _) (Rn.s rfl Yv.mv (Rn.s rfl Yv.mv (Rn.s rfl (Yv.len_v (e := 48) (m := 8)) (Rn.s rfl (Yv.cmp _ rfl) (Rn.nil))))) ?_))
  refine Wp.cond rfl (fun h2 => ?_) (fun h2 => ?_)
  · have h2 := of_decide_eq_true h2
    refine Wp.skip (Wp.seq (Wp.block ?_))
    refine Wp.seq (Wp.readsD (is := [0, 1, 2, 3, 4, 5, 6, 7, 8]) mixed (fun _ _ _ _ _ h => h) (Keep.refl _) (Rn.s rfl Yv.mv (Rn.s rfl Yv.mv (Rn.s rfl (Yv.ia (e := 48) hx' (by omega) (by omega)) (Rn.s rfl (Yv.ldel hx' rfl rfl (by omega) (by omega)) (Rn.s rfl Yv.mv (Rn.s rfl Yv.mv (Rn.s rfl (Yv.ia (e := 48) hy' (by omega) (by omega)) (Rn.s rfl (Yv.ldel hy' rfl rfl (by omega) (by omega)) (Rn.s rfl (Yv.nes (ndEq (nth xs (i : Int)) (nth ys (i : Int)))) (Rn.nil)))))))))) ?_)
    refine Wp.cond rfl (fun h3 => ?_) (fun h3 => ?_)
    · refine Wp.seq (Wp.reads (is := [0]) (Keep.refl _) (Rn.s rfl Yv.as (Rn.nil)) ?_)
      have hne : xs ≠ ys := by rintro rfl; simp at h3
      exact Wp.ret (Fin.ret (Res.one rfl rfl) ⟨by rw [decide_eq_false hne], hk.trans (Keep.drew _)⟩)
    · have h3 : nth xs (i : Int) = nth ys (i : Int) := by simpa using h3
      refine Wp.skip (Wp.reads (is := [0, 1, 2]) (Keep.refl _) (Rn.s rfl Yv.mv (Rn.s rfl (Yv.add (by unfold inI; omega)) (Rn.s rfl Yv.as (Rn.nil)))) ?_)
      refine ⟨i + 1, ⟨rfl, hk.trans (Keep.drew _), by omega, fun j hj => ?_, rfl, rfl, rfl, trivial⟩, by omega⟩
      by_cases hji : j = i
      · subst hji; exact h3
      · exact hall j (by omega)
  · have h2 := of_decide_eq_false h2
    refine Wp.exit ?_
    refine Wp.seq (Wp.reads (is := [0]) (Keep.refl _) (Rn.s rfl Yv.as (Rn.nil)) ?_)
    have he : xs = ys := take_ext hle fun j hj => hall j (by omega)
    exact Wp.ret (Fin.ret (Res.one rfl rfl) ⟨by rw [decide_eq_true he], hk⟩)
theorem rd_pre {α : Type} {E : Enc α} {w : World} {A : Option Addr} {xs ys : List α} (h : Rd E w A (xs ++ ys)) : Rd E w A xs :=
  ⟨fun hl => h.adr (by simp; omega), fun j x hx k u hu => h.cell j x (by rw [List.getElem?_append_left (List.getElem?_eq_some_iff.1 hx).1]; exact hx) k u hu⟩
theorem fitN {n : Nat} (h : n ≤ 1599289640401) : Fits Tryd.prog 48 n := .inr ⟨1599289640401, by kernel_rfl, h⟩
theorem copyL_cx (A : Option Addr) (c : Nat) (t : List Nd) (w : World) (hr : Rd NdE w A t) (hc : A = none → c = 0) (hl : t.length ≤ 1599289640390) : Cx Tryd.prog 23 [.slice A t.length c] [] (fun v D => ∃ B d, v = .slice B t.length d ∧ D = [Ch.row NdE 48 B d t]) w := by
  refine calls_of_Wp (vs := [_]) Tryd.func23 ?_
  refine Wp.seq (Wp.reads (is := [0]) (Keep.refl _) (Rn.s rfl Yv.as (Rn.nil)) ?_)
  refine Wp.seq (Wp.regionL (l := [0, 1, 2, 3]) (WO.act (hc := rfl) (he := Ef.bsl (T := 48) NdE ([] : List Nd) (St.init w) (fun b w1 k1 hs1 => WO.rd (is := [1]) (js := [2, 3]) (Keep.refl _) (Rn.s rfl Yv.mv (Rn.nil)) (WO.act (he := Ef.append hs1 0 (hr.keep k1) hc (fitN (by simp only [List.length_nil]; omega)) (fun A' c' w' hs' => WO.rd (is := [3]) (js := []) (Keep.refl _) (Rn.s rfl Yv.as (Rn.nil)) (WO.done ?_))))))))
  exact Wp.ret (Fin.ret (Res.one rfl rfl) ⟨_, _, rfl, ⟨A', c', rfl, rfl⟩, hs'⟩)
def endR (d : Int) : List Nd → Nat → Nat
  | [], k => k
  | n :: r, k => if d < n.depth then endR d r (k + 1) else k
def endS (t : List Nd) (i : Nat) : Nat := endR (nth t (i : Int)).depth (t.drop (i + 1)) (i + 1)
theorem endR_bd (d : Int) : ∀ (r : List Nd) (k : Nat), k ≤ endR d r k ∧ endR d r k ≤ k + r.length
  | [], k => by simp [endR]
  | n :: r, k => by
    rw [endR]
    have := endR_bd d r (k + 1)
    simp only [List.length_cons]
    split <;> omega
theorem endS_bd {t : List Nd} {i : Nat} (hi : i < t.length) : i < endS t i ∧ endS t i ≤ t.length := by
  have := endR_bd (nth t (i : Int)).depth (t.drop (i + 1)) (i + 1)
  simp only [List.length_drop] at this
  unfold endS
  omega
theorem drop_cons {α : Type} [Inhabited α] {l : List α} {k : Nat} (hk : k < l.length) : l.drop k = nth l (k : Int) :: l.drop (k + 1) := by
  have h : l[k] = nth l (k : Int) := by rw [nth_nat]; simp [hk]
  rw [List.drop_eq_getElem_cons hk, h]
theorem end_cv' (A : Option Addr) (c : Nat) (t : List Nd) (i : Nat) (w0 : World) (hr : Rd NdE w0 A t) (hi : i < t.length) (hl : t.length < 4000000000000000000) :
    Cv Tryd.prog 46 [.slice A t.length c, .int .i64 i] (.int .i64 (endS t i)) w0 := by
  intro w hk
  have hr := hr.keep hk
  refine calls_of_Wp (vs := [_, _]) Tryd.func46 ?_
  refine Wp.seq (Wp.reads (is := [0]) (Keep.refl _) (Rn.s rfl Yv.as (Rn.nil)) ?_)
  refine Wp.seq (Wp.reads (is := [0, 1, 2]) (Keep.refl _) (Rn.s rfl Yv.mv (Rn.s rfl (Yv.add (by unfold inI; omega)) (Rn.s rfl Yv.as (Rn.nil)))) ?_)
  refine Wp.seq (Wp.block ?_)
  refine Wp.loop (α := Nat) (fun k ρ ds w' => ds = [] ∧ Keep w w' ∧ i < k ∧ k ≤ t.length ∧ endS t i = endR (nth t (i : Int)).depth (t.drop k) k ∧
    Sub [(0, .slice A t.length c), (1, .int .i64 i), (5, .int .i64 (k : Int))] ρ) (fun k => t.length - k) (i + 1) ⟨rfl, Keep.refl _, by omega, by omega, rfl, rfl, rfl, by simp; rfl, trivial⟩ ?_
  rintro k ρ ds w' ⟨rfl, hk, h1, h2, h3, hs⟩
  refine Wp.forget _ ?_ hs
  have hr' := hr.keep hk
  refine Wp.seq (Wp.seq (Wp.readsD (is := [0, 1, 2, 3, 4, 5, 6, 7, 8, 9, 10, 11, 12, 13, 14, 15, 16]) mixed (fun _ _ _ _ _ h => h) (Keep.refl _) (Rn.s rfl Yv.mv (Rn.s rfl Yv.mv (Rn.s rfl (Yv.len_v (e := 48) (m := 8)) (Rn.s rfl (Yv.cmp _ rfl) (Rn.s rfl Yv.mv (Rn.and (is := [5, 6, 7, 8, 9, 10, 11, 12, 13, 14, 15, 16]) (js := []) (t := 12) (d := 24) (hg := rfl) (ht := fun h4 => have h4 := of_decide_eq_true h4; Rn.s rfl Yv.mv (Rn.s rfl Yv.mv (Rn.s rfl (Yv.ia (e := 48) hr' (by omega) (by omega)) (Rn.s rfl (Yv.fa (off := 1)) (Rn.s rfl (Yv.ld (hr'.ld 1 (by omega) (by omega))) (Rn.s rfl Yv.mv (Rn.s rfl Yv.mv (Rn.s rfl (Yv.ia (e := 48) hr' (j := i) (by omega) (by omega)) (Rn.s rfl (Yv.fa (off := 1)) (Rn.s rfl (Yv.ld (hr'.ld (i := i) 1 (by omega) (by omega))) (Rn.s rfl (Yv.cmp _ rfl) (Rn.s rfl Yv.pick_t ((Rn.e 12 rfl rfl)))))))))))))) (hf := fun _ => Rn.no rfl (Rn.no rfl (Rn.no rfl (Rn.no rfl (Rn.no rfl (Rn.no rfl (Rn.no rfl (Rn.no rfl (Rn.no rfl (Rn.no rfl (Rn.no rfl (Rn.s rfl Yv.pick_f (Rn.e 12 rfl rfl))))))))))))) (k := Rn.nil))))))) ?_))
  refine Wp.cond rfl (fun h => ?_) (fun h => ?_)
  · simp only [Bool.and_eq_true, decide_eq_true_eq] at h
    have hkl : k < t.length := by omega
    rw [drop_cons hkl, endR, if_pos h.2] at h3
    refine Wp.skip (Wp.block (Wp.reads (is := [0, 1, 2]) (Keep.refl _) (Rn.s rfl Yv.mv (Rn.s rfl (Yv.add (by unfold inI; omega)) (Rn.s rfl Yv.as (Rn.nil)))) ?_))
    exact ⟨k + 1, ⟨rfl, hk.trans (Keep.drew _), by omega, hkl, h3, rfl, rfl, rfl, trivial⟩, by omega⟩
  · refine Wp.exit ?_
    refine Wp.seq (Wp.reads (is := [0, 1]) (Keep.refl _) (Rn.s rfl Yv.mv (Rn.s rfl Yv.as (Rn.nil))) ?_)
    have e : endS t i = k := by
      rw [h3]
      by_cases hkl : k < t.length
      · rw [drop_cons hkl, endR, if_neg]
        simp only [Bool.and_eq_false_iff, decide_eq_false_iff_not] at h
        omega
      · rw [List.drop_eq_nil_of_le (by omega), endR]
    exact Wp.ret (Fin.ret (Res.one rfl rfl) ⟨by rw [e], hk.trans (Keep.drew _)⟩)
theorem rd_some {α : Type} {E : Enc α} {w : World} {A : Option Addr} {xs : List α} (h : Rd E w A xs) (h0 : 0 < xs.length) : A ≠ none := by
  intro e
  have := h.adr h0
  rw [e] at this
  cases this
theorem parse_cx (file s : Bs) (w : World) (hg : Gm w) : Cx Tryd.prog 21 [S file, S s] [] (fun v D => ∃ A c, v = .tuple #[.slice A (parseS file s).1.length c, .agg (parseS file s).2.cs.toArray] ∧ D = [Ch.row NdE 48 A c (parseS file s).1]) w := by
  refine Calls.mono (parse_calls file s w hg w (Keep.refl _)) ?_
  rintro e w' ⟨A, c, rfl, h⟩
  exact ⟨_, _, rfl, ⟨A, c, rfl, rfl⟩, h⟩
theorem sameT_cv (A : Option Addr) (c : Nat) (xs : List Bs) (B : Option Addr) (d : Nat) (ys : List Bs) (w0 : World) (hx : Rd StE w0 A xs) (hy : Rd StE w0 B ys) (hl : xs.length < 4000000000000000000) :
    Cv Tryd.prog 14 [.slice A xs.length c, .slice B ys.length d] (.bool (decide (xs = ys))) w0 := by
  intro w hk
  have hx := hx.keep hk
  have hy := hy.keep hk
  refine calls_of_Wp (vs := [_, _]) Tryd.func14 ?_
  refine Wp.seq (Wp.reads (is := [0]) (Keep.refl _) (Rn.s rfl Yv.as (Rn.nil)) ?_)
  refine Wp.seq (Wp.seq (Wp.reads (is := [0, 1, 2, 3, 4]) (Keep.refl _) (Rn.s rfl Yv.mv (Rn.s rfl (Yv.len_v (e := 9) (m := 1)) (Rn.s rfl Yv.mv (Rn.s rfl (Yv.len_v (e := 9) (m := 1)) (Rn.s rfl (Yv.cmp _ rfl) (Rn.nil)))))) ?_))
  refine Wp.cond rfl (fun h => ?_) (fun h => ?_)
  · refine Wp.seq (Wp.reads (is := [0]) (Keep.refl _) (Rn.s rfl Yv.as (Rn.nil)) ?_)
    have hne : xs ≠ ys := by rintro rfl; simp at h
    exact Wp.ret (Fin.ret (Res.one rfl rfl) ⟨by rw [decide_eq_false hne], Keep.refl _⟩)
  have hle : xs.length = ys.length := by
    have : (xs.length : Int) = ys.length := by simpa using h
    omega
  refine Wp.skip (Wp.seq (Wp.seq (Wp.reads (is := [0]) (Keep.refl _) (Rn.s rfl Yv.as (Rn.nil)) ?_)))
  refine Wp.block ?_
  refine Wp.loop (α := Nat) (fun i ρ ds w' => ds = [] ∧ Keep w w' ∧ i ≤ xs.length ∧ (∀ j : Nat, j < i → nth xs (j : Int) = nth ys (j : Int)) ∧ Sub [(0, .slice A xs.length c), (1, .slice B ys.length d), (5, .int .i64 (i : Int))] ρ) (fun i => xs.length - i) 0
    ⟨rfl, Keep.refl _, Nat.zero_le _, fun j hj => absurd hj (Nat.not_lt_zero j), rfl, rfl, rfl, trivial⟩ ?_
  rintro i ρ ds w' ⟨rfl, hk, hi, hall, hs⟩
  refine Wp.forget _ ?_ hs
  have hx' := hx.keep hk
  have hy' := hy.keep hk
  refine Wp.seq (Wp.seq (Wp.reads (is := [0, 1, 2, 3]) (Keep.refl _) (Rn.s rfl Yv.mv (Rn.s rfl Yv.mv (Rn.s rfl (Yv.len_v (e := 9) (m := 1)) (Rn.s rfl (Yv.cmp _ rfl) (Rn.nil))))) ?_))
  refine Wp.cond rfl (fun h2 => ?_) (fun h2 => ?_)
  · have h2 := of_decide_eq_true h2
    refine Wp.skip (Wp.seq (Wp.block ?_))
    refine Wp.seq (Wp.readsD (is := [0, 1, 2, 3, 4, 5, 6, 7, 8]) mixed (fun _ _ _ _ _ h => h) (Keep.refl _) (Rn.s rfl Yv.mv (Rn.s rfl Yv.mv (Rn.s rfl (Yv.ia (e := 9) hx' (by omega) (by omega)) (Rn.s rfl (Yv.ld (hx'.ld 0 (by omega) (by omega))) (Rn.s rfl Yv.mv (Rn.s rfl Yv.mv (Rn.s rfl (Yv.ia (e := 9) hy' (by omega) (by omega)) (Rn.s rfl (Yv.ld (hy'.ld 0 (by omega) (by omega))) (Rn.s rfl (Yv.scm _ rfl) (Rn.nil)))))))))) ?_)
    refine Wp.cond rfl (fun h3 => ?_) (fun h3 => ?_)
    · refine Wp.seq (Wp.reads (is := [0]) (Keep.refl _) (Rn.s rfl Yv.as (Rn.nil)) ?_)
      have hne : xs ≠ ys := by rintro rfl; simp at h3
      exact Wp.ret (Fin.ret (Res.one rfl rfl) ⟨by rw [decide_eq_false hne], hk.trans (Keep.drew _)⟩)
    · have h3 : nth xs (i : Int) = nth ys (i : Int) := by simpa using h3
      refine Wp.skip (Wp.reads (is := [0, 1, 2]) (Keep.refl _) (Rn.s rfl Yv.mv (Rn.s rfl (Yv.add (by unfold inI; omega)) (Rn.s rfl Yv.as (Rn.nil)))) ?_)
      refine ⟨i + 1, ⟨rfl, hk.trans (Keep.drew _), by omega, fun j hj => ?_, rfl, rfl, rfl, trivial⟩, by omega⟩
      by_cases hji : j = i
      · subst hji; exact h3
      · exact hall j (by omega)
  · have h2 := of_decide_eq_false h2
    refine Wp.exit ?_
    refine Wp.seq (Wp.reads (is := [0]) (Keep.refl _) (Rn.s rfl Yv.as (Rn.nil)) ?_)
    have he : xs = ys := take_ext hle fun j hj => hall j (by omega)
    exact Wp.ret (Fin.ret (Res.one rfl rfl) ⟨by rw [decide_eq_true he], hk⟩)
theorem fitT {n : Nat} (h : n ≤ 8796093022208) : Fits Tryd.prog 9 n := .inr ⟨8796093022208, by kernel_rfl, h⟩
theorem goS_len (file : Bs) : ∀ (ls : List Ln) (nodes : List Nd) (st : List OB) (last : Bool) (ind : Int), (goS file ls nodes st last ind).1.length ≤ nodes.length + ls.length
  | [], nodes, st, last, ind => by simp [goS]
  | l :: ls, nodes, st, last, ind => by
    rw [goS]
    split
    · simp
    split
    · simp
    · rename_i h2
      obtain ⟨E1, N2, S2, hE⟩ : ∃ E1 N2 S2, enterS nodes st last ind l (readC l.text).1 = (E1, N2, S2) := ⟨_, _, _, rfl⟩
      rw [hE] at h2 ⊢
      simp only [ne_eq, Decidable.not_not] at h2
      subst h2
      have h3 := (enterS_len hE).1
      have := goS_len file ls (N2 ++ [nodeS file S2.length l (readC l.text).1]) S2 (!(readC l.text).1.has) l.indent
      simp only [List.length_append, List.length_cons, List.length_nil] at this ⊢
      omega
theorem parseS_len (file s : Bs) : (parseS file s).1.length ≤ 1599289640390 := by
  unfold parseS
  split
  · simp
  · have := goS_len file (linesS s).ls [nd0 file] [ob0] false 0
    have h2 := (linesS_ok s).2
    simp only [List.length_cons, List.length_nil] at this
    omega
theorem cut_none {t : List Nd} {A : Option Addr} {c l : Nat} (hA : A ≠ none) : cutA A c l 8 = none → c - l = 0 := by
  intro h
  unfold cutA at h
  split at h
  · omega
  · simp only [Option.map_eq_none_iff] at h
    exact (hA h).elim
theorem rd_drop {w : World} {A : Option Addr} {t : List Nd} {c l : Nat} (hr : Rd NdE w A t) (hc : t.length ≤ c) : Rd NdE w (cutA A c l 8) (t.drop l) := by
  have := hr.cut (l := l) hc (Nat.le_refl _)
  rwa [List.take_length] at this
theorem rd_take {w : World} {A : Option Addr} {t : List Nd} {m : Nat} (hr : Rd NdE w A t) : Rd NdE w A (t.take m) := by
  have : Rd NdE w A (t.take m ++ t.drop m) := by rw [List.take_append_drop]; exact hr
  exact rd_pre this
theorem resCA {P : Program} {fn : Func} {N n : Nat} {ρ : Env} {w : World} {t b : Nat} {ty : TypeId} {vs : List Value} (h : fn.results = #[.cell t ty]) (hp : lk ρ t = some (PB b)) (hc : Cells w b vs) (hn : vs.length = n := by rfl) (ht : agB P ty n = true := by kernel_rfl) : Res P fn N ρ w (.agg vs.toArray) := fun a ds ha => by
  have h1 := ha.val t _ hp
  have h2 : (loadVar ty ⟨b, 0, none⟩).run P w = .ok (.agg vs.toArray) w := run_loadVar_ag (agB_of ht) ⟨b, 0, none⟩ vs hn (fun j v hj => by rw [add_off, Nat.zero_add]; exact hc j v hj)
  simp only [results, h]
  simp at h1
  simp [h1, h2, asAddr]
theorem resCCC {P : Program} {fn : Func} {N : Nat} {ρ : Env} {w : World} {t u v bt bu bv : Nat} {ty tu tv : TypeId} {x y z : Value} (h : fn.results = #[.cell t ty, .cell u tu, .cell v tv]) (hp : lk ρ t = some (PB bt)) (hq : lk ρ u = some (PB bu)) (hr : lk ρ v = some (PB bv))
    (hc : Cells w bt [x]) (hx : Cells w bu [y]) (hy : Cells w bv [z]) (ht : scB P ty = true := by kernel_rfl) (hu : scB P tu = true := by kernel_rfl) (hv : scB P tv = true := by kernel_rfl) : Res P fn N ρ w (.tuple #[x, y, z]) := fun a ds ha => by
  have h1 := ha.val t _ hp
  have h2 := ha.val u _ hq
  have h3 := ha.val v _ hr
  have e1 : (loadVar ty ⟨bt, 0, none⟩).run P w = .ok x w := by simp [loadVar, run_isAgg_sc (scB_of ht), hc 0 x rfl]
  have e2 : (loadVar tu ⟨bu, 0, none⟩).run P w = .ok y w := by simp [loadVar, run_isAgg_sc (scB_of hu), hx 0 y rfl]
  have e3 : (loadVar tv ⟨bv, 0, none⟩).run P w = .ok z w := by simp [loadVar, run_isAgg_sc (scB_of hv), hy 0 z rfl]
  simp only [results, h]
  simp at h1 h2 h3
  simp [h1, h2, h3, e1, e2, e3, asAddr]
/-! ### a node's place; the texts of a node -/
def placeS (why : Int) (n : Nd) : Ft := ⟨why, n.file, n.line, if n.val = 0 then n.col else n.val⟩
theorem place_cv (why : Int) (n : Nd) (w0 : World) : Cv Tryd.prog 40 [.int .i64 why, .agg n.cs.toArray] (.agg (placeS why n).cs.toArray) w0 := by
  intro w hk
  refine calls_of_Wp (vs := [_, _]) Tryd.func40 ?_
  refine Wp.seq (Wp.regionL (l := [0, 1]) (WO.act (hc := rfl) (he := Ef.boxL (n.cs) (St.init w) (fun ba1 wa1 ka1 hsa1 => WO.act (hc := rfl) (he := Ef.allocL (vs := [.int .i64 0, S [], .int .i64 0, .int .i64 0]) hsa1 (fun ba2 wa2 ka2 hsa2 => WO.done ?_))))))
  have hst : St w [] wa2 [Ch.cells ba2 27 ft0.cs, Ch.cells ba1 48 n.cs] := hsa2
  have c3 := hst.cells 1
  refine Wp.seq (Wp.reads (is := [0, 1, 2]) (Keep.refl _) (Rn.s rfl (Yv.fa (off := 7)) (Rn.s rfl (Yv.ld (c3.at_ 7)) (Rn.s rfl Yv.as (Rn.nil)))) ?_)
  refine Wp.seq (Wp.seq (Wp.reads (is := [0, 1]) (Keep.refl _) (Rn.s rfl Yv.mv (Rn.s rfl (Yv.cmp _ rfl) (Rn.nil))) ?_))
  refine Wp.cond rfl (fun h => ?_) (fun h => ?_)
  · have h := eq_of_beq h
    refine Wp.reads (is := [0, 1, 2]) (Keep.refl _) (Rn.s rfl (Yv.fa (off := 6)) (Rn.s rfl (Yv.ld (c3.at_ 6)) (Rn.s rfl Yv.as (Rn.nil)))) ?_
    refine Wp.seq (Wp.regionL (l := [0, 1, 2, 3, 4, 5, 6, 7]) (WO.rd (is := [0, 1, 2, 3, 4, 5, 6]) (js := [7]) (Keep.refl _) (Rn.s rfl Yv.mv (Rn.s rfl (Yv.fa (off := 4)) (Rn.s rfl (Yv.ld (c3.at_ 4)) (Rn.s rfl (Yv.fa (off := 5)) (Rn.s rfl (Yv.ld (c3.at_ 5)) (Rn.s rfl Yv.mv (Rn.s rfl (Yv.bd (cs := Ft.cs ⟨why, n.file, n.line, n.col⟩)) (Rn.nil)))))))) (WO.act (hc := rfl) (he := Ef.stores hst 0 (fun wx1 hsx1 => WO.done ?_)))))
    refine Wp.ret (Fin.ret (resCA rfl rfl (hsx1.cells 0)) ⟨?_, hsx1.keep⟩)
    unfold placeS
    rw [if_pos h]
    rfl
  · have h := ne_of_beq_false h
    refine Wp.skip (Wp.seq (Wp.regionL (l := [0, 1, 2, 3, 4, 5, 6, 7]) (WO.rd (is := [0, 1, 2, 3, 4, 5, 6]) (js := [7]) (Keep.refl _) (Rn.s rfl Yv.mv (Rn.s rfl (Yv.fa (off := 4)) (Rn.s rfl (Yv.ld (c3.at_ 4)) (Rn.s rfl (Yv.fa (off := 5)) (Rn.s rfl (Yv.ld (c3.at_ 5)) (Rn.s rfl Yv.mv (Rn.s rfl (Yv.bd (cs := Ft.cs ⟨why, n.file, n.line, n.val⟩)) (Rn.nil)))))))) (WO.act (hc := rfl) (he := Ef.stores hst 0 (fun wx1 hsx1 => WO.done ?_))))))
    refine Wp.ret (Fin.ret (resCA rfl rfl (hsx1.cells 0)) ⟨?_, hsx1.keep⟩)
    unfold placeS
    rw [if_neg h]
    rfl
abbrev IvE : Enc Nat := ⟨1, fun n => [.int .i64 (n : Int)], fun _ => rfl⟩
def textsG (t : List Nd) (i : Nat) : Option Nat → List Nat × Int × Bool
  | some n => ([], n, false)
  | none => (partsS t i, 0, true)
/-- the texts of a node: its own place, or those of its parts; else the node that is wrong -/
def textsS (t : List Nd) (i : Nat) : List Nat × Int × Bool :=
  if (nth t (i : Int)).kind = 3 then ([i], 0, true) else if (nth t (i : Int)).kind = 1 then ([], i, false) else
  textsG t i ((partsS t i).find? (fun n : Nat => (nth t (n : Int)).kind != 3))
theorem partsR_len' (d : Int) : ∀ (r : List Nd) (k : Nat), (partsR d r k).length ≤ r.length := partsR_len d
theorem texts_cx (A : Option Addr) (c : Nat) (t : List Nd) (i : Nat) (w : World) (hr : Rd NdE w A t) (hi : i < t.length) (hl : t.length ≤ 1000000) (hd : -1000000 ≤ (nth t (i : Int)).depth ∧ (nth t (i : Int)).depth ≤ 1000000) :
    Cx Tryd.prog 63 [.slice A t.length c, .int .i64 i] [] (fun v D => ∃ O co, v = .tuple #[.slice O (textsS t i).1.length co, .int .i64 (textsS t i).2.1, .bool (textsS t i).2.2] ∧ D = [Ch.row IvE 3 O co (textsS t i).1]) w := by
  refine calls_of_Wp (vs := [_, _]) Tryd.func63 ?_
  refine Wp.seq (Wp.regionL (l := [0, 1, 2, 3]) (WO.act (hc := rfl) (he := Ef.boxL ([.slice A t.length c]) (St.init w) (fun ba1 wa1 ka1 hsa1 => WO.act (hc := rfl) (he := Ef.allocL (vs := [.slice none 0 0]) hsa1 (fun ba2 wa2 ka2 hsa2 => WO.act (hc := rfl) (he := Ef.allocL (vs := [.int .i64 0]) hsa2 (fun ba3 wa3 ka3 hsa3 => WO.act (hc := rfl) (he := Ef.allocL (vs := [.bool false]) hsa3 (fun ba4 wa4 ka4 hsa4 => WO.done ?_))))))))))
  have hst : St w [] wa4 [Ch.cells ba4 4 [.bool false], Ch.cells ba3 3 [.int .i64 0], Ch.cells ba2 129 [.slice none 0 0], Ch.cells ba1 43 [.slice A t.length c]] := hsa4
  clear hsa1 hsa2 hsa3 hsa4
  have c2 := hst.cells 3
  have hr1 := hr.keep hst.keep
  refine Wp.seq (Wp.seq (Wp.reads (is := [0, 1, 2, 3, 4]) (Keep.refl _) (Rn.s rfl (Yv.ld (c2.at_ 0)) (Rn.s rfl Yv.mv (Rn.s rfl (Yv.ia (e := 48) hr1 (by omega) (by omega)) (Rn.s rfl (Yv.fa (off := 0)) (Rn.s rfl (Yv.ld (hr1.ld 0 (by omega) (by omega))) (Rn.nil)))))) ?_))
  refine Wp.block ?_
  refine Wp.seq (Wp.reads (is := [0, 1]) (Keep.refl _) (Rn.s rfl (Yv.cmp _ rfl) (Rn.s rfl Yv.as (Rn.nil))) ?_)
  refine Wp.cond rfl (fun h => ?_) (fun h => ?_)
  · have h := eq_of_beq h
    have e : textsS t i = ([i], 0, true) := by unfold textsS; rw [if_pos h]
    rw [e]
    refine Wp.seq (Wp.regionL (l := [0, 1, 2, 3, 4]) (WO.rd (is := [0]) (js := [1, 2, 3, 4]) (Keep.refl _) (Rn.s rfl Yv.mv (Rn.nil)) (WO.act (hc := rfl) (he := Ef.bsl (T := 3) IvE [i] hst (fun bx1 wx1 kx1 hsx1 => WO.act (hc := rfl) (he := Ef.store hsx1 3 (fun wx2 hsx2 => WO.act (hc := rfl) (he := Ef.store hsx2 3 (fun wx3 hsx3 => WO.act (hc := rfl) (he := Ef.store hsx3 3 (fun wx4 hsx4 => WO.done ?_)))))))))))
    have hst : St w [] wx4 [Ch.cells ba4 4 [.bool true], Ch.cells ba3 3 [.int .i64 0], Ch.cells ba2 129 [.slice (some ⟨bx1, 0, none⟩) 1 1], Ch.row IvE 3 (some ⟨bx1, 0, none⟩) 1 [i], Ch.cells ba1 43 [.slice A t.length c]] := hsx4
    exact Wp.ret (Fin.ret (resCCC rfl rfl rfl rfl (hst.cells 2) (hst.cells 1) (hst.cells 0)) ⟨_, _, rfl, ⟨_, _, rfl, rfl⟩, hst.pick [3]⟩)
  have h := ne_of_beq_false h
  refine Wp.seq (Wp.reads (is := [0, 1]) (Keep.refl _) (Rn.s rfl (Yv.cmp _ rfl) (Rn.s rfl Yv.as (Rn.nil))) ?_)
  refine Wp.cond rfl (fun h2 => ?_) (fun h2 => ?_)
  · have h2 := eq_of_beq h2
    have e : textsS t i = ([], (i : Int), false) := by unfold textsS; rw [if_neg h, if_pos h2]
    rw [e]
    refine Wp.seq (Wp.regionL (l := [0, 1, 2, 3]) (WO.rd (is := [0]) (js := [1, 2, 3]) (Keep.refl _) (Rn.s rfl Yv.mv (Rn.nil)) (WO.act (hc := rfl) (he := Ef.store hst 2 (fun wx1 hsx1 => WO.act (hc := rfl) (he := Ef.store hsx1 2 (fun wx2 hsx2 => WO.act (hc := rfl) (he := Ef.store hsx2 2 (fun wx3 hsx3 => WO.done ?_)))))))))
    have hst : St w [] wx3 [Ch.cells ba4 4 [.bool false], Ch.cells ba3 3 [.int .i64 i], Ch.cells ba2 129 [.slice none 0 0], Ch.cells ba1 43 [.slice A t.length c]] := hsx3
    exact Wp.ret (Fin.ret (resCCC rfl rfl rfl rfl (hst.cells 2) (hst.cells 1) (hst.cells 0)) ⟨_, _, rfl, ⟨none, 0, rfl, rfl⟩, (hst.pick []).nilrow _ _⟩)
  have h2 := ne_of_beq_false h2
  obtain ⟨G, hG⟩ : ∃ G, G = (partsS t i).find? (fun n : Nat => (nth t (n : Int)).kind != 3) := ⟨_, rfl⟩
  have e : textsS t i = textsG t i G := by unfold textsS; rw [if_neg h, if_neg h2, ← hG]
  rw [e]
  clear e
  refine Wp.skip (Wp.seq (Wp.regionL (l := [0]) (WO.act (hc := rfl) (he := Ef.allocL (vs := [.slice none 0 0]) hst (fun bb1 wb1 kb1 hsb1 => WO.done ?_)))))
  have c2 := hsb1.cells 4
  refine Wp.seq (Wp.seq (Wp.regionL (l := [0, 1, 2]) (WO.rd (is := [0, 1]) (js := [2]) (Keep.refl _) (Rn.s rfl (Yv.ld (c2.at_ 0)) (Rn.s rfl Yv.mv (Rn.nil))) (WO.act (hc := rfl) (he := Ef.cx (of_calls i A c t wb1) hsb1 (FnOk.of Tryd.func59) ?_)))))
  rintro v D wd1 ⟨b1, b2, rfl, rfl⟩ hsd1
  refine WO.done ?_
  have hst : St w [] wd1 (Ch.row IvE 3 none 0 [] :: [Ch.cells b1 3 [.int .i64 i], Ch.cells b2 43 [.slice A t.length c], Ch.cells bb1 129 [.slice none 0 0], Ch.cells ba4 4 [.bool false], Ch.cells ba3 3 [.int .i64 0], Ch.cells ba2 129 [.slice none 0 0], Ch.cells ba1 43 [.slice A t.length c]]) := hsd1.nilrow IvE 3
  have hpl : (partsS t i).length ≤ t.length := by
    have := partsR_len (nth t (i : Int)).depth (t.drop (i + 1)) (i + 1)
    simp only [List.length_drop] at this
    unfold partsS
    omega
  refine Wp.block ?_
  refine Wp.ranges hst (of_tells b1 b2 i A c t hi (by omega) hd)
    (fun k D => ∃ O co, D = [Ch.row IvE 3 O co ((partsS t i).take k), Ch.cells b1 3 [.int .i64 i], Ch.cells b2 43 [.slice A t.length c], Ch.cells bb1 129 [.slice O ((partsS t i).take k).length co], Ch.cells ba4 4 [.bool false], Ch.cells ba3 3 [.int .i64 0], Ch.cells ba2 129 [.slice none 0 0], Ch.cells ba1 43 [.slice A t.length c]] ∧ ((partsS t i).drop k).find? (fun n : Nat => (nth t (n : Int)).kind != 3) = G)
    (fun c' D => c' = .ret ∧ ∃ n : Nat, G = some n ∧ D = [Ch.cells ba4 4 [.bool false], Ch.cells ba3 3 [.int .i64 n], Ch.cells ba2 129 [.slice none 0 0]])
    ?_ ⟨none, 0, rfl, hG.symm⟩ ?_ ?_ ?_ (hf := Tryd.func87)
  · rintro k D' W ⟨O, co, rfl, -⟩ h
    exact ⟨h.cells 1, h.cells 2, hr.keep h.keep⟩
  · rintro k x l kb busy D' W hx ⟨O, co, rfl, hfd⟩ hW
    have hxm := partsS_mem hi x (List.mem_of_getElem? hx)
    have hkl : k < (partsS t i).length := (List.getElem?_eq_some_iff.1 hx).1
    refine Wp.reads (is := [0]) (Keep.refl _) (Rn.s rfl Yv.as (Rn.nil)) ⟨rfl, Keep.refl _, ?_⟩
    intro W2 hW2
    have hr2 : Rd NdE W2 A t := hr.keep hW2.keep
    have c2 := hW2.cells 9
    have c7 := hW2.cells 5
    rw [List.drop_eq_getElem_cons hkl, (List.getElem?_eq_some_iff.1 hx).2, List.find?_cons] at hfd
    refine Wp.block (Wp.seq (Wp.seq (Wp.reads (is := [0, 1, 2, 3, 4, 5]) (Keep.refl _) (Rn.s rfl (Yv.ld (c2.at_ 0)) (Rn.s rfl Yv.mv (Rn.s rfl (Yv.ia (e := 48) hr2 (by omega) (by omega)) (Rn.s rfl (Yv.fa (off := 0)) (Rn.s rfl (Yv.ld (hr2.ld 0 (by omega) (by omega))) (Rn.s rfl (Yv.cmp _ rfl) (Rn.nil))))))) ?_)))
    refine Wp.cond rfl (fun h3 => ?_) (fun h3 => ?_)
    · rw [h3] at hfd
      refine Wp.seq (Wp.regionL (l := [0, 1, 2, 3]) (WO.rd (is := [0]) (js := [1, 2, 3]) (Keep.refl _) (Rn.s rfl Yv.mv (Rn.nil)) (WO.act (hc := rfl) (he := Ef.store hW2 8 (fun wy1 hsy1 => WO.act (hc := rfl) (he := Ef.store hsy1 8 (fun wy2 hsy2 => WO.act (hc := rfl) (he := Ef.store hsy2 8 (fun wy3 hsy3 => WO.done ?_)))))))))
      exact Wp.ret ⟨_, ⟨rfl, x, hfd.symm, rfl⟩, hsy3.pick [3, 4, 0, 1, 2]⟩
    · rw [h3] at hfd
      have etk : (partsS t i).take (k + 1) = (partsS t i).take k ++ [x] := by rw [List.take_add_one, hx]; rfl
      refine Wp.skip (Wp.regionL (l := [0, 1, 2, 3, 4]) (WO.rd (is := [0, 1]) (js := [2, 3, 4]) (Keep.refl _) (Rn.s rfl (Yv.ld (c7.at_ 0)) (Rn.s rfl Yv.mv (Rn.nil))) (WO.app IvE [x] rfl (fun _ => rfl) hW2 2 (.inl (by simp only [List.length_cons, List.length_nil, List.length_take]; omega)) (fun by1 Ay1 cy1 wy1 hsy1 => WO.act (hc := rfl) (he := Ef.store hsy1 5 (fun wy2 hsy2 => WO.done ?_))))))
      refine ⟨_, ⟨Ay1, cy1, rfl, hfd⟩, ?_⟩
      rw [etk]
      exact hsy2.pick [2, 3, 1, 4, 5, 0, 6, 7, 8, 9]
  · rintro kb D' W ⟨O, co, rfl, hfd⟩ hW
    rw [List.drop_eq_nil_of_le (Nat.le_refl _), List.find?_nil] at hfd
    subst hfd
    rw [List.take_of_length_le (Nat.le_refl _)] at hW
    have c7 := hW.cells 4
    refine Wp.seq (Wp.regionL (l := [0, 1, 2, 3]) (WO.rd (is := [0]) (js := [1, 2, 3]) (Keep.refl _) (Rn.s rfl (Yv.ld (c7.at_ 0)) (Rn.nil)) (WO.act (hc := rfl) (he := Ef.store hW 7 (fun wy1 hsy1 => WO.act (hc := rfl) (he := Ef.store hsy1 7 (fun wy2 hsy2 => WO.act (hc := rfl) (he := Ef.store hsy2 7 (fun wy3 hsy3 => WO.done ?_)))))))))
    have hs2 := hsy3.pick [3, 0, 1, 2, 4]
    exact Wp.ret (Fin.retM (Lv.one hs2 0 fun w2 hst2 => ⟨_, resCCC rfl rfl rfl rfl (hst2.cells 2) (hst2.cells 1) (hst2.cells 0), _, _, rfl, ⟨O, co, rfl, rfl⟩, hst2.pick [3]⟩))
  · rintro kb c' D' W ⟨rfl, n, hGn, rfl⟩ hW
    subst hGn
    exact Wp.ret (Fin.retM (Lv.one hW 0 fun w2 hst2 => ⟨_, resCCC rfl rfl rfl rfl (hst2.cells 2) (hst2.cells 1) (hst2.cells 0), _, _, rfl, ⟨none, 0, rfl, rfl⟩, (hst2.pick []).nilrow _ _⟩))
end Go.Proofs.YtgjhbapbomdpbaaDoor.C
