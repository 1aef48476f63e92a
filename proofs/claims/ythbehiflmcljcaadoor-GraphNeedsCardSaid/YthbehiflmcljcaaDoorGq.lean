/- What the laws over graph share: lists of numbers compared, copied, lent, kept and written over. -/
import Derived.Test.YthbehiflmcljcaaDoorGp
set_option linter.unusedVariables false
set_option linter.unusedSimpArgs false
set_option maxRecDepth 10000
namespace Go.Proofs.YthbehiflmcljcaaDoor.C
open Go.RowKit Go.Proofs.YthbehiflmcljcaaDoor.Sh
theorem ext_nth {α : Type} [Inhabited α] {xs ys : List α} (hl : xs.length = ys.length) (h : ∀ j : Nat, j < xs.length → nth xs (j : Int) = nth ys (j : Int)) : xs = ys := by
  apply List.ext_getElem hl
  intro i h1 h2
  have := h i h1
  rwa [nth_getElem h1, nth_getElem h2] at this
theorem same_cv (A : Option Addr) (c : Nat) (xs : Is) (B : Option Addr) (d : Nat) (ys : Is) (w0 : World) (hx : Rd InE w0 A xs) (hy : Rd InE w0 B ys) (hl : xs.length ≤ 9223372036854775806) : Cv Tryd.prog 17 [.slice A xs.length c, .slice B ys.length d] (.bool (decide (xs = ys))) w0 := by
  intro w hk
  have hx := hx.keep hk
  have hy := hy.keep hk
  refine calls_of_Wp (vs := [_, _]) Tryd.func17 ?_
  refine Wp.seq (Wp.reads (is := [0]) (Keep.refl _) (Rn.s rfl Yv.as (Rn.nil)) ?_)
  refine Wp.seq (Wp.seq (Wp.reads (is := [0, 1, 2, 3, 4]) (Keep.refl _) (Rn.s rfl Yv.mv (Rn.s rfl (Yv.len_v (e := 3) (m := 1)) (Rn.s rfl Yv.mv (Rn.s rfl (Yv.len_v (e := 3) (m := 1)) (Rn.s rfl (Yv.cmp _ rfl) (Rn.nil)))))) ?_))
  refine Wp.cond rfl (fun h => ?_) (fun h => ?_)
  · refine Wp.seq (Wp.reads (is := [0]) (Keep.refl _) (Rn.s rfl Yv.as (Rn.nil)) ?_)
    have hne : xs ≠ ys := by rintro rfl; simp at h
    exact Wp.ret (Fin.ret (Res.one rfl rfl) ⟨by rw [decide_eq_false hne], Keep.refl _⟩)
  have hle : xs.length = ys.length := by
    have : (xs.length : Int) = ys.length := by simpa using h
    omega
  refine Wp.skip (Wp.seq (Wp.seq (Wp.reads (is := [0]) (Keep.refl _) (Rn.s rfl Yv.as (Rn.nil)) ?_)))
  refine Wp.block ?_
  refine Wp.loop (α := Nat) (fun i ρ ds w' => ds = [] ∧ Keep w w' ∧ i ≤ xs.length ∧ (∀ j : Nat, j < i → nth xs (j : Int) = nth ys (j : Int)) ∧ Sub [(0, .slice A xs.length c), (1, .slice B ys.length d), (5, .int .i64 (i : Int))] ρ) (fun i => xs.length - i) 0
    ⟨rfl, Keep.refl _, Nat.zero_le _, fun j hj => absurd hj (Nat.not_lt_zero j), rfl, rfl, rfl, trivial⟩ ?_
  rintro i ρ ds w' ⟨rfl, hk, hi, hall, hs⟩
  refine Wp.forget _ ?_ hs
  have hx' := hx.keep hk
  have hy' := hy.keep hk
  refine Wp.seq (Wp.seq (Wp.reads (is := [0, 1, 2, 3]) (Keep.refl _) (Rn.s rfl Yv.mv (Rn.s rfl Yv.mv (Rn.s rfl (Yv.len_v (e := 3) (m := 1)) (Rn.s rfl (Yv.cmp _ rfl) (Rn.nil))))) ?_))
  refine Wp.cond rfl (fun h2 => ?_) (fun h2 => ?_)
  · have h2 := of_decide_eq_true h2
    refine Wp.skip (Wp.seq (Wp.block ?_))
    refine Wp.seq (Wp.readsD (is := [0, 1, 2, 3, 4, 5, 6, 7, 8]) mixed (fun _ _ _ _ _ h => h) (Keep.refl _) (Rn.s rfl Yv.mv (Rn.s rfl Yv.mv (Rn.s rfl (Yv.ia (e := 3) hx' (by omega) (by omega)) (Rn.s rfl (Yv.ld (hx'.ld 0 (by omega) (by omega))) (Rn.s rfl Yv.mv (Rn.s rfl Yv.mv (Rn.s rfl (Yv.ia (e := 3) hy' (by omega) (by omega)) (Rn.s rfl (Yv.ld (hy'.ld 0 (by omega) (by omega))) (Rn.s rfl (Yv.cmp _ rfl) (Rn.nil)))))))))) ?_)
    refine Wp.cond rfl (fun h3 => ?_) (fun h3 => ?_)
    · refine Wp.seq (Wp.reads (is := [0]) (Keep.refl _) (Rn.s rfl Yv.as (Rn.nil)) ?_)
      have hne : xs ≠ ys := by rintro rfl; simp at h3
      exact Wp.ret (Fin.ret (Res.one rfl rfl) ⟨by rw [decide_eq_false hne], hk.trans (Keep.drew _)⟩)
    · have h3 : nth xs (i : Int) = nth ys (i : Int) := by simpa using h3
      refine Wp.skip (Wp.reads (is := [0, 1, 2]) (Keep.refl _) (Rn.s rfl Yv.mv (Rn.s rfl (Yv.add (by unfold inI; omega)) (Rn.s rfl Yv.as (Rn.nil)))) ?_)
      refine ⟨i + 1, ⟨rfl, hk.trans (Keep.drew _), by omega, fun j hj => ?_, rfl, rfl, rfl, trivial⟩, by omega⟩
      by_cases hji : j = i
      · subst hji; exact h3
      · exact hall j (by omega)
  · have h2 := of_decide_eq_false h2
    refine Wp.exit ?_
    refine Wp.seq (Wp.reads (is := [0]) (Keep.refl _) (Rn.s rfl Yv.as (Rn.nil)) ?_)
    have he : xs = ys := ext_nth hle fun j hj => hall j (by omega)
    exact Wp.ret (Fin.ret (Res.one rfl rfl) ⟨by rw [decide_eq_true he], hk⟩)
theorem samel_cv (A : Option Addr) (c : Nat) (xs : List Sl) (B : Option Addr) (d : Nat) (ys : List Sl) (w0 : World) (hx : LsAt w0 A xs) (hy : LsAt w0 B ys) (hl : xs.length ≤ 9223372036854775806) (hb : ∀ x ∈ xs, x.2.2.length ≤ 9223372036854775806) : Cv Tryd.prog 14 [.slice A xs.length c, .slice B ys.length d] (.bool (decide (pl xs = pl ys))) w0 := by
  intro w hk
  have hx := hx.keep hk
  have hy := hy.keep hk
  refine calls_of_Wp (vs := [_, _]) Tryd.func14 ?_
  refine Wp.seq (Wp.reads (is := [0]) (Keep.refl _) (Rn.s rfl Yv.as (Rn.nil)) ?_)
  refine Wp.seq (Wp.seq (Wp.reads (is := [0, 1, 2, 3, 4]) (Keep.refl _) (Rn.s rfl Yv.mv (Rn.s rfl (Yv.len_v (e := 23) (m := 1)) (Rn.s rfl Yv.mv (Rn.s rfl (Yv.len_v (e := 23) (m := 1)) (Rn.s rfl (Yv.cmp _ rfl) (Rn.nil)))))) ?_))
  refine Wp.cond rfl (fun h => ?_) (fun h => ?_)
  · refine Wp.seq (Wp.reads (is := [0]) (Keep.refl _) (Rn.s rfl Yv.as (Rn.nil)) ?_)
    have hne : pl xs ≠ pl ys := by
      intro e
      have := congrArg List.length e
      simp only [List.length_map] at this
      rw [this] at h
      simp at h
    exact Wp.ret (Fin.ret (Res.one rfl rfl) ⟨by rw [decide_eq_false hne], Keep.refl _⟩)
  have hle : xs.length = ys.length := by
    have : (xs.length : Int) = ys.length := by simpa using h
    omega
  refine Wp.skip (Wp.seq (Wp.seq (Wp.reads (is := [0]) (Keep.refl _) (Rn.s rfl Yv.as (Rn.nil)) ?_)))
  refine Wp.block ?_
  refine Wp.loop (α := Nat) (fun i ρ ds w' => ds = [] ∧ Keep w w' ∧ i ≤ xs.length ∧ (∀ j : Nat, j < i → nth (pl xs) (j : Int) = nth (pl ys) (j : Int)) ∧ Sub [(0, .slice A xs.length c), (1, .slice B ys.length d), (5, .int .i64 (i : Int))] ρ) (fun i => xs.length - i) 0
    ⟨rfl, Keep.refl _, Nat.zero_le _, fun j hj => absurd hj (Nat.not_lt_zero j), rfl, rfl, rfl, trivial⟩ ?_
  rintro i ρ ds w' ⟨rfl, hk, hi, hall, hs⟩
  refine Wp.forget _ ?_ hs
  have hx' := hx.keep hk
  have hy' := hy.keep hk
  refine Wp.seq (Wp.seq (Wp.reads (is := [0, 1, 2, 3]) (Keep.refl _) (Rn.s rfl Yv.mv (Rn.s rfl Yv.mv (Rn.s rfl (Yv.len_v (e := 23) (m := 1)) (Rn.s rfl (Yv.cmp _ rfl) (Rn.nil))))) ?_))
  refine Wp.cond rfl (fun h2 => ?_) (fun h2 => ?_)
  · have h2 : i < xs.length := by have := of_decide_eq_true h2; omega
    have hq := hb _ (nth_mem' h2)
    refine Wp.skip (Wp.seq (Wp.block ?_))
    have hxi := (hx'.at_ h2).keep (Keep.drew w')
    have hyi := (hy'.at_ (k := i) (by omega)).keep (Keep.drew w')
    have hxr := hx'.rd
    have hyr := hy'.rd
    refine Wp.seq (Wp.draws [] mixed (WD.rd (is := [0, 1, 2, 3, 4, 5, 6, 7]) (fun _ _ _ _ _ h => h) (Keep.drew _) (Rn.s rfl Yv.mv (Rn.s rfl Yv.mv (Rn.s rfl (Yv.ia (e := 23) hxr (by omega) (by omega)) (Rn.s rfl (Yv.ld (hxr.ld 0 (by omega) (by omega))) (Rn.s rfl Yv.mv (Rn.s rfl Yv.mv (Rn.s rfl (Yv.ia (e := 23) hyr (by omega) (by omega)) (Rn.s rfl (Yv.ld (hyr.ld 0 (by omega) (by omega))) (Rn.nil))))))))) (WD.cv 8 rfl (same_cv (nth xs (i : Int)).1 (nth xs (i : Int)).2.1 (nth xs (i : Int)).2.2 (nth ys (i : Int)).1 (nth ys (i : Int)).2.1 (nth ys (i : Int)).2.2 _ hxi hyi hq) (Keep.refl _) (FnOk.of Tryd.func17) (fun wy1 ky1 => WD.rd (is := [9]) (fun _ _ _ _ _ h => h) ((Keep.drew _).trans ky1) (Rn.s rfl Yv.not (Rn.nil)) (WD.done ?_)))))
    have hk2 := (hk.trans (Keep.drew _)).trans ky1
    refine Wp.cond rfl (fun h3 => ?_) (fun h3 => ?_)
    · refine Wp.seq (Wp.reads (is := [0]) (Keep.refl _) (Rn.s rfl Yv.as (Rn.nil)) ?_)
      have hne : pl xs ≠ pl ys := by
        intro e
        have h4 : (nth xs (i : Int)).2.2 = (nth ys (i : Int)).2.2 := by rw [← nth_pl, ← nth_pl, e]
        rw [h4] at h3
        simp at h3
      exact Wp.ret (Fin.ret (Res.one rfl rfl) ⟨by rw [decide_eq_false hne], hk2⟩)
    · have h3 : nth (pl xs) (i : Int) = nth (pl ys) (i : Int) := by
        rw [nth_pl, nth_pl]
        simpa using h3
      refine Wp.skip (Wp.reads (is := [0, 1, 2]) (Keep.refl _) (Rn.s rfl Yv.mv (Rn.s rfl (Yv.add (by unfold inI; omega)) (Rn.s rfl Yv.as (Rn.nil)))) ?_)
      refine ⟨i + 1, ⟨rfl, hk2, by omega, fun j hj => ?_, rfl, rfl, rfl, trivial⟩, by omega⟩
      by_cases hji : j = i
      · subst hji; exact h3
      · exact hall j (by omega)
  · have h2 := of_decide_eq_false h2
    refine Wp.exit ?_
    refine Wp.seq (Wp.reads (is := [0]) (Keep.refl _) (Rn.s rfl Yv.as (Rn.nil)) ?_)
    have he : pl xs = pl ys := ext_nth (by simp only [List.length_map]; exact hle) fun j hj => hall j (by simp only [List.length_map] at hj; omega)
    exact Wp.ret (Fin.ret (Res.one rfl rfl) ⟨by rw [decide_eq_true he], hk⟩)
theorem rd_pre {α : Type} {E : Enc α} {w : World} {A : Option Addr} {xs ys : List α} (h : Rd E w A (xs ++ ys)) : Rd E w A xs :=
  ⟨fun hl => h.adr (by simp; omega), fun j x hx k u hu => h.cell j x (by rw [List.getElem?_append_left (List.getElem?_eq_some_iff.1 hx).1]; exact hx) k u hu⟩
theorem rd_take {α : Type} {E : Enc α} {w : World} {A : Option Addr} {ys : List α} (h : Rd E w A ys) (n : Nat) : Rd E w A (ys.take n) := by
  have : Rd E w A (ys.take n ++ ys.drop n) := by rw [List.take_append_drop]; exact h
  exact rd_pre this
theorem copyI_cx (A : Option Addr) (c : Nat) (t : Is) (w : World) (hr : Rd InE w A t) (hc : A = none → c = 0) (hl : t.length ≤ 17592186044416) : Cx Tryd.prog 16 [.slice A t.length c] [] (fun v D => ∃ B d, v = .slice B t.length d ∧ D = [Ch.row InE 3 B d t]) w := by
  refine calls_of_Wp (vs := [_]) Tryd.func16 ?_
  refine Wp.seq (Wp.reads (is := [0]) (Keep.refl _) (Rn.s rfl Yv.as (Rn.nil)) ?_)
  refine Wp.seq (Wp.regionL (l := [0, 1, 2, 3]) (WO.act (hc := rfl) (he := Ef.bsl (T := 3) InE ([] : Is) (St.init w) (fun b w1 k1 hs1 => WO.rd (is := [1]) (js := [2, 3]) (Keep.refl _) (Rn.s rfl Yv.mv (Rn.nil)) (WO.act (he := Ef.append hs1 0 (hr.keep k1) hc (fitInt (by simp only [List.length_nil]; omega)) (fun A' c' w' hs' => WO.rd (is := [3]) (js := []) (Keep.refl _) (Rn.s rfl Yv.as (Rn.nil)) (WO.done ?_))))))))
  exact Wp.ret (Fin.ret (Res.one rfl rfl) ⟨_, _, rfl, ⟨A', c', rfl, rfl⟩, hs'⟩)
/-- no room without a place -/
def CapOk (ls : List Sl) : Prop := ∀ x ∈ ls, x.1 = none → x.2.1 = 0
theorem copyl_cx (A : Option Addr) (c : Nat) (ls : List Sl) (w : World) (h : LsAt w A ls) (hc : CapOk ls) (hl : ls.length ≤ 5864062014804) (hb : ∀ x ∈ ls, x.2.2.length ≤ 17592186044416) :
    Cx Tryd.prog 11 [.slice A ls.length c] [] (fun v D => ∃ O co rr, pl rr = pl ls ∧ v = .slice O rr.length co ∧ D = Ch.row ShE 23 O co rr :: RsD rr) w := by
  refine calls_of_Wp (vs := [_]) Tryd.func11 ?_
  refine Wp.seq (Wp.reads (is := [0]) (Keep.refl _) (Rn.s rfl Yv.as (Rn.nil)) ?_)
  refine Wp.seq (Wp.reads (is := [0]) (Keep.refl _) (Rn.s rfl Yv.as (Rn.nil)) ?_)
  refine Wp.seq (Wp.seq (Wp.reads (is := [0]) (Keep.refl _) (Rn.s rfl Yv.as (Rn.nil)) ?_))
  refine Wp.block ?_
  refine Wp.loop (α := Nat) (fun k ρ ds w' => ds = [] ∧ k ≤ ls.length ∧ ∃ O co rr, pl rr = (pl ls).take k ∧ St w [] w' (Ch.row ShE 23 O co rr :: RsD rr) ∧ Sub [(0, .slice A ls.length c), (3, .slice O rr.length co), (4, .int .i64 (k : Int))] ρ) (fun k => ls.length - k) 0
    ⟨rfl, by omega, none, 0, [], rfl, (St.init w).nilrow ShE 23, rfl, rfl, rfl, trivial⟩ ?_
  rintro k ρ ds w1 ⟨rfl, hk, O, co, rr, hpl, hst, hs⟩
  refine Wp.forget _ ?_ hs
  clear hs ρ
  have hrl : rr.length = k := by
    have := congrArg List.length hpl
    simp only [List.length_map, List.length_take] at this
    omega
  have h1 := h.keep hst.keep
  refine Wp.seq (Wp.seq (Wp.reads (is := [0, 1, 2, 3]) (Keep.refl _) (Rn.s rfl Yv.mv (Rn.s rfl Yv.mv (Rn.s rfl (Yv.len_v (e := 23) (m := 1)) (Rn.s rfl (Yv.cmp _ rfl) (Rn.nil))))) ?_))
  refine Wp.cond rfl (fun hlt => ?_) (fun hlt => ?_)
  · have hlt : k < ls.length := by have := of_decide_eq_true hlt; omega
    have hx := h1.at_ hlt
    have hm := nth_mem' hlt
    refine Wp.skip (Wp.seq (Wp.block ?_))
    refine Wp.regionL (l := [0, 1, 2, 3, 4, 5, 6, 7, 8]) (WO.rd (is := [0, 1, 2, 3, 4]) (js := [5, 6, 7, 8]) (Keep.refl _) (Rn.s rfl Yv.mv (Rn.s rfl Yv.mv (Rn.s rfl Yv.mv (Rn.s rfl (Yv.ia (e := 23) h1.rd (by omega) (by omega)) (Rn.s rfl (Yv.ld (h1.rd.ld 0 (by omega) (by omega))) (Rn.nil)))))) (WO.act (hc := rfl) (he := Ef.cx (caps := []) (A := []) (copyI_cx (nth ls (k : Int)).1 (nth ls (k : Int)).2.1 (nth ls (k : Int)).2.2 w1 hx (hc _ hm) (hb _ hm)) hst (FnOk.of Tryd.func16) ?_)))
    rintro v D w2 ⟨B, d, rfl, rfl⟩ hs2
    have hs2 : St w [] w2 (Ch.row InE 3 B d (nth ls (k : Int)).2.2 :: Ch.row ShE 23 O co rr :: RsD rr) := hs2
    refine WO.app ShE [((B, d, (nth ls (k : Int)).2.2) : Sl)] rfl (fun _ => rfl) hs2 1 (fitSl (by simp only [List.length_cons, List.length_nil]; omega)) (fun b4 A4 c4 w4 hs4 => WO.rd (is := [8]) (js := []) (Keep.refl _) (Rn.s rfl Yv.as (Rn.nil)) (WO.done ?_))
    refine Wp.reads (is := [0, 1, 2]) (Keep.refl _) (Rn.s rfl Yv.mv (Rn.s rfl (Yv.add (by unfold inI; omega)) (Rn.s rfl Yv.as (Rn.nil)))) ?_
    have hst4 : St w [] w4 (Ch.row ShE 23 A4 c4 (rr ++ [(B, d, (nth ls (k : Int)).2.2)]) :: RsD (rr ++ [(B, d, (nth ls (k : Int)).2.2)])) := by
      have e : RsD (rr ++ [(B, d, (nth ls (k : Int)).2.2)]) = RsD rr ++ [Ch.row InE 3 B d (nth ls (k : Int)).2.2] := List.map_append
      rw [e]
      have hs5 : St w [] w4 (Ch.row ShE 23 A4 c4 (rr ++ [(B, d, (nth ls (k : Int)).2.2)]) :: ([Ch.row InE 3 B d (nth ls (k : Int)).2.2] ++ RsD rr)) := hs4
      exact hs5.perm (List.Perm.cons _ List.perm_append_comm)
    refine ⟨k + 1, ⟨rfl, by omega, A4, c4, _, ?_, hst4, rfl, rfl, rfl, trivial⟩, by omega⟩
    rw [List.take_add_one, ← hpl, List.getElem?_map, List.getElem?_eq_getElem hlt, nth_getElem hlt]
    simp
  · have hlt : k = ls.length := by have := of_decide_eq_false hlt; omega
    refine Wp.exit ?_
    refine Wp.seq (Wp.reads (is := [0, 1]) (Keep.refl _) (Rn.s rfl Yv.mv (Rn.s rfl Yv.as (Rn.nil))) ?_)
    refine Wp.ret (Fin.ret (Res.one rfl rfl) ⟨_, _, rfl, ⟨O, co, rr, ?_, rfl, rfl⟩, hst⟩)
    rw [hpl, hlt]
    exact List.take_of_length_le (by rw [List.length_map]; exact Nat.le_refl _)
end Go.Proofs.YthbehiflmcljcaaDoor.C
