/- What the laws share: lists of texts held against one another, lent, and looked at again. -/
import Derived.Test.YtbmplmehofgocaaDoorBn
set_option linter.unusedVariables false
set_option linter.unusedSimpArgs false
set_option maxRecDepth 10000
namespace Go.Proofs.YtbmplmehofgocaaDoor.C
open Go.RowKit Go.Proofs.YtbmplmehofgocaaDoor.Sh
theorem sameT_cv (A : Option Addr) (c : Nat) (xs : List Bs) (B : Option Addr) (d : Nat) (ys : List Bs) (w0 : World) (hx : Rd StE w0 A xs) (hy : Rd StE w0 B ys) (hl : xs.length < 4000000000000000000) :
    Cv Tryd.prog 60 [.slice A xs.length c, .slice B ys.length d] (.bool (decide (xs = ys))) w0 := by
  intro w hk
  have hx := hx.keep hk
  have hy := hy.keep hk
  refine calls_of_Wp (vs := [_, _]) Tryd.func60 ?_
  refine Wp.seq (Wp.reads (is := [0]) (Keep.refl _) (Rn.s rfl Yv.as (Rn.nil)) ?_)
  refine Wp.seq (Wp.seq (Wp.reads (is := [0, 1, 2, 3, 4]) (Keep.refl _) (Rn.s rfl Yv.mv (Rn.s rfl (Yv.len_v (e := 9) (m := 1)) (Rn.s rfl Yv.mv (Rn.s rfl (Yv.len_v (e := 9) (m := 1)) (Rn.s rfl (Yv.cmp _ rfl) (Rn.nil)))))) ?_))
  refine Wp.cond rfl (fun h => ?_) (fun h => ?_)
  · refine Wp.seq (Wp.reads (is := [0]) (Keep.refl _) (Rn.s rfl Yv.as (Rn.nil)) ?_)
    have hne : xs ≠ ys := by rintro rfl; simp at h
    exact Wp.ret (Fin.ret (Res.one rfl rfl) ⟨by rw [decide_eq_false hne], Keep.refl _⟩)
  have hle : xs.length = ys.length := by
    have : (xs.length : Int) = ys.length := by simpa using h
    omega
  refine Wp.skip (Wp.seq (Wp.seq (Wp.reads (is := [0]) (Keep.refl _) (Rn.s rfl Yv.as (Rn.nil)) ?_)))
  refine Wp.block ?_
  refine Wp.loop (α := Nat) (fun i ρ ds w' => ds = [] ∧ Keep w w' ∧ i ≤ xs.length ∧ (∀ j : Nat, j < i → nth xs (j : Int) = nth ys (j : Int)) ∧ Sub [(0, .slice A xs.length c), (1, .slice B ys.length d), (5, .int .i64 (i : Int))] ρ) (fun i => xs.length - i) 0
    ⟨rfl, Keep.refl _, Nat.zero_le _, fun j hj => absurd hj (Nat.not_lt_zero j), rfl, rfl, rfl, trivial⟩ ?_
  rintro i ρ ds w' ⟨rfl, hk, hi, hall, hs⟩
  refine Wp.forget _ ?_ hs
  have hx' := hx.keep hk
  have hy' := hy.keep hk
  refine Wp.seq (Wp.seq (Wp.reads (is := [0, 1, 2, 3]) (Keep.refl _) (Rn.s rfl Yv.mv (Rn.s rfl Yv.mv (Rn.s rfl (Yv.len_v (e := 9) (m := 1)) (Rn.s rfl (Yv.cmp _ rfl) (Rn.nil))))) ?_))
  refine Wp.cond rfl (fun h2 => ?_) (fun h2 => ?_)
  · have h2 := of_decide_eq_true h2
    refine Wp.skip (Wp.seq (Wp.block ?_))
    refine Wp.seq (Wp.readsD (is := [0, 1, 2, 3, 4, 5, 6, 7, 8]) mixed (fun _ _ _ _ _ h => h) (Keep.refl _) (Rn.s rfl Yv.mv (Rn.s rfl Yv.mv (Rn.s rfl (Yv.ia (e := 9) hx' (by omega) (by omega)) (Rn.s rfl (Yv.ld (hx'.ld 0 (by omega) (by omega))) (Rn.s rfl Yv.mv (Rn.s rfl Yv.mv (Rn.s rfl (Yv.ia (e := 9) hy' (by omega) (by omega)) (Rn.s rfl (Yv.ld (hy'.ld 0 (by omega) (by omega))) (Rn.s rfl (Yv.scm _ rfl) (Rn.nil)))))))))) ?_)
    refine Wp.cond rfl (fun h3 => ?_) (fun h3 => ?_)
    · refine Wp.seq (Wp.reads (is := [0]) (Keep.refl _) (Rn.s rfl Yv.as (Rn.nil)) ?_)
      have hne : xs ≠ ys := by rintro rfl; simp at h3
      exact Wp.ret (Fin.ret (Res.one rfl rfl) ⟨by rw [decide_eq_false hne], hk.trans (Keep.drew _)⟩)
    · have h3 : nth xs (i : Int) = nth ys (i : Int) := by simpa using h3
      refine Wp.skip (Wp.reads (is := [0, 1, 2]) (Keep.refl _) (Rn.s rfl Yv.mv (Rn.s rfl (Yv.add (by unfold inI; omega)) (Rn.s rfl Yv.as (Rn.nil)))) ?_)
      refine ⟨i + 1, ⟨rfl, hk.trans (Keep.drew _), by omega, fun j hj => ?_, rfl, rfl, rfl, trivial⟩, by omega⟩
      by_cases hji : j = i
      · subst hji; exact h3
      · exact hall j (by omega)
  · have h2 := of_decide_eq_false h2
    refine Wp.exit ?_
    refine Wp.seq (Wp.reads (is := [0]) (Keep.refl _) (Rn.s rfl Yv.as (Rn.nil)) ?_)
    have he : xs = ys := take_ext hle fun j hj => hall j (by omega)
    exact Wp.ret (Fin.ret (Res.one rfl rfl) ⟨by rw [decide_eq_true he], hk⟩)
abbrev spS : Bs := [115, 112, 111, 105, 108, 116]
theorem fitT {n : Nat} (h : n ≤ 8796093022208) : Fits Tryd.prog 9 n := .inr ⟨8796093022208, by kernel_rfl, h⟩
theorem copyT_cx (A : Option Addr) (c : Nat) (t : List Bs) (w : World) (hr : Rd StE w A t) (hc : A = none → c = 0) (hl : t.length ≤ 8796093022200) : Cx Tryd.prog 58 [.slice A t.length c] [] (fun v D => ∃ B d, v = .slice B t.length d ∧ D = [Ch.row StE 9 B d t]) w := by
  refine calls_of_Wp (vs := [_]) Tryd.func58 ?_
  refine Wp.seq (Wp.reads (is := [0]) (Keep.refl _) (Rn.s rfl Yv.as (Rn.nil)) ?_)
  refine Wp.seq (Wp.regionL (l := [0, 1, 2, 3]) (WO.act (hc := rfl) (he := Ef.bsl (T := 9) StE ([] : List Bs) (St.init w) (fun b w1 k1 hs1 => WO.rd (is := [1]) (js := [2, 3]) (Keep.refl _) (Rn.s rfl Yv.mv (Rn.nil)) (WO.act (he := Ef.append hs1 0 (hr.keep k1) hc (fitT (by simp only [List.length_nil]; omega)) (fun A' c' w' hs' => WO.rd (is := [3]) (js := []) (Keep.refl _) (Rn.s rfl Yv.as (Rn.nil)) (WO.done ?_))))))))
  exact Wp.ret (Fin.ret (Res.one rfl rfl) ⟨_, _, rfl, ⟨A', c', rfl, rfl⟩, hs'⟩)
theorem lendT_cx (A : Option Addr) (c : Nat) (t : List Bs) (w : World) (hr : Rd StE w A t) (hc : A = none → c = 0) (hl : t.length ≤ 8796093022200) : Cx Tryd.prog 35 [.slice A t.length c] [] (fun v D => ∃ B d, v = .slice B t.length d ∧ D = [Ch.row StE 9 B d (t ++ [spS, spS])]) w := by
  refine calls_of_Wp (vs := [_]) Tryd.func35 ?_
  refine Wp.seq (Wp.reads (is := [0]) (Keep.refl _) (Rn.s rfl Yv.as (Rn.nil)) ?_)
  refine Wp.seq (Wp.regionL (l := [0, 1, 2, 3, 4]) (WO.rd (is := [0]) (js := [1, 2, 3, 4]) (Keep.refl _) (Rn.s rfl Yv.mv (Rn.nil)) (WO.act (hc := rfl) (he := Ef.cx (copyT_cx A c t w hr hc hl) (St.init w) (FnOk.of Tryd.func58) ?_))))
  rintro v D w1 ⟨B, d, rfl, rfl⟩ hs1
  have hs1 : St w [] w1 [Ch.row StE 9 B d t] := hs1
  refine WO.app StE [spS, spS] rfl (fun _ => rfl) hs1 0 (fitT (by simp only [List.length_cons, List.length_nil]; omega)) (fun b A' c' w' hs' => WO.rd (is := [4]) (js := []) (Keep.refl _) (Rn.s rfl Yv.as (Rn.nil)) (WO.done ?_))
  have hs' : St w [] w' [Ch.row StE 9 A' c' (t ++ [spS, spS])] := hs'
  have hcap := hs'.cap 0
  simp only [List.length_append, List.length_cons, List.length_nil] at hcap
  refine Wp.seq (Wp.reads (is := [0, 1, 2, 3, 4]) (Keep.refl _) (Rn.s rfl Yv.mv (Rn.s rfl Yv.mv (Rn.s rfl (Yv.len_v (e := 9) (m := 1)) (Rn.s rfl (Yv.sl_t (n := 1) (e := 9) (by omega) (by omega)) (Rn.s rfl Yv.as (Rn.nil)))))) ?_)
  exact Wp.ret (Fin.ret (Res.one rfl rfl) ⟨_, _, rfl, ⟨A', c', by simp, rfl⟩, hs'⟩)
theorem keptT_calls {M : List Nat} (B : Option Addr) (d : Nat) (A : Option Addr) (c : Nat) (t : List Bs) (w : World) (hr : Rd StE w A t) (hst : St w M w [Ch.row StE 9 B d (t ++ [spS, spS])]) (hl : t.length ≤ 8796093022200) :
    Calls Tryd.prog 37 #[.slice B t.length d, .slice A t.length c] w fun e w' => e = .returned (.bool true) ∧ St w M w' [] := by
  have hcap := hst.cap 0
  simp only [List.length_append, List.length_cons, List.length_nil] at hcap
  have hrB := hst.rd 0
  have hrt := rd_pre hrB
  refine calls_of_Wp (vs := [_, _]) Tryd.func37 ?_
  refine Wp.seq (Wp.reads (is := [0]) (Keep.refl _) (Rn.s rfl Yv.as (Rn.nil)) ?_)
  refine Wp.seq (Wp.reads (is := [0, 1, 2, 3, 4, 5]) (Keep.refl _) (Rn.s rfl Yv.mv (Rn.s rfl Yv.mv (Rn.s rfl (Yv.len_v (e := 9) (m := 1)) (Rn.s rfl (Yv.add (by unfold inI; omega)) (Rn.s rfl (Yv.sl_t (n := 1) (e := 9) (by omega) (by omega)) (Rn.s rfl Yv.as (Rn.nil))))))) ?_)
  have e1 : ((t.length : Int) + 2).toNat = (t ++ [spS, spS]).length := by simp only [List.length_append, List.length_cons, List.length_nil]; omega
  rw [e1]
  have hs1 := sameT_cv B d t A c t w hrt hr (by omega)
  rw [decide_eq_true rfl] at hs1
  have hcut : Rd StE w (cutA B d t.length StE.n) [spS, spS] := by
    have := hrB.cut (l := t.length) (h := (t ++ [spS, spS]).length) (c := d) (by simp only [List.length_append, List.length_cons, List.length_nil]; omega) (Nat.le_refl _)
    rw [List.take_of_length_le (Nat.le_refl _), List.drop_left] at this
    exact this
  have hs2 : ∀ (b : Nat) {W : World}, Keep w W → Rd StE W (some ⟨b, 0, none⟩) [spS, spS] → Cv Tryd.prog 60 [.slice (cutA B d (t.length : Int).toNat 1) ((t ++ [spS, spS]).length - (t.length : Int).toNat) (d - (t.length : Int).toNat), .slice (some ⟨b, 0, none⟩) 2 2] (.bool true) W := by
    intro b W kW h
    have := sameT_cv (cutA B d t.length StE.n) (d - t.length) [spS, spS] (some ⟨b, 0, none⟩) 2 [spS, spS] W (hcut.keep kW) h (by simp)
    rw [decide_eq_true rfl] at this
    have e2 : (t ++ [spS, spS]).length - (t.length : Int).toNat = 2 := by rw [Int.toNat_natCast]; simp
    rw [e2]
    exact this
  refine Wp.seq (Wp.regionL (l := [0, 1, 2, 3, 4, 5, 6, 7, 8, 9, 10, 11]) (WO.rd (is := [0, 1]) (js := [2, 3, 4, 5, 6, 7, 8, 9, 10, 11]) (Keep.refl _) (Rn.s rfl Yv.mv (Rn.s rfl Yv.mv (Rn.nil))) (WO.cv rfl hs1 (Keep.refl _) (FnOk.of Tryd.func60) (fun wx1 kx1 => WO.rd (is := [3]) (js := [4, 5, 6, 7, 8, 9, 10, 11]) ((Keep.refl _).trans kx1) (Rn.s rfl Yv.mv (Rn.nil)) (WO.and (js := [11]) 16 23 (hg := rfl) (ht := fun h3 qx2 => WO.rd (is := [4, 5, 6, 7]) (js := [8, 9, 10, 11]) ((Keep.refl _).trans kx1) (Rn.s rfl Yv.mv (Rn.s rfl Yv.mv (Rn.s rfl (Yv.len_v (e := 9) (m := 1)) (Rn.s rfl (Yv.sl_f (n := 1) (e := 9) (by omega) (by simp only [List.length_append, List.length_cons, List.length_nil]; omega)) (Rn.nil))))) (WO.act (hc := rfl) (he := Ef.bsl (T := 9) StE [spS, spS] (hst.quiet kx1) (fun bx3 wx3 kx3 hsx3 => WO.cv rfl (hs2 bx3 (kx1.trans kx3) (hsx3.rd 0)) (Keep.refl _) (FnOk.of Tryd.func60) (fun wx4 kx4 => WO.rd (is := [10]) (js := [11]) ((((Keep.refl _).trans kx1).trans kx3).trans kx4) (Rn.s rfl Yv.pick_t (Rn.nil)) (WO.e 7 (qx2 _ (((Keep.refl _).trans kx3).trans kx4)))))))) (hf := fun _ qx2 => WO.rd (is := [4, 5, 6, 7, 8, 9, 10]) (js := [11]) ((Keep.refl _).trans kx1) (Rn.no rfl (Rn.no rfl (Rn.no rfl (Rn.no rfl (Rn.no rfl (Rn.no rfl (Rn.s rfl Yv.pick_f Rn.nil))))))) (WO.e 7 (qx2 _ (Keep.refl _)))) (k := fun wx2 kx2 => WO.rd (is := [11]) (js := []) (((Keep.refl _).trans kx1).trans kx2) (Rn.s rfl Yv.as (Rn.nil)) (WO.done ?_)))))))
  have hst := hst.quiet (kx1.trans kx2)
  refine Wp.seq (Wp.seq (Wp.reads (is := [0]) (Keep.refl _) (Rn.s rfl Yv.as (Rn.nil)) ?_))
  refine Wp.block ?_
  obtain ⟨m, hm⟩ : ∃ m, m = (t ++ [spS, spS]).length := ⟨_, rfl⟩
  rw [← hm]
  have hml : m ≤ 8796093022202 := by rw [hm]; simp only [List.length_append, List.length_cons, List.length_nil]; omega
  refine Wp.loop (α := Nat) (fun i ρ ds w' => ds = [] ∧ i ≤ m ∧ (∃ xs : List Bs, xs.length = m ∧ St w M w' [Ch.row StE 9 B d xs]) ∧ Sub [(5, .slice B m d), (6, .bool true), (7, .int .i64 (i : Int))] ρ) (fun i => m - i) 0
    ⟨rfl, Nat.zero_le _, ⟨_, hm.symm, hst⟩, rfl, rfl, rfl, trivial⟩ ?_
  clear hst
  rintro i ρ ds w' ⟨rfl, hi, ⟨xs, hxl, hst⟩, hs⟩
  refine Wp.forget _ ?_ hs
  refine Wp.seq (Wp.seq (Wp.reads (is := [0, 1, 2, 3]) (Keep.refl _) (Rn.s rfl Yv.mv (Rn.s rfl Yv.mv (Rn.s rfl (Yv.len_v (e := 9) (m := 1)) (Rn.s rfl (Yv.cmp _ rfl) (Rn.nil))))) ?_))
  refine Wp.cond rfl (fun h => ?_) (fun h => ?_)
  · have h := of_decide_eq_true h
    have hrx := hst.rd 0
    subst hxl
    refine Wp.skip (Wp.seq (Wp.block ?_))
    refine Wp.regionL (l := [0, 1, 2, 3]) (WO.rd (is := [0, 1, 2]) (js := [3]) (Keep.refl _) (Rn.s rfl Yv.mv (Rn.s rfl Yv.mv (Rn.s rfl (Yv.ia (e := 9) hrx (by omega) (by omega)) (Rn.nil)))) (WO.act (hc := rfl) (he := Ef.setFld (E := StE) (xs := xs) (f := 0) hst 0 spS rfl rfl (by omega) (by omega) (fun wy1 hsy1 => WO.done ?_))))
    refine Wp.reads (is := [0, 1, 2]) (Keep.refl _) (Rn.s rfl Yv.mv (Rn.s rfl (Yv.add (by unfold inI; omega)) (Rn.s rfl Yv.as (Rn.nil)))) ?_
    exact ⟨i + 1, ⟨rfl, by omega, ⟨_, by simp, hsy1⟩, rfl, rfl, rfl, trivial⟩, by omega⟩
  · refine Wp.exit ?_
    refine Wp.seq (Wp.reads (is := [0, 1]) (Keep.refl _) (Rn.s rfl Yv.mv (Rn.s rfl Yv.as (Rn.nil))) ?_)
    exact Wp.ret (Fin.ret (Res.one rfl rfl) ⟨rfl, hst.sub (List.nil_sublist _)⟩)

end Go.Proofs.YtbmplmehofgocaaDoor.C
