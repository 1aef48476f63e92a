/- MergeEmpty is walked: its answer is true. -/
import Derived.Test.YtbmplmehofgocaaDoorRe
set_option linter.unusedVariables false
set_option linter.unusedSimpArgs false
set_option maxRecDepth 10000
namespace Go.Proofs.YtbmplmehofgocaaDoor.C
open Go.RowKit Go.Proofs.YtbmplmehofgocaaDoor.Sh
open RF
/-! ### 1. laid over nothing, and over itself -/
theorem app_nil : ∀ F : RF, F.app .nil = F
  | .nil => rfl
  | .cons n k r => by rw [RF.app, app_nil r]
theorem app_assoc : ∀ F G H : RF, (F.app G).app H = F.app (G.app H)
  | .nil, G, H => rfl
  | .cons n k r, G, H => by simp [RF.app, app_assoc r G H]
theorem layA_nil : ∀ A : RF, A.layA .nil = A
  | .nil => rfl
  | .cons n k r => by rw [RF.layA]; simp [RF.findR, layA_nil r]
theorem rest_none : ∀ B : RF, B.rest [] = B
  | .nil => rfl
  | .cons n k r => by rw [RF.rest, if_neg (by simp), rest_none r]
theorem rest_all (ks : List Bs) : ∀ B : RF, (∀ key ∈ B.keysL, key ∈ ks) → B.rest ks = .nil
  | .nil, _ => rfl
  | .cons n k r, h => by rw [RF.rest, if_pos (h _ (List.mem_cons_self ..)), rest_all ks r fun key hk => h key (List.mem_cons_of_mem _ hk)]
theorem findR_pre : ∀ (pre : RF) (n : Nd) (k r : RF), uniqF (pre.app (.cons n k r)) → (pre.app (.cons n k r)).findR n.key = some (n, k)
  | .nil, n, k, r, _ => by simp [RF.app, RF.findR]
  | .cons m km p, n, k, r, ⟨h1, h2⟩ => by
    rw [RF.app, RF.findR, if_neg]
    · exact findR_pre p n k r h2
    · intro e
      apply h1
      rw [keysL_app, e]
      simp [RF.keysL]
theorem layA_self : ∀ (F pre : RF), uniqF (pre.app F) → F.GN 1 → F.layA (pre.app F) = F
  | .nil, pre, _, _ => rfl
  | .cons n k r, pre, hu, ⟨a1, a2, a3, a4, a5, a6⟩ => by
    have ih := layA_self r (pre.app (.cons n k .nil)) (by rw [app_assoc]; exact hu) a6
    have e : (pre.app (.cons n k .nil)).app r = pre.app (.cons n k r) := by rw [app_assoc]; rfl
    rw [e] at ih
    rw [RF.layA, findR_pre pre n k r hu]
    simp only [ih]
    split
    · rename_i hk
      rw [hk.1] at a5
      have := layA_self k .nil (gn_uniq (by decide) k a5) a5
      have e2 : (RF.nil).app k = k := rfl
      rw [e2] at this
      rw [this, rest_all k.keysL k (fun _ h => h), app_nil]
    · rfl
theorem layK_self {A : RF} (h : A.GN 1) : A.layK A = A := by
  have := layA_self A .nil (gn_uniq (by decide) A h) h
  have e2 : (RF.nil).app A = A := rfl
  rw [e2] at this
  unfold RF.layK
  rw [this, rest_all A.keysL A (fun _ h => h), app_nil]
abbrev ak (n : Nd) : Int × Int × Bs × Bs := (n.kind, n.depth, n.key, n.text)
theorem ndR_is : isS [ndR] = true := by decide +kernel
theorem empty_law {t : List Nd} (h : isS t = true) : mergeS [t] = (t, 0) ∧ (∃ b, mergeS [t, [ndR]] = (b, 0) ∧ b.map ak = t.map ak) ∧ mergeS [[ndR], t] = (t, 0) ∧ mergeS [t, t] = (t, 0) := by
  obtain ⟨a, F, rfl, f1, f2, f3, f4, f5, f6⟩ := is_tree h
  have e0 : ([ndR] : List Nd) = ndR :: (RF.nil).flat := rfl
  have l1 := layS_flat (na := a) (nb := ndR) (A := F) (B := .nil) (by rw [f5]; exact f1) trivial f2 trivial f4 rfl
  have l2 := layS_flat (na := ndR) (nb := a) (A := .nil) (B := F) trivial (by rw [f5]; exact f1) trivial f2 rfl f4
  have l3 := layS_flat (na := a) (nb := a) (A := F) (B := F) (by rw [f5]; exact f1) (by rw [f5]; exact f1) f2 f2 f4 f4
  rw [← e0] at l1 l2
  have k1 : F.layK .nil = F := by unfold RF.layK; rw [layA_nil]; exact app_nil F
  have k2 : (RF.nil).layK F = F := by
    unfold RF.layK
    have : (RF.nil).layA F = .nil := rfl
    rw [this]
    have : (RF.nil).keysL = [] := rfl
    rw [this, rest_none]; rfl
  rw [k1] at l1
  rw [k2] at l2
  rw [layK_self f2] at l3
  have hl : ¬ (16384 : Int) < ((a :: F.flat : List Nd).length : Int) := by omega
  have hl2 : ¬ (16384 : Int) < ((ndR :: F.flat : List Nd).length : Int) := by simp only [List.length_cons] at hl ⊢; exact hl
  have m2 : ∀ x y : List Nd, isS x = true → isS y = true → ¬ (16384 : Int) < ((layS x y).length : Int) → mergeS [x, y] = (layS x y, 0) := by
    intro x y hx hy hxy
    unfold mergeS
    rw [if_pos (by simp [hx, hy])]
    simp only
    rw [foldS, if_neg hxy, foldS]
  refine ⟨?_, ⟨ndR :: F.flat, ?_, ?_⟩, ?_, ?_⟩
  · unfold mergeS
    rw [if_pos (by simp [h])]
    rfl
  · rw [m2 _ _ h ndR_is (by rw [l1]; exact hl2), l1]
  · have hr := f3
    unfold rootOk at hr
    simp at hr
    simp [ak, hr.1.1.1, hr.1.1.2, hr.1.2, hr.2]
  · rw [m2 _ _ ndR_is h (by rw [l2]; exact hl), l2]
  · rw [m2 _ _ h h (by rw [l3]; exact hl), l3]
/-! ### 2. the walk -/
theorem alike_cv (A : Option Addr) (c : Nat) (xs : List Nd) (B : Option Addr) (d : Nat) (ys : List Nd) (w0 : World) (hx : Rd NdE w0 A xs) (hy : Rd NdE w0 B ys) (hl : xs.length < 4000000000000000000) :
    Cv Tryd.prog 31 [.slice A xs.length c, .slice B ys.length d] (.bool (decide (xs.map ak = ys.map ak))) w0 := by
  intro w hk
  have hx := hx.keep hk
  have hy := hy.keep hk
  refine calls_of_Wp (vs := [_, _]) Tryd.func31 ?_
  refine Wp.seq (Wp.reads (is := [0]) (Keep.refl _) (Rn.s rfl Yv.as (Rn.nil)) ?_)
  refine Wp.seq (Wp.seq (Wp.reads (is := [0, 1, 2, 3, 4]) (Keep.refl _) (Rn.s rfl Yv.mv (Rn.s rfl (Yv.len_v (e := 32) (m := 8)) (Rn.s rfl Yv.mv (Rn.s rfl (Yv.len_v (e := 32) (m := 8)) (Rn.s rfl (Yv.cmp _ rfl) (Rn.nil)))))) ?_))
  refine Wp.cond rfl (fun h => ?_) (fun h => ?_)
  · refine Wp.seq (Wp.reads (is := [0]) (Keep.refl _) (Rn.s rfl Yv.as (Rn.nil)) ?_)
    have hne : xs.map ak ≠ ys.map ak := by
      intro e
      have := congrArg List.length e
      simp only [List.length_map] at this
      simp [this] at h
    exact Wp.ret (Fin.ret (Res.one rfl rfl) ⟨by rw [decide_eq_false hne], Keep.refl _⟩)
  have hle : xs.length = ys.length := by
    have : (xs.length : Int) = ys.length := by simpa using h
    omega
  refine Wp.skip (Wp.seq (Wp.seq (Wp.reads (is := [0]) (Keep.refl _) (Rn.s rfl Yv.as (Rn.nil)) ?_)))
  refine Wp.block ?_
  refine Wp.loop (α := Nat) (fun i ρ ds w' => ds = [] ∧ Keep w w' ∧ i ≤ xs.length ∧ (∀ j : Nat, j < i → ak (nth xs (j : Int)) = ak (nth ys (j : Int))) ∧ Sub [(0, .slice A xs.length c), (1, .slice B ys.length d), (5, .int .i64 (i : Int))] ρ) (fun i => xs.length - i) 0
    ⟨rfl, Keep.refl _, Nat.zero_le _, fun j hj => absurd hj (Nat.not_lt_zero j), rfl, rfl, rfl, trivial⟩ ?_
  rintro i ρ ds w' ⟨rfl, hk, hi, hall, hs⟩
  refine Wp.forget _ ?_ hs
  have hx' := hx.keep hk
  have hy' := hy.keep hk
  refine Wp.seq (Wp.seq (Wp.reads (is := [0, 1, 2, 3]) (Keep.refl _) (Rn.s rfl Yv.mv (Rn.s rfl Yv.mv (Rn.s rfl (Yv.len_v (e := 32) (m := 8)) (Rn.s rfl (Yv.cmp _ rfl) (Rn.nil))))) ?_))
  refine Wp.cond rfl (fun h2 => ?_) (fun h2 => ?_)
  · have h2 := of_decide_eq_true h2
    have hil : i < xs.length := by omega
    have gx : nth xs (i : Int) = xs[i] := nth_of (List.getElem?_eq_getElem hil)
    have gy : nth ys (i : Int) = ys[i] := nth_of (List.getElem?_eq_getElem (by omega))
    refine Wp.skip (Wp.seq (Wp.block ?_))
    refine Wp.seq (Wp.readsD (is := [0, 1, 2, 3, 4, 5, 6, 7, 8, 9, 10, 11, 12, 13, 14, 15, 16, 17, 18, 19, 20, 21, 22, 23, 24, 25, 26, 27, 28, 29, 30, 31, 32, 33, 34, 35, 36, 37, 38, 39, 40, 41, 42, 43, 44, 45, 46, 47, 48, 49]) mixed (fun _ _ _ _ _ h => h) (Keep.refl _) (Rn.s rfl Yv.mv (Rn.s rfl Yv.mv (Rn.s rfl (Yv.ia (e := 32) hx' (by omega) (by omega)) (Rn.s rfl (Yv.fa (off := 0)) (Rn.s rfl (Yv.ld (hx'.ld 0 (by omega) (by omega))) (Rn.s rfl Yv.mv (Rn.s rfl Yv.mv (Rn.s rfl (Yv.ia (e := 32) hy' (by omega) (by omega)) (Rn.s rfl (Yv.fa (off := 0)) (Rn.s rfl (Yv.ld (hy'.ld 0 (by omega) (by omega))) (Rn.s rfl (Yv.cmp _ rfl) (Rn.s rfl Yv.mv (Rn.or (is := [12, 13, 14, 15, 16, 17, 18, 19, 20, 21, 22, 23]) (js := [24, 25, 26, 27, 28, 29, 30, 31, 32, 33, 34, 35, 36, 37, 38, 39, 40, 41, 42, 43, 44, 45, 46, 47, 48, 49]) (t := 28) (d := 40) (hg := rfl) (hf := fun h11 => have h11 := bne_eq_false_iff_eq.1 h11; Rn.s rfl Yv.mv (Rn.s rfl Yv.mv (Rn.s rfl (Yv.ia (e := 32) hx' (by omega) (by omega)) (Rn.s rfl (Yv.fa (off := 1)) (Rn.s rfl (Yv.ld (hx'.ld 1 (by omega) (by omega))) (Rn.s rfl Yv.mv (Rn.s rfl Yv.mv (Rn.s rfl (Yv.ia (e := 32) hy' (by omega) (by omega)) (Rn.s rfl (Yv.fa (off := 1)) (Rn.s rfl (Yv.ld (hy'.ld 1 (by omega) (by omega))) (Rn.s rfl (Yv.cmp _ rfl) (Rn.s rfl Yv.pick_f ((Rn.e 12 rfl rfl)))))))))))))) (ht := fun _ => Rn.no rfl (Rn.no rfl (Rn.no rfl (Rn.no rfl (Rn.no rfl (Rn.no rfl (Rn.no rfl (Rn.no rfl (Rn.no rfl (Rn.no rfl (Rn.no rfl (Rn.s rfl Yv.pick_t (Rn.e 12 rfl rfl))))))))))))) (k := Rn.s rfl Yv.mv (Rn.or (is := [25, 26, 27, 28, 29, 30, 31, 32, 33, 34, 35, 36]) (js := [37, 38, 39, 40, 41, 42, 43, 44, 45, 46, 47, 48, 49]) (t := 41) (d := 53) (hg := rfl) (hf := fun h24 => Rn.s rfl Yv.mv (Rn.s rfl Yv.mv (Rn.s rfl (Yv.ia (e := 32) hx' (by omega) (by omega)) (Rn.s rfl (Yv.fa (off := 2)) (Rn.s rfl (Yv.ld (hx'.ld 2 (by omega) (by omega))) (Rn.s rfl Yv.mv (Rn.s rfl Yv.mv (Rn.s rfl (Yv.ia (e := 32) hy' (by omega) (by omega)) (Rn.s rfl (Yv.fa (off := 2)) (Rn.s rfl (Yv.ld (hy'.ld 2 (by omega) (by omega))) (Rn.s rfl (Yv.scm _ rfl) (Rn.s rfl Yv.pick_f ((Rn.e 12 rfl rfl)))))))))))))) (ht := fun _ => Rn.no rfl (Rn.no rfl (Rn.no rfl (Rn.no rfl (Rn.no rfl (Rn.no rfl (Rn.no rfl (Rn.no rfl (Rn.no rfl (Rn.no rfl (Rn.no rfl (Rn.s rfl Yv.pick_t (Rn.e 12 rfl rfl))))))))))))) (k := Rn.s rfl Yv.mv (Rn.or (is := [38, 39, 40, 41, 42, 43, 44, 45, 46, 47, 48, 49]) (js := []) (t := 54) (d := 66) (hg := rfl) (hf := fun h37 => Rn.s rfl Yv.mv (Rn.s rfl Yv.mv (Rn.s rfl (Yv.ia (e := 32) hx' (by omega) (by omega)) (Rn.s rfl (Yv.fa (off := 3)) (Rn.s rfl (Yv.ld (hx'.ld 3 (by omega) (by omega))) (Rn.s rfl Yv.mv (Rn.s rfl Yv.mv (Rn.s rfl (Yv.ia (e := 32) hy' (by omega) (by omega)) (Rn.s rfl (Yv.fa (off := 3)) (Rn.s rfl (Yv.ld (hy'.ld 3 (by omega) (by omega))) (Rn.s rfl (Yv.scm _ rfl) (Rn.s rfl Yv.pick_f ((Rn.e 12 rfl rfl)))))))))))))) (ht := fun _ => Rn.no rfl (Rn.no rfl (Rn.no rfl (Rn.no rfl (Rn.no rfl (Rn.no rfl (Rn.no rfl (Rn.no rfl (Rn.no rfl (Rn.no rfl (Rn.no rfl (Rn.s rfl Yv.pick_t (Rn.e 12 rfl rfl))))))))))))) (k := Rn.nil)))))))))))))))))) ?_)
    refine Wp.cond rfl (fun h3 => ?_) (fun h3 => ?_)
    · refine Wp.seq (Wp.reads (is := [0]) (Keep.refl _) (Rn.s rfl Yv.as (Rn.nil)) ?_)
      have hne : xs.map ak ≠ ys.map ak := by
        intro e
        have e1 := congrArg (fun l => l[i]?) e
        simp only [List.getElem?_map, List.getElem?_eq_getElem hil, List.getElem?_eq_getElem (show i < ys.length by omega), Option.map_some, Option.some.injEq, Prod.mk.injEq, ak] at e1
        rw [← gx, ← gy] at e1
        simp [e1.1, e1.2.1, e1.2.2.1, e1.2.2.2] at h3
      exact Wp.ret (Fin.ret (Res.one rfl rfl) ⟨by rw [decide_eq_false hne], hk.trans (Keep.drew _)⟩)
    · simp only [Bool.or_eq_false_iff, bne_eq_false_iff_eq] at h3
      refine Wp.skip (Wp.reads (is := [0, 1, 2]) (Keep.refl _) (Rn.s rfl Yv.mv (Rn.s rfl (Yv.add (by unfold inI; omega)) (Rn.s rfl Yv.as (Rn.nil)))) ?_)
      refine ⟨i + 1, ⟨rfl, hk.trans (Keep.drew _), by omega, fun j hj => ?_, rfl, rfl, rfl, trivial⟩, by omega⟩
      by_cases hji : j = i
      · subst hji
        simp only [ak, h3.1.1.1, h3.1.1.2, h3.1.2, h3.2]
      · exact hall j (by omega)
  · have h2 := of_decide_eq_false h2
    refine Wp.exit ?_
    refine Wp.seq (Wp.reads (is := [0]) (Keep.refl _) (Rn.s rfl Yv.as (Rn.nil)) ?_)
    have he : xs.map ak = ys.map ak := by
      refine List.ext_getElem (by simp [hle]) fun j h1 h4 => ?_
      simp only [List.length_map] at h1 h4
      have := hall j (by omega)
      rw [nth_of (List.getElem?_eq_getElem h1), nth_of (List.getElem?_eq_getElem h4)] at this
      simpa using this
    exact Wp.ret (Fin.ret (Res.one rfl rfl) ⟨by rw [decide_eq_true he], hk⟩)
/-- two trees are copied and laid over one another -/
theorem empty_calls (A : Option Addr) (c : Nat) (t : List Nd) (w : World) (hg : Gm w) (hr : Rd NdE w A t) (hc : A = none → c = 0) (hl : t.length ≤ 1599289640380) :
    Calls Tryd.prog 5 #[.slice A t.length c] w fun e w' => e = .returned (.bool true) ∧ Keep w w' := by
  refine calls_of_Wp (vs := [_]) Tryd.func5 ?_
  refine Wp.seq (Wp.reads (is := [0]) (Keep.refl _) (Rn.s rfl Yv.as (Rn.nil)) ?_)
  refine Wp.seq (Wp.seq (Wp.regionL (l := [0, 1, 2, 3]) (WO.rd (is := [0]) (js := [1, 2, 3]) (Keep.refl _) (Rn.s rfl Yv.mv (Rn.nil)) (WO.act (hc := rfl) (he := Ef.cx (copyL_cx A c t w hr hc (by omega)) (St.init w) (FnOk.of Tryd.func21) ?_)))))
  rintro v D w1 ⟨B1, d1, rfl, rfl⟩ hs1
  have hst : St w [] w1 [Ch.row NdE 32 B1 d1 t] := hs1
  refine WO.cv rfl (is_cv B1 d1 t w1 (hst.rd 0)) (Keep.refl _) (FnOk.of Tryd.func30) (fun w2 k2 => ?_)
  have hst := hst.quiet k2
  cases hIs : isS t with
  | false =>
    refine WO.rd (is := [3]) (js := []) (Keep.refl _) (Rn.s rfl Yv.not (Rn.nil)) (WO.done ?_)
    refine Wp.cond_t rfl ?_
    refine Wp.seq (Wp.regionL (l := [0, 1]) (WO.cv rfl (awake8_cv w2 (hg.keep hst.keep)) (Keep.refl _) (FnOk.of Tryd.func24) (fun wx1 kx1 => WO.rd (is := [1]) (js := []) ((Keep.refl _).trans kx1) (Rn.s rfl Yv.as (Rn.nil)) (WO.done ?_))))
    exact Wp.ret (Fin.ret (Res.one rfl rfl) ⟨rfl, hst.keep.trans (by assumption)⟩)
  | true =>
    obtain ⟨q1, ⟨b, q2, q2'⟩, q3, q4⟩ := empty_law hIs
    have h16 := (isS_depth hIs).2.1
    have hbl : b.length = t.length := by
      have := congrArg List.length q2'
      simpa using this
    refine WO.rd (is := [3]) (js := []) (Keep.refl _) (Rn.s rfl Yv.not (Rn.nil)) (WO.done ?_)
    refine Wp.cond_f rfl (Wp.skip ?_)
    refine Wp.seq (Wp.regionL (l := [0, 1, 2]) (WO.rd (is := [0]) (js := [1, 2]) (Keep.refl _) (Rn.s rfl (Yv.bd (cs := ndR.cs)) (Rn.nil)) (WO.act (hc := rfl) (he := Ef.bsl (T := 32) NdE [ndR] hst (fun bn1 wn1 kn1 hsn1 => WO.rd (is := [2]) (js := []) ((Keep.refl _).trans kn1) (Rn.s rfl Yv.as (Rn.nil)) (WO.done ?_))))))
    have hst : St w [] wn1 [Ch.row NdE 32 (some ⟨bn1, 0, none⟩) 1 [ndR]] := hsn1.pick [0]
    -- the first
    refine Wp.seq (Wp.regionL (l := [0, 1, 2, 3, 4, 5, 6, 7, 8]) (WO.rd (is := [0]) (js := [1, 2, 3, 4, 5, 6, 7, 8]) (Keep.refl _) (Rn.s rfl Yv.mv (Rn.nil)) (WO.act (hc := rfl) (he := Ef.cx (copyL_cx A c t wn1 (hr.keep hst.keep) hc (by omega)) hst (FnOk.of Tryd.func21) ?_))))
    rintro v D w3 ⟨B3, d3, rfl, rfl⟩ hs3
    have hst : St w [] w3 [Ch.row NdE 32 B3 d3 t, Ch.row NdE 32 (some ⟨bn1, 0, none⟩) 1 [ndR]] := hs3
    refine WO.act (hc := rfl) (he := Ef.bsl (T := 22) TsE [(B3, d3, t)] hst (fun b4 w4 k4 hs4 => ?_))
    have hm := merge_cx (some ⟨b4, 0, none⟩) 1 [(B3, d3, t)] w4 (hs4.rd 0) (by simp) (by simp) (by
      intro x hx
      obtain rfl := List.mem_singleton.1 hx
      exact ⟨hs4.rd 1, hs4.cap 1⟩)
    have em : mergeS (([(B3, d3, t)] : List Tr).map ts1) = (t, 0) := q1
    rw [em] at hm
    refine WO.act (hc := rfl) (he := Ef.cx hm hs4 (FnOk.of Tryd.func19) ?_)
    rintro v D w5 ⟨A5, a5, rfl, rfl⟩ hs5
    refine WO.rd (is := [4, 5, 6, 7, 8]) (js := []) (Keep.refl _) (Rn.s rfl Yv.mv (Rn.s rfl Yv.ex (Rn.s rfl Yv.ex (Rn.s rfl Yv.as (Rn.s rfl Yv.as (Rn.nil)))))) (WO.done ?_)
    have hst : St w [] w5 [Ch.row NdE 32 A5 a5 t, Ch.row NdE 32 (some ⟨bn1, 0, none⟩) 1 [ndR]] := hs5.pick [0, 3]
    -- the second
    refine Wp.seq (Wp.regionL (l := [0, 1, 2, 3, 4, 5, 6, 7, 8, 9, 10]) (WO.rd (is := [0]) (js := [1, 2, 3, 4, 5, 6, 7, 8, 9, 10]) (Keep.refl _) (Rn.s rfl Yv.mv (Rn.nil)) (WO.act (hc := rfl) (he := Ef.cx (copyL_cx A c t w5 (hr.keep hst.keep) hc (by omega)) hst (FnOk.of Tryd.func21) ?_))))
    rintro v D w6 ⟨B6, d6, rfl, rfl⟩ hs6
    have hst : St w [] w6 [Ch.row NdE 32 B6 d6 t, Ch.row NdE 32 A5 a5 t, Ch.row NdE 32 (some ⟨bn1, 0, none⟩) 1 [ndR]] := hs6
    refine WO.rd (is := [2]) (js := [3, 4, 5, 6, 7, 8, 9, 10]) (Keep.refl _) (Rn.s rfl Yv.mv (Rn.nil)) (WO.act (hc := rfl) (he := Ef.cx (copyL_cx (some ⟨bn1, 0, none⟩) 1 [ndR] w6 (hst.rd 2) (fun h => by cases h) (by simp)) hst (FnOk.of Tryd.func21) ?_))
    rintro v D w7 ⟨B7, d7, rfl, rfl⟩ hs7
    refine WO.act (hc := rfl) (he := Ef.bsl (T := 22) TsE [(B6, d6, t), (B7, d7, [ndR])] hs7 (fun b8 w8 k8 hs8 => ?_))
    have hm := merge_cx (some ⟨b8, 0, none⟩) 2 [(B6, d6, t), (B7, d7, [ndR])] w8 (hs8.rd 0) (by simp) (by simp) (by
      intro x hx
      simp only [List.mem_cons, List.not_mem_nil, or_false] at hx
      rcases hx with rfl | rfl
      · exact ⟨hs8.rd 2, hs8.cap 2⟩
      · exact ⟨hs8.rd 1, hs8.cap 1⟩)
    have em : mergeS (([(B6, d6, t), (B7, d7, [ndR])] : List Tr).map ts1) = (b, 0) := q2
    rw [em] at hm
    refine WO.act (hc := rfl) (he := Ef.cx hm hs8 (FnOk.of Tryd.func19) ?_)
    rintro v D w9 ⟨A9, a9, rfl, rfl⟩ hs9
    refine WO.rd (is := [6, 7, 8, 9, 10]) (js := []) (Keep.refl _) (Rn.s rfl Yv.mv (Rn.s rfl Yv.ex (Rn.s rfl Yv.ex (Rn.s rfl Yv.as (Rn.s rfl Yv.as (Rn.nil)))))) (WO.done ?_)
    have hst : St w [] w9 [Ch.row NdE 32 A9 a9 b, Ch.row NdE 32 A5 a5 t, Ch.row NdE 32 (some ⟨bn1, 0, none⟩) 1 [ndR]] := hs9.pick [0, 4, 5]
    -- the third
    refine Wp.seq (Wp.regionL (l := [0, 1, 2, 3, 4, 5, 6, 7, 8, 9, 10]) (WO.rd (is := [0]) (js := [1, 2, 3, 4, 5, 6, 7, 8, 9, 10]) (Keep.refl _) (Rn.s rfl Yv.mv (Rn.nil)) (WO.act (hc := rfl) (he := Ef.cx (copyL_cx (some ⟨bn1, 0, none⟩) 1 [ndR] w9 (hst.rd 2) (fun h => by cases h) (by simp)) hst (FnOk.of Tryd.func21) ?_))))
    rintro v D w10 ⟨B10, d10, rfl, rfl⟩ hs10
    refine WO.rd (is := [2]) (js := [3, 4, 5, 6, 7, 8, 9, 10]) (Keep.refl _) (Rn.s rfl Yv.mv (Rn.nil)) (WO.act (hc := rfl) (he := Ef.cx (copyL_cx A c t w10 (hr.keep hs10.keep) hc (by omega)) hs10 (FnOk.of Tryd.func21) ?_))
    rintro v D w11 ⟨B11, d11, rfl, rfl⟩ hs11
    refine WO.act (hc := rfl) (he := Ef.bsl (T := 22) TsE [(B10, d10, [ndR]), (B11, d11, t)] hs11 (fun b12 w12 k12 hs12 => ?_))
    have hm := merge_cx (some ⟨b12, 0, none⟩) 2 [(B10, d10, [ndR]), (B11, d11, t)] w12 (hs12.rd 0) (by simp) (by simp) (by
      intro x hx
      simp only [List.mem_cons, List.not_mem_nil, or_false] at hx
      rcases hx with rfl | rfl
      · exact ⟨hs12.rd 2, hs12.cap 2⟩
      · exact ⟨hs12.rd 1, hs12.cap 1⟩)
    have em : mergeS (([(B10, d10, [ndR]), (B11, d11, t)] : List Tr).map ts1) = (t, 0) := q3
    rw [em] at hm
    refine WO.act (hc := rfl) (he := Ef.cx hm hs12 (FnOk.of Tryd.func19) ?_)
    rintro v D w13 ⟨A13, a13, rfl, rfl⟩ hs13
    refine WO.rd (is := [6, 7, 8, 9, 10]) (js := []) (Keep.refl _) (Rn.s rfl Yv.mv (Rn.s rfl Yv.ex (Rn.s rfl Yv.ex (Rn.s rfl Yv.as (Rn.s rfl Yv.as (Rn.nil)))))) (WO.done ?_)
    have hst : St w [] w13 [Ch.row NdE 32 A13 a13 t, Ch.row NdE 32 A9 a9 b, Ch.row NdE 32 A5 a5 t] := hs13.pick [0, 4, 5]
    -- the fourth
    refine Wp.seq (Wp.regionL (l := [0, 1, 2, 3, 4, 5, 6, 7, 8, 9, 10]) (WO.rd (is := [0]) (js := [1, 2, 3, 4, 5, 6, 7, 8, 9, 10]) (Keep.refl _) (Rn.s rfl Yv.mv (Rn.nil)) (WO.act (hc := rfl) (he := Ef.cx (copyL_cx A c t w13 (hr.keep hst.keep) hc (by omega)) hst (FnOk.of Tryd.func21) ?_))))
    rintro v D w14 ⟨B14, d14, rfl, rfl⟩ hs14
    refine WO.rd (is := [2]) (js := [3, 4, 5, 6, 7, 8, 9, 10]) (Keep.refl _) (Rn.s rfl Yv.mv (Rn.nil)) (WO.act (hc := rfl) (he := Ef.cx (copyL_cx A c t w14 (hr.keep hs14.keep) hc (by omega)) hs14 (FnOk.of Tryd.func21) ?_))
    rintro v D w15 ⟨B15, d15, rfl, rfl⟩ hs15
    refine WO.act (hc := rfl) (he := Ef.bsl (T := 22) TsE [(B14, d14, t), (B15, d15, t)] hs15 (fun b16 w16 k16 hs16 => ?_))
    have hm := merge_cx (some ⟨b16, 0, none⟩) 2 [(B14, d14, t), (B15, d15, t)] w16 (hs16.rd 0) (by simp) (by simp) (by
      intro x hx
      simp only [List.mem_cons, List.not_mem_nil, or_false] at hx
      rcases hx with rfl | rfl
      · exact ⟨hs16.rd 2, hs16.cap 2⟩
      · exact ⟨hs16.rd 1, hs16.cap 1⟩)
    have em : mergeS (([(B14, d14, t), (B15, d15, t)] : List Tr).map ts1) = (t, 0) := q4
    rw [em] at hm
    refine WO.act (hc := rfl) (he := Ef.cx hm hs16 (FnOk.of Tryd.func19) ?_)
    rintro v D w17 ⟨A17, a17, rfl, rfl⟩ hs17
    refine WO.rd (is := [6, 7, 8, 9, 10]) (js := []) (Keep.refl _) (Rn.s rfl Yv.mv (Rn.s rfl Yv.ex (Rn.s rfl Yv.ex (Rn.s rfl Yv.as (Rn.s rfl Yv.as (Rn.nil)))))) (WO.done ?_)
    have hst : St w [] w17 [Ch.row NdE 32 A17 a17 t, Ch.row NdE 32 A13 a13 t, Ch.row NdE 32 A9 a9 b, Ch.row NdE 32 A5 a5 t] := hs17.pick [0, 4, 5, 6]
    have hrw := hr.keep hst.keep
    have s1 := same_cv A5 a5 t A c t w17 (hst.rd 3) hrw (by omega)
    rw [decide_eq_true rfl] at s1
    have s2 := alike_cv A9 a9 b A c t w17 (hst.rd 2) hrw (by omega)
    rw [decide_eq_true q2'] at s2
    have s3 := alike_cv A13 a13 t A c t w17 (hst.rd 1) hrw (by omega)
    rw [decide_eq_true rfl] at s3
    have s4 := alike_cv A17 a17 t A c t w17 (hst.rd 0) hrw (by omega)
    rw [decide_eq_true rfl] at s4
    refine Wp.seq (Wp.regionL (l := [0, 1, 2, 3, 4, 5, 6, 7, 8, 9, 10, 11, 12, 13, 14, 15, 16, 17, 18, 19, 20, 21, 22, 23, 24, 25, 26, 27, 28, 29, 30, 31, 32, 33, 34, 35, 36, 37]) (WO.rd (is := [0, 1, 2, 3, 4, 5, 6, 7, 8, 9, 10, 11, 12, 13, 14, 15, 16]) (js := [17, 18, 19, 20, 21, 22, 23, 24, 25, 26, 27, 28, 29, 30, 31, 32, 33, 34, 35, 36, 37]) (Keep.refl _) (Rn.s rfl Yv.mv (Rn.s rfl (Yv.cmp true (by rfl)) (Rn.s rfl Yv.mv (Rn.s rfl Yv.mv (Rn.s rfl (Yv.cmp true (by rfl)) (Rn.s rfl Yv.pick_t (Rn.s rfl Yv.mv (Rn.s rfl Yv.mv (Rn.s rfl (Yv.cmp true (by rfl)) (Rn.s rfl Yv.pick_t (Rn.s rfl Yv.mv (Rn.s rfl Yv.mv (Rn.s rfl (Yv.cmp true (by rfl)) (Rn.s rfl Yv.pick_t (Rn.s rfl Yv.mv (Rn.s rfl Yv.mv (Rn.s rfl Yv.mv (Rn.nil)))))))))))))))))) (WO.cv rfl s1 (Keep.refl _) (FnOk.of Tryd.func22) (fun w18 k18 => WO.rd (is := [18, 19, 20, 21]) (js := [22, 23, 24, 25, 26, 27, 28, 29, 30, 31, 32, 33, 34, 35, 36, 37]) (Keep.refl _) (Rn.s rfl Yv.pick_t (Rn.s rfl Yv.mv (Rn.s rfl Yv.mv (Rn.s rfl Yv.mv (Rn.nil))))) (WO.cv rfl s2 k18 (FnOk.of Tryd.func31) (fun w19 k19 => WO.rd (is := [23, 24, 25, 26]) (js := [27, 28, 29, 30, 31, 32, 33, 34, 35, 36, 37]) (Keep.refl _) (Rn.s rfl Yv.pick_t (Rn.s rfl Yv.mv (Rn.s rfl Yv.mv (Rn.s rfl Yv.mv (Rn.nil))))) (WO.cv rfl s3 (k18.trans k19) (FnOk.of Tryd.func31) (fun w20 k20 => WO.rd (is := [28, 29, 30, 31]) (js := [32, 33, 34, 35, 36, 37]) (Keep.refl _) (Rn.s rfl Yv.pick_t (Rn.s rfl Yv.mv (Rn.s rfl Yv.mv (Rn.s rfl Yv.mv (Rn.nil))))) (WO.cv rfl s4 ((k18.trans k19).trans k20) (FnOk.of Tryd.func31) (fun w21 k21 => WO.rd (is := [33, 34]) (js := [35, 36, 37]) (Keep.refl _) (Rn.s rfl Yv.pick_t (Rn.s rfl Yv.mv (Rn.nil))) (WO.cv rfl (awake8_cv w21 (hg.keep (((hst.keep.trans k18).trans k19).trans (k20.trans k21)))) (Keep.refl _) (FnOk.of Tryd.func24) (fun w22 k22 => WO.rd (is := [36, 37]) (js := []) (Keep.refl _) (Rn.s rfl Yv.pick_t (Rn.s rfl Yv.as (Rn.nil))) (WO.done ?_)))))))))))))
    exact Wp.ret (Fin.ret (Res.one rfl rfl) ⟨rfl, (((hst.keep.trans k18).trans k19).trans (k20.trans k21)).trans k22⟩)
end Go.Proofs.YtbmplmehofgocaaDoor.C
