/- The document's trees over trees (shuttleref8.Lay, Merge). -/
import Derived.Test.YtbmplmehofgocaaDoorRe
import Derived.Test.YtbmplmehofgocaaDoorMh
set_option linter.unusedVariables false
set_option linter.unusedSimpArgs false
set_option maxRecDepth 10000
namespace Go.Proofs.YtbmplmehofgocaaDoor.C
open Go.RowKit Go.Proofs.YtbmplmehofgocaaDoor.Sh
theorem keysR_find (t : List Nd) (key : Bs) : ∀ (ps : List Nat) (m : List (Bs × Int)), distI t ps = true → alook key (keysR t ps m) = match ps.find? (fun n : Nat => (nth t (n : Int)).key == key) with
    | some x => some (x : Int)
    | none => alook key m
  | [], m, _ => rfl
  | x :: r, m, h => by
    rw [distI, Bool.and_eq_true] at h
    obtain ⟨h1, h2⟩ := h
    have e : keysR t (x :: r) m = keysR t r (aput (nth t (x : Int)).key (x : Int) m) := rfl
    rw [e, keysR_find t key r _ h2, List.find?_cons]
    by_cases hk : (nth t (x : Int)).key = key
    · have hn : r.find? (fun n : Nat => (nth t (n : Int)).key == key) = none := by
        rw [List.find?_eq_none]
        intro y hy hyk
        simp only [Bool.not_eq_true', List.any_eq_false] at h1
        exact h1 y hy (by rw [hk]; simpa using (eq_of_beq hyk).symm)
      rw [hn]
      simp [hk, alook_aput]
    · have : ((nth t (x : Int)).key == key) = false := by simpa using hk
      rw [this]
      cases r.find? (fun n : Nat => (nth t (n : Int)).key == key) with
      | some y => rfl
      | none => simp only; rw [alook_aput, if_neg hk]
theorem keysR_any (t : List Nd) (key : Bs) : ∀ (ps : List Nat) (m : List (Bs × Int)), (alook key (keysR t ps m)).isSome = ((ps.find? (fun n : Nat => (nth t (n : Int)).key == key)).isSome || (alook key m).isSome)
  | [], m => by simp [keysR]
  | x :: r, m => by
    have e : keysR t (x :: r) m = keysR t r (aput (nth t (x : Int)).key (x : Int) m) := rfl
    rw [e, keysR_any t key r _, List.find?_cons, alook_aput]
    by_cases hk : (nth t (x : Int)).key = key
    · simp [hk]
    · have : ((nth t (x : Int)).key == key) = false := by simpa using hk
      rw [this, if_neg hk]
theorem isS_dist {t : List Nd} (h : isS t = true) {i : Nat} (hi : i < t.length) (hk : (nth t (i : Int)).kind = 1) : distI t (partsS t i) = true := by
  have hm : mapsOk t = true := by
    have h2 : refIsS t = true := by rw [← is_ref]; exact h
    unfold refIsS at h2
    split at h2
    · cases h2
    · split at h2
      · cases h2
      split at h2
      · cases h2
      split at h2
      · cases h2
      · exact h2
  have := List.all_eq_true.1 hm i (List.mem_range.2 hi)
  simpa [hk] using this
theorem find_keys {t : List Nd} (h : isS t = true) {i : Nat} (hi : i < t.length) (hk : (nth t (i : Int)).kind = 1) (key : Bs) : findS t i key = match alook key (keysS t i) with
    | some x => x
    | none => -1 := by
  unfold findS keysS
  rw [keysR_find t key _ [] (isS_dist h hi hk)]
  cases (partsS t i).find? (fun n : Nat => (nth t (n : Int)).key == key) with
  | some x => rfl
  | none => rfl
theorem find_some {t : List Nd} {i : Nat} (key : Bs) : decide (findS t i key < 0) = !(alook key (keysS t i)).isSome := by
  unfold findS keysS
  rw [keysR_any]
  cases (partsS t i).find? (fun n : Nat => (nth t (n : Int)).key == key) with
  | some x =>
    have : ¬ ((x : Int) < 0) := by omega
    simp [orN, this]
  | none => simp [orN, alook]
theorem addD_zero (d : Int) : addD (d - d) = id := by
  funext n
  unfold addD
  have : n.depth + (d - d) = n.depth := by omega
  rw [this]; rfl
theorem parts_depth {t : List Nd} {i n : Nat} (h : n ∈ partsS t i) : (nth t (n : Int)).depth = (nth t (i : Int)).depth + 1 := (mem_partsS.1 h).1.2.1
theorem find_depth {t : List Nd} {i : Nat} {key : Bs} {m : Nat} (h : findS t i key = (m : Int)) : (nth t (m : Int)).depth = (nth t (i : Int)).depth + 1 := by
  unfold findS at h
  cases hf : (partsS t i).find? (fun n : Nat => (nth t (n : Int)).key == key) with
  | none => rw [hf] at h; simp only [orN] at h; omega
  | some x =>
    rw [hf] at h
    have : x = m := by simp only [orN] at h; omega
    rw [← this]
    exact parts_depth (List.mem_of_find?_eq_some hf)
theorem step_ok {t : List Nd} (h : isS t = true) {i : Nat} (hi : i < t.length) : i + 1 < t.length → (nth t ((i + 1 : Nat) : Int)).depth ≤ (nth t (i : Int)).depth + 1 := ((ris_wf2 (by rw [← is_ref]; exact h)).2.2 i hi).2
theorem rlay_cx (A : Option Addr) (ca : Nat) (a : List Nd) (B : Option Addr) (cb : Nat) (b : List Nd) (ia : isS a = true) (ib : isS b = true) : ∀ (f i j : Nat) (w : World), Rd NdE w A a → Rd NdE w B b → i < a.length → j < b.length → (nth a (i : Int)).depth = (nth b (j : Int)).depth → a.length - i ≤ f →
    Cx Tryd.prog 42 [.slice A a.length ca, .int .i64 i, .slice B b.length cb, .int .i64 j] [] (fun v D => ∃ O co, v = .slice O (layF a b f i j).length co ∧ D = [Ch.row NdE 32 O co (layF a b f i j)]) w
  | 0, i, j, w, hra, hrb, hi, hj, hde, hf => by omega
  | f + 1, i, j, w, hra, hrb, hi, hj, hde, hf => by
    have da := isS_Deep ia
    have db := isS_Deep ib
    have la := (isS_depth ia).2.1
    have lb := (isS_depth ib).2.1
    have hlen := layF_len a b (f + 1) i j hi hj
    have hsz := (siz_pos hi).2
    have hmul : sizS a i * (b.length + 1) ≤ 16384 * 16385 := Nat.mul_le_mul (by omega) (by omega)
    obtain ⟨d0, d1⟩ := da _ (nth_mem hi)
    refine calls_of_Wp (vs := [_, _, _, _]) Tryd.func42 ?_
    refine Wp.seq (Wp.reads (is := [0]) (Keep.refl _) (Rn.s rfl Yv.as (Rn.nil)) ?_)
    refine Wp.seq (Wp.seq (Wp.reads (is := [0, 1, 2, 3, 4, 5, 6, 7, 8, 9, 10, 11, 12, 13]) (Keep.refl _) (Rn.s rfl Yv.mv (Rn.s rfl Yv.mv (Rn.s rfl (Yv.ia (e := 32) hra (by omega) (by omega)) (Rn.s rfl (Yv.fa (off := 0)) (Rn.s rfl (Yv.ld (hra.ld 0 (by omega) (by omega))) (Rn.s rfl (Yv.cmp _ rfl) (Rn.s rfl Yv.mv (Rn.or (is := [7, 8, 9, 10, 11, 12, 13]) (js := []) (t := 20) (d := 27) (hg := rfl) (hf := fun h6 => have h6 := bne_eq_false_iff_eq.1 h6; Rn.s rfl Yv.mv (Rn.s rfl Yv.mv (Rn.s rfl (Yv.ia (e := 32) hrb (by omega) (by omega)) (Rn.s rfl (Yv.fa (off := 0)) (Rn.s rfl (Yv.ld (hrb.ld 0 (by omega) (by omega))) (Rn.s rfl (Yv.cmp _ rfl) (Rn.s rfl Yv.pick_f ((Rn.e 7 rfl rfl))))))))) (ht := fun _ => Rn.no rfl (Rn.no rfl (Rn.no rfl (Rn.no rfl (Rn.no rfl (Rn.no rfl (Rn.s rfl Yv.pick_t (Rn.e 7 rfl rfl)))))))) (k := Rn.nil))))))))) ?_))
    refine Wp.cond rfl (fun h => ?_) (fun h => ?_)
    · have h : (nth a (i : Int)).kind ≠ 1 ∨ (nth b (j : Int)).kind ≠ 1 := by simpa using h
      have e : layF a b (f + 1) i j = subS b j := by rw [layF, if_pos h]
      rw [e]
      refine Wp.seq (Wp.regionL (l := [0, 1, 2, 3, 4, 5, 6, 7, 8]) (WO.rd (is := [0, 1, 2, 3, 4, 5, 6]) (js := [7, 8]) (Keep.refl _) (Rn.s rfl Yv.mv (Rn.s rfl Yv.mv (Rn.s rfl Yv.mv (Rn.s rfl Yv.mv (Rn.s rfl (Yv.ia (e := 32) hra (by omega) (by omega)) (Rn.s rfl (Yv.fa (off := 1)) (Rn.s rfl (Yv.ld (hra.ld 1 (by omega) (by omega))) (Rn.nil)))))))) (WO.act (hc := rfl) (he := Ef.cx (moved_cx B cb b j (nth a (i : Int)).depth w hrb hj (by omega) db (by omega)) (St.init w) (FnOk.of Tryd.func49) ?_))))
      rintro v D w1 ⟨O, co, rfl, rfl⟩ hs1
      refine WO.rd (is := [8]) (js := []) (Keep.refl _) (Rn.s rfl Yv.as (Rn.nil)) (WO.done ?_)
      rw [hde, addD_zero, List.map_id] at hs1
      exact Wp.ret (Fin.ret (Res.one rfl rfl) ⟨_, _, rfl, ⟨O, co, rfl, rfl⟩, hs1⟩)
    have h : ¬ ((nth a (i : Int)).kind ≠ 1 ∨ (nth b (j : Int)).kind ≠ 1) := by simpa using h
    have hka : (nth a (i : Int)).kind = 1 := by
      by_cases e : (nth a (i : Int)).kind = 1
      · exact e
      · exact (h (.inl e)).elim
    have hkb : (nth b (j : Int)).kind = 1 := by
      by_cases e : (nth b (j : Int)).kind = 1
      · exact e
      · exact (h (.inr e)).elim
    obtain ⟨F1, hF1⟩ : ∃ F1 : Nat → List Nd, F1 = fun n : Nat => match alook (nth a (n : Int)).key (keysS b j) with
        | some m => layF a b f n m.toNat
        | none => subS a n := ⟨_, rfl⟩
    obtain ⟨F2, hF2⟩ : ∃ F2 : Nat → List Nd, F2 = fun n : Nat => if (alook (nth b (n : Int)).key (keysS a i)).isSome then [] else subS b n := ⟨_, rfl⟩
    have e : layF a b (f + 1) i j = nth b (j : Int) :: (partsS a i).flatMap F1 ++ (partsS b j).flatMap F2 := by rw [layF, if_neg h, hF1, hF2]; rfl
    rw [e] at hlen ⊢
    have hP1 : ∀ k, (nth b (j : Int) :: ((partsS a i).take k).flatMap F1).length ≤ (nth b (j : Int) :: (partsS a i).flatMap F1 ++ (partsS b j).flatMap F2).length := by
      intro k
      have : (partsS a i).flatMap F1 = ((partsS a i).take k).flatMap F1 ++ ((partsS a i).drop k).flatMap F1 := by rw [← List.flatMap_append, List.take_append_drop]
      rw [this]
      simp
    have hP2 : ∀ k, (nth b (j : Int) :: (partsS a i).flatMap F1 ++ ((partsS b j).take k).flatMap F2).length ≤ (nth b (j : Int) :: (partsS a i).flatMap F1 ++ (partsS b j).flatMap F2).length := by
      intro k
      have : (partsS b j).flatMap F2 = ((partsS b j).take k).flatMap F2 ++ ((partsS b j).drop k).flatMap F2 := by rw [← List.flatMap_append, List.take_append_drop]
      rw [this]
      simp
    have hPa : ∀ k n : Nat, (partsS a i)[k]? = some n → i < n ∧ n < a.length := fun k n hn => partsS_mem hi n (List.mem_of_getElem? hn)
    have hPb : ∀ k n : Nat, (partsS b j)[k]? = some n → j < n ∧ n < b.length := fun k n hn => partsS_mem hj n (List.mem_of_getElem? hn)
    have hDa : ∀ k n : Nat, (partsS a i)[k]? = some n → (nth a (n : Int)).depth = (nth a (i : Int)).depth + 1 := fun k n hn => parts_depth (List.mem_of_getElem? hn)
    have hDb : ∀ k n : Nat, (partsS b j)[k]? = some n → (nth b (n : Int)).depth = (nth b (j : Int)).depth + 1 := fun k n hn => parts_depth (List.mem_of_getElem? hn)
    obtain ⟨na0, na1⟩ := chain_cv (A := A) (c := ca) hi (by omega) (da.dep i hi) (step_ok ia hi)
    obtain ⟨nb0, nb1⟩ := chain_cv (A := B) (c := cb) hj (by omega) (db.dep j hj) (step_ok ib hj)
    obtain ⟨Pa, hPae⟩ : ∃ Pa, Pa = partsS a i := ⟨_, rfl⟩
    obtain ⟨Pb, hPbe⟩ : ∃ Pb, Pb = partsS b j := ⟨_, rfl⟩
    rw [← hPae] at e hlen hP1 hP2 hPa hDa na0 na1 ⊢
    rw [← hPbe] at e hlen hP1 hP2 hPb hDb nb0 nb1 ⊢
    generalize hW : (nth b (j : Int) :: Pa.flatMap F1 ++ Pb.flatMap F2).length = whole at *
    obtain ⟨hd, hhd⟩ : ∃ hd, hd = nth b (j : Int) := ⟨_, rfl⟩
    refine Wp.skip ?_
    refine Wp.seq (Wp.regionL (l := [0, 1, 2, 3, 4, 5]) (WO.rd (is := [0, 1, 2, 3]) (js := [4, 5]) (Keep.refl _) (Rn.s rfl Yv.mv (Rn.s rfl Yv.mv (Rn.s rfl (Yv.ia (e := 32) hrb (by omega) (by omega)) (Rn.s rfl (Yv.ldel hrb rfl rfl (by omega) (by omega)) (Rn.nil))))) (WO.act (hc := rfl) (he := Ef.allocL (vs := (default : Nd).cs) (St.init w) (fun ba1 wa1 ka1 hsa1 => WO.act (hc := rfl) (he := Ef.stores hsa1 0 (fun wa2 hsa2 => WO.done ?_)))))))
    have hra2 := hra.keep hsa2.keep
    refine Wp.seq (Wp.regionL (l := [0, 1, 2, 3, 4, 5, 6]) (WO.rd (is := [0, 1, 2, 3, 4, 5]) (js := [6]) (Keep.refl _) (Rn.s rfl Yv.mv (Rn.s rfl Yv.mv (Rn.s rfl (Yv.ia (e := 32) hra2 (by omega) (by omega)) (Rn.s rfl (Yv.fa (off := 1)) (Rn.s rfl (Yv.ld (hra2.ld 1 (by omega) (by omega))) (Rn.s rfl (Yv.fa (off := 1)) (Rn.nil))))))) (WO.act (hc := rfl) (he := Ef.store hsa2 0 (fun wb1 hsb1 => WO.done ?_)))))
    have hsb : St w [] wb1 [Ch.cells ba1 32 hd.cs] := by
      have h1 : St w [] wb1 [Ch.cells ba1 32 (Nd.cs { nth b (j : Int) with depth := (nth a (i : Int)).depth })] := hsb1
      rw [hde] at h1
      rw [hhd]
      exact h1
    have cx := hsb.cells 0
    refine Wp.seq (Wp.regionL (l := [0, 1, 2]) (WO.rd (is := [0]) (js := [1, 2]) (Keep.refl _) (Rn.s rfl (Yv.ldb cx) (Rn.nil)) (WO.act (hc := rfl) (he := Ef.bsl (T := 32) NdE [hd] hsb (fun bc1 wc1 kc1 hsc1 => WO.rd (is := [2]) (js := []) ((Keep.refl _).trans kc1) (Rn.s rfl Yv.as (Rn.nil)) (WO.done ?_))))))
    have hst : St w [] wc1 [Ch.row NdE 32 (some ⟨bc1, 0, none⟩) 1 [hd]] := hsc1.pick [0]
    rw [← hhd] at hP1 hP2 hW ⊢
    refine Wp.seq (Wp.seq (Wp.regionL (l := [0, 1, 2, 3, 4]) (WO.rd (is := [0, 1, 2]) (js := [3, 4]) (Keep.refl _) (Rn.s rfl Yv.mv (Rn.s rfl Yv.mv (Rn.s rfl Yv.mv (Rn.nil)))) (WO.cv rfl (na0 wc1 (hra.keep hst.keep)) (Keep.refl _) (FnOk.of Tryd.func66) (fun wd1 kd1 => WO.rd (is := [4]) (js := []) ((Keep.refl _).trans kd1) (Rn.s rfl Yv.as (Rn.nil)) (WO.done ?_))))))
    refine Wp.block ?_
    refine Wp.loop (α := Nat × (Option Addr × Nat)) (fun q ρ ds w' => ds = [] ∧ q.1 ≤ Pa.length ∧ St w [] w' [Ch.row NdE 32 q.2.1 q.2.2 (hd :: (Pa.take q.1).flatMap F1)] ∧
      Sub [(0, .slice A a.length ca), (1, .int .i64 i), (2, .slice B b.length cb), (3, .int .i64 j), (10, .slice q.2.1 (hd :: (Pa.take q.1).flatMap F1).length q.2.2), (11, .int .i64 (orN Pa[q.1]?))] ρ) (fun q => Pa.length - q.1) (0, (some ⟨bc1, 0, none⟩, 1))
      ⟨rfl, Nat.zero_le _, hst.quiet kd1, rfl, rfl, rfl, rfl, rfl, rfl, trivial⟩ ?_
    clear hst hsb cx hsa1 hsa2 hsb1 hsc1 hra2
    rintro ⟨q, O, co⟩ ρ ds w' ⟨rfl, hq, hst, hs⟩
    simp only at hq hst hs
    refine Wp.forget _ ?_ hs
    have hra1 := hra.keep hst.keep
    have hrb1 := hrb.keep hst.keep
    refine Wp.seq (Wp.seq (Wp.reads (is := [0, 1]) (Keep.refl _) (Rn.s rfl Yv.mv (Rn.s rfl (Yv.cmp _ rfl) (Rn.nil))) ?_))
    refine Wp.cond rfl (fun h7 => ?_) (fun h7 => ?_)
    · obtain ⟨x, hx⟩ := orN_nonneg (of_decide_eq_true h7)
      have hql := (List.getElem?_eq_some_iff.1 hx).1
      obtain ⟨x0, x1⟩ := hPa q x hx
      have e1 : (Pa.take (q + 1)).flatMap F1 = (Pa.take q).flatMap F1 ++ F1 x := by rw [List.take_add_one, hx, List.flatMap_append]; simp
      have hk1 := hP1 (q + 1)
      rw [e1] at hk1
      simp only [List.length_cons, List.length_append] at hk1
      have hdx := hDa q x hx
      rw [hx]
      have hfk := find_keys ib hj hkb (nth a (x : Int)).key
      obtain ⟨m0, m1, -⟩ := findS_bd hj (nth a (x : Int)).key
      obtain ⟨M, hM⟩ : ∃ M, M = findS b j (nth a (x : Int)).key := ⟨_, rfl⟩
      have hfc := rfind_cv B cb b j (nth a (x : Int)).key w' hrb1 hj (by omega) (db.dep j hj) (step_ok ib hj)
      rw [← hM] at hfc hfk m0 m1
      refine Wp.skip (Wp.seq (Wp.block ?_))
      refine Wp.seq (Wp.regionL (l := [0, 1, 2, 3, 4, 5, 6, 7, 8]) (WO.rd (is := [0, 1, 2, 3, 4, 5, 6]) (js := [7, 8]) (Keep.refl _) (Rn.s rfl Yv.mv (Rn.s rfl Yv.mv (Rn.s rfl Yv.mv (Rn.s rfl Yv.mv (Rn.s rfl (Yv.ia (e := 32) hra1 (j := x) (by omega) (by omega)) (Rn.s rfl (Yv.fa (off := 2)) (Rn.s rfl (Yv.ld (hra1.ld (i := x) 2 (by omega) (by omega))) (Rn.nil)))))))) (WO.cv rfl hfc (Keep.refl _) (FnOk.of Tryd.func50) (fun we1 ke1 => WO.rd (is := [8]) (js := []) ((Keep.refl _).trans ke1) (Rn.s rfl Yv.as (Rn.nil)) (WO.done ?_)))))
      have hst := hst.quiet ke1
      have hra2 := hra.keep hst.keep
      have hrb2 := hrb.keep hst.keep
      refine Wp.seq (Wp.seq (Wp.reads (is := [0, 1]) (Keep.refl _) (Rn.s rfl Yv.mv (Rn.s rfl (Yv.cmp _ rfl) (Rn.nil))) ?_))
      refine Wp.cond rfl (fun h10 => ?_) (fun h10 => ?_)
      · have h10 := of_decide_eq_true h10
        have hal : alook (nth a (x : Int)).key (keysS b j) = none := by
          cases hal : alook (nth a (x : Int)).key (keysS b j) with
          | none => rfl
          | some v =>
            rw [hal] at hfk
            have := (keysS_mem hj hal).1
            simp only at hfk
            omega
        have eF : F1 x = subS a x := by rw [hF1]; simp only [hal]
        rw [eF] at e1 hk1
        refine Wp.seq (Wp.regionL (l := [0, 1, 2, 3, 4, 5, 6, 7, 8, 9, 10]) (WO.rd (is := [0, 1, 2, 3, 4, 5, 6, 7]) (js := [8, 9, 10]) (Keep.refl _) (Rn.s rfl Yv.mv (Rn.s rfl Yv.mv (Rn.s rfl Yv.mv (Rn.s rfl Yv.mv (Rn.s rfl Yv.mv (Rn.s rfl (Yv.ia (e := 32) hra2 (j := x) (by omega) (by omega)) (Rn.s rfl (Yv.fa (off := 1)) (Rn.s rfl (Yv.ld (hra2.ld (i := x) 1 (by omega) (by omega))) (Rn.nil))))))))) (WO.act (hc := rfl) (he := Ef.cx (moved_cx A ca a x (nth a (x : Int)).depth _ hra2 x1 (by omega) da (by have := da _ (nth_mem x1); omega)) hst (FnOk.of Tryd.func49) ?_))))
        rintro v D w2 ⟨O2, co2, rfl, rfl⟩ hs2
        have hs2 : St w [] w2 [Ch.row NdE 32 O2 co2 (subS a x), Ch.row NdE 32 O co (hd :: (Pa.take q).flatMap F1)] := by rw [addD_zero, List.map_id] at hs2; exact hs2
        have hO2 : O2 = none → co2 = 0 := row_none (hs2.at_ 0)
        refine WO.act (hc := rfl) (he := Ef.append (ys := subS a x) hs2 1 (hs2.rd 0) hO2 (fitN (by simp only [List.length_cons]; omega)) ?_)
        intro O3 co3 w3 hs3
        refine WO.rd (is := [10]) (js := []) (Keep.refl _) (Rn.s rfl Yv.as (Rn.nil)) (WO.done ?_)
        refine Wp.exit ?_
        have hs3 : St w [] w3 [Ch.row NdE 32 O3 co3 (hd :: (Pa.take (q + 1)).flatMap F1)] := by rw [e1]; exact hs3.pick [0]
        have el : (hd :: (Pa.take q).flatMap F1 ++ subS a x).length = (hd :: (Pa.take (q + 1)).flatMap F1).length := by rw [e1]; rfl
        refine Wp.regionL (l := [0, 1, 2, 3, 4]) (WO.rd (is := [0, 1, 2]) (js := [3, 4]) (Keep.refl _) (Rn.s rfl Yv.mv (Rn.s rfl Yv.mv (Rn.s rfl Yv.mv (Rn.nil)))) (WO.cv rfl (na1 q x hx w3 (hra.keep hs3.keep)) (Keep.refl _) (FnOk.of Tryd.func66) (fun wg1 kg1 => WO.rd (is := [4]) (js := []) ((Keep.refl _).trans kg1) (Rn.s rfl Yv.as (Rn.nil)) (WO.done ?_))))
        refine ⟨(q + 1, (O3, co3)), ⟨rfl, by simp only; omega, hs3.quiet kg1, rfl, rfl, rfl, rfl, ?_, rfl, trivial⟩, by simp only; omega⟩
        rw [← el]; rfl
      · have h10 := of_decide_eq_false h10
        obtain ⟨m, hm⟩ : ∃ m : Nat, M = m := ⟨M.toNat, by omega⟩
        have hal : alook (nth a (x : Int)).key (keysS b j) = some (m : Int) := by
          cases hal : alook (nth a (x : Int)).key (keysS b j) with
          | none => rw [hal] at hfk; simp only at hfk; omega
          | some v => rw [hal] at hfk; simp only at hfk; rw [← hm, hfk]
        have eF : F1 x = layF a b f x m := by rw [hF1]; simp only [hal]; rw [Int.toNat_natCast]
        rw [eF] at e1 hk1
        have hdm := find_depth (t := b) (i := j) (key := (nth a (x : Int)).key) (m := m) (by rw [← hM]; exact hm)
        rw [hm]
        refine Wp.skip ?_
        refine Wp.regionL (l := [0, 1, 2, 3, 4, 5, 6, 7]) (WO.rd (is := [0, 1, 2, 3, 4]) (js := [5, 6, 7]) (Keep.refl _) (Rn.s rfl Yv.mv (Rn.s rfl Yv.mv (Rn.s rfl Yv.mv (Rn.s rfl Yv.mv (Rn.s rfl Yv.mv (Rn.nil)))))) (WO.act (hc := rfl) (he := Ef.cx (rlay_cx A ca a B cb b ia ib f x m _ hra2 hrb2 x1 (by omega) (by rw [hdx, hdm, hde]) (by omega)) hst (FnOk.of Tryd.func42) ?_)))
        rintro v D w2 ⟨O2, co2, rfl, rfl⟩ hs2
        have hO2 : O2 = none → co2 = 0 := row_none (hs2.at_ 0)
        refine WO.act (hc := rfl) (he := Ef.append (ys := layF a b f x m) hs2 1 (hs2.rd 0) hO2 (fitN (by simp only [List.length_cons]; omega)) ?_)
        intro O3 co3 w3 hs3
        refine WO.rd (is := [7]) (js := []) (Keep.refl _) (Rn.s rfl Yv.as (Rn.nil)) (WO.done ?_)
        have hs3 : St w [] w3 [Ch.row NdE 32 O3 co3 (hd :: (Pa.take (q + 1)).flatMap F1)] := by rw [e1]; exact hs3.pick [0]
        have el : (hd :: (Pa.take q).flatMap F1 ++ layF a b f x m).length = (hd :: (Pa.take (q + 1)).flatMap F1).length := by rw [e1]; rfl
        refine Wp.regionL (l := [0, 1, 2, 3, 4]) (WO.rd (is := [0, 1, 2]) (js := [3, 4]) (Keep.refl _) (Rn.s rfl Yv.mv (Rn.s rfl Yv.mv (Rn.s rfl Yv.mv (Rn.nil)))) (WO.cv rfl (na1 q x hx w3 (hra.keep hs3.keep)) (Keep.refl _) (FnOk.of Tryd.func66) (fun wg1 kg1 => WO.rd (is := [4]) (js := []) ((Keep.refl _).trans kg1) (Rn.s rfl Yv.as (Rn.nil)) (WO.done ?_))))
        refine ⟨(q + 1, (O3, co3)), ⟨rfl, by simp only; omega, hs3.quiet kg1, rfl, rfl, rfl, rfl, ?_, rfl, trivial⟩, by simp only; omega⟩
        rw [← el]; rfl
    have hnn := orN_neg (of_decide_eq_false h7)
    rw [List.take_of_length_le (List.getElem?_eq_none_iff.1 hnn)] at hst
    rw [List.take_of_length_le (List.getElem?_eq_none_iff.1 hnn)]
    obtain ⟨L1, hL1⟩ : ∃ L1, L1 = hd :: Pa.flatMap F1 := ⟨_, rfl⟩
    rw [← hL1] at hst hP2 hW ⊢
    refine Wp.exit ?_
    refine Wp.seq (Wp.seq (Wp.regionL (l := [0, 1, 2, 3, 4]) (WO.rd (is := [0, 1, 2]) (js := [3, 4]) (Keep.refl _) (Rn.s rfl Yv.mv (Rn.s rfl Yv.mv (Rn.s rfl Yv.mv (Rn.nil)))) (WO.cv rfl (nb0 w' hrb1) (Keep.refl _) (FnOk.of Tryd.func66) (fun wk1 kk1 => WO.rd (is := [4]) (js := []) ((Keep.refl _).trans kk1) (Rn.s rfl Yv.as (Rn.nil)) (WO.done ?_))))))
    refine Wp.block ?_
    refine Wp.loop (α := Nat × (Option Addr × Nat)) (fun q ρ ds w' => ds = [] ∧ q.1 ≤ Pb.length ∧ St w [] w' [Ch.row NdE 32 q.2.1 q.2.2 (L1 ++ (Pb.take q.1).flatMap F2)] ∧
      Sub [(0, .slice A a.length ca), (1, .int .i64 i), (2, .slice B b.length cb), (3, .int .i64 j), (10, .slice q.2.1 (L1 ++ (Pb.take q.1).flatMap F2).length q.2.2), (13, .int .i64 (orN Pb[q.1]?))] ρ) (fun q => Pb.length - q.1) (0, (O, co))
      ⟨rfl, Nat.zero_le _, by simpa using hst.quiet kk1, rfl, rfl, rfl, rfl, by simp; rfl, rfl, trivial⟩ ?_
    clear hst hra1 hrb1
    rintro ⟨q, O, co⟩ ρ ds w' ⟨rfl, hq, hst, hs⟩
    simp only at hq hst hs
    refine Wp.forget _ ?_ hs
    have hra1 := hra.keep hst.keep
    have hrb1 := hrb.keep hst.keep
    refine Wp.seq (Wp.seq (Wp.reads (is := [0, 1]) (Keep.refl _) (Rn.s rfl Yv.mv (Rn.s rfl (Yv.cmp _ rfl) (Rn.nil))) ?_))
    refine Wp.cond rfl (fun h7 => ?_) (fun h7 => ?_)
    · obtain ⟨x, hx⟩ := orN_nonneg (of_decide_eq_true h7)
      have hql := (List.getElem?_eq_some_iff.1 hx).1
      obtain ⟨x0, x1⟩ := hPb q x hx
      have e1 : (Pb.take (q + 1)).flatMap F2 = (Pb.take q).flatMap F2 ++ F2 x := by rw [List.take_add_one, hx, List.flatMap_append]; simp
      have hk1 := hP2 (q + 1)
      rw [e1] at hk1
      simp only [List.length_append] at hk1
      have hdx := hDb q x hx
      rw [hx]
      have hfs := find_some (t := a) (i := i) (nth b (x : Int)).key
      obtain ⟨m0, m1, -⟩ := findS_bd hi (nth b (x : Int)).key
      obtain ⟨M, hM⟩ : ∃ M, M = findS a i (nth b (x : Int)).key := ⟨_, rfl⟩
      have hfc := rfind_cv A ca a i (nth b (x : Int)).key w' hra1 hi (by omega) (da.dep i hi) (step_ok ia hi)
      rw [← hM] at hfc hfs m0 m1
      refine Wp.skip (Wp.seq (Wp.block ?_))
      refine Wp.seq (Wp.regionL (l := [0, 1, 2, 3, 4, 5, 6, 7, 8]) (WO.rd (is := [0, 1, 2, 3, 4, 5, 6]) (js := [7, 8]) (Keep.refl _) (Rn.s rfl Yv.mv (Rn.s rfl Yv.mv (Rn.s rfl Yv.mv (Rn.s rfl Yv.mv (Rn.s rfl (Yv.ia (e := 32) hrb1 (j := x) (by omega) (by omega)) (Rn.s rfl (Yv.fa (off := 2)) (Rn.s rfl (Yv.ld (hrb1.ld (i := x) 2 (by omega) (by omega))) (Rn.nil)))))))) (WO.cv rfl hfc (Keep.refl _) (FnOk.of Tryd.func50) (fun we1 ke1 => WO.rd (is := [8]) (js := []) ((Keep.refl _).trans ke1) (Rn.s rfl (Yv.cmp _ rfl) (Rn.nil)) (WO.done ?_)))))
      have hst := hst.quiet ke1
      have hra2 := hra.keep hst.keep
      have hrb2 := hrb.keep hst.keep
      refine Wp.cond rfl (fun h10 => ?_) (fun h10 => ?_)
      · have hal : (alook (nth b (x : Int)).key (keysS a i)).isSome = false := by
          rw [h10] at hfs
          simpa using hfs.symm
        have eF : F2 x = subS b x := by rw [hF2]; simp only [hal]; rfl
        rw [eF] at e1 hk1
        refine Wp.regionL (l := [0, 1, 2, 3, 4, 5, 6, 7, 8, 9, 10, 11]) (WO.rd (is := [0, 1, 2, 3, 4, 5, 6, 7, 8]) (js := [9, 10, 11]) (Keep.refl _) (Rn.s rfl Yv.mv (Rn.s rfl Yv.mv (Rn.s rfl Yv.mv (Rn.s rfl Yv.mv (Rn.s rfl Yv.mv (Rn.s rfl (Yv.ia (e := 32) hra2 (by omega) (by omega)) (Rn.s rfl (Yv.fa (off := 1)) (Rn.s rfl (Yv.ld (hra2.ld 1 (by omega) (by omega))) (Rn.s rfl (Yv.add (by unfold inI; omega)) (Rn.nil)))))))))) (WO.act (hc := rfl) (he := Ef.cx (moved_cx B cb b x ((nth a (i : Int)).depth + 1) _ hrb2 x1 (by omega) db (by omega)) hst (FnOk.of Tryd.func49) ?_)))
        rintro v D w2 ⟨O2, co2, rfl, rfl⟩ hs2
        have hs2 : St w [] w2 [Ch.row NdE 32 O2 co2 (subS b x), Ch.row NdE 32 O co (L1 ++ (Pb.take q).flatMap F2)] := by
          have hz : (nth a (i : Int)).depth + 1 = (nth b (x : Int)).depth := by rw [hdx, hde]
          rw [hz, addD_zero, List.map_id] at hs2
          exact hs2
        have hO2 : O2 = none → co2 = 0 := row_none (hs2.at_ 0)
        refine WO.act (hc := rfl) (he := Ef.append (ys := subS b x) hs2 1 (hs2.rd 0) hO2 (fitN (by simp only [List.length_append]; omega)) ?_)
        intro O3 co3 w3 hs3
        refine WO.rd (is := [11]) (js := []) (Keep.refl _) (Rn.s rfl Yv.as (Rn.nil)) (WO.done ?_)
        have e2 : L1 ++ (Pb.take q).flatMap F2 ++ subS b x = L1 ++ (Pb.take (q + 1)).flatMap F2 := by rw [e1, List.append_assoc]
        rw [e2] at hs3 ⊢
        have hs3 : St w [] w3 [Ch.row NdE 32 O3 co3 (L1 ++ (Pb.take (q + 1)).flatMap F2)] := hs3.pick [0]
        refine Wp.regionL (l := [0, 1, 2, 3, 4]) (WO.rd (is := [0, 1, 2]) (js := [3, 4]) (Keep.refl _) (Rn.s rfl Yv.mv (Rn.s rfl Yv.mv (Rn.s rfl Yv.mv (Rn.nil)))) (WO.cv rfl (nb1 q x hx w3 (hrb.keep hs3.keep)) (Keep.refl _) (FnOk.of Tryd.func66) (fun wg1 kg1 => WO.rd (is := [4]) (js := []) ((Keep.refl _).trans kg1) (Rn.s rfl Yv.as (Rn.nil)) (WO.done ?_))))
        exact ⟨(q + 1, (O3, co3)), ⟨rfl, by simp only; omega, hs3.quiet kg1, rfl, rfl, rfl, rfl, rfl, rfl, trivial⟩, by simp only; omega⟩
      · have hal : (alook (nth b (x : Int)).key (keysS a i)).isSome = true := by
          rw [h10] at hfs
          simpa using hfs.symm
        have eF : F2 x = [] := by rw [hF2]; simp only [hal]; rfl
        rw [eF, List.append_nil] at e1
        refine Wp.skip (Wp.regionL (l := [0, 1, 2, 3, 4]) (WO.rd (is := [0, 1, 2]) (js := [3, 4]) (Keep.refl _) (Rn.s rfl Yv.mv (Rn.s rfl Yv.mv (Rn.s rfl Yv.mv (Rn.nil)))) (WO.cv rfl (nb1 q x hx _ hrb2) (Keep.refl _) (FnOk.of Tryd.func66) (fun wg1 kg1 => WO.rd (is := [4]) (js := []) ((Keep.refl _).trans kg1) (Rn.s rfl Yv.as (Rn.nil)) (WO.done ?_)))))
        rw [← e1] at hst ⊢
        exact ⟨(q + 1, (O, co)), ⟨rfl, by simp only; omega, hst.quiet kg1, rfl, rfl, rfl, rfl, rfl, rfl, trivial⟩, by simp only; omega⟩
    have hnn := orN_neg (of_decide_eq_false h7)
    rw [List.take_of_length_le (List.getElem?_eq_none_iff.1 hnn)] at hst
    rw [List.take_of_length_le (List.getElem?_eq_none_iff.1 hnn)]
    refine Wp.exit ?_
    refine Wp.seq (Wp.reads (is := [0, 1]) (Keep.refl _) (Rn.s rfl Yv.mv (Rn.s rfl Yv.as (Rn.nil))) ?_)
    exact Wp.ret (Fin.ret (Res.one rfl rfl) ⟨_, _, rfl, ⟨O, co, by rw [hW], rfl⟩, hst⟩)
theorem rmerge_cx (TA : Option Addr) (tc : Nat) (ts : List Tr) (w : World) (hts : Rd TsE w TA ts) (hl : ts.length ≤ 1000000) (hall : ∀ x ∈ ts, Rd NdE w x.1 x.2.2 ∧ (x.1 = none → x.2.1 = 0)) :
    Cx Tryd.prog 17 [.slice TA ts.length tc] [] (fun v D => ∃ O co, v = .tuple #[.slice O (mergeS (ts.map ts1)).1.length co, .int .i64 (mergeS (ts.map ts1)).2] ∧ D = [Ch.row NdE 32 O co (mergeS (ts.map ts1)).1]) w := by
  refine calls_of_Wp (vs := [_]) Tryd.func17 ?_
  refine Wp.seq (Wp.reads (is := [0, 1]) (Keep.refl _) (Rn.s rfl Yv.as (Rn.s rfl Yv.as (Rn.nil))) ?_)
  refine Wp.seq (Wp.seq (Wp.reads (is := [0]) (Keep.refl _) (Rn.s rfl Yv.as (Rn.nil)) ?_))
  refine Wp.block ?_
  refine Wp.loop (α := Nat) (fun i ρ ds w' => ds = [] ∧ i ≤ ts.length ∧ Keep w w' ∧ (∀ x ∈ ts.take i, isS x.2.2 = true) ∧ Sub [(0, .slice TA ts.length tc), (4, .int .i64 (i : Int))] ρ) (fun i => ts.length - i) 0
    ⟨rfl, Nat.zero_le _, Keep.refl _, by simp, rfl, rfl, trivial⟩ ?_
  rintro i ρ ds w1 ⟨rfl, hi, hk1, hp, hs⟩
  refine Wp.forget _ ?_ hs
  have hts1 := hts.keep hk1
  refine Wp.seq (Wp.seq (Wp.reads (is := [0, 1, 2, 3]) (Keep.refl _) (Rn.s rfl Yv.mv (Rn.s rfl Yv.mv (Rn.s rfl (Yv.len_v (e := 22) (m := 1)) (Rn.s rfl (Yv.cmp _ rfl) (Rn.nil))))) ?_))
  refine Wp.cond rfl (fun h => ?_) (fun h => ?_)
  · have h := of_decide_eq_true h
    have hil : i < ts.length := by omega
    have hget : nth ts (i : Int) = ts[i] := nth_of (List.getElem?_eq_getElem hil)
    have hmem : nth ts (i : Int) ∈ ts := by rw [hget]; exact List.getElem_mem hil
    obtain ⟨x, hx⟩ : ∃ x, x = nth ts (i : Int) := ⟨_, rfl⟩
    have hk := (hall _ hmem).1.keep hk1
    rw [← hx] at hk hmem
    have hI := ris_cv x.1 x.2.1 x.2.2 w1 hk
    rw [← is_ref, hx] at hI
    refine Wp.skip (Wp.seq (Wp.block ?_))
    refine Wp.seq (Wp.regionL (l := [0, 1, 2, 3, 4, 5]) (WO.rd (is := [0, 1, 2, 3]) (js := [4, 5]) (Keep.refl _) (Rn.s rfl Yv.mv (Rn.s rfl Yv.mv (Rn.s rfl (Yv.ia (e := 22) hts1 (by omega) (by omega)) (Rn.s rfl (Yv.ld (hts1.ld 0 (by omega) (by omega))) (Rn.nil))))) (WO.cv rfl hI (Keep.refl _) (FnOk.of Tryd.func25) (fun wy1 ky1 => WO.rd (is := [5]) (js := []) ((Keep.refl _).trans ky1) (Rn.s rfl Yv.not (Rn.nil)) (WO.done ?_)))))
    rw [← hx]
    cases hIs : isS x.2.2 with
    | false =>
      refine Wp.cond_t rfl ?_
      have e : mergeS (ts.map ts1) = ([], 80) := by
        unfold mergeS
        rw [if_neg]
        intro h
        have := List.all_eq_true.1 h x.2.2 (List.mem_map.2 ⟨x, hmem, rfl⟩)
        rw [hIs] at this
        cases this
      rw [e]
      refine Wp.seq (Wp.reads (is := [0, 1]) (Keep.refl _) (Rn.s rfl Yv.as (Rn.s rfl Yv.as (Rn.nil))) ?_)
      exact Wp.ret (Fin.ret (Res.two rfl rfl rfl) ⟨_, _, rfl, ⟨none, 0, rfl, rfl⟩, (((St.init w).quiet hk1).quiet ky1).nilrow _ _⟩)
    | true =>
      refine Wp.cond_f rfl (Wp.skip (Wp.reads (is := [0, 1, 2]) (Keep.refl _) (Rn.s rfl Yv.mv (Rn.s rfl (Yv.add (by unfold inI; omega)) (Rn.s rfl Yv.as (Rn.nil)))) ?_))
      refine ⟨i + 1, ⟨rfl, hil, hk1.trans ky1, fun z hz => ?_, rfl, rfl, trivial⟩, by omega⟩
      rw [List.take_add_one, List.getElem?_eq_getElem hil] at hz
      rcases List.mem_append.1 hz with hz | hz
      · exact hp z hz
      · have : z = ts[i] := by simpa using hz
        rw [this, ← hget, ← hx]; exact hIs
  have h := of_decide_eq_false h
  rw [List.take_of_length_le (by omega)] at hp
  have hal : (ts.map ts1).all isS = true := by
    rw [List.all_eq_true]
    intro y hy
    obtain ⟨x, hx, rfl⟩ := List.mem_map.1 hy
    exact hp x hx
  refine Wp.exit ?_
  refine Wp.seq (Wp.seq (Wp.reads (is := [0, 1, 2]) (Keep.refl _) (Rn.s rfl Yv.mv (Rn.s rfl (Yv.len_v (e := 22) (m := 1)) (Rn.s rfl (Yv.cmp _ rfl) (Rn.nil)))) ?_))
  cases hc : ts with
  | nil =>
    subst hc
    refine Wp.cond_t rfl ?_
    have e : mergeS (([] : List Tr).map ts1) = ([ndR], 0) := rfl
    rw [e]
    refine Wp.seq (Wp.regionL (l := [0, 1, 2, 3]) (WO.rd (is := [0]) (js := [1, 2, 3]) (Keep.refl _) (Rn.s rfl (Yv.bd (cs := ndR.cs)) (Rn.nil)) (WO.act (hc := rfl) (he := Ef.bsl (T := 32) NdE [ndR] ((St.init w).quiet hk1) (fun bz1 wz1 kz1 hsz1 => WO.rd (is := [2, 3]) (js := []) ((Keep.refl _).trans kz1) (Rn.s rfl Yv.as (Rn.s rfl Yv.as (Rn.nil))) (WO.done ?_))))))
    exact Wp.ret (Fin.ret (Res.two rfl rfl rfl) ⟨_, _, rfl, ⟨_, _, rfl, rfl⟩, hsz1⟩)
  | cons x0 r0 =>
    rw [← hc]
    have h0 : 0 < ts.length := by rw [hc]; simp
    refine Wp.cond_f ?_ (Wp.skip ?_)
    · refine congrArg (fun b => some (Value.bool b)) ?_
      rw [beq_eq_false_iff_ne]; omega
    obtain ⟨G, hG⟩ : ∃ G, G = foldS (nth ts 0).2.2 ((ts.drop 1).map ts1) := ⟨_, rfl⟩
    have e : mergeS (ts.map ts1) = G := by
      rw [hG]
      unfold mergeS
      rw [if_pos hal, hc]
      rfl
    rw [e]
    have hn0 : nth ts 0 ∈ ts := by rw [hc]; exact List.mem_cons_self ..
    obtain ⟨k0, n0⟩ := hall _ hn0
    have i0 := hp _ hn0
    have d0 := isS_depth i0
    refine Wp.seq (Wp.regionL (l := [0, 1, 2, 3, 4, 5]) (WO.act (hc := rfl) (he := Ef.bsl (T := 32) NdE ([] : List Nd) ((St.init w).quiet hk1) (fun b w2 k2 hs2 => ?_))))
    have hts2 := hts1.keep k2
    refine WO.rd (is := [1, 2, 3]) (js := [4, 5]) (Keep.refl _) (Rn.s rfl Yv.mv (Rn.s rfl (Yv.ia (e := 22) hts2 (j := 0) (by omega) (by omega)) (Rn.s rfl (Yv.ld (hts2.ld (i := 0) 0 (by omega) (by omega))) (Rn.nil)))) (WO.act (hc := rfl) (he := Ef.append (ys := (nth ts 0).2.2) hs2 0 ((k0.keep hk1).keep k2) n0 (fitN (by simp only [List.length_nil]; omega)) ?_))
    intro O1 co1 w3 hs3
    refine WO.rd (is := [5]) (js := []) (Keep.refl _) (Rn.s rfl Yv.as (Rn.nil)) (WO.done ?_)
    have hst : St w [] w3 [Ch.row NdE 32 O1 co1 (nth ts 0).2.2] := hs3
    refine Wp.seq (Wp.seq (Wp.reads (is := [0]) (Keep.refl _) (Rn.s rfl Yv.as (Rn.nil)) ?_))
    refine Wp.block ?_
    refine Wp.loop (α := Nat × Tr) (fun q ρ ds w' => ds = [] ∧ 1 ≤ q.1 ∧ q.1 ≤ ts.length ∧ isS q.2.2.2 = true ∧ foldS q.2.2.2 ((ts.drop q.1).map ts1) = G ∧ St w [] w' [Ch.row NdE 32 q.2.1 q.2.2.1 q.2.2.2] ∧
      Sub [(0, .slice TA ts.length tc), (5, .slice q.2.1 q.2.2.2.length q.2.2.1), (6, .int .i64 (q.1 : Int))] ρ) (fun q => ts.length - q.1) (1, (O1, co1, (nth ts 0).2.2))
      ⟨rfl, Nat.le_refl _, by simp only; omega, i0, hG.symm, hst, rfl, rfl, rfl, trivial⟩ ?_
    rintro ⟨q, O, co, xs⟩ ρ ds w4 ⟨rfl, hq1, hq, hxs, hfo, hst, hs⟩
    simp only at hq1 hq hxs hfo hst hs
    refine Wp.forget _ ?_ hs
    have hts4 := hts.keep hst.keep
    refine Wp.seq (Wp.seq (Wp.reads (is := [0, 1, 2, 3]) (Keep.refl _) (Rn.s rfl Yv.mv (Rn.s rfl Yv.mv (Rn.s rfl (Yv.len_v (e := 22) (m := 1)) (Rn.s rfl (Yv.cmp _ rfl) (Rn.nil))))) ?_))
    refine Wp.cond rfl (fun h => ?_) (fun h => ?_)
    · have h := of_decide_eq_true h
      have hil : q < ts.length := by omega
      have hget : nth ts (q : Int) = ts[q] := nth_of (List.getElem?_eq_getElem hil)
      have hmem : nth ts (q : Int) ∈ ts := by rw [hget]; exact List.getElem_mem hil
      obtain ⟨x, hx⟩ : ∃ x, x = nth ts (q : Int) := ⟨_, rfl⟩
      have hk := (hall _ hmem).1.keep hst.keep
      have hi1 := hp _ hmem
      rw [← hx] at hk hi1
      have hdrop : ts.drop q = x :: ts.drop (q + 1) := by rw [List.drop_eq_getElem_cons hil, hx, hget]
      rw [hdrop, List.map_cons, foldS] at hfo
      have dx := isS_depth hi1
      have dxs := isS_depth hxs
      have hde : (nth xs ((0 : Nat) : Int)).depth = (nth x.2.2 ((0 : Nat) : Int)).depth := by
        obtain ⟨a1, F1, rfl, -, -, -, -, a5, -⟩ := is_tree hxs
        obtain ⟨b1, F2, hb, -, -, -, -, b5, -⟩ := is_tree hi1
        rw [hb]
        exact a5.trans b5.symm
      refine Wp.skip (Wp.seq (Wp.block ?_))
      refine Wp.seq (Wp.regionL (l := [0, 1, 2, 3, 4, 5, 6]) (WO.rd (is := [0, 1, 2, 3, 4]) (js := [5, 6]) (Keep.refl _) (Rn.s rfl Yv.mv (Rn.s rfl Yv.mv (Rn.s rfl Yv.mv (Rn.s rfl (Yv.ia (e := 22) hts4 (by omega) (by omega)) (Rn.s rfl (Yv.ld (hts4.ld 0 (by omega) (by omega))) (Rn.nil)))))) ?_))
      rw [← hx]
      refine WO.act (hc := rfl) (he := Ef.cx (rlay_cx O co xs x.1 x.2.1 x.2.2 hxs hi1 xs.length 0 0 w4 (hst.rd 0) hk dxs.1 dx.1 hde (by omega)) hst (FnOk.of Tryd.func42) ?_)
      rintro v D4 w5 ⟨O4, co4, rfl, rfl⟩ hs5
      refine WO.rd (is := [6]) (js := []) (Keep.refl _) (Rn.s rfl Yv.as (Rn.nil)) (WO.done ?_)
      have hst : St w [] w5 [Ch.row NdE 32 O4 co4 (layS xs x.2.2)] := hs5.pick [0]
      have hll : (layF xs x.2.2 xs.length 0 0).length = (layS xs x.2.2).length := rfl
      rw [hll]
      refine Wp.seq (Wp.reads (is := [0, 1, 2]) (Keep.refl _) (Rn.s rfl Yv.mv (Rn.s rfl (Yv.len_v (e := 32) (m := 8)) (Rn.s rfl (Yv.cmp _ rfl) (Rn.nil)))) ?_)
      refine Wp.cond rfl (fun h2 => ?_) (fun h2 => ?_)
      · have h2 := of_decide_eq_true h2
        rw [if_pos h2] at hfo
        subst hfo
        refine Wp.seq (Wp.reads (is := [0, 1]) (Keep.refl _) (Rn.s rfl Yv.as (Rn.s rfl Yv.as (Rn.nil))) ?_)
        exact Wp.ret (Fin.ret (Res.two rfl rfl rfl) ⟨_, _, rfl, ⟨none, 0, rfl, rfl⟩, (hst.sub (List.nil_sublist _)).nilrow _ _⟩)
      · have h2 := of_decide_eq_false h2
        rw [if_neg h2] at hfo
        refine Wp.skip (Wp.reads (is := [0, 1, 2]) (Keep.refl _) (Rn.s rfl Yv.mv (Rn.s rfl (Yv.add (by unfold inI; omega)) (Rn.s rfl Yv.as (Rn.nil)))) ?_)
        exact ⟨(q + 1, (O4, co4, layS xs x.2.2)), ⟨rfl, by simp only; omega, hil, layS_is hxs hi1 (by omega), hfo, hst, rfl, rfl, rfl, trivial⟩, by simp only; omega⟩
    · have h := of_decide_eq_false h
      rw [List.drop_eq_nil_of_le (by omega), List.map_nil, foldS] at hfo
      subst hfo
      refine Wp.exit ?_
      refine Wp.seq (Wp.reads (is := [0, 1, 2]) (Keep.refl _) (Rn.s rfl Yv.mv (Rn.s rfl Yv.as (Rn.s rfl Yv.as (Rn.nil)))) ?_)
      exact Wp.ret (Fin.ret (Res.two rfl rfl rfl) ⟨_, _, rfl, ⟨O, co, rfl, rfl⟩, hst⟩)
end Go.Proofs.YtbmplmehofgocaaDoor.C
