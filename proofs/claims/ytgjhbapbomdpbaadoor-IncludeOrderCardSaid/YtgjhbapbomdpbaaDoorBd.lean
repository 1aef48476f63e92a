/- A path through a tree: tree.step and tree.Get. -/
import Derived.Test.YtgjhbapbomdpbaaDoorBc
set_option linter.unusedVariables false
set_option linter.unusedSimpArgs false
set_option maxRecDepth 10000
namespace Go.Proofs.YtgjhbapbomdpbaaDoor.C
open Go.RowKit Go.Proofs.YtgjhbapbomdpbaaDoor.Sh
/-- the node of a number's text, of numbers from no on -/
def itemI (key : Bs) : List Nat → Nat → Int
  | [], _ => -1
  | n :: r, no => if (Lib.itoa (no : Int) == key) = true then n else itemI key r (no + 1)
def stepS (t : List Nd) (i : Nat) (key : Bs) : Int :=
  if (nth t (i : Int)).kind = 1 then findS t i key else if (nth t (i : Int)).kind = 3 then -1 else itemI key (partsS t i) 0
theorem partsR_len (d : Int) : ∀ (r : List Nd) (k : Nat), (partsR d r k).length ≤ r.length
  | [], k => by simp [partsR]
  | n :: r, k => by
    rw [partsR]
    have := partsR_len d r (k + 1)
    split
    · split
      · simp only [List.length_cons]; omega
      · simp only [List.length_cons]; omega
    · simp
theorem step_cv (A : Option Addr) (c : Nat) (t : List Nd) (i : Nat) (key : Bs) (w0 : World) (hg : Gl w0) (hr : Rd NdE w0 A t) (hi : i < t.length) (hl : t.length < 4000000000000000000) (hd : -1000000 ≤ (nth t (i : Int)).depth ∧ (nth t (i : Int)).depth ≤ 1000000) :
    Cv Tryd.prog 37 [.slice A t.length c, .int .i64 i, S key] (.int .i64 (stepS t i key)) w0 := by
  intro w hk
  have hr := hr.keep hk
  have hg := hg.keep hk
  refine calls_of_Wp (vs := [_, _, _]) Tryd.func37 ?_
  refine Wp.seq (Wp.regionL (l := [0, 1]) (WO.act (hc := rfl) (he := Ef.boxL ([S key]) (St.init w) (fun ba1 wa1 ka1 hsa1 => WO.act (hc := rfl) (he := Ef.allocL (vs := [.int .i64 0]) hsa1 (fun ba2 wa2 ka2 hsa2 => WO.done ?_))))))
  have hra := hr.keep hsa2.keep
  refine Wp.seq (Wp.seq (Wp.reads (is := [0, 1, 2, 3, 4]) (Keep.refl _) (Rn.s rfl Yv.mv (Rn.s rfl Yv.mv (Rn.s rfl (Yv.ia (e := 48) hra (by omega) (by omega)) (Rn.s rfl (Yv.fa (off := 0)) (Rn.s rfl (Yv.ld (hra.ld 0 (by omega) (by omega))) (Rn.nil)))))) ?_))
  have c5 := hsa2.cells 1
  refine Wp.block ?_
  refine Wp.seq (Wp.reads (is := [0, 1]) (Keep.refl _) (Rn.s rfl (Yv.cmp _ rfl) (Rn.s rfl Yv.as (Rn.nil))) ?_)
  refine Wp.cond rfl (fun h => ?_) (fun h => ?_)
  · have h := eq_of_beq h
    refine Wp.seq (Wp.regionL (l := [0, 1, 2, 3, 4]) (WO.rd (is := [0, 1, 2]) (js := [3, 4]) (Keep.refl _) (Rn.s rfl Yv.mv (Rn.s rfl Yv.mv (Rn.s rfl (Yv.ld (c5.at_ 0)) (Rn.nil)))) (WO.cv rfl (find_cv A c t i key wa2 hra hi hl hd) (Keep.refl _) (FnOk.of Tryd.func39) (fun wx1 kx1 => WO.act (hc := rfl) (he := Ef.store (hsa2.quiet kx1) 0 (fun wx2 hsx2 => WO.done ?_))))))
    exact Wp.ret (Fin.ret (resC rfl rfl (hsx2.cells 0)) ⟨by rw [stepS, if_pos h], hsx2.keep⟩)
  have h := ne_of_beq_false h
  refine Wp.seq (Wp.reads (is := [0, 1]) (Keep.refl _) (Rn.s rfl (Yv.cmp _ rfl) (Rn.s rfl Yv.as (Rn.nil))) ?_)
  refine Wp.cond rfl (fun h2 => ?_) (fun h2 => ?_)
  · have h2 := eq_of_beq h2
    refine Wp.seq (Wp.regionL (l := [0]) (WO.act (hc := rfl) (he := Ef.store hsa2 0 (fun wx1 hsx1 => WO.done ?_))))
    exact Wp.ret (Fin.ret (resC rfl rfl (hsx1.cells 0)) ⟨by rw [stepS, if_neg h, if_pos h2], hsx1.keep⟩)
  have h2 := ne_of_beq_false h2
  obtain ⟨G, hG⟩ : ∃ G, G = stepS t i key := ⟨_, rfl⟩
  rw [← hG]
  rw [stepS, if_neg h, if_neg h2] at hG
  refine Wp.skip ?_
  refine Wp.seq (Wp.regionL (l := [0, 1]) (WO.act (hc := rfl) (he := Ef.allocL (vs := [.int .i64 0]) hsa2 (fun bb1 wb1 kb1 hsb1 => WO.act (hc := rfl) (he := Ef.store hsb1 0 (fun wb2 hsb2 => WO.done ?_))))))
  refine Wp.seq (Wp.seq (Wp.regionL (l := [0, 1, 2]) (WO.rd (is := [0, 1]) (js := [2]) (Keep.refl _) (Rn.s rfl Yv.mv (Rn.s rfl Yv.mv (Rn.nil))) (WO.act (hc := rfl) (he := Ef.cx (of_calls i A c t wb2) hsb2 (FnOk.of Tryd.func59) ?_)))))
  rintro v D wd1 ⟨b1, b2, rfl, rfl⟩ hsd1
  refine WO.done ?_
  have hst : St w [] wd1 [Ch.cells b1 3 [.int .i64 i], Ch.cells b2 43 [.slice A t.length c], Ch.cells bb1 3 [.int .i64 ((0 : Nat) : Int)], Ch.cells ba2 3 [.int .i64 0], Ch.cells ba1 9 [S key]] := hsd1
  refine Wp.block ?_
  refine Wp.ranges hst (of_tells b1 b2 i A c t hi hl hd)
    (fun k D => D = [Ch.cells b1 3 [.int .i64 i], Ch.cells b2 43 [.slice A t.length c], Ch.cells bb1 3 [.int .i64 (k : Int)], Ch.cells ba2 3 [.int .i64 0], Ch.cells ba1 9 [S key]] ∧ itemI key ((partsS t i).drop k) k = G)
    (fun c' D => c' = .ret ∧ D = [Ch.cells ba2 3 [.int .i64 G]])
    ?_ ⟨rfl, hG.symm⟩ ?_ ?_ ?_ (hf := Tryd.func87)
  · rintro k D' W ⟨rfl, -⟩ h
    exact ⟨h.cells 0, h.cells 1, hr.keep h.keep⟩
  · rintro k x l kb busy D' W hx ⟨rfl, hfd⟩ hW
    have hkl : k < (partsS t i).length := (List.getElem?_eq_some_iff.1 hx).1
    have hpl := partsR_len (nth t (i : Int)).depth (t.drop (i + 1)) (i + 1)
    have hpl2 : (partsS t i).length ≤ t.length := by unfold partsS; simp only [List.length_drop] at hpl; omega
    rw [List.drop_eq_getElem_cons hkl, (List.getElem?_eq_some_iff.1 hx).2, itemI] at hfd
    refine Wp.reads (is := [0]) (Keep.refl _) (Rn.s rfl Yv.as (Rn.nil)) ⟨rfl, Keep.refl _, ?_⟩
    intro W2 hW2
    have c7 := hW2.cells 4
    have c5 := hW2.cells 6
    have hg2 := hg.keep hW2.keep
    refine Wp.block (Wp.seq (Wp.seq (Wp.draws [] mixed (WD.rd (is := [0, 2]) (fun _ _ _ _ _ h => h) (Keep.drew _) (Rn.s rfl (Yv.ld (c7.at_ 0)) (Rn.s rfl (Yv.ld (c5.at_ 0)) (Rn.nil))) (WD.cv 1 rfl (itoa_cv (k : Int) (by omega) (by omega) _ hg2) (Keep.drew _) (FnOk.of Tryd.func60) (fun wx1 kx1 => WD.rd (is := [3]) (fun _ _ _ _ _ h => h) ((Keep.drew _).trans kx1) (Rn.s rfl (Yv.scm _ rfl) (Rn.nil)) (WD.done ?_)))))))
    have hW3 := hW2.quiet ((Keep.drew _).trans kx1)
    have c7 := hW3.cells 4
    refine Wp.cond rfl (fun h3 => ?_) (fun h3 => ?_)
    · rw [if_pos h3] at hfd
      refine Wp.seq (Wp.regionL (l := [0, 1]) (WO.rd (is := [0]) (js := [1]) (Keep.refl _) (Rn.s rfl Yv.mv (Rn.nil)) (WO.act (hc := rfl) (he := Ef.store hW3 5 (fun wy1 hsy1 => WO.done ?_)))))
      exact Wp.ret ⟨_, ⟨rfl, rfl⟩, by rw [← hfd]; exact hsy1.pick [1, 2, 0]⟩
    · rw [if_neg (by rw [h3]; decide)] at hfd
      refine Wp.skip (Wp.regionL (l := [0, 1, 2]) (WO.rd (is := [0, 1]) (js := [2]) (Keep.refl _) (Rn.s rfl (Yv.ld (c7.at_ 0)) (Rn.s rfl (Yv.add (by unfold inI; omega)) (Rn.nil))) (WO.act (hc := rfl) (he := Ef.store hW3 4 (fun wy1 hsy1 => WO.done ?_)))))
      exact ⟨_, ⟨rfl, hfd⟩, hsy1.pick [1, 2, 3, 4, 0, 5, 6]⟩
  · rintro kb D' W ⟨rfl, hfd⟩ hW
    rw [List.drop_eq_nil_of_le (Nat.le_refl _), itemI] at hfd
    subst hfd
    refine Wp.seq (Wp.regionL (l := [0]) (WO.act (hc := rfl) (he := Ef.store hW 4 (fun wy1 hsy1 => WO.done ?_))))
    have hs2 := hsy1.pick [1, 0]
    exact Wp.ret (Fin.retM (Lv.one hs2 0 fun w2 hst2 => ⟨_, resC rfl rfl (hst2.cells 0) , rfl, hst2.keep⟩))
  · rintro kb c' D' W ⟨rfl, rfl⟩ hW
    exact Wp.ret (Fin.retM (Lv.one hW 0 fun w2 hst2 => ⟨_, resC rfl rfl (hst2.cells 0), rfl, hst2.keep⟩))

abbrev StE : Enc Bs := ⟨1, fun s => [S s], fun _ => rfl⟩
theorem isGo_depth (t : List Nd) : ∀ (r : List Nd) (a : Nd) (i : Int) (st : List OB), isGo t r a i st = true → ∀ x ∈ r, 1 ≤ x.depth ∧ x.depth ≤ 32
  | [], _, _, _, _, x, hx => by cases hx
  | n :: r, a, i, st, h, x, hx => by
    rw [isGo] at h
    split at h
    · cases h
    rename_i hf
    have hf : fitsB n a = true := by simpa using hf
    have hn : 1 ≤ n.depth ∧ n.depth ≤ 32 := by
      unfold fitsB at hf
      simp only [Bool.and_eq_true, Bool.or_eq_true, decide_eq_true_eq, beq_iff_eq] at hf
      omega
    have ih : ∀ st', isGo t r n (i + 1) st' = true → ∀ x ∈ r, 1 ≤ x.depth ∧ x.depth ≤ 32 := fun st' => isGo_depth t r n (i + 1) st'
    rcases List.mem_cons.1 hx with rfl | hx
    · exact hn
    split at h
    · cases h
    split at h
    · split at h
      · cases h
      · exact ih _ h x hx
    · split at h
      · cases h
      · exact ih _ h x hx
theorem isS_depth {t : List Nd} (h : isS t = true) : 0 < t.length ∧ t.length ≤ 16384 ∧ ∀ i : Nat, i < t.length → 0 ≤ (nth t (i : Int)).depth ∧ (nth t (i : Int)).depth ≤ 32 := by
  cases t with
  | nil => cases h
  | cons a r =>
    unfold isS at h
    simp only at h
    split at h
    · cases h
    rename_i h1
    split at h
    · cases h
    rename_i h2
    have h2 : rootOk a = true := by simpa using h2
    refine ⟨by simp, by omega, fun i hi => ?_⟩
    cases i with
    | zero =>
      show 0 ≤ a.depth ∧ a.depth ≤ 32
      unfold rootOk at h2
      simp at h2
      omega
    | succ j =>
      have hj : j < r.length := by simpa using hi
      have e : nth (a :: r) ((j + 1 : Nat) : Int) = r[j] := by rw [nth_nat]; simp [hj]
      rw [e]
      have := isGo_depth _ _ _ _ _ h r[j] (List.getElem_mem hj)
      omega
theorem orN_bd {o : Option Nat} {m : Nat} (h : ∀ n, o = some n → n < m) : -1 ≤ orN o ∧ orN o < m := by
  cases o with
  | none => show -1 ≤ (-1 : Int) ∧ (-1 : Int) < m; omega
  | some n => have := h n rfl; simp only [orN]; omega
theorem itemI_bd (key : Bs) (m : Nat) : ∀ (l : List Nat) (no : Nat), (∀ x ∈ l, x < m) → -1 ≤ itemI key l no ∧ itemI key l no < m
  | [], _, _ => by rw [itemI]; omega
  | n :: r, no, h => by
    rw [itemI]
    split
    · have := h n (List.mem_cons_self ..); omega
    · exact itemI_bd key m r (no + 1) fun x hx => h x (List.mem_cons_of_mem _ hx)
theorem stepS_bd (t : List Nd) (i : Nat) (key : Bs) (hi : i < t.length) : -1 ≤ stepS t i key ∧ stepS t i key < t.length := by
  unfold stepS
  split
  · unfold findS
    exact orN_bd fun n h => (partsS_mem hi n (List.mem_of_find?_eq_some h)).2
  · split
    · omega
    · exact itemI_bd key t.length _ _ fun x hx => (partsS_mem hi x hx).2
def getGo (t : List Nd) : List Bs → Nat → Int
  | [], i => i
  | key :: r, i => if stepS t i key < 0 then -1 else getGo t r (stepS t i key).toNat
def getS (t : List Nd) (path : List Bs) : Int := if isS t = true then getGo t path 0 else -1
theorem get_cv (A : Option Addr) (c : Nat) (t : List Nd) (B : Option Addr) (d : Nat) (path : List Bs) (w0 : World) (hg : Gl w0) (hr : Rd NdE w0 A t) (hp : Rd StE w0 B path) (hpl : path.length < 4000000000000000000) :
    Cv Tryd.prog 22 [.slice A t.length c, .slice B path.length d] (.int .i64 (getS t path)) w0 := by
  intro w hk
  have hr := hr.keep hk
  have hp := hp.keep hk
  have hg := hg.keep hk
  refine calls_of_Wp (vs := [_, _]) Tryd.func22 ?_
  refine Wp.seq (Wp.reads (is := [0]) (Keep.refl _) (Rn.s rfl Yv.as (Rn.nil)) ?_)
  refine Wp.seq (Wp.seq (Wp.regionL (l := [0, 1, 2]) (WO.rd (is := [0]) (js := [1, 2]) (Keep.refl _) (Rn.s rfl Yv.mv (Rn.nil)) (WO.cv rfl (is_cv A c t w hr) (Keep.refl _) (FnOk.of Tryd.func27) (fun wa1 ka1 => WO.rd (is := [2]) (js := []) ((Keep.refl _).trans ka1) (Rn.s rfl Yv.not (Rn.nil)) (WO.done ?_))))))
  cases his : isS t with
  | false =>
    refine Wp.cond_t rfl ?_
    refine Wp.seq (Wp.reads (is := [0]) (Keep.refl _) (Rn.s rfl Yv.as (Rn.nil)) ?_)
    exact Wp.ret (Fin.ret (Res.one rfl rfl) ⟨by rw [getS, if_neg (by rw [his]; decide)], ka1⟩)
  | true =>
    obtain ⟨hl0, hl1, hdp⟩ := isS_depth his
    refine Wp.cond_f rfl (Wp.skip ?_)
    obtain ⟨G, hG⟩ : ∃ G, G = getS t path := ⟨_, rfl⟩
    rw [← hG]
    rw [getS, if_pos his] at hG
    refine Wp.seq (Wp.reads (is := [0]) (Keep.refl _) (Rn.s rfl Yv.as (Rn.nil)) ?_)
    refine Wp.seq (Wp.seq (Wp.reads (is := [0, 1, 2]) (Keep.refl _) (Rn.s rfl Yv.mv (Rn.s rfl (Yv.len_v (e := 9) (m := 1)) (Rn.s rfl Yv.mv (Rn.nil)))) ?_))
    refine Wp.block ?_
    refine Wp.loop (α := Nat × Nat) (fun q ρ ds w' => ds = [] ∧ q.1 ≤ path.length ∧ q.2 < t.length ∧ getGo t (path.drop q.1) q.2 = G ∧ Keep w w' ∧
      Sub [(0, .slice A t.length c), (5, .int .i64 (q.2 : Int)), (11, .slice B path.length d), (12, .int .i64 (path.length : Int)), (13, .int .i64 (q.1 : Int))] ρ) (fun q => path.length - q.1) (0, 0)
      ⟨rfl, Nat.zero_le _, hl0, hG.symm, ka1, rfl, rfl, rfl, rfl, rfl, trivial⟩ ?_
    rintro ⟨j, i⟩ ρ ds w' ⟨rfl, hj, hi, hgo, hkw, hs⟩
    simp only at hj hi hgo hs
    refine Wp.forget _ ?_ hs
    have hr' := hr.keep hkw
    have hp' := hp.keep hkw
    have hg' := hg.keep hkw
    refine Wp.seq (Wp.reads (is := [0]) (Keep.refl _) (Rn.s rfl (Yv.cmp _ rfl) (Rn.nil)) ?_)
    refine Wp.seq (Wp.cond rfl (fun h => ?_) (fun h => ?_))
    · have h := of_decide_eq_true h
      have hjl : j < path.length := by omega
      obtain ⟨key, hky⟩ : ∃ key, key = nth path (j : Int) := ⟨_, rfl⟩
      have hkt : path[j] = key := by rw [hky, nth_nat]; simp [hjl]
      rw [List.drop_eq_getElem_cons hjl, hkt, getGo] at hgo
      have hsb := stepS_bd t i key hi
      have hdi := hdp i hi
      have hst : Cv Tryd.prog 37 [.slice A t.length c, .int .i64 i, S (nth path (j : Int))] (.int .i64 (stepS t i key)) w' := by rw [← hky]; exact step_cv A c t i key w' hg' hr' hi (by omega) ⟨by omega, by omega⟩
      refine Wp.skip (Wp.seq (Wp.block ?_))
      refine Wp.seq (Wp.reads (is := [0, 1, 2]) (Keep.refl _) (Rn.s rfl (Yv.ia (e := 9) hp' (by omega) (by omega)) (Rn.s rfl (Yv.ld (hp'.ld 0 (by omega) (by omega))) (Rn.s rfl Yv.as (Rn.nil)))) ?_)
      refine Wp.seq (Wp.regionL (l := [0, 1, 2, 3, 4]) (WO.rd (is := [0, 1, 2]) (js := [3, 4]) (Keep.refl _) (Rn.s rfl Yv.mv (Rn.s rfl Yv.mv (Rn.s rfl Yv.mv (Rn.nil)))) (WO.cv rfl hst (Keep.refl _) (FnOk.of Tryd.func37) (fun wx1 kx1 => WO.rd (is := [4]) (js := []) ((Keep.refl _).trans kx1) (Rn.s rfl Yv.as (Rn.nil)) (WO.done ?_)))))
      refine Wp.seq (Wp.reads (is := [0, 1]) (Keep.refl _) (Rn.s rfl Yv.mv (Rn.s rfl (Yv.cmp _ rfl) (Rn.nil))) ?_)
      refine Wp.cond rfl (fun h2 => ?_) (fun h2 => ?_)
      · have h2 := of_decide_eq_true h2
        rw [if_pos h2] at hgo
        refine Wp.seq (Wp.reads (is := [0]) (Keep.refl _) (Rn.s rfl Yv.as (Rn.nil)) ?_)
        exact Wp.ret (Fin.ret (Res.one rfl rfl) ⟨by rw [← hgo], hkw.trans kx1⟩)
      · have h2 := of_decide_eq_false h2
        rw [if_neg h2] at hgo
        obtain ⟨m, hm⟩ : ∃ m : Nat, stepS t i key = m := ⟨(stepS t i key).toNat, by omega⟩
        rw [hm, Int.toNat_natCast] at hgo
        refine Wp.skip ?_
        refine Wp.reads (is := [0, 1]) (Keep.refl _) (Rn.s rfl (Yv.add (by unfold inI; omega)) (Rn.s rfl Yv.mv (Rn.nil))) ?_
        refine ⟨(j + 1, m), ⟨rfl, hjl, by simp only; omega, hgo, hkw.trans kx1, rfl, by rw [← hm]; rfl, rfl, rfl, rfl, trivial⟩, by simp only; omega⟩
    · have h := of_decide_eq_false h
      rw [List.drop_eq_nil_of_le (by omega), getGo] at hgo
      refine Wp.exit ?_
      refine Wp.seq (Wp.reads (is := [0, 1]) (Keep.refl _) (Rn.s rfl Yv.mv (Rn.s rfl Yv.as (Rn.nil))) ?_)
      exact Wp.ret (Fin.ret (Res.one rfl rfl) ⟨by rw [← hgo], hkw⟩)
end Go.Proofs.YtgjhbapbomdpbaaDoor.C
