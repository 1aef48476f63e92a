/- The parts of a node: parts.Of (an iterator), parts.Find, parts.End. -/
import Derived.Test.YtgjhbapbomdpbaaDoorJ5
set_option linter.unusedVariables false
set_option linter.unusedSimpArgs false
set_option maxRecDepth 10000
namespace Go.Proofs.YtgjhbapbomdpbaaDoor.C
open Go.RowKit Go.Proofs.YtgjhbapbomdpbaaDoor.Sh
/-- the parts behind a node of depth d, from number k on -/
def partsR (d : Int) : List Nd → Nat → List Nat
  | [], _ => []
  | n :: r, k => if d < n.depth then (if n.depth = d + 1 then k :: partsR d r (k + 1) else partsR d r (k + 1)) else []
def partsS (t : List Nd) (i : Nat) : List Nat := partsR (nth t (i : Int)).depth (t.drop (i + 1)) (i + 1)
theorem partsR_mem (d : Int) : ∀ (r : List Nd) (k : Nat), ∀ x ∈ partsR d r k, k ≤ x ∧ x < k + r.length
  | [], k, x, h => by cases h
  | n :: r, k, x, h => by
    rw [partsR] at h
    have ih := partsR_mem d r (k + 1)
    simp only [List.length_cons]
    split at h
    · split at h
      · rcases List.mem_cons.1 h with h | h
        · omega
        · have := ih x h; omega
      · have := ih x h; omega
    · cases h
theorem partsS_mem {t : List Nd} {i : Nat} (hi : i < t.length) : ∀ x ∈ partsS t i, i < x ∧ x < t.length := by
  intro x h
  have := partsR_mem _ _ _ x h
  simp only [List.length_drop] at this
  omega
/-- what an iterator over a node's parts leans on -/
def OfF (b1 b2 : Nat) (i : Nat) (A : Option Addr) (c : Nat) (t : List Nd) (W : World) : Prop := Cells W b1 [.int .i64 i] ∧ Cells W b2 [.slice A t.length c] ∧ Rd NdE W A t
theorem of_tells (b1 b2 : Nat) (i : Nat) (A : Option Addr) (c : Nat) (t : List Nd) (hi : i < t.length) (hl : t.length < 4000000000000000000) (hd : -1000000 ≤ (nth t (i : Int)).depth ∧ (nth t (i : Int)).depth ≤ 1000000) :
    Tells Tryd.prog 87 [PB b1, PB b2] (fun x : Nat => [.int .i64 x]) (partsS t i) (OfF b1 b2 i A c t) := by
  intro l J Jx W hJ hJx hF hyield h0
  obtain ⟨c1, c2, hr⟩ := hF _ _ h0
  refine calls_of_Wp (vs := [_, _, _]) Tryd.func87 ?_
  refine Wp.seq (Wp.reads (is := [0, 1, 2]) (Keep.refl _) (Rn.s rfl (Yv.ld (c1.at_ 0)) (Rn.s rfl (Yv.add (by unfold inI; omega)) (Rn.s rfl Yv.as (Rn.nil)))) ?_)
  refine Wp.block ?_
  refine Wp.loop (α := Nat × Nat) (fun q ρ ds w' => ds = [] ∧ i < q.1 ∧ q.1 ≤ t.length ∧ q.2 ≤ (partsS t i).length ∧ (partsS t i).drop q.2 = partsR (nth t (i : Int)).depth (t.drop q.1) q.1 ∧ J q.2 w' ∧ Sub [(0, .func (.yield l) #[] #[]), (1, PB b1), (2, PB b2), (4, .int .i64 (q.1 : Int))] ρ) (fun q => t.length - q.1) (i + 1, 0)
    ⟨rfl, by simp, by simp; omega, Nat.zero_le _, rfl, h0, rfl, rfl, rfl, by simp; rfl, trivial⟩ ?_
  rintro ⟨k, j⟩ ρ ds w' ⟨rfl, hik, hk, hj, hdr, hJj, hs⟩
  simp only at hik hk hj hdr hJj hs
  refine Wp.forget _ ?_ hs
  obtain ⟨c1, c2, hr⟩ := hF _ _ hJj
  refine Wp.seq (Wp.seq (Wp.readsD (is := [0, 1, 2, 3, 4, 5, 6, 7, 8, 9, 10, 11, 12, 13, 14, 15, 16]) mixed (fun _ _ _ _ _ h => h) (Keep.refl _) (Rn.s rfl Yv.mv (Rn.s rfl (Yv.ld (c2.at_ 0)) (Rn.s rfl (Yv.len_v (e := 48) (m := 8)) (Rn.s rfl (Yv.cmp _ rfl) (Rn.s rfl Yv.mv (Rn.and (is := [5, 6, 7, 8, 9, 10, 11, 12, 13, 14, 15, 16]) (js := []) (t := 11) (d := 23) (hg := rfl) (ht := fun h4 => have h4 := of_decide_eq_true h4; Rn.s rfl (Yv.ld (c2.at_ 0)) (Rn.s rfl Yv.mv (Rn.s rfl (Yv.ia (e := 48) hr (by omega) (by omega)) (Rn.s rfl (Yv.fa (off := 1)) (Rn.s rfl (Yv.ld (hr.ld 1 (by omega) (by omega))) (Rn.s rfl (Yv.ld (c2.at_ 0)) (Rn.s rfl (Yv.ld (c1.at_ 0)) (Rn.s rfl (Yv.ia (e := 48) hr (j := i) (by omega) (by omega)) (Rn.s rfl (Yv.fa (off := 1)) (Rn.s rfl (Yv.ld (hr.ld (i := i) 1 (by omega) (by omega))) (Rn.s rfl (Yv.cmp _ rfl) (Rn.s rfl Yv.pick_t ((Rn.e 12 rfl rfl)))))))))))))) (hf := fun _ => Rn.no rfl (Rn.no rfl (Rn.no rfl (Rn.no rfl (Rn.no rfl (Rn.no rfl (Rn.no rfl (Rn.no rfl (Rn.no rfl (Rn.no rfl (Rn.no rfl (Rn.s rfl Yv.pick_f (Rn.e 12 rfl rfl))))))))))))) (k := Rn.nil))))))) ?_))
  have hJj := hJ _ _ _ (Keep.drew _) hJj
  obtain ⟨c1, c2, hr⟩ := hF _ _ hJj
  refine Wp.cond rfl (fun h => ?_) (fun h => ?_)
  · simp only [Bool.and_eq_true, decide_eq_true_eq] at h
    obtain ⟨h1, h2⟩ := h
    have hkl : k < t.length := by omega
    obtain ⟨n, hn⟩ : ∃ n, n = nth t (k : Int) := ⟨_, rfl⟩
    have hnt : t[k] = n := by rw [hn, nth_nat]; simp [hkl]
    rw [List.drop_eq_getElem_cons hkl, hnt, partsR, if_pos (by rw [hn]; exact h2)] at hdr
    refine Wp.skip (Wp.seq (Wp.block ?_))
    refine Wp.seq (Wp.draws [15] mixed (WD.rd (is := [0, 1, 2, 3, 4, 5, 6, 7, 8, 9, 10, 11, 12]) (fun _ _ _ _ _ h => h) (Keep.drew _) (Rn.s rfl (Yv.ld (c2.at_ 0)) (Rn.s rfl Yv.mv (Rn.s rfl (Yv.ia (e := 48) hr (by omega) (by omega)) (Rn.s rfl (Yv.fa (off := 1)) (Rn.s rfl (Yv.ld (hr.ld 1 (by omega) (by omega))) (Rn.s rfl (Yv.ld (c2.at_ 0)) (Rn.s rfl (Yv.ld (c1.at_ 0)) (Rn.s rfl (Yv.ia (e := 48) hr (j := i) (by omega) (by omega)) (Rn.s rfl (Yv.fa (off := 1)) (Rn.s rfl (Yv.ld (hr.ld (i := i) 1 (by omega) (by omega))) (Rn.s rfl (Yv.add (by unfold inI; omega)) (Rn.s rfl (Yv.cmp _ rfl) (Rn.s rfl Yv.mv (Rn.nil)))))))))))))) ?_))
    have hJj := hJ _ _ _ (Keep.drew _) hJj
    cases hq : ((nth t (k : Int)).depth == (nth t (i : Int)).depth + 1) with
    | false =>
      rw [if_neg (by rw [hn]; exact ne_of_beq_false hq)] at hdr
      refine WD.rd (is := [13, 14]) (fun _ _ _ _ _ h => h) (Keep.refl _) (Rn.no rfl (Rn.no rfl Rn.nil)) (WD.no 15 rfl (WD.rd (is := [16, 17]) (fun _ _ _ _ _ h => h) (Keep.refl _) (Rn.no rfl (Rn.s rfl Yv.pick_f Rn.nil)) (WD.done ?_)))
      refine Wp.cond_f rfl (Wp.skip ?_)
      refine Wp.reads (is := [0, 1, 2]) (Keep.refl _) (Rn.s rfl Yv.mv (Rn.s rfl (Yv.add (by unfold inI; omega)) (Rn.s rfl Yv.as (Rn.nil)))) ?_
      exact ⟨(k + 1, j), ⟨rfl, by simp only; omega, hkl, hj, hdr, hJj, rfl, rfl, rfl, by simp; rfl, trivial⟩, by simp only; omega⟩
    | true =>
      rw [if_pos (by rw [hn]; exact eq_of_beq hq)] at hdr
      have hx : (partsS t i)[j]? = some k := by
        have := congrArg List.head? hdr
        rw [List.head?_drop] at this
        exact this
      have hjl : j < (partsS t i).length := (List.getElem?_eq_some_iff.1 hx).1
      have hy := hyield j k _ hx hJj
      refine WD.rd (is := [13, 14]) (fun _ _ _ _ _ h => h) (Keep.refl _) (Rn.s rfl Yv.mv (Rn.s rfl Yv.mv (Rn.nil))) (WD.act 15 (hc := rfl) (he := Ef.yield hy ?_))
      rintro e w2 (⟨rfl, hj2⟩ | ⟨rfl, hx2⟩)
      · refine ⟨fun h => (h (by decide)).elim, WD.rd (is := [16, 17]) (fun _ _ _ _ _ h => h) (Keep.refl _) (Rn.s rfl Yv.not (Rn.s rfl Yv.pick_t (Rn.nil))) (WD.done ?_)⟩
        refine Wp.cond_f rfl (Wp.skip ?_)
        refine Wp.reads (is := [0, 1, 2]) (Keep.refl _) (Rn.s rfl Yv.mv (Rn.s rfl (Yv.add (by unfold inI; omega)) (Rn.s rfl Yv.as (Rn.nil)))) ?_
        refine ⟨(k + 1, j + 1), ⟨rfl, by simp only; omega, hkl, hjl, ?_, hj2, rfl, rfl, rfl, by simp; rfl, trivial⟩, by simp only; omega⟩
        rw [List.drop_add_one_eq_tail_drop, hdr]; rfl
      · refine ⟨fun h => (h (by decide)).elim, WD.rd (is := [16, 17]) (fun _ _ _ _ _ h => h) (Keep.refl _) (Rn.s rfl Yv.not (Rn.s rfl Yv.pick_t (Rn.nil))) (WD.done ?_)⟩
        refine Wp.cond_t rfl ?_
        exact Wp.ret (Fin.ret (Res.none rfl) ⟨⟨_, rfl⟩, .inr ⟨j, hx2⟩⟩)
  · refine Wp.exit ?_
    have e0 : partsR (nth t (i : Int)).depth (t.drop k) k = [] := by
      by_cases hkl : k < t.length
      · have hnt : t[k] = nth t (k : Int) := by rw [nth_nat]; simp [hkl]
        rw [List.drop_eq_getElem_cons hkl, hnt, partsR, if_neg]
        intro h2
        simp only [Bool.and_eq_false_iff, decide_eq_false_iff_not] at h
        omega
      · rw [List.drop_eq_nil_of_le (by omega)]; rfl
    rw [e0] at hdr
    have hjl : j = (partsS t i).length := by
      have := List.drop_eq_nil_iff.1 hdr
      omega
    exact Fin.normal (Res.none rfl) ⟨⟨_, rfl⟩, .inl (by rw [← hjl]; exact hJj)⟩

theorem of_calls (i : Nat) (A : Option Addr) (c : Nat) (t : List Nd) (w : World) : Cx Tryd.prog 59 [.slice A t.length c, .int .i64 i] [] (fun v D => ∃ b1 b2, v = .func (.func 87) #[] #[PB b1, PB b2] ∧ D = [Ch.cells b1 3 [.int .i64 i], Ch.cells b2 43 [.slice A t.length c]]) w := by
  refine calls_of_Wp (vs := [_, _]) Tryd.func59 ?_
  refine Wp.seq (Wp.regionL (l := [0, 1, 2]) (WO.act (hc := rfl) (he := Ef.boxL ([.slice A t.length c]) (St.init w) (fun bx1 wx1 kx1 hsx1 => WO.act (hc := rfl) (he := Ef.boxL ([.int .i64 i]) hsx1 (fun bx2 wx2 kx2 hsx2 => WO.rd (is := [2]) (js := []) (((Keep.refl _).trans kx1).trans kx2) (Rn.s rfl Yv.as (Rn.nil)) (WO.done ?_)))))))
  refine Wp.seq (Wp.reads (is := [0, 1]) (Keep.refl _) (Rn.s rfl Yv.mf (Rn.s rfl Yv.as (Rn.nil))) ?_)
  exact Wp.ret (Fin.ret (Res.one rfl rfl) ⟨_, _, rfl, ⟨bx2, bx1, rfl, rfl⟩, hsx2⟩)
theorem resC {P : Program} {fn : Func} {N : Nat} {ρ : Env} {w : World} {u bu : Nat} {tu : TypeId} {x : Value} (h : fn.results = #[.cell u tu]) (hq : lk ρ u = some (PB bu)) (hx : Cells w bu [x]) (hu : scB P tu = true := by kernel_rfl) : Res P fn N ρ w x := fun a ds ha => by
  have h2 := ha.val u _ hq
  have e2 : (loadVar tu ⟨bu, 0, none⟩).run P w = .ok x w := by simp [loadVar, run_isAgg_sc (scB_of hu), hx 0 x rfl]
  simp only [results, h]
  simp at h2
  simp [h2, e2, asAddr]
def orN : Option Nat → Int
  | some n => n
  | none => -1
def findS (t : List Nd) (i : Nat) (key : Bs) : Int := orN ((partsS t i).find? (fun n : Nat => (nth t (n : Int)).key == key))
theorem find_drop {α : Type} {G : Option α} {p : α → Bool} {x : α} {l : List α} {k : Nat} (hx : l[k]? = some x) (h : (l.drop k).find? p = G) : (p x = true → G = some x) ∧ (p x = false → (l.drop (k + 1)).find? p = G) := by
  have hk := (List.getElem?_eq_some_iff.1 hx).1
  rw [List.drop_eq_getElem_cons hk, (List.getElem?_eq_some_iff.1 hx).2, List.find?_cons] at h
  constructor
  · intro e; rw [e] at h; exact h.symm
  · intro e; rw [e] at h; exact h
theorem find_cv (A : Option Addr) (c : Nat) (t : List Nd) (i : Nat) (key : Bs) (w0 : World) (hr : Rd NdE w0 A t) (hi : i < t.length) (hl : t.length < 4000000000000000000) (hd : -1000000 ≤ (nth t (i : Int)).depth ∧ (nth t (i : Int)).depth ≤ 1000000) :
    Cv Tryd.prog 39 [.slice A t.length c, .int .i64 i, S key] (.int .i64 (findS t i key)) w0 := by
  intro w hk
  have hr := hr.keep hk
  obtain ⟨G, hG⟩ : ∃ G, G = (partsS t i).find? (fun n : Nat => (nth t (n : Int)).key == key) := ⟨_, rfl⟩
  have hGi : findS t i key = orN G := by rw [findS, ← hG]
  rw [hGi]
  refine calls_of_Wp (vs := [_, _, _]) Tryd.func39 ?_
  refine Wp.seq (Wp.regionL (l := [0, 1, 2]) (WO.act (hc := rfl) (he := Ef.boxL ([.slice A t.length c]) (St.init w) (fun ba1 wa1 ka1 hsa1 => WO.act (hc := rfl) (he := Ef.boxL ([S key]) hsa1 (fun ba2 wa2 ka2 hsa2 => WO.act (hc := rfl) (he := Ef.allocL (vs := [.int .i64 0]) hsa2 (fun ba3 wa3 ka3 hsa3 => WO.done ?_))))))))
  have c3 := hsa3.cells 2
  refine Wp.seq (Wp.seq (Wp.regionL (l := [0, 1, 2]) (WO.rd (is := [0, 1]) (js := [2]) (Keep.refl _) (Rn.s rfl (Yv.ld (c3.at_ 0)) (Rn.s rfl Yv.mv (Rn.nil))) (WO.act (hc := rfl) (he := Ef.cx (of_calls i A c t wa3) hsa3 (FnOk.of Tryd.func59) ?_)))))
  rintro v D wd1 ⟨b1, b2, rfl, rfl⟩ hsd1
  refine WO.done ?_
  have hst : St w [] wd1 [Ch.cells b1 3 [.int .i64 i], Ch.cells b2 43 [.slice A t.length c], Ch.cells ba3 3 [.int .i64 0], Ch.cells ba2 9 [S key], Ch.cells ba1 43 [.slice A t.length c]] := hsd1
  refine Wp.block ?_
  refine Wp.ranges hst (of_tells b1 b2 i A c t hi hl hd)
    (fun k D => D = [Ch.cells b1 3 [.int .i64 i], Ch.cells b2 43 [.slice A t.length c], Ch.cells ba3 3 [.int .i64 0], Ch.cells ba2 9 [S key], Ch.cells ba1 43 [.slice A t.length c]] ∧ ((partsS t i).drop k).find? (fun n : Nat => (nth t (n : Int)).key == key) = G)
    (fun c' D => c' = .ret ∧ ∃ n : Nat, G = some n ∧ D = [Ch.cells ba3 3 [.int .i64 n]])
    ?_ ⟨rfl, hG.symm⟩ ?_ ?_ ?_ (hf := Tryd.func87)
  · rintro k D' W ⟨rfl, -⟩ h
    exact ⟨h.cells 0, h.cells 1, hr.keep h.keep⟩
  · rintro k x l kb busy D' W hx ⟨rfl, hfd⟩ hW
    have hxm := partsS_mem hi x (List.mem_of_getElem? hx)
    refine Wp.reads (is := [0]) (Keep.refl _) (Rn.s rfl Yv.as (Rn.nil)) ⟨rfl, Keep.refl _, ?_⟩
    intro W2 hW2
    have hr2 : Rd NdE W2 A t := hr.keep hW2.keep
    have c5 := hW2.cells 5
    have c3 := hW2.cells 6
    obtain ⟨f1, f2⟩ := find_drop hx hfd
    refine Wp.block (Wp.seq (Wp.readsD (is := [0, 1, 2, 3, 4, 5, 6]) mixed (fun _ _ _ _ _ h => h) (Keep.refl _) (Rn.s rfl (Yv.ld (c3.at_ 0)) (Rn.s rfl Yv.mv (Rn.s rfl (Yv.ia (e := 48) hr2 (by omega) (by omega)) (Rn.s rfl (Yv.fa (off := 2)) (Rn.s rfl (Yv.ld (hr2.ld 2 (by omega) (by omega))) (Rn.s rfl (Yv.ld (c5.at_ 0)) (Rn.s rfl (Yv.scm _ rfl) (Rn.nil)))))))) ?_))
    refine Wp.cond rfl (fun h => ?_) (fun h => ?_)
    · refine Wp.seq (Wp.regionL (l := [0, 1]) (WO.rd (is := [0]) (js := [1]) (Keep.refl _) (Rn.s rfl Yv.mv (Rn.nil)) (WO.act (hc := rfl) (he := Ef.store (hW2.quiet (Keep.drew _)) 4 (fun wy1 hsy1 => WO.done ?_)))))
      exact Wp.ret ⟨_, ⟨rfl, x, f1 h, rfl⟩, hsy1.pick [1, 2, 0]⟩
    · exact Wp.skip ⟨_, ⟨rfl, f2 h⟩, hW2.quiet (Keep.drew _)⟩
  · rintro kb D' W ⟨rfl, hfd⟩ hW
    rw [List.drop_eq_nil_of_le (Nat.le_refl _), List.find?_nil] at hfd
    subst hfd
    refine Wp.seq (Wp.regionL (l := [0]) (WO.act (hc := rfl) (he := Ef.store hW 3 (fun wy1 hsy1 => WO.done ?_))))
    have hs2 := hsy1.pick [1, 0]
    exact Wp.ret (Fin.retM (Lv.one hs2 0 fun w2 hst2 => ⟨_, resC rfl rfl (hst2.cells 0) , rfl, hst2.keep⟩))
  · rintro kb c' D' W ⟨rfl, n, hGn, rfl⟩ hW
    subst hGn
    exact Wp.ret (Fin.retM (Lv.one hW 0 fun w2 hst2 => ⟨_, resC rfl rfl (hst2.cells 0), rfl, hst2.keep⟩))
end Go.Proofs.YtgjhbapbomdpbaaDoor.C
/- A path through a tree: tree.step and tree.Get. -/
set_option linter.unusedVariables false
set_option linter.unusedSimpArgs false
set_option maxRecDepth 10000
namespace Go.Proofs.YtgjhbapbomdpbaaDoor.C
open Go.RowKit Go.Proofs.YtgjhbapbomdpbaaDoor.Sh
/-- the node of a number's text, of numbers from no on -/
def itemI (key : Bs) : List Nat → Nat → Int
  | [], _ => -1
  | n :: r, no => if (Lib.itoa (no : Int) == key) = true then n else itemI key r (no + 1)
def stepS (t : List Nd) (i : Nat) (key : Bs) : Int :=
  if (nth t (i : Int)).kind = 1 then findS t i key else if (nth t (i : Int)).kind = 3 then -1 else itemI key (partsS t i) 0
theorem partsR_len (d : Int) : ∀ (r : List Nd) (k : Nat), (partsR d r k).length ≤ r.length
  | [], k => by simp [partsR]
  | n :: r, k => by
    rw [partsR]
    have := partsR_len d r (k + 1)
    split
    · split
      · simp only [List.length_cons]; omega
      · simp only [List.length_cons]; omega
    · simp
theorem step_cv (A : Option Addr) (c : Nat) (t : List Nd) (i : Nat) (key : Bs) (w0 : World) (hg : Gl w0) (hr : Rd NdE w0 A t) (hi : i < t.length) (hl : t.length < 4000000000000000000) (hd : -1000000 ≤ (nth t (i : Int)).depth ∧ (nth t (i : Int)).depth ≤ 1000000) :
    Cv Tryd.prog 37 [.slice A t.length c, .int .i64 i, S key] (.int .i64 (stepS t i key)) w0 := by
  intro w hk
  have hr := hr.keep hk
  have hg := hg.keep hk
  refine calls_of_Wp (vs := [_, _, _]) Tryd.func37 ?_
  refine Wp.seq (Wp.regionL (l := [0, 1]) (WO.act (hc := rfl) (he := Ef.boxL ([S key]) (St.init w) (fun ba1 wa1 ka1 hsa1 => WO.act (hc := rfl) (he := Ef.allocL (vs := [.int .i64 0]) hsa1 (fun ba2 wa2 ka2 hsa2 => WO.done ?_))))))
  have hra := hr.keep hsa2.keep
  refine Wp.seq (Wp.seq (Wp.reads (is := [0, 1, 2, 3, 4]) (Keep.refl _) (Rn.s rfl Yv.mv (Rn.s rfl Yv.mv (Rn.s rfl (Yv.ia (e := 48) hra (by omega) (by omega)) (Rn.s rfl (Yv.fa (off := 0)) (Rn.s rfl (Yv.ld (hra.ld 0 (by omega) (by omega))) (Rn.nil)))))) ?_))
  have c5 := hsa2.cells 1
  refine Wp.block ?_
  refine Wp.seq (Wp.reads (is := [0, 1]) (Keep.refl _) (Rn.s rfl (Yv.cmp _ rfl) (Rn.s rfl Yv.as (Rn.nil))) ?_)
  refine Wp.cond rfl (fun h => ?_) (fun h => ?_)
  · have h := eq_of_beq h
    refine Wp.seq (Wp.regionL (l := [0, 1, 2, 3, 4]) (WO.rd (is := [0, 1, 2]) (js := [3, 4]) (Keep.refl _) (Rn.s rfl Yv.mv (Rn.s rfl Yv.mv (Rn.s rfl (Yv.ld (c5.at_ 0)) (Rn.nil)))) (WO.cv rfl (find_cv A c t i key wa2 hra hi hl hd) (Keep.refl _) (FnOk.of Tryd.func39) (fun wx1 kx1 => WO.act (hc := rfl) (he := Ef.store (hsa2.quiet kx1) 0 (fun wx2 hsx2 => WO.done ?_))))))
    exact Wp.ret (Fin.ret (resC rfl rfl (hsx2.cells 0)) ⟨by rw [stepS, if_pos h], hsx2.keep⟩)
  have h := ne_of_beq_false h
  refine Wp.seq (Wp.reads (is := [0, 1]) (Keep.refl _) (Rn.s rfl (Yv.cmp _ rfl) (Rn.s rfl Yv.as (Rn.nil))) ?_)
  refine Wp.cond rfl (fun h2 => ?_) (fun h2 => ?_)
  · have h2 := eq_of_beq h2
    refine Wp.seq (Wp.regionL (l := [0]) (WO.act (hc := rfl) (he := Ef.store hsa2 0 (fun wx1 hsx1 => WO.done ?_))))
    exact Wp.ret (Fin.ret (resC rfl rfl (hsx1.cells 0)) ⟨by rw [stepS, if_neg h, if_pos h2], hsx1.keep⟩)
  have h2 := ne_of_beq_false h2
  obtain ⟨G, hG⟩ : ∃ G, G = stepS t i key := ⟨_, rfl⟩
  rw [← hG]
  rw [stepS, if_neg h, if_neg h2] at hG
  refine Wp.skip ?_
  refine Wp.seq (Wp.regionL (l := [0, 1]) (WO.act (hc := rfl) (he := Ef.allocL (vs := [.int .i64 0]) hsa2 (fun bb1 wb1 kb1 hsb1 => WO.act (hc := rfl) (he := Ef.store hsb1 0 (fun wb2 hsb2 => WO.done ?_))))))
  refine Wp.seq (Wp.seq (Wp.regionL (l := [0, 1, 2]) (WO.rd (is := [0, 1]) (js := [2]) (Keep.refl _) (Rn.s rfl Yv.mv (Rn.s rfl Yv.mv (Rn.nil))) (WO.act (hc := rfl) (he := Ef.cx (of_calls i A c t wb2) hsb2 (FnOk.of Tryd.func59) ?_)))))
  rintro v D wd1 ⟨b1, b2, rfl, rfl⟩ hsd1
  refine WO.done ?_
  have hst : St w [] wd1 [Ch.cells b1 3 [.int .i64 i], Ch.cells b2 43 [.slice A t.length c], Ch.cells bb1 3 [.int .i64 ((0 : Nat) : Int)], Ch.cells ba2 3 [.int .i64 0], Ch.cells ba1 9 [S key]] := hsd1
  refine Wp.block ?_
  refine Wp.ranges hst (of_tells b1 b2 i A c t hi hl hd)
    (fun k D => D = [Ch.cells b1 3 [.int .i64 i], Ch.cells b2 43 [.slice A t.length c], Ch.cells bb1 3 [.int .i64 (k : Int)], Ch.cells ba2 3 [.int .i64 0], Ch.cells ba1 9 [S key]] ∧ itemI key ((partsS t i).drop k) k = G)
    (fun c' D => c' = .ret ∧ D = [Ch.cells ba2 3 [.int .i64 G]])
    ?_ ⟨rfl, hG.symm⟩ ?_ ?_ ?_ (hf := Tryd.func87)
  · rintro k D' W ⟨rfl, -⟩ h
    exact ⟨h.cells 0, h.cells 1, hr.keep h.keep⟩
  · rintro k x l kb busy D' W hx ⟨rfl, hfd⟩ hW
    have hkl : k < (partsS t i).length := (List.getElem?_eq_some_iff.1 hx).1
    have hpl := partsR_len (nth t (i : Int)).depth (t.drop (i + 1)) (i + 1)
    have hpl2 : (partsS t i).length ≤ t.length := by unfold partsS; simp only [List.length_drop] at hpl; omega
    rw [List.drop_eq_getElem_cons hkl, (List.getElem?_eq_some_iff.1 hx).2, itemI] at hfd
    refine Wp.reads (is := [0]) (Keep.refl _) (Rn.s rfl Yv.as (Rn.nil)) ⟨rfl, Keep.refl _, ?_⟩
    intro W2 hW2
    have c7 := hW2.cells 4
    have c5 := hW2.cells 6
    have hg2 := hg.keep hW2.keep
    refine Wp.block (Wp.seq (Wp.seq (Wp.draws [] mixed (WD.rd (is := [0, 2]) (fun _ _ _ _ _ h => h) (Keep.drew _) (Rn.s rfl (Yv.ld (c7.at_ 0)) (Rn.s rfl (Yv.ld (c5.at_ 0)) (Rn.nil))) (WD.cv 1 rfl (itoa_cv (k : Int) (by omega) (by omega) _ hg2) (Keep.drew _) (FnOk.of Tryd.func60) (fun wx1 kx1 => WD.rd (is := [3]) (fun _ _ _ _ _ h => h) ((Keep.drew _).trans kx1) (Rn.s rfl (Yv.scm _ rfl) (Rn.nil)) (WD.done ?_)))))))
    have hW3 := hW2.quiet ((Keep.drew _).trans kx1)
    have c7 := hW3.cells 4
    refine Wp.cond rfl (fun h3 => ?_) (fun h3 => ?_)
    · rw [if_pos h3] at hfd
      refine Wp.seq (Wp.regionL (l := [0, 1]) (WO.rd (is := [0]) (js := [1]) (Keep.refl _) (Rn.s rfl Yv.mv (Rn.nil)) (WO.act (hc := rfl) (he := Ef.store hW3 5 (fun wy1 hsy1 => WO.done ?_)))))
      exact Wp.ret ⟨_, ⟨rfl, rfl⟩, by rw [← hfd]; exact hsy1.pick [1, 2, 0]⟩
    · rw [if_neg (by rw [h3]; decide)] at hfd
      refine Wp.skip (Wp.regionL (l := [0, 1, 2]) (WO.rd (is := [0, 1]) (js := [2]) (Keep.refl _) (Rn.s rfl (Yv.ld (c7.at_ 0)) (Rn.s rfl (Yv.add (by unfold inI; omega)) (Rn.nil))) (WO.act (hc := rfl) (he := Ef.store hW3 4 (fun wy1 hsy1 => WO.done ?_)))))
      exact ⟨_, ⟨rfl, hfd⟩, hsy1.pick [1, 2, 3, 4, 0, 5, 6]⟩
  · rintro kb D' W ⟨rfl, hfd⟩ hW
    rw [List.drop_eq_nil_of_le (Nat.le_refl _), itemI] at hfd
    subst hfd
    refine Wp.seq (Wp.regionL (l := [0]) (WO.act (hc := rfl) (he := Ef.store hW 4 (fun wy1 hsy1 => WO.done ?_))))
    have hs2 := hsy1.pick [1, 0]
    exact Wp.ret (Fin.retM (Lv.one hs2 0 fun w2 hst2 => ⟨_, resC rfl rfl (hst2.cells 0) , rfl, hst2.keep⟩))
  · rintro kb c' D' W ⟨rfl, rfl⟩ hW
    exact Wp.ret (Fin.retM (Lv.one hW 0 fun w2 hst2 => ⟨_, resC rfl rfl (hst2.cells 0), rfl, hst2.keep⟩))

abbrev StE : Enc Bs := ⟨1, fun s => [S s], fun _ => rfl⟩
theorem isGo_depth (t : List Nd) : ∀ (r : List Nd) (a : Nd) (i : Int) (st : List OB), isGo t r a i st = true → ∀ x ∈ r, 1 ≤ x.depth ∧ x.depth ≤ 32
  | [], _, _, _, _, x, hx => by cases hx
  | n :: r, a, i, st, h, x, hx => by
    rw [isGo] at h
    split at h
    · cases h
    rename_i hf
    have hf : fitsB n a = true := by simpa using hf
    have hn : 1 ≤ n.depth ∧ n.depth ≤ 32 := by
      unfold fitsB at hf
      simp only [Bool.and_eq_true, Bool.or_eq_true, decide_eq_true_eq, beq_iff_eq] at hf
      omega
    have ih : ∀ st', isGo t r n (i + 1) st' = true → ∀ x ∈ r, 1 ≤ x.depth ∧ x.depth ≤ 32 := fun st' => isGo_depth t r n (i + 1) st'
    rcases List.mem_cons.1 hx with rfl | hx
    · exact hn
    split at h
    · cases h
    split at h
    · split at h
      · cases h
      · exact ih _ h x hx
    · split at h
      · cases h
      · exact ih _ h x hx
theorem isS_depth {t : List Nd} (h : isS t = true) : 0 < t.length ∧ t.length ≤ 16384 ∧ ∀ i : Nat, i < t.length → 0 ≤ (nth t (i : Int)).depth ∧ (nth t (i : Int)).depth ≤ 32 := by
  cases t with
  | nil => cases h
  | cons a r =>
    unfold isS at h
    simp only at h
    split at h
    · cases h
    rename_i h1
    split at h
    · cases h
    rename_i h2
    have h2 : rootOk a = true := by simpa using h2
    refine ⟨by simp, by omega, fun i hi => ?_⟩
    cases i with
    | zero =>
      show 0 ≤ a.depth ∧ a.depth ≤ 32
      unfold rootOk at h2
      simp at h2
      omega
    | succ j =>
      have hj : j < r.length := by simpa using hi
      have e : nth (a :: r) ((j + 1 : Nat) : Int) = r[j] := by rw [nth_nat]; simp [hj]
      rw [e]
      have := isGo_depth _ _ _ _ _ h r[j] (List.getElem_mem hj)
      omega
theorem orN_bd {o : Option Nat} {m : Nat} (h : ∀ n, o = some n → n < m) : -1 ≤ orN o ∧ orN o < m := by
  cases o with
  | none => show -1 ≤ (-1 : Int) ∧ (-1 : Int) < m; omega
  | some n => have := h n rfl; simp only [orN]; omega
theorem itemI_bd (key : Bs) (m : Nat) : ∀ (l : List Nat) (no : Nat), (∀ x ∈ l, x < m) → -1 ≤ itemI key l no ∧ itemI key l no < m
  | [], _, _ => by rw [itemI]; omega
  | n :: r, no, h => by
    rw [itemI]
    split
    · have := h n (List.mem_cons_self ..); omega
    · exact itemI_bd key m r (no + 1) fun x hx => h x (List.mem_cons_of_mem _ hx)
theorem stepS_bd (t : List Nd) (i : Nat) (key : Bs) (hi : i < t.length) : -1 ≤ stepS t i key ∧ stepS t i key < t.length := by
  unfold stepS
  split
  · unfold findS
    exact orN_bd fun n h => (partsS_mem hi n (List.mem_of_find?_eq_some h)).2
  · split
    · omega
    · exact itemI_bd key t.length _ _ fun x hx => (partsS_mem hi x hx).2
def getGo (t : List Nd) : List Bs → Nat → Int
  | [], i => i
  | key :: r, i => if stepS t i key < 0 then -1 else getGo t r (stepS t i key).toNat
def getS (t : List Nd) (path : List Bs) : Int := if isS t = true then getGo t path 0 else -1
theorem get_cv (A : Option Addr) (c : Nat) (t : List Nd) (B : Option Addr) (d : Nat) (path : List Bs) (w0 : World) (hg : Gl w0) (hr : Rd NdE w0 A t) (hp : Rd StE w0 B path) (hpl : path.length < 4000000000000000000) :
    Cv Tryd.prog 22 [.slice A t.length c, .slice B path.length d] (.int .i64 (getS t path)) w0 := by
  intro w hk
  have hr := hr.keep hk
  have hp := hp.keep hk
  have hg := hg.keep hk
  refine calls_of_Wp (vs := [_, _]) Tryd.func22 ?_
  refine Wp.seq (Wp.reads (is := [0]) (Keep.refl _) (Rn.s rfl Yv.as (Rn.nil)) ?_)
  refine Wp.seq (Wp.seq (Wp.regionL (l := [0, 1, 2]) (WO.rd (is := [0]) (js := [1, 2]) (Keep.refl _) (Rn.s rfl Yv.mv (Rn.nil)) (WO.cv rfl (is_cv A c t w hr) (Keep.refl _) (FnOk.of Tryd.func27) (fun wa1 ka1 => WO.rd (is := [2]) (js := []) ((Keep.refl _).trans ka1) (Rn.s rfl Yv.not (Rn.nil)) (WO.done ?_))))))
  cases his : isS t with
  | false =>
    refine Wp.cond_t rfl ?_
    refine Wp.seq (Wp.reads (is := [0]) (Keep.refl _) (Rn.s rfl Yv.as (Rn.nil)) ?_)
    exact Wp.ret (Fin.ret (Res.one rfl rfl) ⟨by rw [getS, if_neg (by rw [his]; decide)], ka1⟩)
  | true =>
    obtain ⟨hl0, hl1, hdp⟩ := isS_depth his
    refine Wp.cond_f rfl (Wp.skip ?_)
    obtain ⟨G, hG⟩ : ∃ G, G = getS t path := ⟨_, rfl⟩
    rw [← hG]
    rw [getS, if_pos his] at hG
    refine Wp.seq (Wp.reads (is := [0]) (Keep.refl _) (Rn.s rfl Yv.as (Rn.nil)) ?_)
    refine Wp.seq (Wp.seq (Wp.reads (is := [0, 1, 2]) (Keep.refl _) (Rn.s rfl Yv.mv (Rn.s rfl (Yv.len_v (e := 9) (m := 1)) (Rn.s rfl Yv.mv (Rn.nil)))) ?_))
    refine Wp.block ?_
    refine Wp.loop (α := Nat × Nat) (fun q ρ ds w' => ds = [] ∧ q.1 ≤ path.length ∧ q.2 < t.length ∧ getGo t (path.drop q.1) q.2 = G ∧ Keep w w' ∧
      Sub [(0, .slice A t.length c), (5, .int .i64 (q.2 : Int)), (11, .slice B path.length d), (12, .int .i64 (path.length : Int)), (13, .int .i64 (q.1 : Int))] ρ) (fun q => path.length - q.1) (0, 0)
      ⟨rfl, Nat.zero_le _, hl0, hG.symm, ka1, rfl, rfl, rfl, rfl, rfl, trivial⟩ ?_
    rintro ⟨j, i⟩ ρ ds w' ⟨rfl, hj, hi, hgo, hkw, hs⟩
    simp only at hj hi hgo hs
    refine Wp.forget _ ?_ hs
    have hr' := hr.keep hkw
    have hp' := hp.keep hkw
    have hg' := hg.keep hkw
    refine Wp.seq (Wp.reads (is := [0]) (Keep.refl _) (Rn.s rfl (Yv.cmp _ rfl) (Rn.nil)) ?_)
    refine Wp.seq (Wp.cond rfl (fun h => ?_) (fun h => ?_))
    · have h := of_decide_eq_true h
      have hjl : j < path.length := by omega
      obtain ⟨key, hky⟩ : ∃ key, key = nth path (j : Int) := ⟨_, rfl⟩
      have hkt : path[j] = key := by rw [hky, nth_nat]; simp [hjl]
      rw [List.drop_eq_getElem_cons hjl, hkt, getGo] at hgo
      have hsb := stepS_bd t i key hi
      have hdi := hdp i hi
      have hst : Cv Tryd.prog 37 [.slice A t.length c, .int .i64 i, S (nth path (j : Int))] (.int .i64 (stepS t i key)) w' := by rw [← hky]; exact step_cv A c t i key w' hg' hr' hi (by omega) ⟨by omega, by omega⟩
      refine Wp.skip (Wp.seq (Wp.block ?_))
      refine Wp.seq (Wp.reads (is := [0, 1, 2]) (Keep.refl _) (Rn.s rfl (Yv.ia (e := 9) hp' (by omega) (by omega)) (Rn.s rfl (Yv.ld (hp'.ld 0 (by omega) (by omega))) (Rn.s rfl Yv.as (Rn.nil)))) ?_)
      refine Wp.seq (Wp.regionL (l := [0, 1, 2, 3, 4]) (WO.rd (is := [0, 1, 2]) (js := [3, 4]) (Keep.refl _) (Rn.s rfl Yv.mv (Rn.s rfl Yv.mv (Rn.s rfl Yv.mv (Rn.nil)))) (WO.cv rfl hst (Keep.refl _) (FnOk.of Tryd.func37) (fun wx1 kx1 => WO.rd (is := [4]) (js := []) ((Keep.refl _).trans kx1) (Rn.s rfl Yv.as (Rn.nil)) (WO.done ?_)))))
      refine Wp.seq (Wp.reads (is := [0, 1]) (Keep.refl _) (Rn.s rfl Yv.mv (Rn.s rfl (Yv.cmp _ rfl) (Rn.nil))) ?_)
      refine Wp.cond rfl (fun h2 => ?_) (fun h2 => ?_)
      · have h2 := of_decide_eq_true h2
        rw [if_pos h2] at hgo
        refine Wp.seq (Wp.reads (is := [0]) (Keep.refl _) (Rn.s rfl Yv.as (Rn.nil)) ?_)
        exact Wp.ret (Fin.ret (Res.one rfl rfl) ⟨by rw [← hgo], hkw.trans kx1⟩)
      · have h2 := of_decide_eq_false h2
        rw [if_neg h2] at hgo
        obtain ⟨m, hm⟩ : ∃ m : Nat, stepS t i key = m := ⟨(stepS t i key).toNat, by omega⟩
        rw [hm, Int.toNat_natCast] at hgo
        refine Wp.skip ?_
        refine Wp.reads (is := [0, 1]) (Keep.refl _) (Rn.s rfl (Yv.add (by unfold inI; omega)) (Rn.s rfl Yv.mv (Rn.nil))) ?_
        refine ⟨(j + 1, m), ⟨rfl, hjl, by simp only; omega, hgo, hkw.trans kx1, rfl, by rw [← hm]; rfl, rfl, rfl, rfl, trivial⟩, by simp only; omega⟩
    · have h := of_decide_eq_false h
      rw [List.drop_eq_nil_of_le (by omega), getGo] at hgo
      refine Wp.exit ?_
      refine Wp.seq (Wp.reads (is := [0, 1]) (Keep.refl _) (Rn.s rfl Yv.mv (Rn.s rfl Yv.as (Rn.nil))) ?_)
      exact Wp.ret (Fin.ret (Res.one rfl rfl) ⟨by rw [← hgo], hkw⟩)
end Go.Proofs.YtgjhbapbomdpbaaDoor.C
/- The plain law of tree.Parse: what it hands back is a tree with true places, or a fault with a place in the text. -/
set_option linter.unusedVariables false
set_option linter.unusedSimpArgs false
set_option maxRecDepth 10000
/-! The plain law of tree.Parse: what it hands back is a tree with true places, or a fault with a place in the text. -/
namespace Go.Proofs.YtgjhbapbomdpbaaDoor.C
open Go.RowKit Go.Proofs.YtgjhbapbomdpbaaDoor.Sh
/-! ### 1. what a line's text says -/
structure CtG (o : Ct) : Prop where
  k : o.kind = 2 → o.key = []
  kl : o.key.length ≤ 64
  hv : o.has = false → o.value = []
  ev : o.empty ≠ 0 → o.value = []
  c : o.col = 1
  v : o.has = true → 1 < o.val
def OcG (n : Nat) : Oc → Prop
  | .ok a o => 1 ≤ a ∧ a ≤ n ∧ CtG o ∧ o.has = false ∧ o.empty = 0
  | .err why col => why ≠ 0 ∧ 1 ≤ col ∧ col ≤ n + 1
theorem tailS_g (s : Bs) (n : Nat) (key : Bs) (h : n ≤ s.length) (hk : key.length ≤ 64) : OcG s.length (tailS s n key) := by
  unfold tailS
  split
  · exact ⟨by decide, by omega, by omega⟩
  split
  · exact ⟨by decide, by omega, by omega⟩
  · rename_i h1 h2
    exact ⟨by omega, by omega, ⟨by simp, hk, fun _ => rfl, fun _ => rfl, rfl, by simp⟩, rfl, rfl⟩
theorem headS_g (s : Bs) : OcG s.length (headS s) := by
  have hq := quoteR_bd s
  have hn := namedN_le s 0 (by omega)
  unfold headS
  split
  · rename_i h
    refine ⟨by omega, ?_, ⟨fun _ => rfl, by simp, fun _ => rfl, fun _ => rfl, rfl, by simp⟩, rfl, rfl⟩
    rcases h with h | h
    · subst h; simp
    · cases s with
      | nil => revert h; decide
      | cons x r => simp only [List.length_cons]; omega
  split
  · split
    · split
      · exact ⟨by decide, by omega, by omega⟩
      · exact tailS_g s _ _ (by omega) (by omega)
    · exact ⟨by decide, by omega, by omega⟩
  · split
    · rename_i h
      exact tailS_g s _ _ hn.2 (by generalize s.take (namedN s 0) = t at h ⊢; unfold nameB madeB at h; simp at h; omega)
    · exact ⟨by decide, by omega, by omega⟩
theorem bareS_g (s : Bs) (a : Nat) (o : Ct) (h : CtG o) (he : o.empty = 0) (hv : o.value = []) (hh : o.has = true) : CtG (bareS s a o) := by
  obtain ⟨h1, h2, h3, h4, h5, h6⟩ := h
  unfold bareS
  simp only
  split
  · exact ⟨h1, h2, fun _ => hv, fun _ => hv, h5, h6⟩
  split
  · exact ⟨h1, h2, fun _ => hv, fun _ => hv, h5, h6⟩
  · exact ⟨h1, h2, fun h => (by simp only [hh] at h; cases h), fun h => (h he).elim, h5, h6⟩
def OvG (n : Nat) : Oc → Prop
  | .ok _ o => CtG o
  | .err why col => why ≠ 0 ∧ 1 ≤ col ∧ col ≤ n + 1
theorem valueS_g (s : Bs) (a : Nat) (o : Ct) (ha : a ≤ s.length) (h1 : 1 ≤ a) (ho : CtG o) (hh : o.has = false) (he : o.empty = 0) : OvG s.length (valueS s a o) := by
  have hq := quoteR_bd (s.drop a)
  simp only [List.length_drop] at hq
  have hg := gapN_le s (a + (quoteR (s.drop a)).2.1.toNat) (by omega)
  have hval := ho.hv hh
  obtain ⟨k1, k2, k3, k4, k5, k6⟩ := ho
  unfold valueS
  split
  · exact ⟨k1, k2, k3, k4, k5, k6⟩
  split
  · exact bareS_g s a _ ⟨k1, k2, fun h => by simp at h, fun h => (h he).elim, k5, fun _ => by simp only; omega⟩ he hval rfl
  split
  · split
    · exact ⟨by decide, by omega, by omega⟩
    · exact ⟨k1, k2, fun h => by simp at h, fun h => (h he).elim, k5, fun _ => by simp only; omega⟩
  · exact ⟨by decide, by omega, by omega⟩
theorem readC_g (s : Bs) : ((readC s).2.2 = 0 → CtG (readC s).1) ∧ ((readC s).2.2 ≠ 0 → 1 ≤ (readC s).2.1 ∧ (readC s).2.1 ≤ s.length + 1) := by
  have hh := headS_g s
  unfold readC
  cases h1 : headS s with
  | err why col =>
    rw [h1] at hh
    exact ⟨fun h => (hh.1 h).elim, fun _ => hh.2⟩
  | ok a o =>
    rw [h1] at hh
    obtain ⟨q1, q2, q3, q4, q5⟩ := hh
    have hg := gapN_le s a.toNat (by omega)
    have hv := valueS_g s (gapN s a.toNat) o hg.2 (by omega) q3 q4 q5
    simp only
    cases h2 : valueS s (gapN s a.toNat) o with
    | err why col =>
      rw [h2] at hv
      exact ⟨fun h => (hv.1 h).elim, fun _ => hv.2⟩
    | ok a' o' =>
      rw [h2] at hv
      exact ⟨fun _ => hv, fun h => (h rfl).elim⟩
/-! ### 2. the open blocks behind some nodes of a list -/
def stI (t : List Nd) (a n : Nd) (i : Int) (st : List OB) : Option (List OB) :=
  if fitsB n a = false then none else match st.drop (st.length - n.depth.toNat) with
    | [] => none
    | b :: st' =>
      if (nth t b.node).kind = 2 then (if n.key ≠ [] then none else some (⟨0, false, i, []⟩ :: b :: st'))
      else if ((alook n.key b.keys).isSome || decide ((64 : Int) < n.key.length)) = true then none
      else some (⟨0, false, i, []⟩ :: { b with keys := aput n.key (w64 ((alook n.key b.keys).getD 0 + 1)) b.keys } :: st')
theorem isGo_cons (t r : List Nd) (n a : Nd) (i : Int) (st : List OB) : isGo t (n :: r) a i st = match stI t a n i st with
    | none => false
    | some st' => isGo t r n (i + 1) st' := by
  rw [isGo, stI]
  by_cases hf : fitsB n a = false
  · rw [if_pos hf, if_pos hf]
  rw [if_neg hf, if_neg hf]
  generalize st.drop _ = q
  cases q with
  | nil => rfl
  | cons b r' =>
    simp only
    by_cases h1 : (nth t b.node).kind = 2
    · rw [if_pos h1, if_pos h1]
      by_cases h2 : n.key ≠ []
      · rw [if_pos h2, if_pos h2]
      · rw [if_neg h2, if_neg h2]
    · rw [if_neg h1, if_neg h1]
      by_cases h2 : ((alook n.key b.keys).isSome || decide ((64 : Int) < n.key.length)) = true
      · rw [if_pos h2, if_pos h2]
      · rw [if_neg h2, if_neg h2]
theorem stI_inv {t : List Nd} {a n : Nd} {i : Int} {st st' : List OB} (h : stI t a n i st = some st') : fitsB n a = true ∧ ∃ b r b', st.drop (st.length - n.depth.toNat) = b :: r ∧ st' = ⟨0, false, i, []⟩ :: b' :: r ∧ b'.node = b.node := by
  unfold stI at h
  split at h
  · cases h
  rename_i hf
  refine ⟨by simpa using hf, ?_⟩
  split at h
  · cases h
  rename_i b r hb
  split at h
  · split at h
    · cases h
    · injection h with h
      exact ⟨b, r, b, hb, h.symm, rfl⟩
  · split at h
    · cases h
    · injection h with h
      exact ⟨b, r, _, hb, h.symm, rfl⟩
theorem stI_congr {t t' : List Nd} {a n : Nd} {i : Int} {st : List OB} (h : ∀ b ∈ st, (nth t b.node).kind = (nth t' b.node).kind) : stI t a n i st = stI t' a n i st := by
  unfold stI
  split
  · rfl
  split
  · rfl
  rename_i b r hb
  rw [h b (List.mem_of_mem_drop (by rw [hb]; exact List.mem_cons_self ..))]
inductive Gone (t : List Nd) : Nat → List OB → Prop
  | root (h : 0 < t.length) : Gone t 1 [⟨0, false, 0, []⟩]
  | more {k : Nat} {st st' : List OB} (h : Gone t k st) (hk : k < t.length) (hs : stI t (nth t ((k : Int) - 1)) (nth t (k : Int)) k st = some st') : Gone t (k + 1) st'
theorem gone_head {t : List Nd} {k : Nat} {st : List OB} (h : Gone t k st) : 1 ≤ k ∧ k ≤ t.length ∧ ∃ s0, st = ⟨0, false, (k : Int) - 1, []⟩ :: s0 ∧ ∀ b ∈ s0, 0 ≤ b.node ∧ b.node < (k : Int) - 1 := by
  induction h with
  | root h => exact ⟨Nat.le_refl _, h, [], rfl, fun b hb => by cases hb⟩
  | @more k st st' h hk hs ih =>
    obtain ⟨h1, h2, s0, hs0, hb0⟩ := ih
    obtain ⟨-, b, r, b', hd, rfl, hn⟩ := stI_inv hs
    have hm : ∀ x ∈ b :: r, 0 ≤ x.node ∧ x.node < (k : Int) := by
      intro x hx
      have hx : x ∈ st := List.mem_of_mem_drop (by rw [hd]; exact hx)
      rw [hs0] at hx
      rcases List.mem_cons.1 hx with rfl | hx
      · simp only; omega
      · have := hb0 x hx; omega
    refine ⟨by omega, hk, b' :: r, by simp, fun x hx => ?_⟩
    have e : ((k + 1 : Nat) : Int) - 1 = k := by omega
    rw [e]
    rcases List.mem_cons.1 hx with rfl | hx
    · rw [hn]; exact hm b (List.mem_cons_self ..)
    · exact hm x (List.mem_cons_of_mem _ hx)
theorem gone_congr {t t' : List Nd} {k : Nat} {st : List OB} (h : Gone t k st) : (∀ j : Nat, j < k → nth t (j : Int) = nth t' (j : Int)) → k ≤ t'.length → Gone t' k st := by
  induction h with
  | root h => intro _ h'; exact .root h'
  | @more k st st' h hk hs ih =>
    intro hj hl
    have h' := ih (fun j hj' => hj j (by omega)) (by omega)
    obtain ⟨h1, h2, s0, hs0, hb0⟩ := gone_head h
    refine .more h' (by omega) ?_
    have e1 : nth t' (k : Int) = nth t (k : Int) := (hj k (by omega)).symm
    have e2 : nth t' ((k : Int) - 1) = nth t ((k : Int) - 1) := by
      have : ((k : Int) - 1) = ((k - 1 : Nat) : Int) := by omega
      rw [this]
      exact (hj (k - 1) (by omega)).symm
    rw [e1, e2, ← hs]
    refine stI_congr fun b hb => ?_
    have hbn : 0 ≤ b.node ∧ b.node < (k : Int) := by
      rw [hs0] at hb
      rcases List.mem_cons.1 hb with rfl | hb
      · simp only; omega
      · have := hb0 b hb; omega
    have : b.node = ((b.node.toNat : Nat) : Int) := by omega
    rw [this]
    exact congrArg Nd.kind (hj b.node.toNat (by omega)).symm
theorem gone_isGo {t : List Nd} {k : Nat} {st : List OB} (h : Gone t k st) : isGo t (t.drop 1) (nth t 0) 1 [⟨0, false, 0, []⟩] = isGo t (t.drop k) (nth t ((k : Int) - 1)) k st := by
  induction h with
  | root h => rfl
  | @more k st st' h hk hs ih =>
    have hkt : t[k] = nth t (k : Int) := by rw [nth_nat]; simp [hk]
    rw [ih, List.drop_eq_getElem_cons hk, hkt, isGo_cons, hs]
    have e : ((k + 1 : Nat) : Int) - 1 = k := by omega
    rw [e]
    rfl
theorem isS_of {t : List Nd} {st : List OB} (h : Gone t t.length st) (hr : rootOk (nth t 0) = true) (hl : t.length ≤ 16384) : isS t = true := by
  have h1 := gone_isGo h
  rw [List.drop_eq_nil_of_le (Nat.le_refl _), isGo] at h1
  cases t with
  | nil => have := (gone_head h).1; simp at this
  | cons a r =>
    unfold isS
    simp only
    rw [if_neg (by omega), if_neg]
    · exact h1
    · have : rootOk a = true := hr
      rw [this]; decide
end Go.Proofs.YtgjhbapbomdpbaaDoor.C
/-! What tree.Parse hands back is a tree: the open blocks of the reader are those of tree.Is. -/
namespace Go.Proofs.YtgjhbapbomdpbaaDoor.C
open Go.RowKit Go.Proofs.YtgjhbapbomdpbaaDoor.Sh
theorem nth_app_l {α : Type} [Inhabited α] (l : List α) (x : α) {j : Nat} (h : j < l.length) : nth (l ++ [x]) (j : Int) = nth l (j : Int) := by
  rw [nth_nat, nth_nat]; simp [List.getElem?_append_left h]
theorem nth_app_r {α : Type} [Inhabited α] (l : List α) (x : α) : nth (l ++ [x]) (l.length : Int) = x := by
  rw [nth_nat]; simp
theorem nth_set_ne {α : Type} [Inhabited α] (l : List α) (x : α) {i j : Nat} (h : i ≠ j) : nth (l.set i x) (j : Int) = nth l (j : Int) := by
  rw [nth_nat, nth_nat]; simp [List.getElem?_set_ne h]
theorem nth_set_eq {α : Type} [Inhabited α] (l : List α) (x : α) {i : Nat} (h : i < l.length) : nth (l.set i x) (i : Int) = x := by
  rw [nth_nat]; simp [h]
def RelB (t : List Nd) (a b : OB) : Prop := a.node = b.node ∧ (nth t b.node).kind = (if b.items = true then 2 else 1) ∧ (b.items = false → a.keys = b.keys)
def Rel (t : List Nd) : List OB → List OB → Prop
  | [], [] => True
  | a :: s, b :: st => RelB t a b ∧ Rel t s st
  | _, _ => False
theorem rel_drop {t : List Nd} : ∀ {s st : List OB} (k : Nat), Rel t s st → Rel t (s.drop k) (st.drop k)
  | [], [], k, h => by simp [Rel]
  | a :: s, b :: st, 0, h => h
  | a :: s, b :: st, k + 1, h => rel_drop (s := s) (st := st) k h.2
  | [], _ :: _, _, h => h.elim
  | _ :: _, [], _, h => h.elim
theorem rel_congr {t t' : List Nd} : ∀ {s st : List OB}, (∀ a ∈ s, (nth t a.node).kind = (nth t' a.node).kind) → Rel t s st → Rel t' s st
  | [], [], _, h => h
  | a :: s, b :: st, hk, h => by
    refine ⟨⟨h.1.1, ?_, h.1.2.2⟩, rel_congr (s := s) (st := st) (fun x hx => hk x (List.mem_cons_of_mem _ hx)) h.2⟩
    rw [← h.1.2.1, ← h.1.1, hk a (List.mem_cons_self ..)]
  | [], _ :: _, _, h => h.elim
  | _ :: _, [], _, h => h.elim
theorem rel_len {t : List Nd} : ∀ {s st : List OB}, Rel t s st → s.length = st.length
  | [], [], _ => rfl
  | a :: s, b :: st, h => by simp only [List.length_cons, rel_len (s := s) (st := st) h.2]
  | [], _ :: _, h => h.elim
  | _ :: _, [], h => h.elim
theorem popS_drop (ind : Int) : ∀ st : List OB, ∃ k, popS ind st = st.drop k
  | [] => ⟨0, rfl⟩
  | [x] => ⟨0, rfl⟩
  | x :: y :: r => by
    rw [popS]
    split
    · obtain ⟨k, hk⟩ := popS_drop ind (y :: r)
      exact ⟨k + 1, hk⟩
    · exact ⟨0, rfl⟩
theorem popS_self (x : OB) (r : List OB) : popS x.indent (x :: r) = x :: r := by
  cases r with
  | nil => rfl
  | cons y r => rw [popS, if_neg (by omega)]
theorem stI_ok {t : List Nd} {a n : Nd} {i : Int} {st : List OB} {b bb : OB} {r : List OB} {it : Bool} (hf : fitsB n a = true) (hd : st.drop (st.length - n.depth.toNat) = b :: r) (hrel : RelB t b bb) (hit : bb.items = it) (hk : it = true → n.key = [])
    (hkl : n.key.length ≤ 64) (h42 : ((alook n.key bb.keys).isSome && !it) = false) :
    ∃ b', stI t a n i st = some (⟨0, false, i, []⟩ :: b' :: r) ∧ b'.node = b.node ∧ (bb.items = false → b'.keys = aput n.key (w64 ((alook n.key bb.keys).getD 0 + 1)) bb.keys) := by
  obtain ⟨h1, h2, h3⟩ := hrel
  unfold stI
  rw [if_neg (by simp [hf]), hd]
  simp only
  rw [h1, h2]
  cases it with
  | true =>
    rw [hit]
    simp only [if_true]
    rw [if_neg (by simp [hk rfl])]
    exact ⟨b, rfl, h1, fun h => by cases h⟩
  | false =>
    rw [hit]
    have h3 := h3 hit
    simp only [Bool.not_false, Bool.and_true] at h42
    rw [if_neg (by decide), h3, if_neg (by rw [h42]; simp; omega)]
    exact ⟨_, rfl, rfl, fun _ => rfl⟩
theorem fits_kd {a a' : Nd} {x : Int} (h : fitsB a a' = true) (hx : x = 1 ∨ x = 2) (ht : a.text = []) : fitsB (a.kd x) a' = true := by
  unfold fitsB at h ⊢
  unfold Nd.kd
  simp only [Bool.and_eq_true, Bool.or_eq_true, decide_eq_true_eq, beq_iff_eq] at h ⊢
  refine ⟨⟨⟨⟨?_, h.1.1.1.2⟩, h.1.1.2⟩, h.1.2⟩, .inl ht⟩
  rcases hx with rfl | rfl
  · exact .inl (.inl rfl)
  · exact .inl (.inr rfl)
theorem stI_kd {t : List Nd} {a a' : Nd} {x i : Int} {st : List OB} (h : fitsB a a' = true) (h' : fitsB (a.kd x) a' = true) : stI t a' (a.kd x) i st = stI t a' a i st := by
  unfold stI
  rw [if_neg (by simp [h']), if_neg (by simp [h])]
  rfl
/-- the last node may become a map or a list -/
theorem gone_kd {nodes : List Nd} {s : List OB} {x : Int} (hG : Gone nodes nodes.length s) (hx : x = 1 ∨ x = 2) (ht : (nth nodes ((nodes.length : Int) - 1)).text = []) :
    Gone (nodes.set (nodes.length - 1) ((nth nodes ((nodes.length : Int) - 1)).kd x)) nodes.length s := by
  obtain ⟨k, hk⟩ : ∃ k, k = nodes.length := ⟨_, rfl⟩
  obtain ⟨N2, hN2⟩ : ∃ N2, N2 = nodes.set (nodes.length - 1) ((nth nodes ((nodes.length : Int) - 1)).kd x) := ⟨_, rfl⟩
  rw [← hN2]
  have hl2 : N2.length = nodes.length := by rw [hN2]; simp
  rw [← hk] at hG ⊢
  cases hG with
  | root h => exact .root (by omega)
  | @more j st st' h hj hs =>
    have hj' : nodes.length - 1 = j := by omega
    have hji : (nodes.length : Int) - 1 = j := by omega
    rw [hj', hji] at hN2
    rw [hji] at ht
    have hag : ∀ i : Nat, i < j → nth nodes (i : Int) = nth N2 (i : Int) := fun i hi => by rw [hN2, nth_set_ne _ _ (by omega)]
    have h2 := gone_congr h hag (by omega)
    refine .more h2 (by omega) ?_
    have e1 : nth N2 (j : Int) = (nth nodes (j : Int)).kd x := by rw [hN2, nth_set_eq _ _ hj]
    have hj1 := (gone_head h).1
    have e2 : nth N2 ((j : Int) - 1) = nth nodes ((j : Int) - 1) := by
      have : ((j : Int) - 1) = ((j - 1 : Nat) : Int) := by omega
      rw [this]
      exact (hag (j - 1) (by omega)).symm
    obtain ⟨hf, -⟩ := stI_inv hs
    rw [e1, e2, stI_kd hf (fits_kd hf hx ht), ← hs]
    obtain ⟨-, -, s0, hs0, hb0⟩ := gone_head h
    refine stI_congr fun b hb => ?_
    have hbn : 0 ≤ b.node ∧ b.node < (j : Int) := by
      rw [hs0] at hb
      rcases List.mem_cons.1 hb with rfl | hb
      · simp only; omega
      · have := hb0 b hb; omega
    have : b.node = ((b.node.toNat : Nat) : Int) := by omega
    rw [this]
    exact congrArg Nd.kind (hag b.node.toNat (by omega)).symm
/-- how the reader's nodes and blocks stand to tree.Is -/
structure TI (nodes : List Nd) (st : List OB) (last : Bool) (s : List OB) (m : Nat) : Prop where
  gone : Gone nodes nodes.length s
  len : s.length = m + st.length
  rel : Rel nodes (s.drop m) st
  ne : st ≠ []
  alt : (m = 1 ∧ (nth nodes ((nodes.length : Int) - 1)).depth = st.length) ∨ (m = 0 ∧ (nth nodes ((nodes.length : Int) - 1)).depth = 0 ∧ (nth nodes ((nodes.length : Int) - 1)).kind = 1 ∧ st.length = 1 ∧ last = false)
  txt : last = true → (nth nodes ((nodes.length : Int) - 1)).text = []
  root : rootOk (nth nodes 0) = true
theorem ti_fin {file : Bs} {N2 : List Nd} {s : List OB} {b b0 : OB} {r r0 : List OB} {l : Ln} {o : Ct} (hG : Gone N2 N2.length s) (hd : s.drop (s.length - (r.length + 1)) = b0 :: r0) (hr : RelB N2 b0 b) (hrr : Rel N2 r0 r)
    (hf : fitsB (nodeS file (r.length + 1) l o) (nth N2 ((N2.length : Int) - 1)) = true) (hit : b.items = (o.kind == 2)) (ho : CtG o) (h42 : ((alook o.key b.keys).isSome && !(o.kind == 2)) = false) (hroot : rootOk (nth N2 0) = true) :
    ∃ s', TI (N2 ++ [nodeS file (r.length + 1) l o]) ({ b with keys := aput o.key (w64 ((alook o.key b.keys).getD 0 + 1)) b.keys } :: r) (!o.has) s' 1 := by
  obtain ⟨n, hn⟩ : ∃ n, n = nodeS file (r.length + 1) l o := ⟨_, rfl⟩
  have hnd : n.depth = (r.length + 1 : Nat) := by rw [hn]; rfl
  have hnk : n.key = o.key := by rw [hn]; rfl
  have hnt : n.text = o.value := by rw [hn]; rfl
  rw [← hn] at hf ⊢
  obtain ⟨hL1, -, s0, hs0, hb0⟩ := gone_head hG
  have hag : ∀ j : Nat, j < N2.length → nth N2 (j : Int) = nth (N2 ++ [n]) (j : Int) := fun j hj => (nth_app_l N2 n hj).symm
  have hG2 : Gone (N2 ++ [n]) N2.length s := gone_congr hG hag (by simp)
  have hrel2 : Rel (N2 ++ [n]) (b0 :: r0) (b :: r) := by
    refine rel_congr ?_ (show Rel N2 (b0 :: r0) (b :: r) from ⟨hr, hrr⟩)
    intro a ha
    have ha : a ∈ s := List.mem_of_mem_drop (by rw [hd]; exact ha)
    have hbn : 0 ≤ a.node ∧ a.node < (N2.length : Int) := by
      rw [hs0] at ha
      rcases List.mem_cons.1 ha with rfl | ha
      · simp only; omega
      · have := hb0 a ha; omega
    have : a.node = ((a.node.toNat : Nat) : Int) := by omega
    rw [this]
    exact congrArg Nd.kind (hag a.node.toNat (by omega))
  obtain ⟨b', hst, hb'n, hb'k⟩ := stI_ok (t := N2 ++ [n]) (i := (N2.length : Int)) (st := s) (it := (o.kind == 2)) hf (by rw [hnd, Int.toNat_natCast]; exact hd) hrel2.1 hit (by rw [hnk]; intro h; exact ho.k (eq_of_beq h)) (by rw [hnk]; exact ho.kl) (by rw [hnk]; exact h42)
  have e1 : nth (N2 ++ [n]) ((N2.length : Int) - 1) = nth N2 ((N2.length : Int) - 1) := by
    have : ((N2.length : Int) - 1) = ((N2.length - 1 : Nat) : Int) := by omega
    rw [this]
    exact nth_app_l N2 n (by omega)
  have hlen : (N2 ++ [n]).length = N2.length + 1 := by simp
  have hG3 : Gone (N2 ++ [n]) (N2.length + 1) (⟨0, false, (N2.length : Int), []⟩ :: b' :: r0) := by
    refine .more hG2 (by omega) ?_
    rw [e1, nth_app_r]
    exact hst
  have e2 : nth (N2 ++ [n]) (((N2 ++ [n]).length : Int) - 1) = n := by
    have : (((N2 ++ [n]).length : Int) - 1) = (N2.length : Int) := by rw [hlen]; omega
    rw [this, nth_app_r]
  have hrl := rel_len hrr
  refine ⟨_, ⟨by rw [hlen]; exact hG3, by simp only [List.length_cons, hrl]; omega, ?_, by simp, .inl ⟨rfl, ?_⟩, ?_, ?_⟩⟩
  · refine ⟨⟨by rw [hb'n]; exact hrel2.1.1, hrel2.1.2.1, fun h => ?_⟩, hrel2.2⟩
    rw [hb'k h, hnk]
  · rw [e2, hnd]; rfl
  · rw [e2, hnt]
    intro h
    exact ho.hv (by simpa using h)
  · have := hag 0 (by omega)
    rw [← (show nth N2 0 = nth (N2 ++ [n]) 0 from this)]
    exact hroot
theorem ti_step {file : Bs} {nodes N2 : List Nd} {st S2 s : List OB} {last : Bool} {ind : Int} {m : Nat} {l : Ln} {o : Ct} (h : TI nodes st last s m) (ho : CtG o) (hE : enterS nodes st last ind l o = (0, N2, S2)) :
    ∃ s', TI (N2 ++ [nodeS file S2.length l o]) S2 (!o.has) s' 1 := by
  obtain ⟨hG, hlen, hrel, hne, halt, htxt, hroot⟩ := h
  obtain ⟨hL1, -, s0, hs0, hb0⟩ := gone_head hG
  unfold enterS at hE
  split at hE
  · cases hE
  rename_i b r hb
  split at hE
  · cases hE
  split at hE
  · cases hE
  rename_i h40 h41
  split at hE
  · cases hE
  rename_i h43
  split at hE
  · cases hE
  rename_i h42
  have hit : b.items = (o.kind == 2) := by simpa using h41
  have h42 : ((alook o.key b.keys).isSome && !(o.kind == 2)) = false := by simpa using h42
  injection hE with _ hE
  injection hE with h1 h2
  subst h1 h2
  have h32 : r.length + 1 ≤ 32 := by simp only [List.length_cons] at h43; omega
  have hnf : ∀ a : Nd, (((r.length + 1 : Nat) : Int) ≤ a.depth ∨ (((r.length + 1 : Nat) : Int) = a.depth + 1 ∧ a.kind ≠ 3)) → fitsB (nodeS file (r.length + 1) l o) a = true := by
    intro a ha
    unfold fitsB nodeS
    simp only [Bool.and_eq_true, Bool.or_eq_true, decide_eq_true_eq, beq_iff_eq, bne_iff_ne]
    refine ⟨⟨⟨⟨?_, by omega⟩, by omega⟩, ha⟩, ?_⟩
    · split
      · exact .inl (.inr rfl)
      · split
        · exact .inl (.inl rfl)
        · exact .inr rfl
    · by_cases he : o.empty = 0
      · right; rw [if_neg (by omega), if_neg (by omega)]
      · exact .inl (ho.ev he)
  by_cases hop : opens last ind l = true
  · have hlast : last = true := by unfold opens at hop; simp at hop; exact hop.1
    obtain ⟨rfl, hdp⟩ : m = 1 ∧ (nth nodes ((nodes.length : Int) - 1)).depth = st.length := by
      rcases halt with h | ⟨-, -, -, -, hl0⟩
      · exact h
      · rw [hlast] at hl0; cases hl0
    rw [stack1, if_pos hop] at hb
    have hb := (popS_self ⟨l.indent, o.kind == 2, (nodes.length : Int) - 1, []⟩ st).symm.trans hb
    injection hb with hb1 hb2
    subst hb1 hb2
    have hx : (if o.kind = 2 then (2 : Int) else 1) = 1 ∨ (if o.kind = 2 then (2 : Int) else 1) = 2 := by split <;> simp
    have hji : ((nodes.length : Int) - 1) = ((nodes.length - 1 : Nat) : Int) := by omega
    have e0 : nodes1 nodes last ind l o = nodes.set (nodes.length - 1) ((nth nodes ((nodes.length : Int) - 1)).kd (if o.kind = 2 then 2 else 1)) := by
      rw [nodes1, if_pos hop, hji, nth_nat]
    rw [e0]
    have hG2 := gone_kd hG hx (htxt hlast)
    obtain ⟨N2, hN2⟩ : ∃ N2, N2 = nodes.set (nodes.length - 1) ((nth nodes ((nodes.length : Int) - 1)).kd (if o.kind = 2 then 2 else 1)) := ⟨_, rfl⟩
    rw [← hN2] at hG2 ⊢
    have hl2 : N2.length = nodes.length := by rw [hN2]; simp
    have elast : nth N2 ((nodes.length : Int) - 1) = (nth nodes ((nodes.length : Int) - 1)).kd (if o.kind = 2 then 2 else 1) := by
      rw [hN2, hji, nth_set_eq _ _ (by omega)]
    have hag : ∀ i : Nat, i < nodes.length - 1 → nth nodes (i : Int) = nth N2 (i : Int) := fun i hi => by rw [hN2, nth_set_ne _ _ (by omega)]
    have hstl : st.length ≠ 0 := by intro h; exact hne (List.eq_nil_of_length_eq_zero h)
    have hnl : 2 ≤ nodes.length := by
      have : s.length ≤ nodes.length := by
        clear hb0 hs0
        have : ∀ {k : Nat} {st : List OB}, Gone nodes k st → st.length ≤ k := by
          intro k st h
          induction h with
          | root => simp
          | @more k st st' h hk hs ih =>
            obtain ⟨-, b, r, b', hd, rfl, -⟩ := stI_inv hs
            have := congrArg List.length hd
            simp only [List.length_drop, List.length_cons] at this ⊢
            omega
        exact this hG
      omega
    refine ti_fin (b0 := ⟨0, false, (nodes.length : Int) - 1, []⟩) (r0 := s0) (by rw [hl2]; exact hG2) ?_ ⟨rfl, ?_, fun _ => rfl⟩ ?_ ?_ rfl ho (by simp [alook]) ?_
    · have : s.length - (st.length + 1) = 0 := by omega
      rw [this, List.drop_zero, hs0]
    · simp only
      rw [elast]
      unfold Nd.kd
      simp only [beq_iff_eq]
    · refine rel_congr ?_ (show Rel nodes s0 st by rw [hs0] at hrel; exact hrel)
      intro a ha
      have hbn := hb0 a ha
      have : a.node = ((a.node.toNat : Nat) : Int) := by omega
      rw [this]
      exact congrArg Nd.kind (hag a.node.toNat (by omega))
    · rw [hl2, elast]
      refine hnf _ (.inr ⟨?_, ?_⟩)
      · unfold Nd.kd; simp only; omega
      · unfold Nd.kd; simp only; split <;> decide
    · have := hag 0 (by omega)
      rw [← (show nth nodes 0 = nth N2 0 from this)]
      exact hroot
  · rw [stack1, if_neg hop] at hb
    have e0 : nodes1 nodes last ind l o = nodes := by rw [nodes1, if_neg hop]
    rw [e0]
    obtain ⟨k, hk⟩ := popS_drop l.indent st
    rw [hk] at hb
    have hbl := congrArg List.length hb
    simp only [List.length_drop, List.length_cons] at hbl
    have hrk := rel_drop k hrel
    rw [hb, List.drop_drop] at hrk
    have hdr : s.length - (r.length + 1) = m + k := by omega
    cases hsd : s.drop (m + k) with
    | nil => rw [hsd] at hrk; exact hrk.elim
    | cons b0 r0 =>
      rw [hsd] at hrk
      refine ti_fin (b0 := b0) (r0 := r0) hG (by rw [hdr]; exact hsd) hrk.1 hrk.2 ?_ hit ho h42 hroot
      refine hnf _ ?_
      rcases halt with ⟨rfl, hdp⟩ | ⟨rfl, hd0, hk1, hs1, -⟩
      · left; rw [hdp]; omega
      · right; rw [hd0, hk1]; exact ⟨by omega, by decide⟩
end Go.Proofs.YtgjhbapbomdpbaaDoor.C
/-! What tree.Parse hands back: a tree with true places, or a fault with a place in the text. -/
namespace Go.Proofs.YtgjhbapbomdpbaaDoor.C
open Go.RowKit Go.Proofs.YtgjhbapbomdpbaaDoor.Sh
abbrev pl (n : Nd) : Bs × Int × Int × Int := (n.file, n.line, n.col, n.val)
def plL (file : Bs) (l : Ln) : Bs × Int × Int × Int := (file, l.no, l.indent + 1, if (readC l.text).1.has then l.indent + (readC l.text).1.val else 0)
theorem nodes1_pl (nodes : List Nd) (last : Bool) (ind : Int) (l : Ln) (o : Ct) : (nodes1 nodes last ind l o).map pl = nodes.map pl := by
  unfold nodes1
  split
  · rw [List.map_set]
    refine List.ext_getElem? fun i => ?_
    by_cases hi : nodes.length - 1 = i
    · subst hi
      by_cases hl : nodes.length - 1 < nodes.length
      · simp [hl, List.getElem?_eq_getElem hl, Nd.kd, pl]
      · have : nodes = [] := List.eq_nil_of_length_eq_zero (by omega)
        subst this; rfl
    · rw [List.getElem?_set_ne hi]
  · rfl
theorem nodes1_len (nodes : List Nd) (last : Bool) (ind : Int) (l : Ln) (o : Ct) : (nodes1 nodes last ind l o).length = nodes.length := by
  unfold nodes1; split <;> simp
theorem goS_law (file : Bs) : ∀ (ls : List Ln) (nodes : List Nd) (st : List OB) (last : Bool) (ind : Int) (s : List OB) (m : Nat), TI nodes st last s m → nodes.length + ls.length ≤ 16384 →
    ((goS file ls nodes st last ind).2.code ≠ 0 → (goS file ls nodes st last ind).1 = [] ∧ (goS file ls nodes st last ind).2.file = file ∧ ∃ l ∈ ls, l.no = (goS file ls nodes st last ind).2.line ∧ l.indent < (goS file ls nodes st last ind).2.col ∧ (goS file ls nodes st last ind).2.col ≤ l.indent + l.text.length + 1) ∧
    ((goS file ls nodes st last ind).2.code = 0 → (goS file ls nodes st last ind).2 = ft0 ∧ isS (goS file ls nodes st last ind).1 = true ∧ (goS file ls nodes st last ind).1.map pl = nodes.map pl ++ ls.map (plL file))
  | [], nodes, st, last, ind, s, m, h, hl => by
    rw [goS]
    refine ⟨fun h => (h rfl).elim, fun _ => ⟨rfl, isS_of h.gone h.root (by simpa using hl), by simp⟩⟩
  | l :: ls, nodes, st, last, ind, s, m, h, hl => by
    obtain ⟨g1, g2⟩ := readC_g l.text
    rw [goS]
    by_cases he : (readC l.text).2.2 ≠ 0
    · rw [if_pos he]
      obtain ⟨c1, c2⟩ := g2 he
      refine ⟨fun _ => ⟨rfl, rfl, l, List.mem_cons_self .., rfl, by simp only; omega, by simp only; omega⟩, fun h => (he h).elim⟩
    rw [if_neg he]
    have ho := g1 (by simpa using he)
    obtain ⟨o, hco⟩ : ∃ o, o = (readC l.text).1 := ⟨_, rfl⟩
    rw [← hco] at ho ⊢
    obtain ⟨E, N2, S2, hE⟩ : ∃ E N2 S2, enterS nodes st last ind l o = (E, N2, S2) := ⟨_, _, _, rfl⟩
    rw [hE]
    simp only
    by_cases hE0 : E ≠ 0
    · rw [if_pos hE0]
      refine ⟨fun _ => ⟨rfl, rfl, l, List.mem_cons_self .., rfl, by simp only; omega, by simp only; omega⟩, fun h => (hE0 h).elim⟩
    rw [if_neg hE0]
    have hE0 : E = 0 := by simpa using hE0
    subst hE0
    obtain ⟨s', hti⟩ := ti_step (file := file) h ho hE
    have hN2 : N2 = nodes1 nodes last ind l o := by
      unfold enterS at hE
      split at hE
      · cases hE
      split at hE
      · cases hE
      split at hE
      · cases hE
      split at hE
      · cases hE
      split at hE
      · cases hE
      injection hE with _ hE
      injection hE with h1 h2
      exact h1.symm
    have hlen : (N2 ++ [nodeS file S2.length l o]).length = nodes.length + 1 := by rw [List.length_append, hN2, nodes1_len]; rfl
    simp only [List.length_cons] at hl
    obtain ⟨r1, r2⟩ := goS_law file ls _ S2 (!o.has) l.indent s' 1 hti (by omega)
    refine ⟨fun h => ?_, fun h => ?_⟩
    · obtain ⟨q1, q2, l', hl', q3⟩ := r1 h
      exact ⟨q1, q2, l', List.mem_cons_of_mem _ hl', q3⟩
    · obtain ⟨q1, q2, q3⟩ := r2 h
      refine ⟨q1, q2, ?_⟩
      rw [q3, List.map_append, hN2, nodes1_pl, List.map_cons, List.append_assoc]
      have : pl (nodeS file S2.length l o) = plL file l := by
        unfold plL pl nodeS
        rw [← hco, ho.c]
      rw [List.map_cons, List.map_nil, this]
      rfl
theorem linesR_4096 : ∀ (xs : List (Nat × Bs)) (acc : List Ln) (n : Nat), (∀ k x, xs[k]? = some x → x.1 = n + k) → acc.length < n → acc.length ≤ 4096 → (linesR xs acc).ls.length ≤ 4096
  | [], acc, n, _, h1, h2 => by rw [linesR]; exact h2
  | (k, t) :: xs, acc, n, hx, h1, h2 => by
    have hk : k = n := hx 0 _ rfl
    have hxs : ∀ j x, xs[j]? = some x → x.1 = (n + 1) + j := fun j x h => by have := hx (j + 1) x h; omega
    rw [linesR]
    split
    · simp
    split
    · simp
    split
    · exact linesR_4096 xs acc (n + 1) hxs (by omega) h2
    · exact linesR_4096 xs _ (n + 1) hxs (by simp; omega) (by simp; omega)
theorem linesS_4096 (s : Bs) : (linesS s).ls.length ≤ 4096 := by
  unfold linesS
  split
  · simp
  · exact linesR_4096 _ [] 1 (fun k x h => (raw_line_le s k x h).2) (by simp) (by simp)
theorem parseS_law (file s : Bs) : ((linesS s).e ≠ 0 → parseS file s = ([], ⟨(linesS s).e, file, (linesS s).no, (linesS s).col⟩)) ∧
    ((linesS s).e = 0 → (parseS file s).2.code ≠ 0 → (parseS file s).1 = [] ∧ (parseS file s).2.file = file ∧ ∃ l ∈ (linesS s).ls, l.no = (parseS file s).2.line ∧ l.indent < (parseS file s).2.col ∧ (parseS file s).2.col ≤ l.indent + l.text.length + 1) ∧
    ((linesS s).e = 0 → (parseS file s).2.code = 0 → (parseS file s).2 = ft0 ∧ isS (parseS file s).1 = true ∧ (parseS file s).1.map pl = pl (nd0 file) :: (linesS s).ls.map (plL file)) := by
  have hl := linesS_4096 s
  have hti : TI [nd0 file] [ob0] false [⟨0, false, 0, []⟩] 0 := ⟨.root (by simp), rfl, ⟨⟨rfl, rfl, fun _ => rfl⟩, trivial⟩, by simp, .inr ⟨rfl, rfl, rfl, rfl, rfl⟩, fun h => (by cases h), rfl⟩
  obtain ⟨r1, r2⟩ := goS_law file (linesS s).ls [nd0 file] [ob0] false 0 _ 0 hti (by simp; omega)
  unfold parseS
  refine ⟨fun h => if_pos h, fun h => ?_, fun h => ?_⟩
  · rw [if_neg (by simp [h])]; exact r1
  · rw [if_neg (by simp [h])]; exact r2
theorem readC_err (s : Bs) (h : (readC s).2.2 ≠ 0) : (readC s).1 = ct0 := by
  unfold readC at h ⊢
  cases h1 : headS s with
  | err why col => rfl
  | ok a o =>
    rw [h1] at h
    simp only at h ⊢
    cases h2 : valueS s (gapN s a.toNat) o with
    | err why col => rfl
    | ok a' o' => rw [h2] at h; exact (h rfl).elim
theorem plL_val (file : Bs) (l : Ln) : (plL file l).2.2.2 = 0 ∨ (plL file l).2.2.1 < (plL file l).2.2.2 := by
  unfold plL
  simp only
  split
  · rename_i hh
    right
    by_cases h : (readC l.text).2.2 = 0
    · have := ((readC_g l.text).1 h).v hh; omega
    · rw [readC_err _ h] at hh; cases hh
  · exact .inl rfl
end Go.Proofs.YtgjhbapbomdpbaaDoor.C
