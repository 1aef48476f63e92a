/- The parts of a node: parts.Of (an iterator), parts.Find, parts.End. -/
import Derived.Test.YtgjhbapbomdpbaaDoorBb
set_option linter.unusedVariables false
set_option linter.unusedSimpArgs false
set_option maxRecDepth 10000
namespace Go.Proofs.YtgjhbapbomdpbaaDoor.C
open Go.RowKit Go.Proofs.YtgjhbapbomdpbaaDoor.Sh
/-- the parts behind a node of depth d, from number k on -/
def partsR (d : Int) : List Nd → Nat → List Nat
  | [], _ => []
  | n :: r, k => if d < n.depth then (if n.depth = d + 1 then k :: partsR d r (k + 1) else partsR d r (k + 1)) else []
def partsS (t : List Nd) (i : Nat) : List Nat := partsR (nth t (i : Int)).depth (t.drop (i + 1)) (i + 1)
theorem partsR_mem (d : Int) : ∀ (r : List Nd) (k : Nat), ∀ x ∈ partsR d r k, k ≤ x ∧ x < k + r.length
  | [], k, x, h => by cases h
  | n :: r, k, x, h => by
    rw [partsR] at h
    have ih := partsR_mem d r (k + 1)
    simp only [List.length_cons]
    split at h
    · split at h
      · rcases List.mem_cons.1 h with h | h
        · omega
        · have := ih x h; omega
      · have := ih x h; omega
    · cases h
theorem partsS_mem {t : List Nd} {i : Nat} (hi : i < t.length) : ∀ x ∈ partsS t i, i < x ∧ x < t.length := by
  intro x h
  have := partsR_mem _ _ _ x h
  simp only [List.length_drop] at this
  omega
/-- what an iterator over a node's parts leans on -/
def OfF (b1 b2 : Nat) (i : Nat) (A : Option Addr) (c : Nat) (t : List Nd) (W : World) : Prop := Cells W b1 [.int .i64 i] ∧ Cells W b2 [.slice A t.length c] ∧ Rd NdE W A t
theorem of_tells (b1 b2 : Nat) (i : Nat) (A : Option Addr) (c : Nat) (t : List Nd) (hi : i < t.length) (hl : t.length < 4000000000000000000) (hd : -1000000 ≤ (nth t (i : Int)).depth ∧ (nth t (i : Int)).depth ≤ 1000000) :
    Tells Tryd.prog 87 [PB b1, PB b2] (fun x : Nat => [.int .i64 x]) (partsS t i) (OfF b1 b2 i A c t) := by
  intro l J Jx W hJ hJx hF hyield h0
  obtain ⟨c1, c2, hr⟩ := hF _ _ h0
  refine calls_of_Wp (vs := [_, _, _]) Tryd.func87 ?_
  refine Wp.seq (Wp.reads (is := [0, 1, 2]) (Keep.refl _) (Rn.s rfl (Yv.ld (c1.at_ 0)) (Rn.s rfl (Yv.add (by unfold inI; omega)) (Rn.s rfl Yv.as (Rn.nil)))) ?_)
  refine Wp.block ?_
  refine Wp.loop (α := Nat × Nat) (fun q ρ ds w' => ds = [] ∧ i < q.1 ∧ q.1 ≤ t.length ∧ q.2 ≤ (partsS t i).length ∧ (partsS t i).drop q.2 = partsR (nth t (i : Int)).depth (t.drop q.1) q.1 ∧ J q.2 w' ∧ Sub [(0, .func (.yield l) #[] #[]), (1, PB b1), (2, PB b2), (4, .int .i64 (q.1 : Int))] ρ) (fun q => t.length - q.1) (i + 1, 0)
    ⟨rfl, by simp, by simp; omega, Nat.zero_le _, rfl, h0, rfl, rfl, rfl, by simp; rfl, trivial⟩ ?_
  rintro ⟨k, j⟩ ρ ds w' ⟨rfl, hik, hk, hj, hdr, hJj, hs⟩
  simp only at hik hk hj hdr hJj hs
  refine Wp.forget _ ?_ hs
  obtain ⟨c1, c2, hr⟩ := hF _ _ hJj
  refine Wp.seq (Wp.seq (Wp.readsD (is := [0, 1, 2, 3, 4, 5, 6, 7, 8, 9, 10, 11, 12, 13, 14, 15, 16]) mixed (fun _ _ _ _ _ h => h) (Keep.refl _) (Rn.s rfl Yv.mv (Rn.s rfl (Yv.ld (c2.at_ 0)) (Rn.s rfl (Yv.len_v (e := 48) (m := 8)) (Rn.s rfl (Yv.cmp _ rfl) (Rn.s rfl Yv.mv (Rn.and (is := [5, 6, 7, 8, 9, 10, 11, 12, 13, 14, 15, 16]) (js := []) (t := 11) (d := 23) (hg := rfl) (ht := fun h4 => have h4 := of_decide_eq_true h4; Rn.s rfl (Yv.ld (c2.at_ 0)) (Rn.s rfl Yv.mv (Rn.s rfl (Yv.ia (e := 48) hr (by omega) (by omega)) (Rn.s rfl (Yv.fa (off := 1)) (Rn.s rfl (Yv.ld (hr.ld 1 (by omega) (by omega))) (Rn.s rfl (Yv.ld (c2.at_ 0)) (Rn.s rfl (Yv.ld (c1.at_ 0)) (Rn.s rfl (Yv.ia (e := 48) hr (j := i) (by omega) (by omega)) (Rn.s rfl (Yv.fa (off := 1)) (Rn.s rfl (Yv.ld (hr.ld (i := i) 1 (by omega) (by omega))) (Rn.s rfl (Yv.cmp _ rfl) (Rn.s rfl Yv.pick_t ((Rn.e 12 rfl rfl)))))))))))))) (hf := fun _ => Rn.no rfl (Rn.no rfl (Rn.no rfl (Rn.no rfl (Rn.no rfl (Rn.no rfl (Rn.no rfl (Rn.no rfl (Rn.no rfl (Rn.no rfl (Rn.no rfl (Rn.s rfl Yv.pick_f (Rn.e 12 rfl rfl))))))))))))) (k := Rn.nil))))))) ?_))
  have hJj := hJ _ _ _ (Keep.drew _) hJj
  obtain ⟨c1, c2, hr⟩ := hF _ _ hJj
  refine Wp.cond rfl (fun h => ?_) (fun h => ?_)
  · simp only [Bool.and_eq_true, decide_eq_true_eq] at h
    obtain ⟨h1, h2⟩ := h
    have hkl : k < t.length := by omega
    obtain ⟨n, hn⟩ : ∃ n, n = nth t (k : Int) := ⟨_, rfl⟩
    have hnt : t[k] = n := by rw [hn, nth_nat]; simp [hkl]
    rw [List.drop_eq_getElem_cons hkl, hnt, partsR, if_pos (by rw [hn]; exact h2)] at hdr
    refine Wp.skip (Wp.seq (Wp.block ?_))
    refine Wp.seq (Wp.draws [15] mixed (WD.rd (is := [0, 1, 2, 3, 4, 5, 6, 7, 8, 9, 10, 11, 12]) (fun _ _ _ _ _ h => h) (Keep.drew _) (Rn.s rfl (Yv.ld (c2.at_ 0)) (Rn.s rfl Yv.mv (Rn.s rfl (Yv.ia (e := 48) hr (by omega) (by omega)) (Rn.s rfl (Yv.fa (off := 1)) (Rn.s rfl (Yv.ld (hr.ld 1 (by omega) (by omega))) (Rn.s rfl (Yv.ld (c2.at_ 0)) (Rn.s rfl (Yv.ld (c1.at_ 0)) (Rn.s rfl (Yv.ia (e := 48) hr (j := i) (by omega) (by omega)) (Rn.s rfl (Yv.fa (off := 1)) (Rn.s rfl (Yv.ld (hr.ld (i := i) 1 (by omega) (by omega))) (Rn.s rfl (Yv.add (by unfold inI; omega)) (Rn.s rfl (Yv.cmp _ rfl) (Rn.s rfl Yv.mv (Rn.nil)))))))))))))) ?_))
    have hJj := hJ _ _ _ (Keep.drew _) hJj
    cases hq : ((nth t (k : Int)).depth == (nth t (i : Int)).depth + 1) with
    | false =>
      rw [if_neg (by rw [hn]; exact ne_of_beq_false hq)] at hdr
      refine WD.rd (is := [13, 14]) (fun _ _ _ _ _ h => h) (Keep.refl _) (Rn.no rfl (Rn.no rfl Rn.nil)) (WD.no 15 rfl (WD.rd (is := [16, 17]) (fun _ _ _ _ _ h => h) (Keep.refl _) (Rn.no rfl (Rn.s rfl Yv.pick_f Rn.nil)) (WD.done ?_)))
      refine Wp.cond_f rfl (Wp.skip ?_)
      refine Wp.reads (is := [0, 1, 2]) (Keep.refl _) (Rn.s rfl Yv.mv (Rn.s rfl (Yv.add (by unfold inI; omega)) (Rn.s rfl Yv.as (Rn.nil)))) ?_
      exact ⟨(k + 1, j), ⟨rfl, by simp only; omega, hkl, hj, hdr, hJj, rfl, rfl, rfl, by simp; rfl, trivial⟩, by simp only; omega⟩
    | true =>
      rw [if_pos (by rw [hn]; exact eq_of_beq hq)] at hdr
      have hx : (partsS t i)[j]? = some k := by
        have := congrArg List.head? hdr
        rw [List.head?_drop] at this
        exact this
      have hjl : j < (partsS t i).length := (List.getElem?_eq_some_iff.1 hx).1
      have hy := hyield j k _ hx hJj
      refine WD.rd (is := [13, 14]) (fun _ _ _ _ _ h => h) (Keep.refl _) (Rn.s rfl Yv.mv (Rn.s rfl Yv.mv (Rn.nil))) (WD.act 15 (hc := rfl) (he := Ef.yield hy ?_))
      rintro e w2 (⟨rfl, hj2⟩ | ⟨rfl, hx2⟩)
      · refine ⟨fun h => (h (by decide)).elim, WD.rd (is := [16, 17]) (fun _ _ _ _ _ h => h) (Keep.refl _) (Rn.s rfl Yv.not (Rn.s rfl Yv.pick_t (Rn.nil))) (WD.done ?_)⟩
        refine Wp.cond_f rfl (Wp.skip ?_)
        refine Wp.reads (is := [0, 1, 2]) (Keep.refl _) (Rn.s rfl Yv.mv (Rn.s rfl (Yv.add (by unfold inI; omega)) (Rn.s rfl Yv.as (Rn.nil)))) ?_
        refine ⟨(k + 1, j + 1), ⟨rfl, by simp only; omega, hkl, hjl, ?_, hj2, rfl, rfl, rfl, by simp; rfl, trivial⟩, by simp only; omega⟩
        rw [List.drop_add_one_eq_tail_drop, hdr]; rfl
      · refine ⟨fun h => (h (by decide)).elim, WD.rd (is := [16, 17]) (fun _ _ _ _ _ h => h) (Keep.refl _) (Rn.s rfl Yv.not (Rn.s rfl Yv.pick_t (Rn.nil))) (WD.done ?_)⟩
        refine Wp.cond_t rfl ?_
        exact Wp.ret (Fin.ret (Res.none rfl) ⟨⟨_, rfl⟩, .inr ⟨j, hx2⟩⟩)
  · refine Wp.exit ?_
    have e0 : partsR (nth t (i : Int)).depth (t.drop k) k = [] := by
      by_cases hkl : k < t.length
      · have hnt : t[k] = nth t (k : Int) := by rw [nth_nat]; simp [hkl]
        rw [List.drop_eq_getElem_cons hkl, hnt, partsR, if_neg]
        intro h2
        simp only [Bool.and_eq_false_iff, decide_eq_false_iff_not] at h
        omega
      · rw [List.drop_eq_nil_of_le (by omega)]; rfl
    rw [e0] at hdr
    have hjl : j = (partsS t i).length := by
      have := List.drop_eq_nil_iff.1 hdr
      omega
    exact Fin.normal (Res.none rfl) ⟨⟨_, rfl⟩, .inl (by rw [← hjl]; exact hJj)⟩

theorem of_calls (i : Nat) (A : Option Addr) (c : Nat) (t : List Nd) (w : World) : Cx Tryd.prog 59 [.slice A t.length c, .int .i64 i] [] (fun v D => ∃ b1 b2, v = .func (.func 87) #[] #[PB b1, PB b2] ∧ D = [Ch.cells b1 3 [.int .i64 i], Ch.cells b2 43 [.slice A t.length c]]) w := by
  refine calls_of_Wp (vs := [_, _]) Tryd.func59 ?_
  refine Wp.seq (Wp.regionL (l := [0, 1, 2]) (WO.act (hc := rfl) (he := Ef.boxL ([.slice A t.length c]) (St.init w) (fun bx1 wx1 kx1 hsx1 => WO.act (hc := rfl) (he := Ef.boxL ([.int .i64 i]) hsx1 (fun bx2 wx2 kx2 hsx2 => WO.rd (is := [2]) (js := []) (((Keep.refl _).trans kx1).trans kx2) (Rn.s rfl Yv.as (Rn.nil)) (WO.done ?_)))))))
  refine Wp.seq (Wp.reads (is := [0, 1]) (Keep.refl _) (Rn.s rfl Yv.mf (Rn.s rfl Yv.as (Rn.nil))) ?_)
  exact Wp.ret (Fin.ret (Res.one rfl rfl) ⟨_, _, rfl, ⟨bx2, bx1, rfl, rfl⟩, hsx2⟩)
theorem resC {P : Program} {fn : Func} {N : Nat} {ρ : Env} {w : World} {u bu : Nat} {tu : TypeId} {x : Value} (h : fn.results = #[.cell u tu]) (hq : lk ρ u = some (PB bu)) (hx : Cells w bu [x]) (hu : scB P tu = true := by kernel_rfl) : Res P fn N ρ w x := fun a ds ha => by
  have h2 := ha.val u _ hq
  have e2 : (loadVar tu ⟨bu, 0, none⟩).run P w = .ok x w := by simp [loadVar, run_isAgg_sc (scB_of hu), hx 0 x rfl]
  simp only [results, h]
  simp at h2
  simp [h2, e2, asAddr]
def orN : Option Nat → Int
  | some n => n
  | none => -1
def findS (t : List Nd) (i : Nat) (key : Bs) : Int := orN ((partsS t i).find? (fun n : Nat => (nth t (n : Int)).key == key))
theorem find_drop {α : Type} {G : Option α} {p : α → Bool} {x : α} {l : List α} {k : Nat} (hx : l[k]? = some x) (h : (l.drop k).find? p = G) : (p x = true → G = some x) ∧ (p x = false → (l.drop (k + 1)).find? p = G) := by
  have hk := (List.getElem?_eq_some_iff.1 hx).1
  rw [List.drop_eq_getElem_cons hk, (List.getElem?_eq_some_iff.1 hx).2, List.find?_cons] at h
  constructor
  · intro e; rw [e] at h; exact h.symm
  · intro e; rw [e] at h; exact h
theorem find_cv (A : Option Addr) (c : Nat) (t : List Nd) (i : Nat) (key : Bs) (w0 : World) (hr : Rd NdE w0 A t) (hi : i < t.length) (hl : t.length < 4000000000000000000) (hd : -1000000 ≤ (nth t (i : Int)).depth ∧ (nth t (i : Int)).depth ≤ 1000000) :
    Cv Tryd.prog 39 [.slice A t.length c, .int .i64 i, S key] (.int .i64 (findS t i key)) w0 := by
  intro w hk
  have hr := hr.keep hk
  obtain ⟨G, hG⟩ : ∃ G, G = (partsS t i).find? (fun n : Nat => (nth t (n : Int)).key == key) := ⟨_, rfl⟩
  have hGi : findS t i key = orN G := by rw [findS, ← hG]
  rw [hGi]
  refine calls_of_Wp (vs := [_, _, _]) Tryd.func39 ?_
  refine Wp.seq (Wp.regionL (l := [0, 1, 2]) (WO.act (hc := rfl) (he := Ef.boxL ([.slice A t.length c]) (St.init w) (fun ba1 wa1 ka1 hsa1 => WO.act (hc := rfl) (he := Ef.boxL ([S key]) hsa1 (fun ba2 wa2 ka2 hsa2 => WO.act (hc := rfl) (he := Ef.allocL (vs := [.int .i64 0]) hsa2 (fun ba3 wa3 ka3 hsa3 => WO.done ?_))))))))
  have c3 := hsa3.cells 2
  refine Wp.seq (Wp.seq (Wp.regionL (l := [0, 1, 2]) (WO.rd (is := [0, 1]) (js := [2]) (Keep.refl _) (Rn.s rfl (Yv.ld (c3.at_ 0)) (Rn.s rfl Yv.mv (Rn.nil))) (WO.act (hc := rfl) (he := Ef.cx (of_calls i A c t wa3) hsa3 (FnOk.of Tryd.func59) ?_)))))
  rintro v D wd1 ⟨b1, b2, rfl, rfl⟩ hsd1
  refine WO.done ?_
  have hst : St w [] wd1 [Ch.cells b1 3 [.int .i64 i], Ch.cells b2 43 [.slice A t.length c], Ch.cells ba3 3 [.int .i64 0], Ch.cells ba2 9 [S key], Ch.cells ba1 43 [.slice A t.length c]] := hsd1
  refine Wp.block ?_
  refine Wp.ranges hst (of_tells b1 b2 i A c t hi hl hd)
    (fun k D => D = [Ch.cells b1 3 [.int .i64 i], Ch.cells b2 43 [.slice A t.length c], Ch.cells ba3 3 [.int .i64 0], Ch.cells ba2 9 [S key], Ch.cells ba1 43 [.slice A t.length c]] ∧ ((partsS t i).drop k).find? (fun n : Nat => (nth t (n : Int)).key == key) = G)
    (fun c' D => c' = .ret ∧ ∃ n : Nat, G = some n ∧ D = [Ch.cells ba3 3 [.int .i64 n]])
    ?_ ⟨rfl, hG.symm⟩ ?_ ?_ ?_ (hf := Tryd.func87)
  · rintro k D' W ⟨rfl, -⟩ h
    exact ⟨h.cells 0, h.cells 1, hr.keep h.keep⟩
  · rintro k x l kb busy D' W hx ⟨rfl, hfd⟩ hW
    have hxm := partsS_mem hi x (List.mem_of_getElem? hx)
    refine Wp.reads (is := [0]) (Keep.refl _) (Rn.s rfl Yv.as (Rn.nil)) ⟨rfl, Keep.refl _, ?_⟩
    intro W2 hW2
    have hr2 : Rd NdE W2 A t := hr.keep hW2.keep
    have c5 := hW2.cells 5
    have c3 := hW2.cells 6
    obtain ⟨f1, f2⟩ := find_drop hx hfd
    refine Wp.block (Wp.seq (Wp.readsD (is := [0, 1, 2, 3, 4, 5, 6]) mixed (fun _ _ _ _ _ h => h) (Keep.refl _) (Rn.s rfl (Yv.ld (c3.at_ 0)) (Rn.s rfl Yv.mv (Rn.s rfl (Yv.ia (e := 48) hr2 (by omega) (by omega)) (Rn.s rfl (Yv.fa (off := 2)) (Rn.s rfl (Yv.ld (hr2.ld 2 (by omega) (by omega))) (Rn.s rfl (Yv.ld (c5.at_ 0)) (Rn.s rfl (Yv.scm _ rfl) (Rn.nil)))))))) ?_))
    refine Wp.cond rfl (fun h => ?_) (fun h => ?_)
    · refine Wp.seq (Wp.regionL (l := [0, 1]) (WO.rd (is := [0]) (js := [1]) (Keep.refl _) (Rn.s rfl Yv.mv (Rn.nil)) (WO.act (hc := rfl) (he := Ef.store (hW2.quiet (Keep.drew _)) 4 (fun wy1 hsy1 => WO.done ?_)))))
      exact Wp.ret ⟨_, ⟨rfl, x, f1 h, rfl⟩, hsy1.pick [1, 2, 0]⟩
    · exact Wp.skip ⟨_, ⟨rfl, f2 h⟩, hW2.quiet (Keep.drew _)⟩
  · rintro kb D' W ⟨rfl, hfd⟩ hW
    rw [List.drop_eq_nil_of_le (Nat.le_refl _), List.find?_nil] at hfd
    subst hfd
    refine Wp.seq (Wp.regionL (l := [0]) (WO.act (hc := rfl) (he := Ef.store hW 3 (fun wy1 hsy1 => WO.done ?_))))
    have hs2 := hsy1.pick [1, 0]
    exact Wp.ret (Fin.retM (Lv.one hs2 0 fun w2 hst2 => ⟨_, resC rfl rfl (hst2.cells 0) , rfl, hst2.keep⟩))
  · rintro kb c' D' W ⟨rfl, n, hGn, rfl⟩ hW
    subst hGn
    exact Wp.ret (Fin.retM (Lv.one hW 0 fun w2 hst2 => ⟨_, resC rfl rfl (hst2.cells 0), rfl, hst2.keep⟩))
end Go.Proofs.YtgjhbapbomdpbaaDoor.C
