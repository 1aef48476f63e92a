/- The document's trees (shuttleref4): End, Next, form, unlike. -/
import Derived.Test.YtpnkfnenhgfhpaaDoorBe
set_option linter.unusedVariables false
set_option linter.unusedSimpArgs false
set_option maxRecDepth 10000
namespace Go.Proofs.YtpnkfnenhgfhpaaDoor.C
open Go.RowKit Go.Proofs.YtpnkfnenhgfhpaaDoor.Sh
def endR (d : Int) : List Nd → Nat → Nat
  | [], k => k
  | n :: r, k => if d < n.depth then endR d r (k + 1) else k
def endS (t : List Nd) (i : Nat) : Nat := endR (nth t (i : Int)).depth (t.drop (i + 1)) (i + 1)
theorem endR_bd (d : Int) : ∀ (r : List Nd) (k : Nat), k ≤ endR d r k ∧ endR d r k ≤ k + r.length
  | [], k => by simp [endR]
  | n :: r, k => by
    rw [endR]
    have := endR_bd d r (k + 1)
    simp only [List.length_cons]
    split <;> omega
theorem endS_bd {t : List Nd} {i : Nat} (hi : i < t.length) : i < endS t i ∧ endS t i ≤ t.length := by
  have := endR_bd (nth t (i : Int)).depth (t.drop (i + 1)) (i + 1)
  simp only [List.length_drop] at this
  unfold endS
  omega
theorem drop_cons {α : Type} [Inhabited α] {l : List α} {k : Nat} (hk : k < l.length) : l.drop k = nth l (k : Int) :: l.drop (k + 1) := by
  have h : l[k] = nth l (k : Int) := by rw [nth_nat]; simp [hk]
  rw [List.drop_eq_getElem_cons hk, h]
theorem rend_cv (A : Option Addr) (c : Nat) (t : List Nd) (i : Nat) (w0 : World) (hr : Rd NdE w0 A t) (hi : i < t.length) (hl : t.length < 4000000000000000000) :
    Cv Tryd.prog 71 [.slice A t.length c, .int .i64 i] (.int .i64 (endS t i)) w0 := by
  intro w hk
  have hr := hr.keep hk
  refine calls_of_Wp (vs := [_, _]) Tryd.func71 ?_
  refine Wp.seq (Wp.reads (is := [0]) (Keep.refl _) (Rn.s rfl Yv.as (Rn.nil)) ?_)
  refine Wp.seq (Wp.reads (is := [0, 1, 2]) (Keep.refl _) (Rn.s rfl Yv.mv (Rn.s rfl (Yv.add (by unfold inI; omega)) (Rn.s rfl Yv.as (Rn.nil)))) ?_)
  refine Wp.seq (Wp.block ?_)
  refine Wp.loop (α := Nat) (fun k ρ ds w' => ds = [] ∧ Keep w w' ∧ i < k ∧ k ≤ t.length ∧ endS t i = endR (nth t (i : Int)).depth (t.drop k) k ∧
    Sub [(0, .slice A t.length c), (1, .int .i64 i), (5, .int .i64 (k : Int))] ρ) (fun k => t.length - k) (i + 1) ⟨rfl, Keep.refl _, by omega, by omega, rfl, rfl, rfl, by simp; rfl, trivial⟩ ?_
  rintro k ρ ds w' ⟨rfl, hk, h1, h2, h3, hs⟩
  refine Wp.forget _ ?_ hs
  have hr' := hr.keep hk
  refine Wp.seq (Wp.seq (Wp.readsD (is := [0, 1, 2, 3, 4, 5, 6, 7, 8, 9, 10, 11, 12, 13, 14, 15, 16]) mixed (fun _ _ _ _ _ h => h) (Keep.refl _) (Rn.s rfl Yv.mv (Rn.s rfl Yv.mv (Rn.s rfl (Yv.len_v (e := 32) (m := 8)) (Rn.s rfl (Yv.cmp _ rfl) (Rn.s rfl Yv.mv (Rn.and (is := [5, 6, 7, 8, 9, 10, 11, 12, 13, 14, 15, 16]) (js := []) (t := 12) (d := 24) (hg := rfl) (ht := fun h4 => have h4 := of_decide_eq_true h4; Rn.s rfl Yv.mv (Rn.s rfl Yv.mv (Rn.s rfl (Yv.ia (e := 32) hr' (by omega) (by omega)) (Rn.s rfl (Yv.fa (off := 1)) (Rn.s rfl (Yv.ld (hr'.ld 1 (by omega) (by omega))) (Rn.s rfl Yv.mv (Rn.s rfl Yv.mv (Rn.s rfl (Yv.ia (e := 32) hr' (j := i) (by omega) (by omega)) (Rn.s rfl (Yv.fa (off := 1)) (Rn.s rfl (Yv.ld (hr'.ld (i := i) 1 (by omega) (by omega))) (Rn.s rfl (Yv.cmp _ rfl) (Rn.s rfl Yv.pick_t ((Rn.e 12 rfl rfl)))))))))))))) (hf := fun _ => Rn.no rfl (Rn.no rfl (Rn.no rfl (Rn.no rfl (Rn.no rfl (Rn.no rfl (Rn.no rfl (Rn.no rfl (Rn.no rfl (Rn.no rfl (Rn.no rfl (Rn.s rfl Yv.pick_f (Rn.e 12 rfl rfl))))))))))))) (k := Rn.nil))))))) ?_))
  refine Wp.cond rfl (fun h => ?_) (fun h => ?_)
  · simp only [Bool.and_eq_true, decide_eq_true_eq] at h
    have hkl : k < t.length := by omega
    rw [drop_cons hkl, endR, if_pos h.2] at h3
    refine Wp.skip (Wp.block (Wp.reads (is := [0, 1, 2]) (Keep.refl _) (Rn.s rfl Yv.mv (Rn.s rfl (Yv.add (by unfold inI; omega)) (Rn.s rfl Yv.as (Rn.nil)))) ?_))
    exact ⟨k + 1, ⟨rfl, hk.trans (Keep.drew _), by omega, hkl, h3, rfl, rfl, rfl, trivial⟩, by omega⟩
  · refine Wp.exit ?_
    refine Wp.seq (Wp.reads (is := [0, 1]) (Keep.refl _) (Rn.s rfl Yv.mv (Rn.s rfl Yv.as (Rn.nil))) ?_)
    have e : endS t i = k := by
      rw [h3]
      by_cases hkl : k < t.length
      · rw [drop_cons hkl, endR, if_neg]
        simp only [Bool.and_eq_false_iff, decide_eq_false_iff_not] at h
        omega
      · rw [List.drop_eq_nil_of_le (by omega), endR]
    exact Wp.ret (Fin.ret (Res.one rfl rfl) ⟨by rw [e], hk.trans (Keep.drew _)⟩)
def nextS (t : List Nd) (i k : Nat) : Int := if k < t.length ∧ (nth t (k : Int)).depth = (nth t (i : Int)).depth + 1 then k else -1
/-- the part behind a part: where the part ends -/
def fromS (t : List Nd) (i a : Nat) : Nat := if a ≠ i then endS t a else i + 1
theorem rnext_cv (A : Option Addr) (c : Nat) (t : List Nd) (i a : Nat) (w0 : World) (hr : Rd NdE w0 A t) (hi : i < t.length) (ha : a < t.length) (hl : t.length < 4000000000000000000) (hd : -1000000 ≤ (nth t (i : Int)).depth ∧ (nth t (i : Int)).depth ≤ 1000000) :
    Cv Tryd.prog 92 [.slice A t.length c, .int .i64 i, .int .i64 a] (.int .i64 (nextS t i (fromS t i a))) w0 := by
  intro w hk
  have hr := hr.keep hk
  have he := endS_bd ha
  refine calls_of_Wp (vs := [_, _, _]) Tryd.func92 ?_
  refine Wp.seq (Wp.reads (is := [0]) (Keep.refl _) (Rn.s rfl Yv.as (Rn.nil)) ?_)
  refine Wp.seq (Wp.reads (is := [0, 1, 2]) (Keep.refl _) (Rn.s rfl Yv.mv (Rn.s rfl (Yv.add (by unfold inI; omega)) (Rn.s rfl Yv.as (Rn.nil)))) ?_)
  refine Wp.seq (Wp.seq (Wp.reads (is := [0, 1, 2]) (Keep.refl _) (Rn.s rfl Yv.mv (Rn.s rfl Yv.mv (Rn.s rfl (Yv.cmp _ rfl) (Rn.nil)))) ?_))
  refine Wp.mid (fun ρ ds w' => ds = [] ∧ Keep w w' ∧ Sub [(0, .slice A t.length c), (1, .int .i64 i), (7, .int .i64 (fromS t i a : Nat))] ρ) ?_ ?_
  · refine Wp.cond rfl (fun h => ?_) (fun h => ?_)
    · have h : a ≠ i := by intro e; subst e; simp at h
      refine Wp.regionL (l := [0, 1, 2, 3]) (WO.rd (is := [0, 1]) (js := [2, 3]) (Keep.refl _) (Rn.s rfl Yv.mv (Rn.s rfl Yv.mv (Rn.nil))) (WO.cv rfl (rend_cv A c t a w hr ha hl) (Keep.refl _) (FnOk.of Tryd.func71) (fun wx1 kx1 => WO.rd (is := [3]) (js := []) ((Keep.refl _).trans kx1) (Rn.s rfl Yv.as (Rn.nil)) (WO.done ?_))))
      exact ⟨rfl, kx1, rfl, rfl, by rw [fromS, if_pos h]; rfl, trivial⟩
    · have h : a = i := by
        have : (a : Int) = i := by simpa using h
        omega
      exact Wp.skip ⟨rfl, Keep.refl _, rfl, rfl, by rw [fromS, if_neg (by simp [h])]; simp; rfl, trivial⟩
  rintro ρ ds w' ⟨rfl, hk, hs⟩
  refine Wp.forget _ ?_ hs
  have hr' := hr.keep hk
  obtain ⟨k, hkk⟩ : ∃ k, k = fromS t i a := ⟨_, rfl⟩
  rw [← hkk]
  refine Wp.seq (Wp.seq (Wp.readsD (is := [0, 1, 2, 3, 4, 5, 6, 7, 8, 9, 10, 11, 12, 13, 14, 15, 16, 17]) mixed (fun _ _ _ _ _ h => h) (Keep.refl _) (Rn.s rfl Yv.mv (Rn.s rfl Yv.mv (Rn.s rfl (Yv.len_v (e := 32) (m := 8)) (Rn.s rfl (Yv.cmp _ rfl) (Rn.s rfl Yv.mv (Rn.and (is := [5, 6, 7, 8, 9, 10, 11, 12, 13, 14, 15, 16, 17]) (js := []) (t := 20) (d := 33) (hg := rfl) (ht := fun h4 => have h4 := of_decide_eq_true h4; Rn.s rfl Yv.mv (Rn.s rfl Yv.mv (Rn.s rfl (Yv.ia (e := 32) hr' (by omega) (by omega)) (Rn.s rfl (Yv.fa (off := 1)) (Rn.s rfl (Yv.ld (hr'.ld 1 (by omega) (by omega))) (Rn.s rfl Yv.mv (Rn.s rfl Yv.mv (Rn.s rfl (Yv.ia (e := 32) hr' (j := i) (by omega) (by omega)) (Rn.s rfl (Yv.fa (off := 1)) (Rn.s rfl (Yv.ld (hr'.ld (i := i) 1 (by omega) (by omega))) (Rn.s rfl (Yv.add (by unfold inI; omega)) (Rn.s rfl (Yv.cmp _ rfl) (Rn.s rfl Yv.pick_t ((Rn.e 13 rfl rfl))))))))))))))) (hf := fun _ => Rn.no rfl (Rn.no rfl (Rn.no rfl (Rn.no rfl (Rn.no rfl (Rn.no rfl (Rn.no rfl (Rn.no rfl (Rn.no rfl (Rn.no rfl (Rn.no rfl (Rn.no rfl (Rn.s rfl Yv.pick_f (Rn.e 13 rfl rfl)))))))))))))) (k := Rn.nil))))))) ?_))
  refine Wp.cond rfl (fun h => ?_) (fun h => ?_)
  · simp only [Bool.and_eq_true, decide_eq_true_eq, beq_iff_eq] at h
    refine Wp.seq (Wp.reads (is := [0, 1]) (Keep.refl _) (Rn.s rfl Yv.mv (Rn.s rfl Yv.as (Rn.nil))) ?_)
    exact Wp.ret (Fin.ret (Res.one rfl rfl) ⟨by rw [nextS, if_pos ⟨by omega, h.2⟩], hk.trans (Keep.drew _)⟩)
  · refine Wp.skip (Wp.seq (Wp.reads (is := [0]) (Keep.refl _) (Rn.s rfl Yv.as (Rn.nil)) ?_))
    refine Wp.ret (Fin.ret (Res.one rfl rfl) ⟨?_, hk.trans (Keep.drew _)⟩)
    rw [nextS, if_neg]
    rintro ⟨h1, h2⟩
    simp only [Bool.and_eq_false_iff, decide_eq_false_iff_not, beq_eq_false_iff_ne] at h
    rcases h with h | h
    · omega
    · exact h h2
def formB (n a : Nd) (p : Int) : Bool :=
  if ((decide (n.kind < 1) || decide (3 < n.kind)) || (n.kind != 3 && n.text != [])) = true then false
  else if (((decide (n.depth < 1) || decide (32 < n.depth)) || decide (a.depth + 1 < n.depth)) || (n.depth == a.depth + 1 && a.kind == 3)) = true then false
  else ((p == 1 && decide ((n.key.length : Int) ≤ 64)) || (p == 2 && n.key == []))
theorem form_cv (n a : Nd) (p : Int) (w0 : World) (h : inI (a.depth + 1)) : Cv Tryd.prog 65 [.agg n.cs.toArray, .agg a.cs.toArray, .int .i64 p] (.bool (formB n a p)) w0 := by
  intro w hk
  refine calls_of_Wp (vs := [_, _, _]) Tryd.func65 ?_
  refine Wp.seq (Wp.regionL (l := [0, 1, 2]) (WO.act (hc := rfl) (he := Ef.boxL (n.cs) (St.init w) (fun ba1 wa1 ka1 hsa1 => WO.act (hc := rfl) (he := Ef.boxL (a.cs) hsa1 (fun ba2 wa2 ka2 hsa2 => WO.rd (is := [2]) (js := []) (((Keep.refl _).trans ka1).trans ka2) (Rn.s rfl Yv.as (Rn.nil)) (WO.done ?_)))))))
  have c4 := hsa2.cells 0
  have c3 := hsa2.cells 1
  refine Wp.seq (Wp.seq (Wp.reads (is := [0, 1, 2, 3, 4, 5, 6, 7, 8, 9, 10, 11, 12, 13, 14, 15, 16, 17]) (Keep.refl _) (Rn.s rfl (Yv.fa (off := 0)) (Rn.s rfl (Yv.ld (c3.at_ 0)) (Rn.s rfl (Yv.cmp _ rfl) (Rn.s rfl Yv.mv (Rn.or (is := [4, 5, 6, 7]) (js := [8, 9, 10, 11, 12, 13, 14, 15, 16, 17]) (t := 10) (d := 14) (hg := rfl) (hf := fun h3 => have h3 := of_decide_eq_false h3; Rn.s rfl (Yv.fa (off := 0)) (Rn.s rfl (Yv.ld (c3.at_ 0)) (Rn.s rfl (Yv.cmp _ rfl) (Rn.s rfl Yv.pick_f ((Rn.e 4 rfl rfl)))))) (ht := fun _ => Rn.no rfl (Rn.no rfl (Rn.no rfl (Rn.s rfl Yv.pick_t (Rn.e 4 rfl rfl))))) (k := Rn.s rfl Yv.mv (Rn.or (is := [9, 10, 11, 12, 13, 14, 15, 16, 17]) (js := []) (t := 15) (d := 24) (hg := rfl) (hf := fun h8 => Rn.s rfl (Yv.fa (off := 0)) (Rn.s rfl (Yv.ld (c3.at_ 0)) (Rn.s rfl (Yv.cmp _ rfl) (Rn.s rfl Yv.mv (Rn.and (is := [13, 14, 15, 16]) (js := [17]) (t := 19) (d := 23) (hg := rfl) (ht := fun h12 => have h12 := bne_iff_ne.1 h12; Rn.s rfl (Yv.fa (off := 3)) (Rn.s rfl (Yv.ld (c3.at_ 3)) (Rn.s rfl (Yv.scm _ rfl) (Rn.s rfl Yv.pick_t ((Rn.e 4 rfl rfl)))))) (hf := fun _ => Rn.no rfl (Rn.no rfl (Rn.no rfl (Rn.s rfl Yv.pick_f (Rn.e 4 rfl rfl))))) (k := Rn.s rfl Yv.pick_f ((Rn.e 6 rfl rfl)))))))) (ht := fun _ => Rn.no rfl (Rn.no rfl (Rn.no rfl (Rn.no rfl (Rn.no rfl (Rn.no rfl (Rn.no rfl (Rn.no rfl (Rn.s rfl Yv.pick_t (Rn.e 9 rfl rfl)))))))))) (k := Rn.nil)))))))) ?_))
  refine Wp.cond rfl (fun h1 => ?_) (fun h1 => ?_)
  · refine Wp.seq (Wp.reads (is := [0]) (Keep.refl _) (Rn.s rfl Yv.as (Rn.nil)) ?_)
    exact Wp.ret (Fin.ret (Res.one rfl rfl) ⟨by rw [formB, if_pos h1], hsa2.keep⟩)
  refine Wp.skip (Wp.seq (Wp.seq (Wp.reads (is := [0, 1, 2, 3, 4, 5, 6, 7, 8, 9, 10, 11, 12, 13, 14, 15, 16, 17, 18, 19, 20, 21, 22, 23, 24, 25, 26, 27, 28]) (Keep.refl _) (Rn.s rfl (Yv.fa (off := 1)) (Rn.s rfl (Yv.ld (c3.at_ 1)) (Rn.s rfl (Yv.cmp _ rfl) (Rn.s rfl Yv.mv (Rn.or (is := [4, 5, 6, 7]) (js := [8, 9, 10, 11, 12, 13, 14, 15, 16, 17, 18, 19, 20, 21, 22, 23, 24, 25, 26, 27, 28]) (t := 28) (d := 32) (hg := rfl) (hf := fun h3 => have h3 := of_decide_eq_false h3; Rn.s rfl (Yv.fa (off := 1)) (Rn.s rfl (Yv.ld (c3.at_ 1)) (Rn.s rfl (Yv.cmp _ rfl) (Rn.s rfl Yv.pick_f ((Rn.e 4 rfl rfl)))))) (ht := fun _ => Rn.no rfl (Rn.no rfl (Rn.no rfl (Rn.s rfl Yv.pick_t (Rn.e 4 rfl rfl))))) (k := Rn.s rfl Yv.mv (Rn.or (is := [9, 10, 11, 12, 13, 14, 15]) (js := [16, 17, 18, 19, 20, 21, 22, 23, 24, 25, 26, 27, 28]) (t := 33) (d := 40) (hg := rfl) (hf := fun h8 => Rn.s rfl (Yv.fa (off := 1)) (Rn.s rfl (Yv.ld (c3.at_ 1)) (Rn.s rfl (Yv.fa (off := 1)) (Rn.s rfl (Yv.ld (c4.at_ 1)) (Rn.s rfl (Yv.add h) (Rn.s rfl (Yv.cmp _ rfl) (Rn.s rfl Yv.pick_f ((Rn.e 7 rfl rfl))))))))) (ht := fun _ => Rn.no rfl (Rn.no rfl (Rn.no rfl (Rn.no rfl (Rn.no rfl (Rn.no rfl (Rn.s rfl Yv.pick_t (Rn.e 7 rfl rfl)))))))) (k := Rn.s rfl Yv.mv (Rn.or (is := [17, 18, 19, 20, 21, 22, 23, 24, 25, 26, 27, 28]) (js := []) (t := 41) (d := 53) (hg := rfl) (hf := fun h16 => Rn.s rfl (Yv.fa (off := 1)) (Rn.s rfl (Yv.ld (c3.at_ 1)) (Rn.s rfl (Yv.fa (off := 1)) (Rn.s rfl (Yv.ld (c4.at_ 1)) (Rn.s rfl (Yv.add h) (Rn.s rfl (Yv.cmp _ rfl) (Rn.s rfl Yv.mv (Rn.and (is := [24, 25, 26, 27]) (js := [28]) (t := 48) (d := 52) (hg := rfl) (ht := fun h23 => have h23 := eq_of_beq h23; Rn.s rfl (Yv.fa (off := 0)) (Rn.s rfl (Yv.ld (c4.at_ 0)) (Rn.s rfl (Yv.cmp _ rfl) (Rn.s rfl Yv.pick_t ((Rn.e 4 rfl rfl)))))) (hf := fun _ => Rn.no rfl (Rn.no rfl (Rn.no rfl (Rn.s rfl Yv.pick_f (Rn.e 4 rfl rfl))))) (k := Rn.s rfl Yv.pick_f ((Rn.e 9 rfl rfl))))))))))) (ht := fun _ => Rn.no rfl (Rn.no rfl (Rn.no rfl (Rn.no rfl (Rn.no rfl (Rn.no rfl (Rn.no rfl (Rn.no rfl (Rn.no rfl (Rn.no rfl (Rn.no rfl (Rn.s rfl Yv.pick_t (Rn.e 12 rfl rfl))))))))))))) (k := Rn.nil)))))))))) ?_)))
  refine Wp.cond rfl (fun h2 => ?_) (fun h2 => ?_)
  · refine Wp.seq (Wp.reads (is := [0]) (Keep.refl _) (Rn.s rfl Yv.as (Rn.nil)) ?_)
    exact Wp.ret (Fin.ret (Res.one rfl rfl) ⟨by rw [formB, if_neg (by rw [h1]; decide), if_pos h2], hsa2.keep⟩)
  refine Wp.skip (Wp.seq (Wp.reads (is := [0, 1, 2, 3, 4, 5, 6, 7, 8, 9, 10, 11, 12, 13, 14, 15, 16, 17]) (Keep.refl _) (Rn.s rfl Yv.mv (Rn.s rfl (Yv.cmp _ rfl) (Rn.s rfl Yv.mv (Rn.and (is := [3, 4, 5, 6, 7]) (js := [8, 9, 10, 11, 12, 13, 14, 15, 16, 17]) (t := 56) (d := 61) (hg := rfl) (ht := fun h2 => have h2 := eq_of_beq h2; Rn.s rfl (Yv.fa (off := 2)) (Rn.s rfl (Yv.ld (c3.at_ 2)) (Rn.s rfl Yv.len_s (Rn.s rfl (Yv.cmp _ rfl) (Rn.s rfl Yv.pick_t ((Rn.e 5 rfl rfl))))))) (hf := fun _ => Rn.no rfl (Rn.no rfl (Rn.no rfl (Rn.no rfl (Rn.s rfl Yv.pick_f (Rn.e 5 rfl rfl)))))) (k := Rn.s rfl Yv.mv (Rn.or (is := [9, 10, 11, 12, 13, 14, 15, 16]) (js := [17]) (t := 62) (d := 70) (hg := rfl) (hf := fun h8 => Rn.s rfl Yv.mv (Rn.s rfl (Yv.cmp _ rfl) (Rn.s rfl Yv.mv (Rn.and (is := [12, 13, 14, 15]) (js := [16]) (t := 65) (d := 69) (hg := rfl) (ht := fun h11 => have h11 := eq_of_beq h11; Rn.s rfl (Yv.fa (off := 2)) (Rn.s rfl (Yv.ld (c3.at_ 2)) (Rn.s rfl (Yv.scm _ rfl) (Rn.s rfl Yv.pick_t ((Rn.e 4 rfl rfl)))))) (hf := fun _ => Rn.no rfl (Rn.no rfl (Rn.no rfl (Rn.s rfl Yv.pick_f (Rn.e 4 rfl rfl))))) (k := Rn.s rfl Yv.pick_f ((Rn.e 5 rfl rfl))))))) (ht := fun _ => Rn.no rfl (Rn.no rfl (Rn.no rfl (Rn.no rfl (Rn.no rfl (Rn.no rfl (Rn.no rfl (Rn.s rfl Yv.pick_t (Rn.e 8 rfl rfl))))))))) (k := Rn.s rfl Yv.as (Rn.nil)))))))) ?_))
  refine Wp.ret (Fin.ret (Res.one rfl rfl) ⟨?_, hsa2.keep⟩)
  rw [formB, if_neg (by rw [h1]; decide), if_neg (by rw [h2]; decide)]
/-! ### Next goes through a node's parts -/
theorem parts_end (d : Int) : ∀ (r : List Nd) (k : Nat), partsR d r k = partsR d (r.drop (endR (d + 1) r k - k)) (endR (d + 1) r k)
  | [], k => by simp [endR, partsR]
  | n :: r, k => by
    rw [endR]
    by_cases h : d + 1 < n.depth
    · rw [if_pos h, partsR, if_pos (by omega), if_neg (by omega), parts_end d r (k + 1)]
      have hb := endR_bd (d + 1) r (k + 1)
      have : endR (d + 1) r (k + 1) - k = (endR (d + 1) r (k + 1) - (k + 1)) + 1 := by omega
      rw [this, List.drop_succ_cons]
    · rw [if_neg h, Nat.sub_self, List.drop_zero]
theorem parts_head (t : List Nd) (i k : Nat) (h : k < t.length → (nth t (k : Int)).depth ≤ (nth t (i : Int)).depth + 1) : nextS t i k = orN (partsR (nth t (i : Int)).depth (t.drop k) k).head? := by
  unfold nextS
  by_cases hk : k < t.length
  · have h := h hk
    rw [drop_cons hk, partsR]
    by_cases h1 : (nth t (k : Int)).depth = (nth t (i : Int)).depth + 1
    · rw [if_pos ⟨hk, h1⟩, if_pos (by omega), if_pos h1]; rfl
    · rw [if_neg (fun q => h1 q.2), if_neg (by omega)]; rfl
  · rw [if_neg (fun q => hk q.1), List.drop_eq_nil_of_le (by omega)]; rfl
theorem parts_get (d : Int) : ∀ (r : List Nd) (k j x : Nat), (partsR d r k)[j]? = some x → ∃ n, r[x - k]? = some n ∧ k ≤ x ∧ n.depth = d + 1 ∧ (partsR d r k).drop (j + 1) = partsR d (r.drop (x - k + 1)) (x + 1)
  | [], k, j, x, h => by simp [partsR] at h
  | n :: r, k, j, x, h => by
    rw [partsR] at h ⊢
    by_cases h1 : d < n.depth
    · rw [if_pos h1] at h ⊢
      by_cases h2 : n.depth = d + 1
      · rw [if_pos h2] at h ⊢
        cases j with
        | zero =>
          injection h with h
          subst h
          exact ⟨n, by simp, Nat.le_refl _, h2, by simp⟩
        | succ j =>
          obtain ⟨m, q1, q2, q3, q4⟩ := parts_get d r (k + 1) j x h
          have e : x - k = (x - (k + 1)) + 1 := by omega
          refine ⟨m, by rw [e]; exact q1, by omega, q3, ?_⟩
          rw [List.drop_succ_cons, q4, e, List.drop_succ_cons]
      · rw [if_neg h2] at h ⊢
        obtain ⟨m, q1, q2, q3, q4⟩ := parts_get d r (k + 1) j x h
        have e : x - k = (x - (k + 1)) + 1 := by omega
        exact ⟨m, by rw [e]; exact q1, by omega, q3, by rw [q4, e, List.drop_succ_cons]⟩
    · rw [if_neg h1] at h
      simp at h
theorem next_first {t : List Nd} {i : Nat} (h : i + 1 < t.length → (nth t ((i + 1 : Nat) : Int)).depth ≤ (nth t (i : Int)).depth + 1) : nextS t i (fromS t i i) = orN (partsS t i)[0]? := by
  rw [fromS, if_neg (by simp), parts_head t i (i + 1) h, partsS, List.head?_eq_getElem?]
theorem endR_stop (d : Int) : ∀ (r : List Nd) (k : Nat) (n : Nd), r[endR d r k - k]? = some n → n.depth ≤ d
  | [], k, n, h => by simp at h
  | m :: r, k, n, h => by
    rw [endR] at h
    by_cases h1 : d < m.depth
    · rw [if_pos h1] at h
      have hb := endR_bd d r (k + 1)
      have e : endR d r (k + 1) - k = (endR d r (k + 1) - (k + 1)) + 1 := by omega
      rw [e, List.getElem?_cons_succ] at h
      exact endR_stop d r (k + 1) n h
    · rw [if_neg h1, Nat.sub_self] at h
      injection h with h
      subst h
      omega
theorem next_more {t : List Nd} {i j x : Nat} (hi : i < t.length) (hx : (partsS t i)[j]? = some x) : nextS t i (fromS t i x) = orN (partsS t i)[j + 1]? := by
  have hm := partsS_mem hi x (List.mem_of_getElem? hx)
  obtain ⟨n, h1, h2, h3, h4⟩ := parts_get _ _ _ _ _ hx
  have e1 : x - (i + 1) + (i + 1) = x := by omega
  rw [List.getElem?_drop] at h1
  have e2 : i + 1 + (x - (i + 1)) = x := by omega
  rw [e2] at h1
  have hn : nth t (x : Int) = n := nth_of h1
  rw [List.drop_drop] at h4
  have e3 : i + 1 + (x - (i + 1) + 1) = x + 1 := by omega
  rw [e3] at h4
  have h5 : (partsS t i)[j + 1]? = (partsR (nth t (i : Int)).depth (t.drop (x + 1)) (x + 1)).head? := by
    rw [← h4, List.head?_drop]; rfl
  have heb := endR_bd (nth t (x : Int)).depth (t.drop (x + 1)) (x + 1)
  rw [fromS, if_pos (by omega), h5, parts_end, List.drop_drop]
  rw [parts_head]
  · unfold endS
    rw [hn, h3]
    rw [hn, h3] at heb
    congr 4
    omega
  · intro hk
    have := endR_stop (nth t (x : Int)).depth (t.drop (x + 1)) (x + 1) (nth t ((endS t x : Nat) : Int)) (by
      rw [List.getElem?_drop]
      have : x + 1 + (endR (nth t (x : Int)).depth (t.drop (x + 1)) (x + 1) - (x + 1)) = endS t x := by unfold endS; omega
      rw [this]
      have := nth_get (l := t) (i := ((endS t x : Nat) : Int)) (by omega) (by omega)
      rw [Int.toNat_natCast] at this
      exact this)
    rw [hn, h3] at this
    exact this
end Go.Proofs.YtpnkfnenhgfhpaaDoor.C
