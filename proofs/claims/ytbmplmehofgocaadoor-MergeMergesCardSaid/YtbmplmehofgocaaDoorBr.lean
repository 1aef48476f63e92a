/- The document's Find, step and Get. -/
import Derived.Test.YtbmplmehofgocaaDoorBo
import Derived.Test.YtbmplmehofgocaaDoorR2
set_option linter.unusedVariables false
set_option linter.unusedSimpArgs false
set_option maxRecDepth 10000
namespace Go.Proofs.YtbmplmehofgocaaDoor.C
open Go.RowKit Go.Proofs.YtbmplmehofgocaaDoor.Sh
theorem chain_cv {A : Option Addr} {c : Nat} {t : List Nd} {i : Nat} (hi : i < t.length) (hl : t.length < 4000000000000000000) (hd : -1000000 ≤ (nth t (i : Int)).depth ∧ (nth t (i : Int)).depth ≤ 1000000)
    (hf : i + 1 < t.length → (nth t ((i + 1 : Nat) : Int)).depth ≤ (nth t (i : Int)).depth + 1) :
    (∀ w', Rd NdE w' A t → Cv Tryd.prog 66 [.slice A t.length c, .int .i64 i, .int .i64 i] (.int .i64 (orN (partsS t i)[0]?)) w') ∧
    (∀ (j x : Nat), (partsS t i)[j]? = some x → ∀ w', Rd NdE w' A t → Cv Tryd.prog 66 [.slice A t.length c, .int .i64 i, .int .i64 x] (.int .i64 (orN (partsS t i)[j + 1]?)) w') := by
  constructor
  · intro w' hr
    have := rnext_cv A c t i i w' hr hi hi hl hd
    rw [next_first hf] at this
    exact this
  · intro j x hx w' hr'
    have hm := partsS_mem hi x (List.mem_of_getElem? hx)
    have := rnext_cv A c t i x w' hr' hi hm.2 hl hd
    rw [next_more hi hx] at this
    exact this
theorem orN_neg {o : Option Nat} (h : ¬ 0 ≤ orN o) : o = none := by
  cases o with
  | none => rfl
  | some n => exact absurd (by simp [orN]) h
theorem rfind_cv (A : Option Addr) (c : Nat) (t : List Nd) (i : Nat) (key : Bs) (w0 : World) (hr : Rd NdE w0 A t) (hi : i < t.length) (hl : t.length < 4000000000000000000) (hd : -1000000 ≤ (nth t (i : Int)).depth ∧ (nth t (i : Int)).depth ≤ 1000000)
    (hf : i + 1 < t.length → (nth t ((i + 1 : Nat) : Int)).depth ≤ (nth t (i : Int)).depth + 1) : Cv Tryd.prog 50 [.slice A t.length c, .int .i64 i, S key] (.int .i64 (findS t i key)) w0 := by
  intro w hk
  have hr := hr.keep hk
  obtain ⟨hn0, hn1⟩ := chain_cv (A := A) (c := c) hi hl hd hf
  have hfst := hn0 w hr
  have hmem : ∀ (j x : Nat), (partsS t i)[j]? = some x → x < t.length := fun j x hx => (partsS_mem hi x (List.mem_of_getElem? hx)).2
  obtain ⟨ps, hps⟩ : ∃ ps, ps = partsS t i := ⟨_, rfl⟩
  unfold findS
  rw [← hps] at hfst hn1 hmem ⊢
  obtain ⟨G, hG⟩ : ∃ G, G = ps.find? (fun n : Nat => (nth t (n : Int)).key == key) := ⟨_, rfl⟩
  rw [← hG]
  refine calls_of_Wp (vs := [_, _, _]) Tryd.func50 ?_
  refine Wp.seq (Wp.reads (is := [0]) (Keep.refl _) (Rn.s rfl Yv.as (Rn.nil)) ?_)
  refine Wp.seq (Wp.seq (Wp.regionL (l := [0, 1, 2, 3, 4]) (WO.rd (is := [0, 1, 2]) (js := [3, 4]) (Keep.refl _) (Rn.s rfl Yv.mv (Rn.s rfl Yv.mv (Rn.s rfl Yv.mv (Rn.nil)))) (WO.cv rfl hfst (Keep.refl _) (FnOk.of Tryd.func66) (fun wa1 ka1 => WO.rd (is := [4]) (js := []) ((Keep.refl _).trans ka1) (Rn.s rfl Yv.as (Rn.nil)) (WO.done ?_))))))
  refine Wp.block ?_
  refine Wp.loop (α := Nat) (fun j ρ ds w' => ds = [] ∧ Keep w w' ∧ (ps.drop j).find? (fun n : Nat => (nth t (n : Int)).key == key) = G ∧ j ≤ ps.length ∧ Sub [(0, .slice A t.length c), (1, .int .i64 i), (2, S key), (7, .int .i64 (orN ps[j]?))] ρ) (fun j => ps.length - j) 0 ⟨rfl, ka1, hG.symm, Nat.zero_le _, rfl, rfl, rfl, rfl, trivial⟩ ?_
  rintro j ρ ds w' ⟨rfl, hk, hfd, hj, hs⟩
  refine Wp.forget _ ?_ hs
  have hr' := hr.keep hk
  refine Wp.seq (Wp.seq (Wp.reads (is := [0, 1]) (Keep.refl _) (Rn.s rfl Yv.mv (Rn.s rfl (Yv.cmp _ rfl) (Rn.nil))) ?_))
  refine Wp.cond rfl (fun h => ?_) (fun h => ?_)
  · obtain ⟨x, hx⟩ := orN_nonneg (of_decide_eq_true h)
    have hjl := (List.getElem?_eq_some_iff.1 hx).1
    have hxl := hmem j x hx
    obtain ⟨f1, f2⟩ := find_drop hx hfd
    rw [hx]
    refine Wp.skip (Wp.seq (Wp.block ?_))
    refine Wp.seq (Wp.reads (is := [0, 1, 2, 3, 4, 5, 6]) (Keep.refl _) (Rn.s rfl Yv.mv (Rn.s rfl Yv.mv (Rn.s rfl (Yv.ia (e := 32) hr' (j := x) (by omega) (by omega)) (Rn.s rfl (Yv.fa (off := 2)) (Rn.s rfl (Yv.ld (hr'.ld (i := x) 2 (by omega) (by omega))) (Rn.s rfl Yv.mv (Rn.s rfl (Yv.scm _ rfl) (Rn.nil)))))))) ?_)
    refine Wp.cond rfl (fun h2 => ?_) (fun h2 => ?_)
    · refine Wp.seq (Wp.reads (is := [0, 1]) (Keep.refl _) (Rn.s rfl Yv.mv (Rn.s rfl Yv.as (Rn.nil))) ?_)
      exact Wp.ret (Fin.ret (Res.one rfl rfl) ⟨by rw [f1 h2]; try rfl, hk⟩)
    · refine Wp.skip ?_
      refine Wp.regionL (l := [0, 1, 2, 3, 4]) (WO.rd (is := [0, 1, 2]) (js := [3, 4]) (Keep.refl _) (Rn.s rfl Yv.mv (Rn.s rfl Yv.mv (Rn.s rfl Yv.mv (Rn.nil)))) (WO.cv rfl (hn1 j x hx w' hr') (Keep.refl _) (FnOk.of Tryd.func66) (fun wu1 ku1 => WO.rd (is := [4]) (js := []) ((Keep.refl _).trans ku1) (Rn.s rfl Yv.as (Rn.nil)) (WO.done ?_))))
      exact ⟨j + 1, ⟨rfl, hk.trans ku1, f2 h2, hjl, rfl, rfl, rfl, rfl, trivial⟩, by omega⟩
  · have hn := orN_neg (of_decide_eq_false h)
    rw [List.drop_eq_nil_of_le (List.getElem?_eq_none_iff.1 hn), List.find?_nil] at hfd
    refine Wp.exit ?_
    refine Wp.seq (Wp.reads (is := [0]) (Keep.refl _) (Rn.s rfl Yv.as (Rn.nil)) ?_)
    exact Wp.ret (Fin.ret (Res.one rfl rfl) ⟨by rw [← hfd]; try rfl, hk⟩)
/-- the document's step -/
def rstepS (t : List Nd) (i : Nat) (key : Bs) : Int :=
  if (nth t (i : Int)).kind = 1 then findS t i key
  else if (nth t (i : Int)).kind ≠ 2 ∨ (numR key 16384).2 = false then -1 else orN (partsS t i)[(numR key 16384).1.toNat]?
theorem rstep_cv (A : Option Addr) (c : Nat) (t : List Nd) (i : Nat) (key : Bs) (w0 : World) (hr : Rd NdE w0 A t) (hi : i < t.length) (hl : t.length < 4000000000000000000) (hkl : key.length ≤ 9223372036854775807) (hd : -1000000 ≤ (nth t (i : Int)).depth ∧ (nth t (i : Int)).depth ≤ 1000000)
    (hf : i + 1 < t.length → (nth t ((i + 1 : Nat) : Int)).depth ≤ (nth t (i : Int)).depth + 1) (hnum : (numR key 16384).2 = true → 0 ≤ (numR key 16384).1 ∧ (numR key 16384).1 ≤ 16384) : Cv Tryd.prog 61 [.slice A t.length c, .int .i64 i, S key] (.int .i64 (rstepS t i key)) w0 := by
  intro w hk
  have hr := hr.keep hk
  obtain ⟨hn0, hn1⟩ := chain_cv (A := A) (c := c) hi hl hd hf
  refine calls_of_Wp (vs := [_, _, _]) Tryd.func61 ?_
  refine Wp.seq (Wp.reads (is := [0]) (Keep.refl _) (Rn.s rfl Yv.as (Rn.nil)) ?_)
  refine Wp.seq (Wp.seq (Wp.reads (is := [0, 1, 2, 3, 4, 5]) (Keep.refl _) (Rn.s rfl Yv.mv (Rn.s rfl Yv.mv (Rn.s rfl (Yv.ia (e := 32) hr (by omega) (by omega)) (Rn.s rfl (Yv.fa (off := 0)) (Rn.s rfl (Yv.ld (hr.ld 0 (by omega) (by omega))) (Rn.s rfl (Yv.cmp _ rfl) (Rn.nil))))))) ?_))
  refine Wp.cond rfl (fun h => ?_) (fun h => ?_)
  · have h := eq_of_beq h
    refine Wp.seq (Wp.regionL (l := [0, 1, 2, 3, 4]) (WO.rd (is := [0, 1, 2]) (js := [3, 4]) (Keep.refl _) (Rn.s rfl Yv.mv (Rn.s rfl Yv.mv (Rn.s rfl Yv.mv (Rn.nil)))) (WO.cv rfl (rfind_cv A c t i key w hr hi hl hd hf) (Keep.refl _) (FnOk.of Tryd.func50) (fun wa1 ka1 => WO.rd (is := [4]) (js := []) ((Keep.refl _).trans ka1) (Rn.s rfl Yv.as (Rn.nil)) (WO.done ?_)))))
    exact Wp.ret (Fin.ret (Res.one rfl rfl) ⟨by rw [rstepS, if_pos h], ka1⟩)
  have h := ne_of_beq_false h
  refine Wp.skip (Wp.seq (Wp.regionL (l := [0, 1, 2, 3, 4, 5, 6]) (WO.rd (is := [0]) (js := [1, 2, 3, 4, 5, 6]) (Keep.refl _) (Rn.s rfl Yv.mv (Rn.nil)) (WO.cv rfl (rnumber_cv key 16384 hkl w) (Keep.refl _) (FnOk.of Tryd.func79) (fun wa1 ka1 => WO.rd (is := [2, 3, 4, 5, 6]) (js := []) ((Keep.refl _).trans ka1) (Rn.s rfl Yv.mv (Rn.s rfl Yv.ex (Rn.s rfl Yv.ex (Rn.s rfl Yv.as (Rn.s rfl Yv.as (Rn.nil)))))) (WO.done ?_))))))
  have hra := hr.keep ka1
  obtain ⟨v, ok, hv⟩ : ∃ v ok, numR key 16384 = (v, ok) := ⟨_, _, rfl⟩
  have hS : rstepS t i key = if (nth t (i : Int)).kind ≠ 2 ∨ ok = false then -1 else orN (partsS t i)[v.toNat]? := by rw [rstepS, if_neg h, hv]
  rw [hv] at hnum
  rw [hv, hS]
  simp only at hnum
  refine Wp.seq (Wp.seq (Wp.reads (is := [0, 1, 2, 3, 4, 5, 6, 7, 8, 9]) (Keep.refl _) (Rn.s rfl Yv.mv (Rn.s rfl Yv.mv (Rn.s rfl (Yv.ia (e := 32) hra (by omega) (by omega)) (Rn.s rfl (Yv.fa (off := 0)) (Rn.s rfl (Yv.ld (hra.ld 0 (by omega) (by omega))) (Rn.s rfl (Yv.cmp _ rfl) (Rn.s rfl Yv.mv (Rn.or (is := [7, 8, 9]) (js := []) (t := 31) (d := 34) (hg := rfl) (hf := fun h6 => have h6 := bne_eq_false_iff_eq.1 h6; Rn.s rfl Yv.mv (Rn.s rfl Yv.not (Rn.s rfl Yv.pick_f ((Rn.e 3 rfl rfl))))) (ht := fun _ => Rn.no rfl (Rn.no rfl (Rn.s rfl Yv.pick_t (Rn.e 3 rfl rfl)))) (k := Rn.nil))))))))) ?_))
  refine Wp.cond rfl (fun h2 => ?_) (fun h2 => ?_)
  · refine Wp.seq (Wp.reads (is := [0]) (Keep.refl _) (Rn.s rfl Yv.as (Rn.nil)) ?_)
    refine Wp.ret (Fin.ret (Res.one rfl rfl) ⟨?_, ka1⟩)
    rw [if_pos]
    simpa using h2
  have h2 : ¬ ((nth t (i : Int)).kind ≠ 2 ∨ ok = false) := by simpa using h2
  rw [if_neg h2]
  have hok : ok = true := by
    cases ok with
    | true => rfl
    | false => exact absurd (.inr rfl) h2
  obtain ⟨hv0, hv1⟩ := hnum hok
  have hfst := hn0 wa1 hra
  obtain ⟨ps, hps⟩ : ∃ ps, ps = partsS t i := ⟨_, rfl⟩
  rw [← hps] at hn1 hfst ⊢
  refine Wp.skip (Wp.seq (Wp.regionL (l := [0, 1, 2, 3, 4]) (WO.rd (is := [0, 1, 2]) (js := [3, 4]) (Keep.refl _) (Rn.s rfl Yv.mv (Rn.s rfl Yv.mv (Rn.s rfl Yv.mv (Rn.nil)))) (WO.cv rfl hfst (Keep.refl _) (FnOk.of Tryd.func66) (fun wb1 kb1 => WO.rd (is := [4]) (js := []) ((Keep.refl _).trans kb1) (Rn.s rfl Yv.as (Rn.nil)) (WO.done ?_))))))
  have hkb := ka1.trans kb1
  refine Wp.seq (Wp.block ?_)
  refine Wp.loop (α := Nat) (fun j ρ ds w' => ds = [] ∧ Keep w w' ∧ (j : Int) ≤ v ∧ (j ≤ ps.length) ∧ Sub [(0, .slice A t.length c), (1, .int .i64 i), (7, .int .i64 (v - j)), (9, .int .i64 (orN ps[j]?))] ρ) (fun j => v.toNat - j) 0 ⟨rfl, hkb, by omega, Nat.zero_le _, rfl, rfl, by simp; rfl, rfl, trivial⟩ ?_
  rintro j ρ ds w' ⟨rfl, hk, hjv, hj, hs⟩
  refine Wp.forget _ ?_ hs
  have hr' := hr.keep hk
  refine Wp.seq (Wp.seq (Wp.reads (is := [0, 1, 2, 3, 4, 5]) (Keep.refl _) (Rn.s rfl Yv.mv (Rn.s rfl (Yv.cmp _ rfl) (Rn.s rfl Yv.mv (Rn.and (is := [3, 4, 5]) (js := []) (t := 41) (d := 44) (hg := rfl) (ht := fun h2 => have h2 := of_decide_eq_true h2; Rn.s rfl Yv.mv (Rn.s rfl (Yv.cmp _ rfl) (Rn.s rfl Yv.pick_t ((Rn.e 3 rfl rfl))))) (hf := fun _ => Rn.no rfl (Rn.no rfl (Rn.s rfl Yv.pick_f (Rn.e 3 rfl rfl)))) (k := Rn.nil))))) ?_))
  refine Wp.cond rfl (fun h3 => ?_) (fun h3 => ?_)
  · simp only [Bool.and_eq_true, decide_eq_true_eq] at h3
    obtain ⟨x, hx⟩ := orN_nonneg h3.2
    have hjl := (List.getElem?_eq_some_iff.1 hx).1
    rw [hx]
    refine Wp.skip (Wp.seq (Wp.block ?_))
    refine Wp.regionL (l := [0, 1, 2, 3, 4]) (WO.rd (is := [0, 1, 2]) (js := [3, 4]) (Keep.refl _) (Rn.s rfl Yv.mv (Rn.s rfl Yv.mv (Rn.s rfl Yv.mv (Rn.nil)))) (WO.cv rfl (hn1 j x hx w' hr') (Keep.refl _) (FnOk.of Tryd.func66) (fun wu1 ku1 => WO.rd (is := [4]) (js := []) ((Keep.refl _).trans ku1) (Rn.s rfl Yv.as (Rn.nil)) (WO.done ?_))))
    refine Wp.reads (is := [0, 1, 2]) (Keep.refl _) (Rn.s rfl Yv.mv (Rn.s rfl (Yv.sub (by unfold inI; omega)) (Rn.s rfl Yv.as (Rn.nil)))) ?_
    exact ⟨j + 1, ⟨rfl, hk.trans ku1, by omega, hjl, rfl, rfl, by rw [show v - ((j + 1 : Nat) : Int) = v - j - 1 by omega]; rfl, rfl, trivial⟩, by omega⟩
  · simp only [Bool.and_eq_false_iff, decide_eq_false_iff_not] at h3
    refine Wp.exit ?_
    refine Wp.seq (Wp.reads (is := [0, 1]) (Keep.refl _) (Rn.s rfl Yv.mv (Rn.s rfl Yv.as (Rn.nil))) ?_)
    refine Wp.ret (Fin.ret (Res.one rfl rfl) ⟨?_, hk⟩)
    by_cases hjv2 : (j : Int) = v
    · have : v.toNat = j := by omega
      rw [this]
    · have hn : ps[j]? = none := orN_neg (by rcases h3 with h3 | h3 <;> omega)
      have h5 := List.getElem?_eq_none_iff.1 hn
      rw [hn, List.getElem?_eq_none (by omega)]
end Go.Proofs.YtbmplmehofgocaaDoor.C
