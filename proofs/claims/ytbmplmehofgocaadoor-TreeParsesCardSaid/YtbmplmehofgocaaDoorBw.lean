/- An append that may or may not move the row: both cases kept apart. -/
import Derived.Test.YtbmplmehofgocaaDoorShN
import Derived.Test.YtbmplmehofgocaaDoorBj
set_option linter.unusedVariables false
set_option linter.unusedSimpArgs false
set_option maxRecDepth 10000
/-! An append that may or may not move the row: both cases kept apart. -/
namespace Go.Proofs.YtbmplmehofgocaaDoor.Sh
open Go.RowKit
section
variable {α : Type} {E : Enc α} {T : TypeId} {A : Option Addr} {c : Nat} {xs : List α} {w : World}
variable {r : Option Nat} {P : Program} {N : Nat} {ρ : Env} {ds : List Deferred} {w0 : World} {M : List Nat} {D : List Chunk} {K : Env → World → Prop} {Q : Post} {dst : Option Nat}
theorem Ef.append2 {s x : Operand} {t : TypeId} {B : Option Addr} {d : Nat} {ys : List α} (h : St w0 M w D) (i : Nat) (hB : Rd E w B ys) (hd : B = none → d = 0) (hlen : Fits P T (xs.length + ys.length))
    (k1 : ∀ w', St w0 M w' (Ch.row E T A c (xs ++ ys) :: D.eraseIdx i) → K (putE ρ dst (.slice A (xs ++ ys).length c)) w')
    (k2 : ∀ A' c' w', St w0 M w' (Ch.row E T A' c' (xs ++ ys) :: D) → K (putE ρ dst (.slice A' (xs ++ ys).length c')) w') (hC : D[i]? = some (Ch.row E T A c xs) := by rfl) (hone : ∀ z, (E.cells z).all (·.oneCell') = true := by exact fun _ => rfl) (ht : rowB P t T E.n = true := by kernel_rfl) :
    Ef r P N dst (.call { callee := .builtin .append, args := #[s, x], argTypes := #[t, t] }) [.slice A xs.length c, .slice B ys.length d] ρ ds w K Q := by
  have hp := h.pull i hC
  have ho : w.ownsRow 0 T E.n (.slice A xs.length c) xs.length (xs.flatMap E.cells) := h.at_ i hC
  have hnil : B = none → ys.length = 0 ∧ d = 0 := by
    intro hb
    refine ⟨?_, hd hb⟩
    cases hy : ys.length with
    | zero => rfl
    | succ n =>
      have := hB.adr (by omega)
      rw [hb] at this
      cases this
  have hall : ∀ u ∈ ys.flatMap E.cells, u.oneCell' = true := fun u hu => by
    obtain ⟨z, _, hz⟩ := List.mem_flatMap.1 hu
    exact List.all_eq_true.1 (hone z) u hz
  have hcells : ∀ b, B = some b → ∀ j u, (ys.flatMap E.cells)[j]? = some u → w.cell? (b.add j) = some u := by
    intro b hb j u hj
    have hjl : j < ys.length * E.n := by
      have := (List.getElem?_eq_some_iff.1 hj).1
      rwa [length_flat] at this
    have hn : 0 < E.n := (rowB_of ht).2.1
    have hq : j / E.n < ys.length := (Nat.div_lt_iff_lt_mul hn).2 hjl
    have hdm := Nat.div_add_mod j E.n
    have hml := Nat.mod_lt j hn
    obtain ⟨z, hz⟩ : ∃ z, ys[j / E.n]? = some z := ⟨_, List.getElem?_eq_getElem hq⟩
    obtain ⟨u', hu'⟩ : ∃ u', (E.cells z)[j % E.n]? = some u' := ⟨_, List.getElem?_eq_getElem (by rw [E.len]; exact hml)⟩
    have hf := flat_get ys _ _ _ _ hz hu'
    have hjj : j / E.n * E.n + j % E.n = j := by rw [Nat.mul_comm]; exact hdm
    rw [hjj, hj] at hf
    injection hf with hf
    subst hf
    have hc := hB.cell _ _ hz _ _ hu'
    have ha := hB.adr (Nat.lt_of_le_of_lt (Nat.zero_le _) hq)
    rw [hb] at ha
    injection ha with ha
    rw [ha, add_off]
    simp only [pb, pq, hb]
    simp only [pb, pq, hb] at hc
    rw [Nat.add_assoc, hjj] at hc
    exact hc
  obtain ⟨A', c', w', hr, ho', hk⟩ := run_app (P := P) (ty := 0) (d := d) ht ho (length_flat ys) hnil hcells hall hlen
  rintro hN o a hop hdst ha hv
  obtain ⟨A', c', w', hr, ho', hk⟩ := run_app (P := P) (ty := o.type) (d := d) ht ho (length_flat ys) hnil hcells hall hlen
  refine ⟨fun f hf => trivial, ?_⟩
  rw [semAt_plain _ (by rw [hop]; simp)]
  have h2 : a.eval s = .slice A xs.length c ∧ a.eval x = .slice B ys.length d := by simpa [Op.operands, Call.operands] using hv
  rw [run_append_call hop h2.1 h2.2 hr]
  rw [← List.length_append, ← List.flatMap_append] at ho'
  subst hdst
  have hpe := ha.putE hN (.slice A' (xs.length + ys.length) c')
  rw [← List.length_append] at hpe
  rw [← List.length_append]
  rcases hk with ⟨rfl, rfl, hg, hs⟩ | ⟨hA, hs, hg⟩
  · exact ⟨_, hpe, k1 w' (hp.row_upd ho' (.inl ⟨rfl, rfl, hg, hs⟩))⟩
  · refine ⟨_, hpe, k2 A' c' w' (h.call0 ⟨Chg.of_keep _ hg, ?_, ?_, .cons (by simp) .nil⟩)⟩
    · intro C hC'
      obtain rfl := List.mem_singleton.1 hC'
      exact ho'
    · intro C hC' b hb
      obtain rfl := List.mem_singleton.1 hC'
      subst hA
      simp [Ch.row] at hb
      subst hb
      exact ⟨.inr (Nat.le_refl _), by omega⟩
end
end Go.Proofs.YtbmplmehofgocaaDoor.Sh
/-! What the laws share: nodes, written over. -/
namespace Go.Proofs.YtbmplmehofgocaaDoor.C
open Go.RowKit Go.Proofs.YtbmplmehofgocaaDoor.Sh
theorem rd_take {α : Type} {E : Enc α} {w : World} {A : Option Addr} {ys : List α} (h : Rd E w A ys) (n : Nat) : Rd E w A (ys.take n) := by
  have : Rd E w A (ys.take n ++ ys.drop n) := by rw [List.take_append_drop]; exact h
  exact rd_pre this
theorem spoil_calls {M : List Nat} (A : Option Addr) (c : Nat) (xs : List Nd) (w : World) (hst : St w M w [Ch.row NdE 32 A c xs]) (hl : xs.length ≤ 1599289640390) :
    Calls Tryd.prog 23 #[.slice A xs.length c] w fun e w' => e = .returned (.tuple #[]) ∧ St w M w' [] := by
  refine calls_of_Wp (vs := [_]) Tryd.func23 ?_
  obtain ⟨n, hn⟩ : ∃ n, n = xs.length := ⟨_, rfl⟩
  refine Wp.seq ?_
  refine Wp.mid (fun ρ ds w' => ds = [] ∧ ∃ A2 c2 D2, St w M w' (Ch.row NdE 32 A2 c2 (xs ++ [spN]) :: D2) ∧ ((A2 = A ∧ c2 = c) ∨ ∃ D3, D2 = Ch.row NdE 32 A c xs :: D3) ∧ Sub [(0, .slice A xs.length c), (2, .slice A2 (xs ++ [spN]).length c2)] ρ) ?_ ?_
  · refine Wp.regionL (l := [0, 1, 2, 3, 4]) ?_
    refine WO.rd (is := [0, 1]) (js := [2, 3, 4]) (Keep.refl _) (Rn.s rfl Yv.mv (Rn.s rfl (Yv.bd (cs := spN.cs)) (Rn.nil))) ?_
    refine WO.act (hc := rfl) (he := Ef.bsl (T := 32) NdE [spN] hst (fun b w1 k1 hs1 => ?_))
    refine WO.act (hc := rfl) (he := Ef.append2 (ys := [spN]) hs1 1 (hs1.rd 0) (fun h => by cases h) (fitN (by simp only [List.length_cons, List.length_nil]; omega)) ?_ ?_)
    · intro w2 hs2
      refine WO.rd (is := [4]) (js := []) (Keep.refl _) (Rn.s rfl Yv.as (Rn.nil)) (WO.done ?_)
      exact ⟨rfl, A, c, _, hs2, .inl ⟨rfl, rfl⟩, rfl, rfl, trivial⟩
    · intro A2 c2 w2 hs2
      refine WO.rd (is := [4]) (js := []) (Keep.refl _) (Rn.s rfl Yv.as (Rn.nil)) (WO.done ?_)
      exact ⟨rfl, A2, c2, _, hs2.pick [0, 2], .inr ⟨[], rfl⟩, rfl, rfl, trivial⟩
  rintro ρ ds w1 ⟨rfl, A2, c2, D2, hst, hA, hs⟩
  refine Wp.forget _ ?_ hs
  have hlx : (xs ++ [spN]).length = n + 1 := by rw [hn]; simp
  rw [hlx]
  refine Wp.seq (Wp.seq (Wp.reads (is := [0]) (Keep.refl _) (Rn.s rfl Yv.as (Rn.nil)) ?_))
  refine Wp.block ?_
  refine Wp.loop (α := Nat) (fun i ρ ds w' => ds = [] ∧ i ≤ n + 1 ∧ (∃ ys : List Nd, ys.length = n + 1 ∧ St w M w' (Ch.row NdE 32 A2 c2 ys :: D2)) ∧ Sub [(0, .slice A xs.length c), (2, .slice A2 (n + 1) c2), (3, .int .i64 (i : Int))] ρ) (fun i => n + 1 - i) 0
    ⟨rfl, Nat.zero_le _, ⟨_, hlx, hst⟩, rfl, rfl, rfl, trivial⟩ ?_
  clear hst
  rintro i ρ ds w' ⟨rfl, hi, ⟨ys, hyl, hst⟩, hs⟩
  refine Wp.forget _ ?_ hs
  refine Wp.seq (Wp.seq (Wp.reads (is := [0, 1, 2, 3]) (Keep.refl _) (Rn.s rfl Yv.mv (Rn.s rfl Yv.mv (Rn.s rfl (Yv.len_v (e := 32) (m := 8)) (Rn.s rfl (Yv.cmp _ rfl) (Rn.nil))))) ?_))
  refine Wp.cond rfl (fun h => ?_) (fun h => ?_)
  · have h := of_decide_eq_true h
    have hrx := hst.rd 0
    refine Wp.skip (Wp.seq (Wp.block ?_))
    refine Wp.regionL (l := [0, 1, 2, 3, 4]) (WO.rd (is := [0, 1, 2, 3]) (js := [4]) (Keep.refl _) (Rn.s rfl Yv.mv (Rn.s rfl Yv.mv (Rn.s rfl (Yv.bd (cs := spN.cs)) (Rn.s rfl (Yv.ia (e := 32) hrx (by omega) (by omega) hyl.symm) (Rn.nil))))) (WO.act (hc := rfl) (he := Ef.setEl (E := NdE) (xs := ys) hst 0 spN rfl rfl (by omega) (by omega) (fun wy1 hsy1 => WO.done ?_))))
    refine Wp.reads (is := [0, 1, 2]) (Keep.refl _) (Rn.s rfl Yv.mv (Rn.s rfl (Yv.add (by unfold inI; omega)) (Rn.s rfl Yv.as (Rn.nil)))) ?_
    exact ⟨i + 1, ⟨rfl, by omega, ⟨_, by simp [hyl], hsy1⟩, rfl, rfl, rfl, trivial⟩, by omega⟩
  refine Wp.exit ?_
  have hstY := hst
  clear hst
  obtain ⟨zs, D4, hzl, hst⟩ : ∃ zs D4, n ≤ zs.length ∧ St w M w' (Ch.row NdE 32 A c zs :: D4) := by
    rcases hA with ⟨hA1, hA2⟩ | ⟨D3, hD⟩
    · rw [hA1, hA2] at hstY
      exact ⟨ys, D2, by omega, hstY⟩
    · rw [hD] at hstY
      exact ⟨xs, D3, by omega, hstY.drop⟩
  rw [← hn]
  refine Wp.seq (Wp.reads (is := [0]) (Keep.refl _) (Rn.s rfl Yv.as (Rn.nil)) ?_)
  refine Wp.block ?_
  refine Wp.loop (α := Nat) (fun i ρ ds w' => ds = [] ∧ i ≤ n ∧ (∃ zs : List Nd, n ≤ zs.length ∧ St w M w' (Ch.row NdE 32 A c zs :: D4)) ∧ Sub [(0, .slice A n c), (4, .int .i64 (i : Int))] ρ) (fun i => n - i) 0
    ⟨rfl, Nat.zero_le _, ⟨zs, hzl, hst⟩, rfl, rfl, trivial⟩ ?_
  clear hst hzl hstY
  rintro i ρ ds w2 ⟨rfl, hi, ⟨zs, hzl, hst⟩, hs⟩
  refine Wp.forget _ ?_ hs
  refine Wp.seq (Wp.seq (Wp.reads (is := [0, 1, 2, 3]) (Keep.refl _) (Rn.s rfl Yv.mv (Rn.s rfl Yv.mv (Rn.s rfl (Yv.len_v (e := 32) (m := 8)) (Rn.s rfl (Yv.cmp _ rfl) (Rn.nil))))) ?_))
  refine Wp.cond rfl (fun h => ?_) (fun h => ?_)
  · have h := of_decide_eq_true h
    have hrx := rd_take (hst.rd 0) n
    have hzn : (zs.take n).length = n := by simp; omega
    refine Wp.skip (Wp.seq (Wp.block ?_))
    refine Wp.regionL (l := [0, 1, 2, 3, 4]) (WO.rd (is := [0, 1, 2, 3]) (js := [4]) (Keep.refl _) (Rn.s rfl Yv.mv (Rn.s rfl Yv.mv (Rn.s rfl (Yv.bd (cs := spN.cs)) (Rn.s rfl (Yv.ia (e := 32) hrx (by omega) (by omega) hzn.symm) (Rn.nil))))) (WO.act (hc := rfl) (he := Ef.setEl (E := NdE) (xs := zs) hst 0 spN rfl rfl (by omega) (by omega) (fun wy1 hsy1 => WO.done ?_))))
    refine Wp.reads (is := [0, 1, 2]) (Keep.refl _) (Rn.s rfl Yv.mv (Rn.s rfl (Yv.add (by unfold inI; omega)) (Rn.s rfl Yv.as (Rn.nil)))) ?_
    exact ⟨i + 1, ⟨rfl, by omega, ⟨_, by simp; omega, hsy1⟩, rfl, rfl, trivial⟩, by omega⟩
  · refine Wp.exit ?_
    exact Fin.normal (Res.none rfl) ⟨rfl, hst.sub (List.nil_sublist _)⟩
end Go.Proofs.YtbmplmehofgocaaDoor.C
