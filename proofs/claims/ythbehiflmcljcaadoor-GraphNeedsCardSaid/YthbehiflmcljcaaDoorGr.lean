/- Numbers lent, kept and written over; graph is awake. -/
import Derived.Test.YthbehiflmcljcaaDoorGq
set_option linter.unusedVariables false
set_option linter.unusedSimpArgs false
set_option maxRecDepth 10000
namespace Go.Proofs.YthbehiflmcljcaaDoor.Sh
open Go.RowKit
section
variable {α : Type} {E : Enc α} {T : TypeId} {A : Option Addr} {c : Nat} {xs : List α} {w : World}
variable {r : Option Nat} {P : Program} {N : Nat} {ρ : Env} {ds : List Deferred} {w0 : World} {M : List Nat} {D : List Chunk} {K : Env → World → Prop} {Q : Post} {dst : Option Nat}
theorem Ef.append2 {s x : Operand} {t : TypeId} {B : Option Addr} {d : Nat} {ys : List α} (h : St w0 M w D) (i : Nat) (hB : Rd E w B ys) (hd : B = none → d = 0) (hlen : Fits P T (xs.length + ys.length))
    (k1 : ∀ w', St w0 M w' (Ch.row E T A c (xs ++ ys) :: D.eraseIdx i) → K (putE ρ dst (.slice A (xs ++ ys).length c)) w')
    (k2 : ∀ A' c' w', St w0 M w' (Ch.row E T A' c' (xs ++ ys) :: D) → K (putE ρ dst (.slice A' (xs ++ ys).length c')) w') (hC : D[i]? = some (Ch.row E T A c xs) := by rfl) (hone : ∀ z, (E.cells z).all (·.oneCell') = true := by exact fun _ => rfl) (ht : rowB P t T E.n = true := by kernel_rfl) :
    Ef r P N dst (.call { callee := .builtin .append, args := #[s, x], argTypes := #[t, t] }) [.slice A xs.length c, .slice B ys.length d] ρ ds w K Q := by
  have hp := h.pull i hC
  have ho : w.ownsRow 0 T E.n (.slice A xs.length c) xs.length (xs.flatMap E.cells) := h.at_ i hC
  have hnil : B = none → ys.length = 0 ∧ d = 0 := by
    intro hb
    refine ⟨?_, hd hb⟩
    cases hy : ys.length with
    | zero => rfl
    | succ n =>
      have := hB.adr (by omega)
      rw [hb] at this
      cases this
  have hall : ∀ u ∈ ys.flatMap E.cells, u.oneCell' = true := fun u hu => by
    obtain ⟨z, _, hz⟩ := List.mem_flatMap.1 hu
    exact List.all_eq_true.1 (hone z) u hz
  have hcells : ∀ b, B = some b → ∀ j u, (ys.flatMap E.cells)[j]? = some u → w.cell? (b.add j) = some u := by
    intro b hb j u hj
    have hjl : j < ys.length * E.n := by
      have := (List.getElem?_eq_some_iff.1 hj).1
      rwa [length_flat] at this
    have hn : 0 < E.n := (rowB_of ht).2.1
    have hq : j / E.n < ys.length := (Nat.div_lt_iff_lt_mul hn).2 hjl
    have hdm := Nat.div_add_mod j E.n
    have hml := Nat.mod_lt j hn
    obtain ⟨z, hz⟩ : ∃ z, ys[j / E.n]? = some z := ⟨_, List.getElem?_eq_getElem hq⟩
    obtain ⟨u', hu'⟩ : ∃ u', (E.cells z)[j % E.n]? = some u' := ⟨_, List.getElem?_eq_getElem (by rw [E.len]; exact hml)⟩
    have hf := flat_get ys _ _ _ _ hz hu'
    have hjj : j / E.n * E.n + j % E.n = j := by rw [Nat.mul_comm]; exact hdm
    rw [hjj, hj] at hf
    injection hf with hf
    subst hf
    have hc := hB.cell _ _ hz _ _ hu'
    have ha := hB.adr (Nat.lt_of_le_of_lt (Nat.zero_le _) hq)
    rw [hb] at ha
    injection ha with ha
    rw [ha, add_off]
    simp only [pb, pq, hb]
    simp only [pb, pq, hb] at hc
    rw [Nat.add_assoc, hjj] at hc
    exact hc
  obtain ⟨A', c', w', hr, ho', hk⟩ := run_app (P := P) (ty := 0) (d := d) ht ho (length_flat ys) hnil hcells hall hlen
  rintro hN o a hop hdst ha hv
  obtain ⟨A', c', w', hr, ho', hk⟩ := run_app (P := P) (ty := o.type) (d := d) ht ho (length_flat ys) hnil hcells hall hlen
  refine ⟨fun f hf => trivial, ?_⟩
  rw [semAt_plain _ (by rw [hop]; simp)]
  have h2 : a.eval s = .slice A xs.length c ∧ a.eval x = .slice B ys.length d := by simpa [Op.operands, Call.operands] using hv
  rw [run_append_call hop h2.1 h2.2 hr]
  rw [← List.length_append, ← List.flatMap_append] at ho'
  subst hdst
  have hpe := ha.putE hN (.slice A' (xs.length + ys.length) c')
  rw [← List.length_append] at hpe
  rw [← List.length_append]
  rcases hk with ⟨rfl, rfl, hg, hs⟩ | ⟨hA, hs, hg⟩
  · exact ⟨_, hpe, k1 w' (hp.row_upd ho' (.inl ⟨rfl, rfl, hg, hs⟩))⟩
  · refine ⟨_, hpe, k2 A' c' w' (h.call0 ⟨Chg.of_keep _ hg, ?_, ?_, .cons (by simp) .nil⟩)⟩
    · intro C hC'
      obtain rfl := List.mem_singleton.1 hC'
      exact ho'
    · intro C hC' b hb
      obtain rfl := List.mem_singleton.1 hC'
      subst hA
      simp [Ch.row] at hb
      subst hb
      exact ⟨.inr (Nat.le_refl _), by omega⟩
end
end Go.Proofs.YthbehiflmcljcaaDoor.Sh
namespace Go.Proofs.YthbehiflmcljcaaDoor.C
open Go.RowKit Go.Proofs.YthbehiflmcljcaaDoor.Sh
theorem lend_cx (A : Option Addr) (c : Nat) (t : Is) (w : World) (hr : Rd InE w A t) (hc : A = none → c = 0) (hl : t.length ≤ 17592186044414) : Cx Tryd.prog 12 [.slice A t.length c] [] (fun v D => ∃ B d, v = .slice B t.length d ∧ D = [Ch.row InE 3 B d (t ++ [-77, -77])]) w := by
  refine calls_of_Wp (vs := [_]) Tryd.func12 ?_
  refine Wp.seq (Wp.reads (is := [0]) (Keep.refl _) (Rn.s rfl Yv.as (Rn.nil)) ?_)
  refine Wp.seq (Wp.regionL (l := [0, 1, 2, 3, 4]) (WO.rd (is := [0]) (js := [1, 2, 3, 4]) (Keep.refl _) (Rn.s rfl Yv.mv (Rn.nil)) (WO.act (hc := rfl) (he := Ef.cx (caps := []) (A := []) (copyI_cx A c t w hr hc (by omega)) (St.init w) (FnOk.of Tryd.func16) ?_))))
  rintro v D w1 ⟨B, d, rfl, rfl⟩ hs1
  have hs1 : St w [] w1 [Ch.row InE 3 B d t] := hs1
  refine WO.app InE [-77, -77] rfl (fun _ => rfl) hs1 0 (fitInt (by simp only [List.length_cons, List.length_nil]; omega)) (fun b A' c' w' hs' => WO.rd (is := [4]) (js := []) (Keep.refl _) (Rn.s rfl Yv.as (Rn.nil)) (WO.done ?_))
  have hs' : St w [] w' [Ch.row InE 3 A' c' (t ++ [-77, -77])] := hs'
  have hcap := hs'.cap 0
  simp only [List.length_append, List.length_cons, List.length_nil] at hcap
  refine Wp.seq (Wp.reads (is := [0, 1, 2, 3, 4]) (Keep.refl _) (Rn.s rfl Yv.mv (Rn.s rfl Yv.mv (Rn.s rfl (Yv.len_v (e := 3) (m := 1)) (Rn.s rfl (Yv.sl_t (n := 1) (e := 3) (by omega) (by omega)) (Rn.s rfl Yv.as (Rn.nil)))))) ?_)
  exact Wp.ret (Fin.ret (Res.one rfl rfl) ⟨_, _, rfl, ⟨A', c', by simp, rfl⟩, hs'⟩)
theorem kept_calls {M : List Nat} {D : List Chunk} (B : Option Addr) (d : Nat) (A : Option Addr) (c : Nat) (t : Is) (w0 w : World) (hr : Rd InE w A t) (hst : St w0 M w (Ch.row InE 3 B d (t ++ [-77, -77]) :: D)) (hl : t.length ≤ 17592186044414) :
    Calls Tryd.prog 15 #[.slice B t.length d, .slice A t.length c] w fun e w' => e = .returned (.bool true) ∧ St w0 M w' D := by
  have hcap := hst.cap 0
  simp only [List.length_append, List.length_cons, List.length_nil] at hcap
  have hrB := hst.rd 0
  have hrt := rd_pre hrB
  refine calls_of_Wp (vs := [_, _]) Tryd.func15 ?_
  refine Wp.seq (Wp.reads (is := [0]) (Keep.refl _) (Rn.s rfl Yv.as (Rn.nil)) ?_)
  refine Wp.seq (Wp.reads (is := [0, 1, 2, 3, 4, 5]) (Keep.refl _) (Rn.s rfl Yv.mv (Rn.s rfl Yv.mv (Rn.s rfl (Yv.len_v (e := 3) (m := 1)) (Rn.s rfl (Yv.add (by unfold inI; omega)) (Rn.s rfl (Yv.sl_t (n := 1) (e := 3) (by omega) (by omega)) (Rn.s rfl Yv.as (Rn.nil))))))) ?_)
  have e1 : ((t.length : Int) + 2).toNat = (t ++ [-77, -77]).length := by simp only [List.length_append, List.length_cons, List.length_nil]; omega
  rw [e1]
  have hs1 := same_cv B d t A c t w hrt hr (by omega)
  rw [decide_eq_true rfl] at hs1
  have hcut : Rd InE w (cutA B d t.length InE.n) [-77, -77] := by
    have := hrB.cut (l := t.length) (h := (t ++ [-77, -77]).length) (c := d) (by simp only [List.length_append, List.length_cons, List.length_nil]; omega) (Nat.le_refl _)
    rw [List.take_of_length_le (Nat.le_refl _), List.drop_left] at this
    exact this
  have hs2 : ∀ (b : Nat) {W : World}, Keep w W → Rd InE W (some ⟨b, 0, none⟩) [-77, -77] → Cv Tryd.prog 17 [.slice (cutA B d (t.length : Int).toNat 1) ((t ++ [-77, -77]).length - (t.length : Int).toNat) (d - (t.length : Int).toNat), .slice (some ⟨b, 0, none⟩) 2 2] (.bool true) W := by
    intro b W kW h
    have := same_cv (cutA B d t.length InE.n) (d - t.length) [-77, -77] (some ⟨b, 0, none⟩) 2 [-77, -77] W (hcut.keep kW) h (by simp)
    rw [decide_eq_true rfl] at this
    have e2 : (t ++ [(-77 : Int), -77]).length - (t.length : Int).toNat = 2 := by rw [Int.toNat_natCast]; simp
    rw [e2]
    exact this
  refine Wp.seq (Wp.regionL (l := [0, 1, 2, 3, 4, 5, 6, 7, 8, 9, 10, 11]) (WO.rd (is := [0, 1]) (js := [2, 3, 4, 5, 6, 7, 8, 9, 10, 11]) (Keep.refl _) (Rn.s rfl Yv.mv (Rn.s rfl Yv.mv (Rn.nil))) (WO.cv rfl hs1 (Keep.refl _) (FnOk.of Tryd.func17) (fun wx1 kx1 => WO.rd (is := [3]) (js := [4, 5, 6, 7, 8, 9, 10, 11]) ((Keep.refl _).trans kx1) (Rn.s rfl Yv.mv (Rn.nil)) (WO.and (js := [11]) 16 23 (hg := rfl) (ht := fun h3 qx2 => WO.rd (is := [4, 5, 6, 7]) (js := [8, 9, 10, 11]) ((Keep.refl _).trans kx1) (Rn.s rfl Yv.mv (Rn.s rfl Yv.mv (Rn.s rfl (Yv.len_v (e := 3) (m := 1)) (Rn.s rfl (Yv.sl_f (n := 1) (e := 3) (by omega) (by simp only [List.length_append, List.length_cons, List.length_nil]; omega)) (Rn.nil))))) (WO.act (hc := rfl) (he := Ef.bsl (T := 3) InE [-77, -77] (hst.quiet kx1) (fun bx3 wx3 kx3 hsx3 => WO.cv rfl (hs2 bx3 (kx1.trans kx3) (hsx3.rd 0)) (Keep.refl _) (FnOk.of Tryd.func17) (fun wx4 kx4 => WO.rd (is := [10]) (js := [11]) ((((Keep.refl _).trans kx1).trans kx3).trans kx4) (Rn.s rfl Yv.pick_t (Rn.nil)) (WO.e 7 (qx2 _ (((Keep.refl _).trans kx3).trans kx4)))))))) (hf := fun _ qx2 => WO.rd (is := [4, 5, 6, 7, 8, 9, 10]) (js := [11]) ((Keep.refl _).trans kx1) (Rn.no rfl (Rn.no rfl (Rn.no rfl (Rn.no rfl (Rn.no rfl (Rn.no rfl (Rn.s rfl Yv.pick_f Rn.nil))))))) (WO.e 7 (qx2 _ (Keep.refl _)))) (k := fun wx2 kx2 => WO.rd (is := [11]) (js := []) (((Keep.refl _).trans kx1).trans kx2) (Rn.s rfl Yv.as (Rn.nil)) (WO.done ?_)))))))
  have hst := hst.quiet (kx1.trans kx2)
  refine Wp.seq (Wp.seq (Wp.reads (is := [0]) (Keep.refl _) (Rn.s rfl Yv.as (Rn.nil)) ?_))
  refine Wp.block ?_
  obtain ⟨m, hm⟩ : ∃ m, m = (t ++ [(-77 : Int), -77]).length := ⟨_, rfl⟩
  rw [← hm]
  have hml : m ≤ 17592186044416 := by rw [hm]; simp only [List.length_append, List.length_cons, List.length_nil]; omega
  refine Wp.loop (α := Nat) (fun i ρ ds w' => ds = [] ∧ i ≤ m ∧ (∃ xs : Is, xs.length = m ∧ St w0 M w' (Ch.row InE 3 B d xs :: D)) ∧ Sub [(5, .slice B m d), (6, .bool true), (7, .int .i64 (i : Int))] ρ) (fun i => m - i) 0
    ⟨rfl, Nat.zero_le _, ⟨_, hm.symm, hst⟩, rfl, rfl, rfl, trivial⟩ ?_
  clear hst
  rintro i ρ ds w' ⟨rfl, hi, ⟨xs, hxl, hst⟩, hs⟩
  refine Wp.forget _ ?_ hs
  refine Wp.seq (Wp.seq (Wp.reads (is := [0, 1, 2, 3]) (Keep.refl _) (Rn.s rfl Yv.mv (Rn.s rfl Yv.mv (Rn.s rfl (Yv.len_v (e := 3) (m := 1)) (Rn.s rfl (Yv.cmp _ rfl) (Rn.nil))))) ?_))
  refine Wp.cond rfl (fun h => ?_) (fun h => ?_)
  · have h := of_decide_eq_true h
    have hrx := hst.rd 0
    subst hxl
    refine Wp.skip (Wp.seq (Wp.block ?_))
    refine Wp.regionL (l := [0, 1, 2, 3]) (WO.rd (is := [0, 1, 2]) (js := [3]) (Keep.refl _) (Rn.s rfl Yv.mv (Rn.s rfl Yv.mv (Rn.s rfl (Yv.ia (e := 3) hrx (by omega) (by omega)) (Rn.nil)))) (WO.act (hc := rfl) (he := Ef.setFld (E := InE) (xs := xs) (f := 0) hst 0 (-77) rfl rfl (by omega) (by omega) (fun wy1 hsy1 => WO.done ?_))))
    refine Wp.reads (is := [0, 1, 2]) (Keep.refl _) (Rn.s rfl Yv.mv (Rn.s rfl (Yv.add (by unfold inI; omega)) (Rn.s rfl Yv.as (Rn.nil)))) ?_
    exact ⟨i + 1, ⟨rfl, by omega, ⟨_, by simp, hsy1⟩, rfl, rfl, rfl, trivial⟩, by omega⟩
  · refine Wp.exit ?_
    refine Wp.seq (Wp.reads (is := [0, 1]) (Keep.refl _) (Rn.s rfl Yv.mv (Rn.s rfl Yv.as (Rn.nil))) ?_)
    exact Wp.ret (Fin.ret (Res.one rfl rfl) ⟨rfl, hst.drop⟩)
theorem spoil_calls {M : List Nat} {D : List Chunk} (A : Option Addr) (c : Nat) (xs : Is) (w0 w : World) (hst : St w0 M w (Ch.row InE 3 A c xs :: D)) (hl : xs.length ≤ 17592186044415) :
    Calls Tryd.prog 18 #[.slice A xs.length c] w fun e w' => e = .returned (.tuple #[]) ∧ St w0 M w' D := by
  refine calls_of_Wp (vs := [_]) Tryd.func18 ?_
  obtain ⟨n, hn⟩ : ∃ n, n = xs.length := ⟨_, rfl⟩
  refine Wp.seq ?_
  refine Wp.mid (fun ρ ds w' => ds = [] ∧ ∃ A2 c2 D2, St w0 M w' (Ch.row InE 3 A2 c2 (xs ++ [-77]) :: (D2 ++ D)) ∧ ((A2 = A ∧ c2 = c) ∨ D2 = [Ch.row InE 3 A c xs]) ∧ Sub [(0, .slice A xs.length c), (2, .slice A2 (xs ++ [-77]).length c2)] ρ) ?_ ?_
  · refine Wp.regionL (l := [0, 1, 2, 3]) ?_
    refine WO.rd (is := [0]) (js := [1, 2, 3]) (Keep.refl _) (Rn.s rfl Yv.mv (Rn.nil)) ?_
    refine WO.act (hc := rfl) (he := Ef.bsl (T := 3) InE [-77] hst (fun b w1 k1 hs1 => ?_))
    refine WO.act (hc := rfl) (he := Ef.append2 (ys := [-77]) hs1 1 (hs1.rd 0) (fun h => by cases h) (fitInt (by simp only [List.length_cons, List.length_nil]; omega)) ?_ ?_)
    · intro w2 hs2
      refine WO.rd (is := [3]) (js := []) (Keep.refl _) (Rn.s rfl Yv.as (Rn.nil)) (WO.done ?_)
      exact ⟨rfl, A, c, [Ch.row InE 3 (some ⟨b, 0, none⟩) 1 [-77]], hs2, .inl ⟨rfl, rfl⟩, rfl, rfl, trivial⟩
    · intro A2 c2 w2 hs2
      refine WO.rd (is := [3]) (js := []) (Keep.refl _) (Rn.s rfl Yv.as (Rn.nil)) (WO.done ?_)
      exact ⟨rfl, A2, c2, [Ch.row InE 3 A c xs], St.pickT (P := [Ch.row InE 3 A2 c2 (xs ++ [-77]), Ch.row InE 3 (some ⟨b, 0, none⟩) 1 [-77], Ch.row InE 3 A c xs]) (T := D) hs2 [0, 2], .inr rfl, rfl, rfl, trivial⟩
  rintro ρ ds w1 ⟨rfl, A2, c2, D2, hst, hA, hs⟩
  refine Wp.forget _ ?_ hs
  have hlx : (xs ++ [(-77 : Int)]).length = n + 1 := by rw [hn]; simp
  rw [hlx]
  refine Wp.seq (Wp.seq (Wp.reads (is := [0]) (Keep.refl _) (Rn.s rfl Yv.as (Rn.nil)) ?_))
  refine Wp.block ?_
  refine Wp.loop (α := Nat) (fun i ρ ds w' => ds = [] ∧ i ≤ n + 1 ∧ (∃ ys : Is, ys.length = n + 1 ∧ St w0 M w' (Ch.row InE 3 A2 c2 ys :: (D2 ++ D))) ∧ Sub [(0, .slice A xs.length c), (2, .slice A2 (n + 1) c2), (3, .int .i64 (i : Int))] ρ) (fun i => n + 1 - i) 0
    ⟨rfl, Nat.zero_le _, ⟨_, hlx, hst⟩, rfl, rfl, rfl, trivial⟩ ?_
  clear hst
  rintro i ρ ds w' ⟨rfl, hi, ⟨ys, hyl, hst⟩, hs⟩
  refine Wp.forget _ ?_ hs
  refine Wp.seq (Wp.seq (Wp.reads (is := [0, 1, 2, 3]) (Keep.refl _) (Rn.s rfl Yv.mv (Rn.s rfl Yv.mv (Rn.s rfl (Yv.len_v (e := 3) (m := 1)) (Rn.s rfl (Yv.cmp _ rfl) (Rn.nil))))) ?_))
  refine Wp.cond rfl (fun h => ?_) (fun h => ?_)
  · have h := of_decide_eq_true h
    have hrx := hst.rd 0
    refine Wp.skip (Wp.seq (Wp.block ?_))
    refine Wp.regionL (l := [0, 1, 2, 3]) (WO.rd (is := [0, 1, 2]) (js := [3]) (Keep.refl _) (Rn.s rfl Yv.mv (Rn.s rfl Yv.mv (Rn.s rfl (Yv.ia (e := 3) hrx (by omega) (by omega) hyl.symm) (Rn.nil)))) (WO.act (hc := rfl) (he := Ef.setFld (E := InE) (xs := ys) (f := 0) hst 0 (-77) rfl rfl (by omega) (by omega) (fun wy1 hsy1 => WO.done ?_))))
    refine Wp.reads (is := [0, 1, 2]) (Keep.refl _) (Rn.s rfl Yv.mv (Rn.s rfl (Yv.add (by unfold inI; omega)) (Rn.s rfl Yv.as (Rn.nil)))) ?_
    exact ⟨i + 1, ⟨rfl, by omega, ⟨_, by simp [hyl], hsy1⟩, rfl, rfl, rfl, trivial⟩, by omega⟩
  refine Wp.exit ?_
  have hstY := hst
  clear hst
  obtain ⟨zs, D4, hzl, hst⟩ : ∃ (zs : Is) (D4 : List Chunk), n ≤ zs.length ∧ St w0 M w' (Ch.row InE 3 A c zs :: (D4 ++ D)) := by
    rcases hA with ⟨hA1, hA2⟩ | hD
    · rw [hA1, hA2] at hstY
      exact ⟨ys, D2, by omega, hstY⟩
    · rw [hD] at hstY
      exact ⟨xs, [], by omega, hstY.drop⟩
  rw [← hn]
  refine Wp.seq (Wp.reads (is := [0]) (Keep.refl _) (Rn.s rfl Yv.as (Rn.nil)) ?_)
  refine Wp.block ?_
  refine Wp.loop (α := Nat) (fun i ρ ds w' => ds = [] ∧ i ≤ n ∧ (∃ zs : Is, n ≤ zs.length ∧ St w0 M w' (Ch.row InE 3 A c zs :: (D4 ++ D))) ∧ Sub [(0, .slice A n c), (4, .int .i64 (i : Int))] ρ) (fun i => n - i) 0
    ⟨rfl, Nat.zero_le _, ⟨zs, hzl, hst⟩, rfl, rfl, trivial⟩ ?_
  clear hst hzl hstY
  rintro i ρ ds w2 ⟨rfl, hi, ⟨zs, hzl, hst⟩, hs⟩
  refine Wp.forget _ ?_ hs
  refine Wp.seq (Wp.seq (Wp.reads (is := [0, 1, 2, 3]) (Keep.refl _) (Rn.s rfl Yv.mv (Rn.s rfl Yv.mv (Rn.s rfl (Yv.len_v (e := 3) (m := 1)) (Rn.s rfl (Yv.cmp _ rfl) (Rn.nil))))) ?_))
  refine Wp.cond rfl (fun h => ?_) (fun h => ?_)
  · have h := of_decide_eq_true h
    have hrx := rd_take (hst.rd 0) n
    have hzn : (zs.take n).length = n := by simp; omega
    refine Wp.skip (Wp.seq (Wp.block ?_))
    refine Wp.regionL (l := [0, 1, 2, 3]) (WO.rd (is := [0, 1, 2]) (js := [3]) (Keep.refl _) (Rn.s rfl Yv.mv (Rn.s rfl Yv.mv (Rn.s rfl (Yv.ia (e := 3) hrx (by omega) (by omega) hzn.symm) (Rn.nil)))) (WO.act (hc := rfl) (he := Ef.setFld (E := InE) (xs := zs) (f := 0) hst 0 (-77) rfl rfl (by omega) (by omega) (fun wy1 hsy1 => WO.done ?_))))
    refine Wp.reads (is := [0, 1, 2]) (Keep.refl _) (Rn.s rfl Yv.mv (Rn.s rfl (Yv.add (by unfold inI; omega)) (Rn.s rfl Yv.as (Rn.nil)))) ?_
    exact ⟨i + 1, ⟨rfl, by omega, ⟨_, by simp; omega, hsy1⟩, rfl, rfl, trivial⟩, by omega⟩
  · refine Wp.exit ?_
    exact Fin.normal (Res.none rfl) ⟨rfl, hst.drop.sub (List.sublist_append_right _ _)⟩
end Go.Proofs.YthbehiflmcljcaaDoor.C
