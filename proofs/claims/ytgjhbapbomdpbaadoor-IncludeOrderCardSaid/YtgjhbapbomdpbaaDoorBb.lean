/- Is a list of nodes a tree?  tree.fits and tree.Is. -/
import Derived.Test.YtgjhbapbomdpbaaDoorB9
set_option linter.unusedVariables false
set_option linter.unusedSimpArgs false
set_option maxRecDepth 10000
namespace Go.Proofs.YtgjhbapbomdpbaaDoor.C
open Go.RowKit Go.Proofs.YtgjhbapbomdpbaaDoor.Sh
theorem Yv.min {P : Program} {w : World} {ts : Array TypeId} {x y : Operand} {a b : Int} (m : Int) (h : (if b < a then b else a) = m) : Yv P w (.call { callee := .builtin .min, args := #[x, y], argTypes := ts }) [.int .i64 a, .int .i64 b] (.int .i64 m) :=
  Yv.mk2 (x := x) (y := y) (by simp) rfl fun o e w' hop hx hy _ => by
    subst h
    simp only [execOp, hop, resolve, invoke, builtin, Sem.run_bind, Sem.run_pure, Result.andThen_ok, List.map_toArray, List.map_cons, List.map_nil, hx, hy]
    simp [Builtin.min_, Builtin.min2]
def fitsB (n a : Nd) : Bool :=
  ((((((n.kind == 1 || n.kind == 2) || n.kind == 3) && decide (1 ≤ n.depth)) && decide (n.depth ≤ 32)) && (decide (n.depth ≤ a.depth) || (n.depth == a.depth + 1 && a.kind != 3))) && (n.text == [] || n.kind == 3))
theorem fits_cv (n a : Nd) (w0 : World) (h : inI (a.depth + 1)) : Cv Tryd.prog 45 [.agg n.cs.toArray, .agg a.cs.toArray] (.bool (fitsB n a)) w0 := by
  intro w hk
  refine calls_of_Wp (vs := [_, _]) Tryd.func45 ?_
  refine Wp.seq (Wp.regionL (l := [0, 1, 2]) (WO.act (hc := rfl) (he := Ef.boxL (n.cs) (St.init w) (fun ba1 wa1 ka1 hsa1 => WO.act (hc := rfl) (he := Ef.boxL (a.cs) hsa1 (fun ba2 wa2 ka2 hsa2 => WO.rd (is := [2]) (js := []) (((Keep.refl _).trans ka1).trans ka2) (Rn.s rfl Yv.as (Rn.nil)) (WO.done ?_)))))))
  have c3 := hsa2.cells 0
  have c2 := hsa2.cells 1
  refine Wp.seq (Wp.reads (is := [0, 1, 2, 3, 4, 5, 6, 7, 8, 9, 10, 11]) (Keep.refl _) (Rn.s rfl (Yv.fa (off := 1)) (Rn.s rfl (Yv.ld (c2.at_ 1)) (Rn.s rfl (Yv.fa (off := 1)) (Rn.s rfl (Yv.ld (c3.at_ 1)) (Rn.s rfl (Yv.add h) (Rn.s rfl (Yv.cmp _ rfl) (Rn.s rfl Yv.mv (Rn.and (is := [7, 8, 9, 10]) (js := [11]) (t := 13) (d := 17) (hg := rfl) (ht := fun h6 => have h6 := eq_of_beq h6; Rn.s rfl (Yv.fa (off := 0)) (Rn.s rfl (Yv.ld (c3.at_ 0)) (Rn.s rfl (Yv.cmp _ rfl) (Rn.s rfl Yv.pick_t ((Rn.e 4 rfl rfl)))))) (hf := fun _ => Rn.no rfl (Rn.no rfl (Rn.no rfl (Rn.s rfl Yv.pick_f (Rn.e 4 rfl rfl))))) (k := Rn.s rfl Yv.as (Rn.nil)))))))))) ?_)
  refine Wp.seq (Wp.reads (is := [0, 1, 2, 3, 4, 5, 6, 7, 8, 9, 10, 11, 12, 13]) (Keep.refl _) (Rn.s rfl (Yv.fa (off := 0)) (Rn.s rfl (Yv.ld (c2.at_ 0)) (Rn.s rfl (Yv.cmp _ rfl) (Rn.s rfl Yv.mv (Rn.or (is := [4, 5, 6, 7]) (js := [8, 9, 10, 11, 12, 13]) (t := 21) (d := 25) (hg := rfl) (hf := fun h3 => have h3 := ne_of_beq_false h3; Rn.s rfl (Yv.fa (off := 0)) (Rn.s rfl (Yv.ld (c2.at_ 0)) (Rn.s rfl (Yv.cmp _ rfl) (Rn.s rfl Yv.pick_f ((Rn.e 4 rfl rfl)))))) (ht := fun _ => Rn.no rfl (Rn.no rfl (Rn.no rfl (Rn.s rfl Yv.pick_t (Rn.e 4 rfl rfl))))) (k := Rn.s rfl Yv.mv (Rn.or (is := [9, 10, 11, 12]) (js := [13]) (t := 26) (d := 30) (hg := rfl) (hf := fun h8 => Rn.s rfl (Yv.fa (off := 0)) (Rn.s rfl (Yv.ld (c2.at_ 0)) (Rn.s rfl (Yv.cmp _ rfl) (Rn.s rfl Yv.pick_f ((Rn.e 4 rfl rfl)))))) (ht := fun _ => Rn.no rfl (Rn.no rfl (Rn.no rfl (Rn.s rfl Yv.pick_t (Rn.e 4 rfl rfl))))) (k := Rn.s rfl Yv.as (Rn.nil))))))))) ?_)
  refine Wp.seq (Wp.reads (is := [0, 1, 2, 3, 4, 5, 6, 7, 8, 9, 10, 11, 12, 13, 14, 15, 16, 17, 18, 19, 20, 21, 22, 23, 24, 25, 26, 27, 28, 29, 30, 31]) (Keep.refl _) (Rn.s rfl Yv.mv (Rn.s rfl Yv.mv (Rn.and (is := [2, 3, 4, 5]) (js := [6, 7, 8, 9, 10, 11, 12, 13, 14, 15, 16, 17, 18, 19, 20, 21, 22, 23, 24, 25, 26, 27, 28, 29, 30, 31]) (t := 32) (d := 36) (hg := rfl) (ht := fun h1 => Rn.s rfl (Yv.fa (off := 1)) (Rn.s rfl (Yv.ld (c2.at_ 1)) (Rn.s rfl (Yv.cmp _ rfl) (Rn.s rfl Yv.pick_t ((Rn.e 4 rfl rfl)))))) (hf := fun _ => Rn.no rfl (Rn.no rfl (Rn.no rfl (Rn.s rfl Yv.pick_f (Rn.e 4 rfl rfl))))) (k := Rn.s rfl Yv.mv (Rn.and (is := [7, 8, 9, 10]) (js := [11, 12, 13, 14, 15, 16, 17, 18, 19, 20, 21, 22, 23, 24, 25, 26, 27, 28, 29, 30, 31]) (t := 37) (d := 41) (hg := rfl) (ht := fun h6 => Rn.s rfl (Yv.fa (off := 1)) (Rn.s rfl (Yv.ld (c2.at_ 1)) (Rn.s rfl (Yv.cmp _ rfl) (Rn.s rfl Yv.pick_t ((Rn.e 4 rfl rfl)))))) (hf := fun _ => Rn.no rfl (Rn.no rfl (Rn.no rfl (Rn.s rfl Yv.pick_f (Rn.e 4 rfl rfl))))) (k := Rn.s rfl Yv.mv (Rn.and (is := [12, 13, 14, 15, 16, 17, 18, 19, 20]) (js := [21, 22, 23, 24, 25, 26, 27, 28, 29, 30, 31]) (t := 42) (d := 51) (hg := rfl) (ht := fun h11 => Rn.s rfl (Yv.fa (off := 1)) (Rn.s rfl (Yv.ld (c2.at_ 1)) (Rn.s rfl (Yv.fa (off := 1)) (Rn.s rfl (Yv.ld (c3.at_ 1)) (Rn.s rfl (Yv.cmp _ rfl) (Rn.s rfl Yv.mv (Rn.or (is := [18, 19]) (js := [20]) (t := 48) (d := 50) (hg := rfl) (hf := fun h17 => have h17 := of_decide_eq_false h17; Rn.s rfl Yv.mv (Rn.s rfl Yv.pick_f ((Rn.e 2 rfl rfl)))) (ht := fun _ => Rn.no rfl (Rn.s rfl Yv.pick_t (Rn.e 2 rfl rfl))) (k := Rn.s rfl Yv.pick_t ((Rn.e 8 rfl rfl)))))))))) (hf := fun _ => Rn.no rfl (Rn.no rfl (Rn.no rfl (Rn.no rfl (Rn.no rfl (Rn.no rfl (Rn.no rfl (Rn.no rfl (Rn.s rfl Yv.pick_f (Rn.e 9 rfl rfl)))))))))) (k := Rn.s rfl Yv.mv (Rn.and (is := [22, 23, 24, 25, 26, 27, 28, 29, 30]) (js := [31]) (t := 52) (d := 61) (hg := rfl) (ht := fun h21 => Rn.s rfl (Yv.fa (off := 3)) (Rn.s rfl (Yv.ld (c2.at_ 3)) (Rn.s rfl (Yv.scm _ rfl) (Rn.s rfl Yv.mv (Rn.or (is := [26, 27, 28, 29]) (js := [30]) (t := 56) (d := 60) (hg := rfl) (hf := fun h25 => Rn.s rfl (Yv.fa (off := 0)) (Rn.s rfl (Yv.ld (c2.at_ 0)) (Rn.s rfl (Yv.cmp _ rfl) (Rn.s rfl Yv.pick_f ((Rn.e 4 rfl rfl)))))) (ht := fun _ => Rn.no rfl (Rn.no rfl (Rn.no rfl (Rn.s rfl Yv.pick_t (Rn.e 4 rfl rfl))))) (k := Rn.s rfl Yv.pick_t ((Rn.e 6 rfl rfl)))))))) (hf := fun _ => Rn.no rfl (Rn.no rfl (Rn.no rfl (Rn.no rfl (Rn.no rfl (Rn.no rfl (Rn.no rfl (Rn.no rfl (Rn.s rfl Yv.pick_f (Rn.e 9 rfl rfl)))))))))) (k := Rn.s rfl Yv.as (Rn.nil))))))))))) ?_)
  refine Wp.ret (Fin.ret (Res.one rfl rfl) ⟨?_, hsa2.keep⟩)
  rfl

def isGo (t : List Nd) : List Nd → Nd → Int → List OB → Bool
  | [], _, _, _ => true
  | n :: r, a, i, st =>
    if fitsB n a = false then false
    else match st.drop (st.length - n.depth.toNat) with
      | [] => false
      | b :: st' =>
        if (nth t b.node).kind = 2 then (if n.key ≠ [] then false else isGo t r n (i + 1) (⟨0, false, i, []⟩ :: b :: st'))
        else if ((alook n.key b.keys).isSome || decide ((64 : Int) < n.key.length)) = true then false
        else isGo t r n (i + 1) (⟨0, false, i, []⟩ :: { b with keys := aput n.key (w64 ((alook n.key b.keys).getD 0 + 1)) b.keys } :: st')
def rootOk (a : Nd) : Bool := !((((a.kind != 1) || (a.depth != 0)) || (a.key != [])) || (a.text != []))
def isS (t : List Nd) : Bool :=
  match t with
  | [] => false
  | a :: r => if (16384 : Int) < (a :: r : List Nd).length then false else if rootOk a = false then false else isGo (a :: r) r a 1 [⟨0, false, 0, []⟩]
theorem orf {a b : Bool} (h : (a || b) = false) : a = false := (Bool.or_eq_false_iff.1 h).1
theorem lenp {α : Type} {t : List α} {b : Bool} (h : (((t.length : Int) == 0) || b) = false) : (0 : Int) < t.length := by
  have := ne_of_beq_false (orf h)
  omega
theorem is_cv (A : Option Addr) (c : Nat) (t : List Nd) (w0 : World) (hr : Rd NdE w0 A t) : Cv Tryd.prog 27 [.slice A t.length c] (.bool (isS t)) w0 := by
  intro w hk
  have hr := hr.keep hk
  refine calls_of_Wp (vs := [_]) Tryd.func27 ?_
  refine Wp.seq (Wp.reads (is := [0]) (Keep.refl _) (Rn.s rfl Yv.as (Rn.nil)) ?_)
  refine Wp.seq (Wp.seq (Wp.reads (is := [0, 1, 2, 3, 4, 5, 6, 7, 8, 9, 10, 11, 12, 13, 14, 15, 16, 17, 18, 19, 20, 21, 22, 23, 24, 25, 26, 27, 28, 29, 30, 31, 32, 33, 34, 35]) (Keep.refl _) (Rn.s rfl Yv.mv (Rn.s rfl (Yv.len_v (e := 48) (m := 8)) (Rn.s rfl (Yv.cmp _ rfl) (Rn.s rfl Yv.mv (Rn.or (is := [4, 5, 6, 7]) (js := [8, 9, 10, 11, 12, 13, 14, 15, 16, 17, 18, 19, 20, 21, 22, 23, 24, 25, 26, 27, 28, 29, 30, 31, 32, 33, 34, 35]) (t := 12) (d := 16) (hg := rfl) (hf := fun h3 => have h3 := ne_of_beq_false h3; Rn.s rfl Yv.mv (Rn.s rfl (Yv.len_v (e := 48) (m := 8)) (Rn.s rfl (Yv.cmp _ rfl) (Rn.s rfl Yv.pick_f ((Rn.e 4 rfl rfl)))))) (ht := fun _ => Rn.no rfl (Rn.no rfl (Rn.no rfl (Rn.s rfl Yv.pick_t (Rn.e 4 rfl rfl))))) (k := Rn.s rfl Yv.mv (Rn.or (is := [9, 10, 11, 12, 13, 14]) (js := [15, 16, 17, 18, 19, 20, 21, 22, 23, 24, 25, 26, 27, 28, 29, 30, 31, 32, 33, 34, 35]) (t := 17) (d := 23) (hg := rfl) (hf := fun h8 => Rn.s rfl Yv.mv (Rn.s rfl (Yv.ia (e := 48) hr (j := 0) (by omega) (lenp h8)) (Rn.s rfl (Yv.fa (off := 0)) (Rn.s rfl (Yv.ld (hr.ld (i := 0) 0 (by omega) (lenp h8))) (Rn.s rfl (Yv.cmp _ rfl) (Rn.s rfl Yv.pick_f ((Rn.e 6 rfl rfl)))))))) (ht := fun _ => Rn.no rfl (Rn.no rfl (Rn.no rfl (Rn.no rfl (Rn.no rfl (Rn.s rfl Yv.pick_t (Rn.e 6 rfl rfl))))))) (k := Rn.s rfl Yv.mv (Rn.or (is := [16, 17, 18, 19, 20, 21]) (js := [22, 23, 24, 25, 26, 27, 28, 29, 30, 31, 32, 33, 34, 35]) (t := 24) (d := 30) (hg := rfl) (hf := fun h15 => Rn.s rfl Yv.mv (Rn.s rfl (Yv.ia (e := 48) hr (j := 0) (by omega) (lenp (orf h15))) (Rn.s rfl (Yv.fa (off := 1)) (Rn.s rfl (Yv.ld (hr.ld (i := 0) 1 (by omega) (lenp (orf h15)))) (Rn.s rfl (Yv.cmp _ rfl) (Rn.s rfl Yv.pick_f ((Rn.e 6 rfl rfl)))))))) (ht := fun _ => Rn.no rfl (Rn.no rfl (Rn.no rfl (Rn.no rfl (Rn.no rfl (Rn.s rfl Yv.pick_t (Rn.e 6 rfl rfl))))))) (k := Rn.s rfl Yv.mv (Rn.or (is := [23, 24, 25, 26, 27, 28]) (js := [29, 30, 31, 32, 33, 34, 35]) (t := 31) (d := 37) (hg := rfl) (hf := fun h22 => Rn.s rfl Yv.mv (Rn.s rfl (Yv.ia (e := 48) hr (j := 0) (by omega) (lenp (orf (orf h22)))) (Rn.s rfl (Yv.fa (off := 2)) (Rn.s rfl (Yv.ld (hr.ld (i := 0) 2 (by omega) (lenp (orf (orf h22))))) (Rn.s rfl (Yv.scm _ rfl) (Rn.s rfl Yv.pick_f ((Rn.e 6 rfl rfl)))))))) (ht := fun _ => Rn.no rfl (Rn.no rfl (Rn.no rfl (Rn.no rfl (Rn.no rfl (Rn.s rfl Yv.pick_t (Rn.e 6 rfl rfl))))))) (k := Rn.s rfl Yv.mv (Rn.or (is := [30, 31, 32, 33, 34, 35]) (js := []) (t := 38) (d := 44) (hg := rfl) (hf := fun h29 => Rn.s rfl Yv.mv (Rn.s rfl (Yv.ia (e := 48) hr (j := 0) (by omega) (lenp (orf (orf (orf h29))))) (Rn.s rfl (Yv.fa (off := 3)) (Rn.s rfl (Yv.ld (hr.ld (i := 0) 3 (by omega) (lenp (orf (orf (orf h29)))))) (Rn.s rfl (Yv.scm _ rfl) (Rn.s rfl Yv.pick_f ((Rn.e 6 rfl rfl)))))))) (ht := fun _ => Rn.no rfl (Rn.no rfl (Rn.no rfl (Rn.no rfl (Rn.no rfl (Rn.s rfl Yv.pick_t (Rn.e 6 rfl rfl))))))) (k := Rn.nil)))))))))))))) ?_))
  have hhead : ((((((((t.length : Int) == 0) || decide ((16384 : Int) < t.length)) || ((nth t 0).kind != 1)) || ((nth t 0).depth != 0)) || ((nth t 0).key != [])) || ((nth t 0).text != [])) = true → isS t = false) ∧
      ((((((((t.length : Int) == 0) || decide ((16384 : Int) < t.length)) || ((nth t 0).kind != 1)) || ((nth t 0).depth != 0)) || ((nth t 0).key != [])) || ((nth t 0).text != [])) = false → ∃ a r, t = a :: r ∧ t.length ≤ 16384 ∧ a.depth = 0 ∧ isS t = isGo t r a 1 [⟨0, false, 0, []⟩]) := by
    cases t with
    | nil => exact ⟨fun _ => rfl, fun h => by simp at h⟩
    | cons a r =>
      have e0 : nth (a :: r) 0 = a := rfl
      rw [e0]
      constructor
      · intro h
        unfold isS rootOk
        simp only
        split
        · rfl
        · rename_i h1
          rw [if_pos]
          have : (((a :: r : List Nd).length : Int) == 0) = false := by simp; omega
          rw [this, decide_eq_false h1] at h
          simp only [Bool.false_or] at h
          rw [h]; rfl
      · intro h
        simp only [Bool.or_eq_false_iff] at h
        obtain ⟨⟨⟨⟨⟨h0, h1⟩, h2⟩, h3⟩, h4⟩, h5⟩ := h
        have h1 := of_decide_eq_false h1
        refine ⟨a, r, rfl, by omega, by simpa using h3, ?_⟩
        unfold isS rootOk
        simp only
        rw [if_neg h1, if_neg]
        simp [h2, h3, h4, h5]
  refine Wp.cond rfl (fun h => ?_) (fun h => ?_)  -- t44
  · refine Wp.seq (Wp.reads (is := [0]) (Keep.refl _) (Rn.s rfl Yv.as (Rn.nil)) ?_)
    exact Wp.ret (Fin.ret (Res.one rfl rfl) ⟨by rw [hhead.1 h], Keep.refl _⟩)
  obtain ⟨a0, r0, ht, htl, hd0, hG⟩ := hhead.2 h
  clear h hhead
  obtain ⟨G, hGe⟩ : ∃ G, G = isS t := ⟨_, rfl⟩
  rw [← hGe]
  rw [← hGe] at hG
  refine Wp.skip (Wp.seq (Wp.regionL (l := [0, 1, 2, 3]) (WO.act (hc := rfl) (he := Ef.makeMap KyS (.int .i64) (St.init w) (fun ba1 wa1 ka1 hsa1 => WO.rd (is := [1]) (js := [2, 3]) ((Keep.refl _).trans ka1) (Rn.s rfl (Yv.bd (cs := BkE.cells ((⟨0, false, 0, []⟩ : OB), ba1))) (Rn.nil)) (WO.act (hc := rfl) (he := Ef.bsl (T := 73) BkE [((⟨0, false, 0, []⟩ : OB), ba1)] hsa1 (fun ba2 wa2 ka2 hsa2 => WO.rd (is := [3]) (js := []) (((Keep.refl _).trans ka1).trans ka2) (Rn.s rfl Yv.as (Rn.nil)) (WO.done ?_)))))))))
  refine Wp.seq (Wp.seq (Wp.reads (is := [0]) (Keep.refl _) (Rn.s rfl Yv.as (Rn.nil)) ?_))
  refine Wp.block ?_
  refine Wp.loop (α := Nat) (fun i ρ ds w' => ds = [] ∧ 1 ≤ i ∧ i ≤ t.length ∧ (∃ B d op, isGo t (t.drop i) (nth t ((i : Int) - 1)) i (op.map (·.1)) = G ∧ (op.length : Int) = (nth t ((i : Int) - 1)).depth + 1 ∧ 0 ≤ (nth t ((i : Int) - 1)).depth ∧ (nth t ((i : Int) - 1)).depth ≤ 32 ∧
      (∀ x ∈ op, 0 ≤ x.1.node ∧ x.1.node < (t.length : Int)) ∧ St w [] w' (Ch.row BkE 73 B d op.reverse :: mps op) ∧
    Sub [(0, .slice A t.length c), (3, .slice B op.reverse.length d), (4, .int .i64 i)] ρ)) (fun i => t.length - i) 1
    ⟨rfl, Nat.le_refl _, by rw [ht]; simp, ⟨some ⟨ba2, 0, none⟩, 1, [(⟨0, false, 0, []⟩, ba1)], ?_, ?_, ?_, ?_, ?_, hsa2, rfl, rfl, rfl, trivial⟩⟩ ?_
  · rw [hG, ht]; rfl
  · rw [ht]; show (1 : Int) = a0.depth + 1; omega
  · rw [ht]; show (0 : Int) ≤ a0.depth; omega
  · rw [ht]; show a0.depth ≤ 32; omega
  · intro x hx
    simp only [List.mem_singleton] at hx
    subst hx
    rw [ht]; simp
  rintro i ρ ds w' ⟨rfl, hi1, hi, ⟨B, d, op, hgo, hol, hd1, hd2, hno, hst, hs⟩⟩
  refine Wp.forget _ ?_ hs
  have hr0 := hr
  have hr := hr.keep hst.keep
  refine Wp.seq (Wp.seq (Wp.reads (is := [0, 1, 2, 3]) (Keep.refl _) (Rn.s rfl Yv.mv (Rn.s rfl Yv.mv (Rn.s rfl (Yv.len_v (e := 48) (m := 8)) (Rn.s rfl (Yv.cmp _ rfl) (Rn.nil))))) ?_))
  refine Wp.cond rfl (fun h => ?_) (fun h => ?_)
  · have h := of_decide_eq_true h
    have hil : i < t.length := by omega
    refine Wp.skip (Wp.seq (Wp.block ?_))
    obtain ⟨n, hn⟩ : ∃ n, n = nth t (i : Int) := ⟨_, rfl⟩
    obtain ⟨a, ha⟩ : ∃ a, a = nth t ((i : Int) - 1) := ⟨_, rfl⟩
    rw [← ha] at hgo hol hd1 hd2
    have hlen : ((i : Int)) < t.length := by omega
    refine Wp.seq (Wp.regionL (l := [0, 1, 2, 3, 4, 5]) (WO.rd (is := [0, 1, 2, 3]) (js := [4, 5]) (Keep.refl _) (Rn.s rfl Yv.mv (Rn.s rfl Yv.mv (Rn.s rfl (Yv.ia (e := 48) hr (by omega) (by omega)) (Rn.s rfl (Yv.ldel hr rfl rfl (by omega) (by omega)) (Rn.nil))))) (WO.act (hc := rfl) (he := Ef.allocL (vs := [.int .i64 0, .int .i64 0, S [], S [], S [], .int .i64 0, .int .i64 0, .int .i64 0]) hst (fun bx1 wx1 kx1 hsx1 => WO.act (hc := rfl) (he := Ef.stores hsx1 0 (fun wx2 hsx2 => WO.done ?_)))))))
    rw [← hn] at hsx2
    have hst : St w [] wx2 (Ch.cells bx1 48 n.cs :: Ch.row BkE 73 B d op.reverse :: mps op) := hsx2
    have hr := (hr.keep (Keep.refl _))
    have hr : Rd NdE wx2 A t := hr0.keep hst.keep
    have c5 := hst.cells 0
    have hf : Cv Tryd.prog 45 [.agg n.cs.toArray, .agg (nth t ((i : Int) - 1)).cs.toArray] (.bool (fitsB n a)) wx2 := by rw [← ha]; exact fits_cv n a wx2 ⟨by omega, by omega⟩
    refine Wp.seq (Wp.seq (Wp.draws [] mixed (WD.rd (is := [0, 1, 2, 3, 4, 5]) (fun _ _ _ _ _ h => h) (Keep.drew _) (Rn.s rfl (Yv.ldb c5) (Rn.s rfl Yv.mv (Rn.s rfl Yv.mv (Rn.s rfl (Yv.sub (by unfold inI; omega)) (Rn.s rfl (Yv.ia (e := 48) hr (by omega) (by omega)) (Rn.s rfl (Yv.ldel hr rfl rfl (by omega) (by omega)) (Rn.nil))))))) (WD.cv 6 rfl hf (Keep.drew _) (FnOk.of Tryd.func45) (fun wy1 ky1 => WD.rd (is := [7]) (fun _ _ _ _ _ h => h) ((Keep.drew _).trans ky1) (Rn.s rfl Yv.not (Rn.nil)) (WD.done ?_))))))
    have hst := hst.quiet ((Keep.drew _).trans ky1)
    rw [List.drop_eq_getElem_cons hil, isGo] at hgo
    have hnt : t[i] = n := by rw [hn, nth_nat]; simp [hil]
    rw [hnt] at hgo
    refine Wp.cond rfl (fun h2 => ?_) (fun h2 => ?_)
    · have h2 : fitsB n a = false := by simpa using h2
      rw [if_pos h2] at hgo
      refine Wp.seq (Wp.reads (is := [0]) (Keep.refl _) (Rn.s rfl Yv.as (Rn.nil)) ?_)
      exact Wp.ret (Fin.ret (Res.one rfl rfl) ⟨by rw [← hgo], hst.keep⟩)
    have h2 : fitsB n a = true := by simpa using h2
    rw [if_neg (by simp [h2])] at hgo
    have hfd : 1 ≤ n.depth ∧ n.depth ≤ 32 ∧ n.depth ≤ op.length := by
      have h3 := h2
      unfold fitsB at h3
      simp only [Bool.and_eq_true, Bool.or_eq_true, decide_eq_true_eq, beq_iff_eq] at h3
      omega
    refine Wp.skip ?_
    obtain ⟨j, hj⟩ : ∃ j, j = op.length - n.depth.toNat := ⟨_, rfl⟩
    have hdl : op.drop j = op.drop (op.length - n.depth.toNat) := by rw [hj]
    obtain ⟨⟨b, kb⟩, rb, hb⟩ : ∃ x r, op.drop j = x :: r := by
      refine List.exists_cons_of_ne_nil ?_
      intro h3
      have := congrArg List.length h3
      simp only [List.length_drop, List.length_nil] at this
      omega
    have hlb : (((⟨b, kb⟩ :: rb : List (OB × Nat))).length : Int) = n.depth := by
      rw [← hb]; simp only [List.length_drop]; omega
    have hmem : ∀ x ∈ (⟨b, kb⟩ :: rb : List (OB × Nat)), x ∈ op := fun x hx => List.mem_of_mem_drop (i := j) (by rw [hb]; exact hx)
    rw [List.length_map, ← List.map_drop, ← hdl, hb] at hgo
    simp only [List.map_cons] at hgo
    have c5 := hst.cells 0
    refine Wp.seq (Wp.regionL (l := [0, 1, 2, 3, 4, 5, 6, 7]) (WO.rd (is := [0, 1, 2, 3, 4, 5, 6, 7]) (js := []) (Keep.refl _) (Rn.s rfl Yv.mv (Rn.s rfl (Yv.fa (off := 1)) (Rn.s rfl (Yv.ld (c5.at_ 1)) (Rn.s rfl Yv.mv (Rn.s rfl (Yv.len_v (e := 73) (m := 4)) (Rn.s rfl (Yv.min n.depth (by rw [List.length_reverse, if_neg (by omega)])) (Rn.s rfl (Yv.sl_t (n := 4) (e := 73) (by omega) (by have := hst.cap 1; rw [List.length_reverse] at this; omega)) (Rn.s rfl Yv.as (Rn.nil))))))))) (WO.done ?_)))
    have hlr : (((⟨b, kb⟩ :: rb : List (OB × Nat))).reverse.length : Int) = n.depth := by rw [List.length_reverse]; exact hlb
    have hst : St w [] wy1 (Ch.cells bx1 48 n.cs :: Ch.row BkE 73 B d (⟨b, kb⟩ :: rb : List (OB × Nat)).reverse :: mps (⟨b, kb⟩ :: rb)) := by
      have e1 : op.reverse = (op.drop j).reverse ++ (op.take j).reverse := by rw [← List.reverse_append, List.take_append_drop]
      rw [e1, hb] at hst
      have h3 := (hst.pickT (P := [_, _]) (T := mps op) [1, 0]).shrink
      refine (h3.pickT (P := [_, _]) (T := mps op) [1, 0]).sub (.cons_cons _ (.cons_cons _ ?_))
      rw [← hb]
      exact (List.drop_sublist j op).map _
    have e2 : n.depth.toNat = (⟨b, kb⟩ :: rb : List (OB × Nat)).reverse.length := by omega
    rw [e2]
    have c5 := hst.cells 0
    have hrb := hst.rd 1
    refine Wp.seq (Wp.regionL (l := [0, 1, 2, 3, 4, 5, 6, 7]) (WO.rd (is := [0, 1, 2, 3, 4, 5]) (js := [6, 7]) (Keep.refl _) (Rn.s rfl Yv.mv (Rn.s rfl (Yv.fa (off := 1)) (Rn.s rfl (Yv.ld (c5.at_ 1)) (Rn.s rfl (Yv.sub (by unfold inI; omega)) (Rn.s rfl (Yv.ia (e := 73) hrb (by omega) (by omega)) (Rn.s rfl (Yv.ldel hrb rfl rfl (by omega) (by omega)) (Rn.nil))))))) (WO.act (hc := rfl) (he := Ef.allocL (vs := [.int .i64 0, .bool false, .int .i64 0, .map none]) hst (fun bu1 wu1 ku1 hsu1 => WO.act (hc := rfl) (he := Ef.stores hsu1 0 (fun wu2 hsu2 => WO.done ?_)))))))
    have e3 : nth (⟨b, kb⟩ :: rb : List (OB × Nat)).reverse (n.depth - 1) = ⟨b, kb⟩ := by rw [← hlr]; exact nth_top _ _
    rw [e3] at hsu2
    have hst : St w [] wu2 (Ch.cells bu1 73 [.int .i64 b.indent, .bool b.items, .int .i64 b.node, .map (some kb)] :: Ch.cells bx1 48 n.cs :: Ch.row BkE 73 B d (⟨b, kb⟩ :: rb : List (OB × Nat)).reverse :: mps (⟨b, kb⟩ :: rb)) := hsu2
    have c6 := hst.cells 0
    have c5 := hst.cells 1
    have hr : Rd NdE wu2 A t := hr0.keep hst.keep
    have hbn := hno _ (hmem _ (List.mem_cons_self ..))
    simp only at hbn
    refine Wp.seq (Wp.seq (Wp.reads (is := [0, 1, 2, 3, 4, 5, 6]) (Keep.refl _) (Rn.s rfl Yv.mv (Rn.s rfl (Yv.fa (off := 2)) (Rn.s rfl (Yv.ld (c6.at_ 2)) (Rn.s rfl (Yv.ia (e := 48) hr (by omega) (by omega)) (Rn.s rfl (Yv.fa (off := 0)) (Rn.s rfl (Yv.ld (hr.ld 0 (by omega) (by omega))) (Rn.s rfl (Yv.cmp _ rfl) (Rn.nil)))))))) ?_))
    have e8 : (⟨b, kb⟩ :: rb : List (OB × Nat)).reverse.length = rb.length + 1 := by simp
    rw [e8]
    refine Wp.mid (fun ρ ds w3 => ds = [] ∧ ∃ b' : OB, b'.node = b.node ∧ isGo t (t.drop (i + 1)) n ((i : Int) + 1) (⟨0, false, i, []⟩ :: b' :: rb.map (·.1)) = G ∧
        St w [] w3 (Ch.row BkE 73 B d (⟨b', kb⟩ :: rb : List (OB × Nat)).reverse :: mps (⟨b', kb⟩ :: rb)) ∧
        Sub [(0, .slice A t.length c), (3, .slice B (rb.length + 1) d), (4, .int .i64 i)] ρ) ?_ ?_
    case refine_1 =>
      refine Wp.cond rfl (fun h4 => ?_) (fun h4 => ?_)
      · have h4 := eq_of_beq h4
        rw [if_pos h4] at hgo
        refine Wp.seq (Wp.reads (is := [0, 1, 2]) (Keep.refl _) (Rn.s rfl (Yv.fa (off := 2)) (Rn.s rfl (Yv.ld (c5.at_ 2)) (Rn.s rfl (Yv.scm _ rfl) (Rn.nil)))) ?_)
        refine Wp.cond rfl (fun h5 => ?_) (fun h5 => ?_)
        · have h5 : n.key ≠ [] := by simpa using h5
          rw [if_pos h5] at hgo
          refine Wp.seq (Wp.reads (is := [0]) (Keep.refl _) (Rn.s rfl Yv.as (Rn.nil)) ?_)
          exact Wp.ret (Fin.ret (Res.one rfl rfl) ⟨by rw [← hgo], hst.keep⟩)
        have h5 : n.key = [] := by simpa using h5
        rw [if_neg (by simp [h5])] at hgo
        exact Wp.skip ⟨rfl, b, rfl, hgo, hst.sub (.cons _ (.cons _ (List.Sublist.refl _))), rfl, rfl, rfl, trivial⟩
      have h4 := ne_of_beq_false h4
      have hmp : (Ch.mp KyS VI kb b.keys).ok wu2 := hst.at_ 3
      rw [if_neg h4] at hgo
      refine Wp.seq (Wp.seq (Wp.regionL (l := [0, 1, 2, 3, 4, 5, 6, 7, 8, 9]) (WO.rd (is := [0, 1, 2, 3, 4, 5, 6, 7, 8, 9]) (js := []) (Keep.refl _) (Rn.s rfl (Yv.fa (off := 3)) (Rn.s rfl (Yv.ld (c6.at_ 3)) (Rn.s rfl (Yv.fa (off := 2)) (Rn.s rfl (Yv.ld (c5.at_ 2)) (Rn.s rfl (Yv.look2 hmp 0) (Rn.s rfl Yv.mv (Rn.s rfl Yv.ex (Rn.s rfl Yv.ex (Rn.s rfl Yv.as (Rn.s rfl Yv.as (Rn.nil))))))))))) (WO.done ?_))))
      refine Wp.seq (Wp.reads (is := [0, 1, 2, 3, 4, 5, 6]) (Keep.refl _) (Rn.s rfl Yv.mv (Rn.s rfl Yv.mv (Rn.or (is := [2, 3, 4, 5, 6]) (js := []) (t := 98) (d := 103) (hg := rfl) (hf := fun h1 => Rn.s rfl (Yv.fa (off := 2)) (Rn.s rfl (Yv.ld (c5.at_ 2)) (Rn.s rfl Yv.len_s (Rn.s rfl (Yv.cmp _ rfl) (Rn.s rfl Yv.pick_f ((Rn.e 5 rfl rfl))))))) (ht := fun _ => Rn.no rfl (Rn.no rfl (Rn.no rfl (Rn.no rfl (Rn.s rfl Yv.pick_t (Rn.e 5 rfl rfl)))))) (k := Rn.nil)))) ?_)
      refine Wp.cond rfl (fun h5 => ?_) (fun h5 => ?_)
      · rw [if_pos h5] at hgo
        refine Wp.seq (Wp.reads (is := [0]) (Keep.refl _) (Rn.s rfl Yv.as (Rn.nil)) ?_)
        exact Wp.ret (Fin.ret (Res.one rfl rfl) ⟨by rw [← hgo], hst.keep⟩)
      rw [if_neg (by rw [h5]; decide)] at hgo
      refine Wp.skip ?_
      refine Wp.regionL (l := [0, 1, 2, 3, 4, 5, 6]) (WO.rd (is := [0, 1, 2, 3, 4, 5]) (js := [6]) (Keep.refl _) (Rn.s rfl (Yv.fa (off := 3)) (Rn.s rfl (Yv.ld (c6.at_ 3)) (Rn.s rfl (Yv.fa (off := 2)) (Rn.s rfl (Yv.ld (c5.at_ 2)) (Rn.s rfl (Yv.look hmp 0) (Rn.s rfl Yv.addw (Rn.nil))))))) (WO.act (hc := rfl) (he := Ef.mapput hst 3 (fun wq1 hsq1 => WO.done ?_))))
      refine ⟨rfl, { b with keys := aput n.key (w64 ((alook n.key b.keys).getD 0 + 1)) b.keys }, rfl, hgo, ?_, rfl, rfl, rfl, trivial⟩
      have e7 : Ch.row BkE 73 B d (⟨b, kb⟩ :: rb : List (OB × Nat)).reverse = Ch.row BkE 73 B d (({ b with keys := aput n.key (w64 ((alook n.key b.keys).getD 0 + 1)) b.keys }, kb) :: rb : List (OB × Nat)).reverse := row_congr (by simp) (by simp)
      rw [← e7]
      exact hsq1.pickT (P := [_, _, _, _]) (T := mps rb) [3, 0]
    rintro ρ ds w3 ⟨rfl, b', hbn', hgo, hst, hs⟩
    refine Wp.forget _ ?_ hs
    have e9 : (⟨b', kb⟩ :: rb : List (OB × Nat)).reverse.length = rb.length + 1 := by simp
    rw [← e9]
    have hrl : rb.length ≤ 32 := by simp only [List.length_cons] at hlb; omega
    refine Wp.regionL (l := [0, 1, 2, 3, 4, 5, 6]) (WO.rd (is := [0, 1]) (js := [2, 3, 4, 5, 6]) (Keep.refl _) (Rn.s rfl Yv.mv (Rn.s rfl Yv.mv (Rn.nil))) (WO.act (hc := rfl) (he := Ef.makeMap KyS (.int .i64) hst (fun bv1 wv1 kv1 hsv1 => WO.rd (is := [3]) (js := [4, 5, 6]) ((Keep.refl _).trans kv1) (Rn.s rfl (Yv.bd (cs := BkE.cells ((⟨0, false, i, []⟩ : OB), bv1))) (Rn.nil)) (WO.app BkE [((⟨0, false, i, []⟩ : OB), bv1)] rfl (fun _ => rfl) hsv1 1 (.inl (by simp only [List.length_reverse, List.length_cons, List.length_nil]; omega)) (fun bv2 Av2 cv2 wv2 hsv2 => WO.rd (is := [6]) (js := []) (Keep.refl _) (Rn.s rfl Yv.as (Rn.nil)) (WO.done ?_)))))))
    refine Wp.reads (is := [0, 1, 2]) (Keep.refl _) (Rn.s rfl Yv.mv (Rn.s rfl (Yv.add (by unfold inI; omega)) (Rn.s rfl Yv.as (Rn.nil)))) ?_
    refine ⟨i + 1, ⟨rfl, by omega, hil, ⟨Av2, cv2, (⟨0, false, i, []⟩, bv1) :: ⟨b', kb⟩ :: rb, ?_, ?_, ?_, ?_, ?_, ?_, rfl, by rw [List.reverse_cons (a := ((⟨0, false, (i : Int), []⟩, bv1) : OB × Nat))]; rfl, rfl, trivial⟩⟩, by omega⟩
    all_goals try (
      have e10 : ((i + 1 : Nat) : Int) - 1 = i := by omega
      rw [e10, ← hn])
    · exact hgo
    · simp only [List.length_cons] at hlb ⊢
      omega
    · omega
    · omega
    · intro x hx
      rcases List.mem_cons.1 hx with h9 | h9
      · subst h9; simp only; omega
      rcases List.mem_cons.1 h9 with h9 | h9
      · subst h9; simp only [hbn']; exact hbn
      · exact hno x (hmem x (List.mem_cons_of_mem _ h9))
    · have h9 := hsv2.pickT (P := [_, _, _]) (T := mps rb) [0, 1, 2]
      rw [List.reverse_cons (a := ((⟨0, false, (i : Int), []⟩, bv1) : OB × Nat))]
      exact h9
  have h := of_decide_eq_false h
  rw [List.drop_eq_nil_of_le (by omega), isGo] at hgo
  refine Wp.exit ?_
  refine Wp.seq (Wp.reads (is := [0]) (Keep.refl _) (Rn.s rfl Yv.as (Rn.nil)) ?_)
  exact Wp.ret (Fin.ret (Res.one rfl rfl) ⟨by rw [← hgo], hst.keep⟩)
end Go.Proofs.YtgjhbapbomdpbaaDoor.C
