/- A need's text read: Split at one byte, names of variables, read. -/
import Derived.Test.YthbehiflmcljcaaDoorGm
set_option linter.unusedVariables false
set_option linter.unusedSimpArgs false
set_option maxRecDepth 10000
namespace Go.Proofs.YthbehiflmcljcaaDoor.C
open Go.RowKit Go.Proofs.YthbehiflmcljcaaDoor.Sh
theorem Yv.min2 {P : Program} {w : World} {ts : Array TypeId} {x y : Operand} {a b : Int} (m : Int) (h : (if b < a then b else a) = m) : Yv P w (.call { callee := .builtin .min, args := #[x, y], argTypes := ts }) [.int .i64 a, .int .i64 b] (.int .i64 m) :=
  ⟨by simp, fun o e hop hv w' _ => by
    subst h
    have hx : e x = .int .i64 a ∧ e y = .int .i64 b := by simpa [Op.operands, Call.operands] using hv
    simp only [execOp, hop, resolve, invoke, builtin, Sem.run_bind, Sem.run_pure, Result.andThen_ok, List.map_toArray, List.map_cons, List.map_nil, hx.1, hx.2]
    simp [Builtin.min_, Builtin.min2]⟩
abbrev StE : Enc Bs := ⟨1, fun x => [S x], fun _ => rfl⟩
theorem set_repl {α : Type} (ps : List α) (z x : α) {n : Nat} (h : ps.length < n) : (ps ++ List.replicate (n - ps.length) z).set ps.length x = (ps ++ [x]) ++ List.replicate (n - (ps ++ [x]).length) z := by
  obtain ⟨m, hm⟩ : ∃ m, n - ps.length = m + 1 := ⟨n - ps.length - 1, by omega⟩
  have e : n - (ps ++ [x]).length = m := by simp; omega
  rw [hm, e, List.set_append_right _ _ (Nat.le_refl _), Nat.sub_self, List.replicate_succ, List.set_cons_zero]
  simp
theorem split_cx (s : Bs) (c : UInt8) (hl : s.length ≤ 4611686018427387904) (hct : s.count c ≤ 17592186044415) (w : World) :
    Cx Tryd.prog 57 [S s, S [c]] [] (fun v D => ∃ A cp, v = .slice A (splA c s).length cp ∧ D = [Ch.row StE 9 A cp (splA c s)]) w := by
  have hlen : (splA c s).length = s.count c + 1 := splA_len c s
  have hcl : s.count c ≤ s.length := List.count_le_length
  have hgen : Cx Tryd.prog 68 [S s, S [c], .int .i64 0, .int .i64 (-1)] [] (fun v D => ∃ A cp, v = .slice A (splA c s).length cp ∧ D = [Ch.row StE 9 A cp (splA c s)]) w := by
    refine calls_of_Wp (vs := [_, _, _, _]) Tryd.func68 ?_
    refine Wp.seq (Wp.reads (is := [0]) (Keep.refl _) (Rn.s rfl Yv.as (Rn.nil)) ?_)
    refine Wp.seq (Wp.seq (Wp.reads (is := [0, 1]) (Keep.refl _) (Rn.s rfl Yv.mv (Rn.s rfl (Yv.cmp _ rfl) (Rn.nil))) ?_))
    refine Wp.cond_f rfl ?_
    refine Wp.skip ?_
    refine Wp.seq (Wp.seq (Wp.reads (is := [0, 1]) (Keep.refl _) (Rn.s rfl Yv.mv (Rn.s rfl (Yv.scm _ rfl) (Rn.nil))) ?_))
    refine Wp.cond_f rfl ?_
    refine Wp.skip ?_
    refine Wp.seq (Wp.seq (Wp.reads (is := [0, 1]) (Keep.refl _) (Rn.s rfl Yv.mv (Rn.s rfl (Yv.cmp _ rfl) (Rn.nil))) ?_))
    refine Wp.cond_t rfl ?_
    refine Wp.regionL (l := [0, 1, 2, 3, 4]) (WO.rd (is := [0, 1]) (js := [2, 3, 4]) (Keep.refl _) (Rn.s rfl Yv.mv (Rn.s rfl Yv.mv (Rn.nil))) (WO.cv rfl (count1_cv s c w) (Keep.refl _) (FnOk.of Tryd.func84) (fun wa1 ka1 => WO.rd (is := [3, 4]) (js := []) ((Keep.refl _).trans ka1) (Rn.s rfl (Yv.add ⟨by unfold Lib.countByte; omega, by unfold Lib.countByte; omega⟩) (Rn.s rfl Yv.as (Rn.nil))) (WO.done ?_))))
    have e1 : ((Lib.countByte s c : Nat) : Int) + 1 = ((splA c s).length : Int) := by rw [hlen]; rfl
    rw [e1]
    refine Wp.seq (Wp.reads (is := [0, 1, 2, 3, 4, 5]) (Keep.refl _) (Rn.s rfl Yv.mv (Rn.s rfl Yv.mv (Rn.s rfl Yv.len_s (Rn.s rfl (Yv.add ⟨by omega, by omega⟩) (Rn.s rfl (Yv.min2 ((splA c s).length : Int) (if_neg (by omega))) (Rn.s rfl Yv.as (Rn.nil))))))) ?_)
    obtain ⟨n, hn⟩ : ∃ n, (splA c s).length = n + 1 := ⟨s.count c, hlen⟩
    rw [hn]
    refine Wp.seq (Wp.regionL (l := [0, 1, 2]) (WO.rd (is := [0]) (js := [1, 2]) (Keep.refl _) (Rn.s rfl Yv.mv (Rn.nil)) (WO.act (hc := rfl) (he := Ef.mks (T := 9) (bytes := 16) StE ([] : Bs) (S []) (by omega) (by omega) ((St.init w).quiet ka1) (fun bb1 wb1 kb1 hsb1 => WO.rd (is := [2]) (js := []) ((Keep.refl _).trans kb1) (Rn.s rfl Yv.as (Rn.nil)) (WO.done ?_))))))
    have e2 : ((n + 1 : Nat) : Int) - 1 = (n : Int) := by omega
    refine Wp.seq (Wp.reads (is := [0, 1, 2]) (Keep.refl _) (Rn.s rfl Yv.mv (Rn.s rfl (Yv.sub (by unfold inI; omega)) (Rn.s rfl Yv.as (Rn.nil)))) ?_)
    rw [e2]
    refine Wp.seq (Wp.reads (is := [0]) (Keep.refl _) (Rn.s rfl Yv.as (Rn.nil)) ?_)
    refine Wp.cut (fun ρ ds w' => ds = [] ∧ ∃ ps r, ps.length = n ∧ splA c s = ps ++ [r] ∧ St w [] w' [Ch.row StE 9 (some ⟨bb1, 0, none⟩) (n + 1) (ps ++ List.replicate (n + 1 - ps.length) [])] ∧ Sub [(0, S r), (9, .slice (some ⟨bb1, 0, none⟩) (n + 1) (n + 1)), (10, .int .i64 (n : Int))] ρ) (Wp.block ?_) ?_
    · refine Wp.loop (α := List Bs × Bs) (fun x ρ ds w' => ds = [] ∧ x.1.length ≤ n ∧ splA c s = x.1 ++ splA c x.2 ∧ x.2.length ≤ s.length ∧ St w [] w' [Ch.row StE 9 (some ⟨bb1, 0, none⟩) (n + 1) (x.1 ++ List.replicate (n + 1 - x.1.length) [])] ∧
        Sub [(0, S x.2), (1, S [c]), (2, .int .i64 0), (3, .int .i64 (n : Int)), (9, .slice (some ⟨bb1, 0, none⟩) (n + 1) (n + 1)), (10, .int .i64 (x.1.length : Int))] ρ) (fun x => n - x.1.length) ([], s)
        ⟨rfl, by simp, rfl, Nat.le_refl _, by simpa using hsb1, rfl, rfl, rfl, rfl, rfl, rfl, trivial⟩ ?_
      rintro ⟨ps, r⟩ ρ ds w1 ⟨rfl, hpl, hsp, hrl, hst, hs⟩
      dsimp only at hpl hsp hrl hst hs ⊢
      refine Wp.forget _ ?_ hs
      clear hs ρ
      have hcut := splA_cut c r
      obtain ⟨i1, i2⟩ := cut_index c r
      refine Wp.seq (Wp.seq (Wp.reads (is := [0, 1, 2]) (Keep.refl _) (Rn.s rfl Yv.mv (Rn.s rfl Yv.mv (Rn.s rfl (Yv.cmp _ rfl) (Rn.nil)))) ?_))
      refine Wp.cond rfl (fun hlt => ?_) (fun hlt => ?_)
      · have hlt : ps.length < n := by have := of_decide_eq_true hlt; omega
        have hf : (cutC c r).2.2 = true := by
          cases hf : (cutC c r).2.2 with
          | true => rfl
          | false =>
            rw [hf] at hcut
            rw [hcut] at hsp
            have := congrArg List.length hsp
            rw [hn] at this
            simp at this
            omega
        obtain ⟨q1, q2, q3, q4⟩ := i1 hf
        rw [hf, if_pos rfl] at hcut
        refine Wp.skip ?_
        refine Wp.block ?_
        refine Wp.seq (Wp.regionL (l := [0, 1, 2, 3]) (WO.rd (is := [0, 1]) (js := [2, 3]) (Keep.refl _) (Rn.s rfl Yv.mv (Rn.s rfl Yv.mv (Rn.nil))) (WO.cv rfl (index1_cv r c w1) (Keep.refl _) (FnOk.of Tryd.func67) (fun wd1 kd1 => WO.rd (is := [3]) (js := []) ((Keep.refl _).trans kd1) (Rn.s rfl Yv.as (Rn.nil)) (WO.done ?_)))))
        have hst := hst.quiet kd1
        rw [q1]
        refine Wp.seq (Wp.seq (Wp.reads (is := [0, 1]) (Keep.refl _) (Rn.s rfl Yv.mv (Rn.s rfl (Yv.cmp _ rfl) (Rn.nil))) ?_))
        refine Wp.cond rfl (fun h => ?_) (fun h => ?_)
        · exfalso
          have := of_decide_eq_true h
          omega
        refine Wp.skip ?_
        have hrow := hst.rd 0
        have hrl2 : (ps ++ List.replicate (n + 1 - ps.length) ([] : Bs)).length = n + 1 := by simp; omega
        refine Wp.seq (Wp.regionL (l := [0, 1, 2, 3, 4, 5, 6, 7, 8]) (WO.rd (is := [0, 1, 2, 3, 4, 5, 6, 7]) (js := [8]) (Keep.refl _) (Rn.s rfl Yv.mv (Rn.s rfl Yv.mv (Rn.s rfl Yv.mv (Rn.s rfl Yv.mv (Rn.s rfl Yv.mv (Rn.s rfl (Yv.add ⟨by omega, by omega⟩) (Rn.s rfl (Yv.ss_t (by omega) (by omega)) (Rn.s rfl (Yv.ia (e := 9) hrow (by omega) (by omega) hrl2.symm) (Rn.nil))))))))) (WO.act (hc := rfl) (he := Ef.setFld (E := StE) (xs := ps ++ List.replicate (n + 1 - ps.length) []) (f := 0) hst 0 (r.take (((cutC c r).1.length : Int) + 0).toNat) rfl rfl (by omega) (by omega) (fun we1 hse1 => WO.done ?_)))))
        refine Wp.seq (Wp.reads (is := [0, 1, 2, 3, 4, 5, 6]) (Keep.refl _) (Rn.s rfl Yv.mv (Rn.s rfl Yv.mv (Rn.s rfl Yv.mv (Rn.s rfl Yv.len_s (Rn.s rfl (Yv.add ⟨by simp only [List.length_cons, List.length_nil]; omega, by simp only [List.length_cons, List.length_nil]; omega⟩) (Rn.s rfl (Yv.ss_f (by simp only [List.length_cons, List.length_nil]; omega) (by simp only [List.length_cons, List.length_nil]; omega)) (Rn.s rfl Yv.as (Rn.nil)))))))) ?_)
        refine Wp.reads (is := [0, 1, 2]) (Keep.refl _) (Rn.s rfl Yv.mv (Rn.s rfl (Yv.add (by unfold inI; omega)) (Rn.s rfl Yv.as (Rn.nil)))) ?_
        have e3 : (((cutC c r).1.length : Int) + 0).toNat = (cutC c r).1.length := by omega
        have e4 : (((cutC c r).1.length : Int) + ((([c] : Bs).length : Nat) : Int)).toNat = (cutC c r).1.length + 1 := by simp only [List.length_cons, List.length_nil]; omega
        have e5 : (ps.length : Int) + 1 = ((ps ++ [(cutC c r).1]).length : Int) := by simp
        rw [e3, ← q2, Int.toNat_natCast, set_repl ps [] _ (by omega)] at hse1
        rw [e4, ← q3, e5]
        refine ⟨(ps ++ [(cutC c r).1], (cutC c r).2.1), ⟨rfl, by simp; omega, ?_, ?_, hse1, rfl, rfl, rfl, rfl, rfl, rfl, trivial⟩, by simp; omega⟩
        · rw [hsp, hcut]; simp
        · dsimp only; rw [q3, List.length_drop]; omega
      · have hlt : ps.length = n := by have := of_decide_eq_false hlt; omega
        have hf : (cutC c r).2.2 = false := by
          cases hf : (cutC c r).2.2 with
          | false => rfl
          | true =>
            rw [hf, if_pos rfl] at hcut
            rw [hcut] at hsp
            have := congrArg List.length hsp
            rw [hn] at this
            have h2 := List.length_pos_iff.2 (splA_ne c (cutC c r).2.1)
            simp at this
            omega
        have hcut : splA c r = [r] := by rw [hcut, hf]; rfl
        rw [hcut] at hsp
        refine Wp.exit ⟨rfl, ps, r, hlt, hsp, hst, rfl, rfl, ?_, trivial⟩
        rw [hlt]
        rfl
    · rintro ρ ds w1 ⟨rfl, ps, r, hpl, hsp, hst, hs⟩
      refine Wp.forget _ ?_ hs
      clear hs ρ
      have hrow := hst.rd 0
      have hrl2 : (ps ++ List.replicate (n + 1 - ps.length) ([] : Bs)).length = n + 1 := by simp; omega
      refine Wp.seq (Wp.regionL (l := [0, 1, 2, 3, 4]) (WO.rd (is := [0, 1, 2, 3]) (js := [4]) (Keep.refl _) (Rn.s rfl Yv.mv (Rn.s rfl Yv.mv (Rn.s rfl Yv.mv (Rn.s rfl (Yv.ia (e := 9) hrow (by omega) (by omega) hrl2.symm) (Rn.nil))))) (WO.act (hc := rfl) (he := Ef.setFld (E := StE) (xs := ps ++ List.replicate (n + 1 - ps.length) []) (f := 0) hst 0 r rfl rfl (by omega) (by omega) (fun wf1 hsf1 => WO.done ?_)))))
      have e6 : (ps ++ List.replicate (n + 1 - ps.length) ([] : Bs)).set (n : Int).toNat r = splA c s := by
        rw [Int.toNat_natCast, ← hpl, set_repl ps [] r (by omega), hsp]
        simp
      rw [e6] at hsf1
      have hk : n + 1 = ((n : Int) + 1).toNat := by omega
      refine Wp.seq (Wp.reads (is := [0, 1, 2, 3, 4]) (Keep.refl _) (Rn.s rfl Yv.mv (Rn.s rfl Yv.mv (Rn.s rfl (Yv.add ⟨by omega, by omega⟩) (Rn.s rfl (Yv.sl_t (n := 1) (e := 9) (k := n + 1) (by omega) (by omega) hk) (Rn.s rfl Yv.as (Rn.nil)))))) ?_)
      refine Wp.ret (Fin.ret (Res.one rfl rfl) ⟨_, _, rfl, ⟨some ⟨bb1, 0, none⟩, n + 1, rfl, rfl⟩, hsf1⟩)
  refine calls_of_Wp (vs := [_, _]) Tryd.func57 ?_
  refine Wp.seq (Wp.reads (is := [0]) (Keep.refl _) (Rn.s rfl Yv.as (Rn.nil)) ?_)
  refine Wp.seq (Wp.regionL (l := [0, 1, 2, 3]) (WO.rd (is := [0, 1]) (js := [2, 3]) (Keep.refl _) (Rn.s rfl Yv.mv (Rn.s rfl Yv.mv (Rn.nil))) (WO.act (hc := rfl) (he := Ef.cx (caps := []) (A := []) hgen (St.init w) (FnOk.of Tryd.func68) ?_))))
  rintro v D w2 ⟨A, cp, rfl, rfl⟩ hs2
  refine WO.rd (is := [3]) (js := []) (Keep.refl _) (Rn.s rfl Yv.as (Rn.nil)) (WO.done ?_)
  exact Wp.ret (Fin.ret (Res.one rfl rfl) ⟨_, _, rfl, ⟨A, cp, rfl, rfl⟩, hs2⟩)
def varB (s : Bs) : Bool := madeB letterB s && (decide (byt s 0 < 48) || decide (57 < byt s 0))
theorem var_cv (s : Bs) (w0 : World) : Cv Tryd.prog 58 [S s] (.bool (varB s)) w0 := by
  intro w hk
  refine calls_of_Wp (vs := [_]) Tryd.func58 ?_
  refine Wp.seq (Wp.reads (is := [0]) (Keep.refl _) (Rn.s rfl Yv.as (Rn.nil)) ?_)
  have hne : madeB letterB s = true → 0 < s.length := by
    intro h
    cases s with
    | nil => simp [madeB] at h
    | cons => simp
  refine Wp.seq (Wp.regionL (l := [0, 1, 2, 3, 4, 5, 6, 7, 8, 9, 10, 11, 12]) (WO.rd (is := [0]) (js := [1, 2, 3, 4, 5, 6, 7, 8, 9, 10, 11, 12]) (Keep.refl _) (Rn.s rfl Yv.mv (Rn.nil)) (WO.cv rfl (made_cv s _ letterB w (FnOk.of Tryd.func69) letter_cv) (Keep.refl _) (FnOk.of Tryd.func64) (fun w1 k1 => WO.rd (is := [2, 3, 4, 5, 6, 7, 8, 9, 10, 11, 12]) (js := []) ((Keep.refl _).trans k1) (Rn.s rfl Yv.mv (Rn.and (is := [3, 4, 5, 6, 7, 8, 9, 10, 11]) (js := [12]) (t := 5) (d := 14) (hg := rfl) (ht := fun h2 => have := h2; Rn.s rfl Yv.mv (Rn.s rfl (Yv.ix (by omega) (by have := hne h2; omega)) (Rn.s rfl (Yv.cmp _ rfl) (Rn.s rfl Yv.mv (Rn.or (is := [7, 8, 9, 10]) (js := [11]) (t := 9) (d := 13) (hg := rfl) (hf := fun h6 => have h6 := of_decide_eq_false h6; Rn.s rfl Yv.mv (Rn.s rfl (Yv.ix (by omega) (by have := hne h2; omega)) (Rn.s rfl (Yv.cmp _ rfl) (Rn.s rfl Yv.pick_f ((Rn.e 4 rfl rfl)))))) (ht := fun _ => Rn.no rfl (Rn.no rfl (Rn.no rfl (Rn.s rfl Yv.pick_t (Rn.e 4 rfl rfl))))) (k := Rn.s rfl Yv.pick_t ((Rn.e 6 rfl rfl)))))))) (hf := fun _ => Rn.no rfl (Rn.no rfl (Rn.no rfl (Rn.no rfl (Rn.no rfl (Rn.no rfl (Rn.no rfl (Rn.no rfl (Rn.s rfl Yv.pick_f (Rn.e 9 rfl rfl)))))))))) (k := Rn.s rfl Yv.as (Rn.nil)))) (WO.done ?_)))))
  exact Wp.ret (Fin.ret (Res.one rfl rfl) ⟨rfl, k1⟩)
def pairsG : List Bs → Option (List Va)
  | [] => some []
  | p :: ps => if (cutC 61 p).2.2 = true ∧ varB (cutC 61 p).1 = true then (pairsG ps).map (⟨(cutC 61 p).1, (cutC 61 p).2.1⟩ :: ·) else none
/-- what a need's text says -/
def readG (s : Bs) : Option (Bs × List Va) :=
  if nameB (cutC 91 s).1 = false then none
  else if (cutC 91 s).2.2 = false then some ((cutC 91 s).1, [])
  else if (cutL 93 (cutC 91 s).2.1).2 = false ∨ (cutC 93 (cutL 93 (cutC 91 s).2.1).1).2.2 = true then none
  else (pairsG (splA 44 (cutL 93 (cutC 91 s).2.1).1)).map fun l => ((cutC 91 s).1, l)
theorem pairsG_drop {ps : List Bs} {k : Nat} (hk : k < ps.length) : pairsG (ps.drop k) = if (cutC 61 (nth ps (k : Int))).2.2 = true ∧ varB (cutC 61 (nth ps (k : Int))).1 = true then (pairsG (ps.drop (k + 1))).map (⟨(cutC 61 (nth ps (k : Int))).1, (cutC 61 (nth ps (k : Int))).2.1⟩ :: ·) else none := by
  rw [List.drop_eq_getElem_cons hk, nth_getElem hk, pairsG]
theorem fitVa {n : Nat} (h : n ≤ 4398046511104) : Fits Tryd.prog 51 n := .inr ⟨4398046511104, by kernel_rfl, h⟩
theorem cut_sub (c : UInt8) (s : Bs) : (cutC c s).2.1.Sublist s := by
  obtain ⟨h1, h2⟩ := cut_index c s
  cases h : (cutC c s).2.2 with
  | true => rw [(h1 h).2.2.1]; exact List.drop_sublist _ _
  | false => rw [(h2 h).2.2]; exact List.nil_sublist _
theorem cutL_sub (c : UInt8) (s : Bs) : (cutL c s).1.Sublist s := by
  unfold cutL
  split
  · exact List.take_sublist _ _
  · exact List.Sublist.refl _
theorem cut1_len (c : UInt8) (s : Bs) : (cutC c s).1.length ≤ s.length := by
  obtain ⟨h1, h2⟩ := cut_index c s
  cases h : (cutC c s).2.2 with
  | true => have := (h1 h).2.2.2; omega
  | false => rw [(h2 h).2.1]; exact Nat.le_refl _
theorem splA_piece (c : UInt8) : ∀ (s : Bs) (p : Bs), p ∈ splA c s → p.length ≤ s.length
  | [], p, h => by simp [splA] at h; subst h; simp
  | b :: l, p, h => by
    have ih := splA_piece c l
    unfold splA at h
    split at h
    · rcases List.mem_cons.1 h with rfl | h
      · simp
      · have := ih p h; simp; omega
    · split at h
      · rename_i x xs hx
        rcases List.mem_cons.1 h with rfl | h
        · have := ih x (by rw [hx]; simp)
          simp; omega
        · have := ih p (by rw [hx]; exact List.mem_cons_of_mem _ h)
          simp; omega
      · rename_i hx
        exact absurd hx (splA_ne c l)
theorem nameB_len {s : Bs} (h : nameB s = true) : s.length ≤ 64 := by
  unfold nameB madeB at h
  simp at h
  omega
theorem read_cx (s : Bs) (hl : s.length ≤ 4611686018427387904) (hct : s.count 44 ≤ 4398046511103) (w : World) :
    Cx Tryd.prog 47 [S s] [] (fun v D => match readG s with
      | none => v = .tuple #[.agg (nds [] (none, 0, [])).toArray, .bool false] ∧ D = []
      | some (job, l) => ∃ B d, v = .tuple #[.agg (nds job (B, d, l)).toArray, .bool true] ∧ D = [Ch.row VaE 51 B d l]) w := by
  refine calls_of_Wp (vs := [_]) Tryd.func47 ?_
  refine Wp.seq (Wp.regionL (l := [0, 1]) (WO.act (hc := rfl) (he := Ef.allocL (vs := nds [] (none, 0, [])) (St.init w) (fun ba1 wa1 ka1 hsa1 => WO.rd (is := [1]) (js := []) ((Keep.refl _).trans ka1) (Rn.s rfl Yv.as (Rn.nil)) (WO.done ?_)))))
  refine Wp.seq (Wp.regionL (l := [0, 1, 2, 3, 4, 5, 6, 7, 8]) (WO.rd (is := [0]) (js := [1, 2, 3, 4, 5, 6, 7, 8]) (Keep.refl _) (Rn.s rfl Yv.mv (Rn.nil)) (WO.cv rfl (cut_cv s 91 (by omega) wa1) (Keep.refl _) (FnOk.of Tryd.func53) (fun wb1 kb1 => WO.rd (is := [2, 3, 4, 5, 6, 7, 8]) (js := []) ((Keep.refl _).trans kb1) (Rn.s rfl Yv.mv (Rn.s rfl Yv.ex (Rn.s rfl Yv.ex (Rn.s rfl Yv.ex (Rn.s rfl Yv.as (Rn.s rfl Yv.as (Rn.s rfl Yv.as (Rn.nil)))))))) (WO.done ?_)))))
  have hst := hsa1.quiet kb1
  have hrG : readG s = if nameB (cutC 91 s).1 = false then none else if (cutC 91 s).2.2 = false then some ((cutC 91 s).1, []) else if (cutL 93 (cutC 91 s).2.1).2 = false ∨ (cutC 93 (cutL 93 (cutC 91 s).2.1).1).2.2 = true then none else (pairsG (splA 44 (cutL 93 (cutC 91 s).2.1).1)).map fun l => ((cutC 91 s).1, l) := rfl
  have hrest := (cut_sub 91 s)
  obtain ⟨job, rest, has, hcut⟩ : ∃ job rest has, cutC 91 s = (job, rest, has) := ⟨_, _, _, rfl⟩
  rw [hcut] at hrG hrest ⊢
  dsimp only at hrG hrest ⊢
  refine Wp.seq (Wp.seq (Wp.regionL (l := [0, 1, 2]) (WO.rd (is := [0]) (js := [1, 2]) (Keep.refl _) (Rn.s rfl Yv.mv (Rn.nil)) (WO.cv rfl (name_cv job wb1) (Keep.refl _) (FnOk.of Tryd.func54) (fun wc1 kc1 => WO.rd (is := [2]) (js := []) ((Keep.refl _).trans kc1) (Rn.s rfl Yv.not (Rn.nil)) (WO.done ?_))))))
  have hst := hst.quiet kc1
  refine Wp.cond rfl (fun h1 => ?_) (fun h1 => ?_)
  · have h1 : nameB job = false := by simpa using h1
    rw [if_pos h1] at hrG
    refine Wp.seq (Wp.regionL (l := [0, 1, 2]) (WO.rd (is := [0]) (js := [1, 2]) (Keep.refl _) (Rn.s rfl (Yv.bd (cs := nds [] (none, 0, []))) (Rn.nil)) (WO.act (hc := rfl) (he := Ef.stores hst 0 (fun wd1 hsd1 => WO.rd (is := [2]) (js := []) (Keep.refl _) (Rn.s rfl Yv.as (Rn.nil)) (WO.done ?_))))))
    refine Wp.ret (Fin.ret (resAT rfl rfl rfl (hsd1.cells 0)) ⟨_, [], rfl, ?_, hsd1.pick []⟩)
    rw [hrG]
    exact ⟨rfl, rfl⟩
  have h1 : nameB job = true := by simpa using h1
  rw [if_neg (by rw [h1]; simp)] at hrG
  refine Wp.skip ?_
  refine Wp.seq (Wp.regionL (l := [0, 1, 2, 3]) (WO.rd (is := [0, 1]) (js := [2, 3]) (Keep.refl _) (Rn.s rfl Yv.mv (Rn.s rfl (Yv.bd (cs := nds job (none, 0, []))) (Rn.nil))) (WO.act (hc := rfl) (he := Ef.allocL (vs := nds [] (none, 0, [])) hst (fun bd1 wd1 kd1 hsd1 => WO.act (hc := rfl) (he := Ef.stores hsd1 0 (fun wd2 hsd2 => WO.done ?_)))))))
  have hst : St w [] wd2 [Ch.cells bd1 91 (nds job (none, 0, [])), Ch.cells ba1 91 (nds [] (none, 0, []))] := hsd2
  refine Wp.seq (Wp.seq (Wp.reads (is := [0, 1]) (Keep.refl _) (Rn.s rfl Yv.mv (Rn.s rfl Yv.not (Rn.nil))) ?_))
  refine Wp.cond rfl (fun h2 => ?_) (fun h2 => ?_)
  · have h2 : has = false := by simpa using h2
    rw [if_pos h2] at hrG
    have c0 := hst.cells 0
    refine Wp.seq (Wp.regionL (l := [0, 1, 2]) (WO.rd (is := [0]) (js := [1, 2]) (Keep.refl _) (Rn.s rfl (Yv.ldb c0) (Rn.nil)) (WO.act (hc := rfl) (he := Ef.stores hst 1 (fun we1 hse1 => WO.rd (is := [2]) (js := []) (Keep.refl _) (Rn.s rfl Yv.as (Rn.nil)) (WO.done ?_))))))
    refine Wp.ret (Fin.ret (resAT rfl rfl rfl (hse1.cells 0)) ⟨_, [Ch.row VaE 51 none 0 []], rfl, ?_, (hse1.pick []).nilrow _ _⟩)
    rw [hrG]
    exact ⟨none, 0, rfl, rfl⟩
  have h2 : has = true := by simpa using h2
  rw [if_neg (by rw [h2]; simp)] at hrG
  refine Wp.skip ?_
  have hrl := hrest.length_le
  refine Wp.seq (Wp.regionL (l := [0, 1, 2, 3, 4, 5, 6]) (WO.rd (is := [0]) (js := [1, 2, 3, 4, 5, 6]) (Keep.refl _) (Rn.s rfl Yv.mv (Rn.nil)) (WO.cv rfl (cutL_cv rest 93 (by omega) wd2) (Keep.refl _) (FnOk.of Tryd.func55) (fun we1 ke1 => WO.rd (is := [2, 3, 4, 5, 6]) (js := []) ((Keep.refl _).trans ke1) (Rn.s rfl Yv.mv (Rn.s rfl Yv.ex (Rn.s rfl Yv.ex (Rn.s rfl Yv.as (Rn.s rfl Yv.as (Rn.nil)))))) (WO.done ?_)))))
  have hst := hst.quiet ke1
  have hin := cutL_sub 93 rest
  obtain ⟨inner, ended, hcl⟩ : ∃ inner ended, cutL 93 rest = (inner, ended) := ⟨_, _, rfl⟩
  rw [hcl] at hrG hin ⊢
  dsimp only at hrG hin ⊢
  refine Wp.seq (Wp.seq (Wp.regionL (l := [0, 1, 2, 3, 4, 5]) (WO.rd (is := [0, 1, 2]) (js := [3, 4, 5]) (Keep.refl _) (Rn.s rfl Yv.mv (Rn.s rfl Yv.not (Rn.s rfl Yv.mv (Rn.nil)))) (WO.or (js := []) 37 40 (b := decide (0 ≤ Lib.indexByte inner 93)) (hg := rfl) (hf := fun h2 qf1 => WO.rd (is := [3]) (js := [4, 5]) (Keep.refl _) (Rn.s rfl Yv.mv (Rn.nil)) (WO.cv rfl (cont1_cv inner 93 we1) (Keep.refl _) (FnOk.of Tryd.func56) (fun wf2 kf2 => WO.rd (is := [5]) (js := []) ((Keep.refl _).trans kf2) (Rn.s rfl Yv.pick_f (Rn.nil)) (WO.e 3 (qf1 _ ((Keep.refl _).trans kf2)))))) (ht := fun _ qf1 => WO.rd (is := [3, 4, 5]) (js := []) (Keep.refl _) (Rn.no rfl (Rn.no rfl (Rn.s rfl Yv.pick_t Rn.nil))) (WO.e 3 (qf1 _ (Keep.refl _)))) (k := fun wf1 kf1 => WO.done ?_)))))
  have hst := hst.quiet kf1
  rw [cont1_eq]
  refine Wp.cond rfl (fun h3 => ?_) (fun h3 => ?_)
  · have h3 : ended = false ∨ (cutC 93 inner).2.2 = true := by simpa using h3
    rw [if_pos h3] at hrG
    refine Wp.seq (Wp.regionL (l := [0, 1, 2]) (WO.rd (is := [0]) (js := [1, 2]) (Keep.refl _) (Rn.s rfl (Yv.bd (cs := nds [] (none, 0, []))) (Rn.nil)) (WO.act (hc := rfl) (he := Ef.stores hst 1 (fun wg1 hsg1 => WO.rd (is := [2]) (js := []) (Keep.refl _) (Rn.s rfl Yv.as (Rn.nil)) (WO.done ?_))))))
    refine Wp.ret (Fin.ret (resAT rfl rfl rfl (hsg1.cells 0)) ⟨_, [], rfl, ?_, hsg1.pick []⟩)
    rw [hrG]
    exact ⟨rfl, rfl⟩
  have h3 : ¬ (ended = false ∨ (cutC 93 inner).2.2 = true) := by simpa using h3
  rw [if_neg h3] at hrG
  refine Wp.skip ?_
  have hcnt : inner.count 44 ≤ 4398046511103 := Nat.le_trans ((hin.trans hrest).count_le 44) hct
  have hinl := hin.length_le
  refine Wp.seq (Wp.seq (Wp.regionL (l := [0, 1, 2, 3]) (WO.rd (is := [0]) (js := [1, 2, 3]) (Keep.refl _) (Rn.s rfl Yv.mv (Rn.nil)) (WO.act (hc := rfl) (he := Ef.cx (caps := []) (A := []) (split_cx inner 44 (by omega) (by omega) wf1) hst (FnOk.of Tryd.func57) ?_)))))
  rintro v D w2 ⟨A, cp, rfl, rfl⟩ hs2
  have hpl : (splA 44 inner).length = inner.count 44 + 1 := splA_len 44 inner
  have hpb := splA_piece 44 inner
  generalize hps : splA 44 inner = ps at hs2 hrG hpl hpb ⊢
  refine WO.rd (is := [2, 3]) (js := []) (Keep.refl _) (Rn.s rfl (Yv.len_v (e := 9) (m := 1)) (Rn.s rfl Yv.mv (Rn.nil))) (WO.done ?_)
  have hst : St w [] w2 [Ch.row VaE 51 none 0 [], Ch.row StE 9 A cp ps, Ch.cells bd1 91 (nds job (none, 0, [])), Ch.cells ba1 91 (nds [] (none, 0, []))] := hs2.nilrow VaE 51
  refine Wp.mid (fun ρ ds w' => ds = [] ∧ ∃ B d l, readG s = some (job, l) ∧ St w [] w' [Ch.row VaE 51 B d l, Ch.cells bd1 91 (nds job (B, d, l)), Ch.cells ba1 91 (nds [] (none, 0, []))] ∧ Sub [(2, PB ba1), (7, PB bd1)] ρ) (Wp.block ?_) ?_
  · refine Wp.loop (α := Nat) (fun k ρ ds w' => ds = [] ∧ k ≤ ps.length ∧ ∃ B d acc, acc.length = k ∧ pairsG ps = (pairsG (ps.drop k)).map (acc ++ ·) ∧ St w [] w' [Ch.row VaE 51 B d acc, Ch.row StE 9 A cp ps, Ch.cells bd1 91 (nds job (B, d, acc)), Ch.cells ba1 91 (nds [] (none, 0, []))] ∧
      Sub [(2, PB ba1), (7, PB bd1), (43, .slice A ps.length cp), (44, .int .i64 (ps.length : Int)), (45, .int .i64 (k : Int))] ρ) (fun k => ps.length - k) 0
      ⟨rfl, by omega, none, 0, [], rfl, by simp, hst, rfl, rfl, rfl, rfl, rfl, trivial⟩ ?_
    clear hst
    rintro k ρ ds w3 ⟨rfl, hk, B, d, acc, hal, hpg, hst, hs⟩
    refine Wp.forget _ ?_ hs
    clear hs ρ
    refine Wp.seq (Wp.reads (is := [0]) (Keep.refl _) (Rn.s rfl (Yv.cmp _ rfl) (Rn.nil)) ?_)
    refine Wp.seq (Wp.cond rfl (fun hlt => ?_) (fun hlt => ?_))
    · have hlt : k < ps.length := by have := of_decide_eq_true hlt; omega
      rw [pairsG_drop hlt] at hpg
      have hrp := hst.rd 1
      have hpl2 := hpb _ (nth_mem' hlt)
      refine Wp.skip ?_
      refine Wp.seq (Wp.block ?_)
      refine Wp.seq (Wp.reads (is := [0, 1, 2]) (Keep.refl _) (Rn.s rfl (Yv.ia (e := 9) hrp (by omega) (by omega)) (Rn.s rfl (Yv.ld (hrp.ld 0 (by omega) (by omega))) (Rn.s rfl Yv.as (Rn.nil)))) ?_)
      generalize nth ps (k : Int) = p at hpg hpl2 ⊢
      refine Wp.seq (Wp.regionL (l := [0, 1, 2, 3, 4, 5, 6, 7, 8]) (WO.rd (is := [0]) (js := [1, 2, 3, 4, 5, 6, 7, 8]) (Keep.refl _) (Rn.s rfl Yv.mv (Rn.nil)) (WO.cv rfl (cut_cv p 61 (by omega) w3) (Keep.refl _) (FnOk.of Tryd.func53) (fun wg1 kg1 => WO.rd (is := [2, 3, 4, 5, 6, 7, 8]) (js := []) ((Keep.refl _).trans kg1) (Rn.s rfl Yv.mv (Rn.s rfl Yv.ex (Rn.s rfl Yv.ex (Rn.s rfl Yv.ex (Rn.s rfl Yv.as (Rn.s rfl Yv.as (Rn.s rfl Yv.as (Rn.nil)))))))) (WO.done ?_)))))
      have hst := hst.quiet kg1
      refine Wp.seq (Wp.seq (Wp.regionL (l := [0, 1, 2, 3, 4, 5, 6]) (WO.rd (is := [0, 1, 2]) (js := [3, 4, 5, 6]) (Keep.refl _) (Rn.s rfl Yv.mv (Rn.s rfl Yv.not (Rn.s rfl Yv.mv (Rn.nil)))) (WO.or (js := []) 57 61 (b := (!varB (cutC 61 p).1)) (hg := rfl) (hf := fun h2 qh1 => WO.rd (is := [3]) (js := [4, 5, 6]) (Keep.refl _) (Rn.s rfl Yv.mv (Rn.nil)) (WO.cv rfl (var_cv (cutC 61 p).1 wg1) (Keep.refl _) (FnOk.of Tryd.func58) (fun wh2 kh2 => WO.rd (is := [5, 6]) (js := []) ((Keep.refl _).trans kh2) (Rn.s rfl Yv.not (Rn.s rfl Yv.pick_f (Rn.nil))) (WO.e 4 (qh1 _ ((Keep.refl _).trans kh2)))))) (ht := fun _ qh1 => WO.rd (is := [3, 4, 5, 6]) (js := []) (Keep.refl _) (Rn.no rfl (Rn.no rfl (Rn.no rfl (Rn.s rfl Yv.pick_t Rn.nil)))) (WO.e 4 (qh1 _ (Keep.refl _)))) (k := fun wh1 kh1 => WO.done ?_)))))
      have hst := hst.quiet kh1
      refine Wp.cond rfl (fun h4 => ?_) (fun h4 => ?_)
      · have h4 : ¬ ((cutC 61 p).2.2 = true ∧ varB (cutC 61 p).1 = true) := by
          rintro ⟨q1, q2⟩
          rw [q1, q2] at h4
          cases h4
        rw [if_neg h4] at hpg
        rw [hpg] at hrG
        refine Wp.seq (Wp.regionL (l := [0, 1, 2]) (WO.rd (is := [0]) (js := [1, 2]) (Keep.refl _) (Rn.s rfl (Yv.bd (cs := nds [] (none, 0, []))) (Rn.nil)) (WO.act (hc := rfl) (he := Ef.stores hst 3 (fun wi1 hsi1 => WO.rd (is := [2]) (js := []) (Keep.refl _) (Rn.s rfl Yv.as (Rn.nil)) (WO.done ?_))))))
        refine Wp.ret (Fin.ret (resAT rfl rfl rfl (hsi1.cells 0)) ⟨_, [], rfl, ?_, hsi1.pick []⟩)
        rw [hrG]
        exact ⟨rfl, rfl⟩
      · have h4 : (cutC 61 p).2.2 = true ∧ varB (cutC 61 p).1 = true := by
          simpa using h4
        rw [if_pos h4] at hpg
        refine Wp.skip ?_
        have c2 := hst.cells 2
        refine Wp.regionL (l := [0, 1, 2, 3, 4, 5, 6, 7, 8]) (WO.rd (is := [0, 1, 2, 3, 4]) (js := [5, 6, 7, 8]) (Keep.refl _) (Rn.s rfl (Yv.fa (off := 1)) (Rn.s rfl (Yv.ld (c2.at_ 1)) (Rn.s rfl Yv.mv (Rn.s rfl Yv.mv (Rn.s rfl (Yv.bd (cs := VaE.cells ⟨(cutC 61 p).1, (cutC 61 p).2.1⟩)) (Rn.nil)))))) (WO.app VaE [(⟨(cutC 61 p).1, (cutC 61 p).2.1⟩ : Va)] rfl (fun _ => rfl) hst 0 (fitVa (by simp only [List.length_cons, List.length_nil]; omega)) (fun bi1 Ai1 ci1 wi1 hsi1 => WO.rd (is := [7]) (js := [8]) (Keep.refl _) (Rn.s rfl (Yv.fa (off := 1)) (Rn.nil)) (WO.act (hc := rfl) (he := Ef.store hsi1 2 (fun wi2 hsi2 => WO.done ?_))))))
        refine Wp.reads (is := [0, 1]) (Keep.refl _) (Rn.s rfl (Yv.add (by unfold inI; omega)) (Rn.s rfl Yv.mv (Rn.nil))) ?_
        have hst2 : St w [] wi2 [Ch.row VaE 51 Ai1 ci1 (acc ++ [⟨(cutC 61 p).1, (cutC 61 p).2.1⟩]), Ch.row StE 9 A cp ps, Ch.cells bd1 91 (nds job (Ai1, ci1, acc ++ [⟨(cutC 61 p).1, (cutC 61 p).2.1⟩])), Ch.cells ba1 91 (nds [] (none, 0, []))] := hsi2.pick [1, 2, 0, 3]
        refine ⟨k + 1, ⟨rfl, by omega, Ai1, ci1, _, by simp; omega, ?_, hst2, rfl, rfl, rfl, rfl, rfl, trivial⟩, by omega⟩
        rw [hpg]
        cases pairsG (ps.drop (k + 1)) <;> simp
    · have hlt : k = ps.length := by have := of_decide_eq_false hlt; omega
      subst hlt
      rw [List.drop_length] at hpg
      refine Wp.exit ⟨rfl, B, d, acc, ?_, hst.pick [0, 2, 3], rfl, rfl, trivial⟩
      rw [hrG, hpg]
      simp [pairsG]
  · rintro ρ ds w3 ⟨rfl, B, d, l, hr, hst, hs⟩
    refine Wp.forget _ ?_ hs
    have c1 := hst.cells 1
    refine Wp.seq (Wp.regionL (l := [0, 1, 2]) (WO.rd (is := [0]) (js := [1, 2]) (Keep.refl _) (Rn.s rfl (Yv.ldb c1) (Rn.nil)) (WO.act (hc := rfl) (he := Ef.stores hst 2 (fun wj1 hsj1 => WO.rd (is := [2]) (js := []) (Keep.refl _) (Rn.s rfl Yv.as (Rn.nil)) (WO.done ?_))))))
    refine Wp.ret (Fin.ret (resAT rfl rfl rfl (hsj1.cells 0)) ⟨_, [Ch.row VaE 51 B d l], rfl, ?_, hsj1.pick [1]⟩)
    rw [hr]
    exact ⟨B, d, rfl, rfl⟩
end Go.Proofs.YthbehiflmcljcaaDoor.C
