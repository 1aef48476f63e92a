/- What a line says: scalar's reader, the small methods. -/
import Derived.Test.YtgjhbapbomdpbaaDoorB3
set_option linter.unusedVariables false
set_option linter.unusedSimpArgs false
set_option maxRecDepth 10000
namespace Go.Proofs.YtgjhbapbomdpbaaDoor.C
open Go.RowKit Go.Proofs.YtgjhbapbomdpbaaDoor.Sh
/-- what a line says -/
structure Ct where
  kind : Int
  key : Bs
  has : Bool
  value : Bs
  empty : Int
  col : Int
  val : Int
deriving Inhabited, DecidableEq
abbrev Ct.cs (o : Ct) : List Value := [.int .i64 o.kind, S o.key, .bool o.has, S o.value, .int .i64 o.empty, .int .i64 o.col, .int .i64 o.val]
abbrev ct0 : Ct := ⟨0, [], false, [], 0, 0, 0⟩
abbrev rrcs (s : Bs) (a : Int) (o : Ct) : List Value := [S s, .int .i64 a, .int .i64 o.kind, S o.key, .bool o.has, S o.value, .int .i64 o.empty, .int .i64 o.col, .int .i64 o.val]
abbrev ChR (b : Nat) (s : Bs) (a : Int) (o : Ct) : Chunk := Ch.cells b 117 (rrcs s a o)
abbrev PB (b : Nat) : Value := .pointer (some ⟨b, 0, none⟩)
abbrev stopV (why col : Int) : Value := .iface 119 (.agg [.int .i64 why, .int .i64 col].toArray)
/-- what reading comes to -/
inductive Oc where
  | ok (a : Int) (o : Ct)
  | err (why col : Int)
deriving DecidableEq, Inhabited
theorem ownR {b : Nat} {s : Bs} {a : Int} {o : Ct} {w : World} (h : (ChR b s a o).ok w) : St w [b] w [ChR b s a o] :=
  St.own h (by intro x hx; simp [Ch.cells] at hx; subst hx; exact ⟨by simp, (Array.getElem?_eq_some_iff.1 h).1⟩)
theorem cellsR {b : Nat} {s : Bs} {a : Int} {o : Ct} {w : World} (h : (ChR b s a o).ok w) : Cells w b (rrcs s a o) := fun j v hj => cells_cell (T := 117) h j v hj
theorem end_cv (b : Nat) (s : Bs) (a : Int) (o : Ct) (i : Int) (w0 : World) (hc : Cells w0 b (rrcs s a o)) : Cv Tryd.prog 84 [PB b, .int .i64 i] (.bool (decide ((s.length : Int) ≤ i))) w0 := by
  intro w hk
  have hc := hc.keep hk
  refine calls_of_Wp (vs := [_, _]) Tryd.func84 ?_
  refine Wp.seq (Wp.reads (is := [0]) (Keep.refl _) (Rn.s rfl Yv.as (Rn.nil)) ?_)
  refine Wp.seq (Wp.reads (is := [0, 1, 2, 3, 4, 5, 6, 7]) (Keep.refl _) (Rn.s rfl Yv.mv (Rn.s rfl Yv.mv (Rn.s rfl Yv.nc (Rn.s rfl (Yv.fa (off := 0)) (Rn.s rfl (Yv.ld (hc.at_ 0)) (Rn.s rfl Yv.len_s (Rn.s rfl (Yv.cmp _ rfl) (Rn.s rfl Yv.as (Rn.nil))))))))) ?_)
  exact Wp.ret (Fin.ret (Res.one rfl rfl) ⟨rfl, Keep.refl _⟩)
theorem blank_cv (b : Nat) (s : Bs) (a : Int) (o : Ct) (i : Int) (h0 : 0 ≤ i) (w0 : World) (hc : Cells w0 b (rrcs s a o)) : Cv Tryd.prog 85 [PB b, .int .i64 i] (.bool (decide (i < (s.length : Int)) && byt s i == 32)) w0 := by
  intro w hk
  have hc := hc.keep hk
  refine calls_of_Wp (vs := [_, _]) Tryd.func85 ?_
  refine Wp.seq (Wp.reads (is := [0]) (Keep.refl _) (Rn.s rfl Yv.as (Rn.nil)) ?_)
  refine Wp.seq (Wp.reads (is := [0, 1, 2, 3, 4, 5, 6, 7, 8, 9, 10, 11, 12, 13, 14, 15, 16]) (Keep.refl _) (Rn.s rfl Yv.mv (Rn.s rfl Yv.mv (Rn.s rfl Yv.nc (Rn.s rfl (Yv.fa (off := 0)) (Rn.s rfl (Yv.ld (hc.at_ 0)) (Rn.s rfl Yv.len_s (Rn.s rfl (Yv.cmp _ rfl) (Rn.s rfl Yv.mv (Rn.and (is := [8, 9, 10, 11, 12, 13, 14, 15]) (js := [16]) (t := 12) (d := 20) (hg := rfl) (ht := fun h7 => have h7 := of_decide_eq_true h7; Rn.s rfl Yv.mv (Rn.s rfl Yv.nc (Rn.s rfl (Yv.fa (off := 0)) (Rn.s rfl (Yv.ld (hc.at_ 0)) (Rn.s rfl Yv.mv (Rn.s rfl (Yv.ix (by omega) (by omega)) (Rn.s rfl (Yv.cmp _ rfl) (Rn.s rfl Yv.pick_t ((Rn.e 8 rfl rfl)))))))))) (hf := fun _ => Rn.no rfl (Rn.no rfl (Rn.no rfl (Rn.no rfl (Rn.no rfl (Rn.no rfl (Rn.no rfl (Rn.s rfl Yv.pick_f (Rn.e 8 rfl rfl))))))))) (k := Rn.s rfl Yv.as (Rn.nil))))))))))) ?_)
  exact Wp.ret (Fin.ret (Res.one rfl rfl) ⟨rfl, Keep.refl _⟩)
theorem fail_calls (b : Nat) (why i : Int) (h : inI (i + 1)) (w : World) : Calls Tryd.prog 81 #[PB b, .int .i64 why, .int .i64 i] w fun e w' => e = .panicked [{ v := stopV why (i + 1), recovered := false }] ∧ w' = w := by
  refine calls_of_Wp (vs := [_, _, _]) Tryd.func81 ?_
  refine Wp.regionL (l := [0, 1, 2, 3, 4, 5]) ?_
  refine WO.rd (is := [0, 1, 2, 3, 4]) (js := [5]) (Keep.refl _) (Rn.s rfl Yv.mv (Rn.s rfl Yv.mv (Rn.s rfl (Yv.add h) (Rn.s rfl (Yv.bd (cs := [.int .i64 why, .int .i64 (i + 1)])) (Rn.s rfl Yv.mki (Rn.nil)))))) ?_
  exact WO.act (hc := rfl) (he := Ef.pan ⟨⟨rfl, rfl⟩⟩)
def gapN (s : Bs) (a : Nat) : Nat := a + ((s.drop a).takeWhile (· == 32)).length
theorem gapN_le (s : Bs) (a : Nat) (h : a ≤ s.length) : a ≤ gapN s a ∧ gapN s a ≤ s.length := by
  have := (List.takeWhile_prefix (· == (32 : UInt8)) (l := s.drop a)).length_le
  simp only [List.length_drop] at this
  unfold gapN
  omega
theorem gap_cu (b : Nat) (s : Bs) (a : Nat) (o : Ct) (hl : s.length ≤ 1000000) (ha : a ≤ s.length) (w : World) (hok : (ChR b s a o).ok w) : Cu Tryd.prog 56 [PB b] (.tuple #[]) [ChR b s a o] [ChR b s (gapN s a) o] w := by
  refine calls_of_Wp (vs := [_]) Tryd.func56 ?_
  refine Wp.block ?_
  refine Wp.loop (α := Nat) (fun k ρ ds w' => ds = [] ∧ k ≤ s.length ∧ gapN s k = gapN s a ∧ St w [b] w' [ChR b s k o] ∧ Sub [(0, PB b)] ρ) (fun k => s.length - k) a ⟨rfl, ha, rfl, ownR hok, rfl, trivial⟩ ?_
  rintro k ρ ds w' ⟨rfl, hk, hg, hst, hs⟩
  refine Wp.forget _ ?_ hs
  have hc := hst.cells 0
  refine Wp.seq (Wp.seq (Wp.regionL (l := [0, 1, 2, 3, 4, 5]) (WO.rd (is := [0, 1, 2, 3, 4]) (js := [5]) (Keep.refl _) (Rn.s rfl Yv.mv (Rn.s rfl Yv.mv (Rn.s rfl Yv.nc (Rn.s rfl (Yv.fa (off := 1)) (Rn.s rfl (Yv.ld (hc.at_ 1)) (Rn.nil)))))) (WO.cv rfl (blank_cv b s k o k (by omega) _ hc) (Keep.refl _) (FnOk.of Tryd.func85) (fun wx1 kx1 => WO.done ?_)))))
  have hst := hst.quiet kx1
  have hc := hst.cells 0
  refine Wp.cond rfl (fun h => ?_) (fun h => ?_)
  · simp only [Bool.and_eq_true, decide_eq_true_eq, beq_iff_eq] at h
    obtain ⟨h1, h2⟩ := h
    have hkl : k < s.length := by omega
    have hget : s[k]? = some s[k] := List.getElem?_eq_getElem hkl
    have hby := byt_of hget
    refine Wp.skip (Wp.block (Wp.regionL (l := [0, 1, 2, 3, 4, 5, 6, 7]) (WO.rd (is := [0, 1, 2, 3, 4, 5, 6]) (js := [7]) (Keep.refl _) (Rn.s rfl Yv.mv (Rn.s rfl Yv.nc (Rn.s rfl (Yv.fa (off := 1)) (Rn.s rfl (Yv.ld (hc.at_ 1)) (Rn.s rfl (Yv.add (by unfold inI; omega)) (Rn.s rfl Yv.nc (Rn.s rfl (Yv.fa (off := 1)) (Rn.nil)))))))) (WO.act (hc := rfl) (he := Ef.store hst 0 (fun wy1 hsy1 => WO.done ?_))))))
    refine ⟨k + 1, ⟨rfl, hkl, ?_, hsy1, rfl, trivial⟩, by omega⟩
    rw [← hg]
    unfold gapN
    rw [List.drop_eq_getElem_cons hkl, List.takeWhile_cons_of_pos]
    · simp only [List.length_cons]; omega
    · rw [hby] at h2
      rw [beq_iff_eq]
      apply UInt8.toNat_inj.1
      show s[k].toNat = 32
      omega
  · refine Wp.exit (Fin.normal (Res.none rfl) ⟨rfl, ?_⟩)
    have e : gapN s k = k := by
      unfold gapN
      rcases Nat.lt_or_ge k s.length with hkl | hkl
      · have hget : s[k]? = some s[k] := List.getElem?_eq_getElem hkl
        have hby := byt_of hget
        have h1 : decide ((k : Int) < (s.length : Int)) = true := by simpa using hkl
        rw [h1, Bool.true_and, hby] at h
        rw [List.drop_eq_getElem_cons hkl, List.takeWhile_cons_of_neg]
        · rfl
        · intro h2
          have h2 := eq_of_beq h2
          rw [h2] at h
          exact absurd h (by decide)
      · rw [List.drop_eq_nil_of_le hkl]; rfl
    rw [← hg, e]
    exact hst
/-- a method that may give up -/
def MPost (b : Nat) (s : Bs) (v : Value) (oc : Oc) (w : World) (e : Ending) (w' : World) : Prop :=
  match oc with
  | .ok a o => e = .returned v ∧ St w [b] w' [ChR b s a o]
  | .err why col => e = .panicked [{ v := stopV why col, recovered := false }] ∧ St w [b] w' []
theorem quoted_calls (b : Nat) (s : Bs) (a : Nat) (o : Ct) (hl : s.length ≤ 1000000) (ha : a ≤ s.length) (w : World) (hok : (ChR b s a o).ok w) :
    Calls Tryd.prog 80 #[PB b] w (MPost b s (S (quoteR (s.drop a)).1) (if (quoteR (s.drop a)).2.2 then .ok ((a : Int) + (quoteR (s.drop a)).2.1) o else .err 21 ((a : Int) + (quoteR (s.drop a)).2.1 + 1)) w) := by
  have hq := quoteR_bd (s.drop a)
  simp only [List.length_drop] at hq
  refine calls_of_Wp (vs := [_]) Tryd.func80 ?_
  refine Wp.seq (Wp.reads (is := [0]) (Keep.refl _) (Rn.s rfl Yv.as (Rn.nil)) ?_)
  have hc := cellsR hok
  refine Wp.seq (Wp.draws [] mixed (WD.rd (is := [0, 1, 2, 3, 4, 5, 6, 7, 8]) (fun _ _ _ _ _ h => h) (Keep.drew _) (Rn.s rfl Yv.mv (Rn.s rfl Yv.nc (Rn.s rfl (Yv.fa (off := 0)) (Rn.s rfl (Yv.ld (hc.at_ 0)) (Rn.s rfl Yv.mv (Rn.s rfl Yv.nc (Rn.s rfl (Yv.fa (off := 1)) (Rn.s rfl (Yv.ld (hc.at_ 1)) (Rn.s rfl (Yv.ss_f (by omega) (by omega)) (Rn.nil)))))))))) (WD.cv 9 rfl (read_cv (s.drop (a : Int).toNat) (by simp only [List.length_drop]; omega) _) (Keep.drew _) (FnOk.of Tryd.func104) (fun wx1 kx1 => WD.rd (is := [10, 11, 12, 13, 14, 15, 16]) (fun _ _ _ _ _ h => h) ((Keep.drew _).trans kx1) (Rn.s rfl Yv.mv (Rn.s rfl Yv.ex (Rn.s rfl Yv.ex (Rn.s rfl Yv.ex (Rn.s rfl Yv.as (Rn.s rfl Yv.as (Rn.s rfl Yv.as (Rn.nil)))))))) (WD.done ?_)))))
  rw [Int.toNat_natCast]
  have hst := (ownR hok).quiet ((Keep.drew _).trans kx1)
  have hc := hst.cells 0
  refine Wp.seq (Wp.seq (Wp.reads (is := [0, 1]) (Keep.refl _) (Rn.s rfl Yv.mv (Rn.s rfl Yv.not (Rn.nil))) ?_))
  cases hb : (quoteR (s.drop a)).2.2 with
  | false =>
    refine Wp.cond_t rfl ?_
    refine Wp.regionL (l := [0, 1, 2, 3, 4, 5, 6, 7]) ?_
    refine WO.rd (is := [0, 1, 2, 3, 4, 5, 6]) (js := [7]) (Keep.refl _) (Rn.s rfl Yv.mv (Rn.s rfl Yv.mv (Rn.s rfl Yv.nc (Rn.s rfl (Yv.fa (off := 1)) (Rn.s rfl (Yv.ld (hc.at_ 1)) (Rn.s rfl Yv.mv (Rn.s rfl (Yv.add (by unfold inI; omega)) (Rn.nil)))))))) ?_
    refine WO.act (hc := rfl) (he := Ef.callv Tryd.func81 (Calls.mono (fail_calls b 21 _ (by unfold inI; omega) _) ?_))
    rintro e w2 ⟨rfl, rfl⟩
    exact ⟨⟨rfl, hst.pick []⟩⟩
  | true =>
    refine Wp.cond_f rfl (Wp.skip ?_)
    refine Wp.seq (Wp.regionL (l := [0, 1, 2, 3, 4, 5, 6, 7, 8]) (WO.rd (is := [0, 1, 2, 3, 4, 5, 6, 7]) (js := [8]) (Keep.refl _) (Rn.s rfl Yv.mv (Rn.s rfl Yv.nc (Rn.s rfl (Yv.fa (off := 1)) (Rn.s rfl (Yv.ld (hc.at_ 1)) (Rn.s rfl Yv.mv (Rn.s rfl (Yv.add (by unfold inI; omega)) (Rn.s rfl Yv.nc (Rn.s rfl (Yv.fa (off := 1)) (Rn.nil))))))))) (WO.act (hc := rfl) (he := Ef.store hst 0 (fun wy1 hsy1 => WO.done ?_)))))
    refine Wp.seq (Wp.reads (is := [0, 1]) (Keep.refl _) (Rn.s rfl Yv.mv (Rn.s rfl Yv.as (Rn.nil))) ?_)
    exact Wp.ret (Fin.ret (Res.one rfl rfl) ⟨rfl, hsy1⟩)
def bareS (s : Bs) (a : Nat) (o : Ct) : Ct :=
  let t := Lib.trimRightB (Lib.cut (s.drop a) [32, 35]).1 32
  if t = [91, 93] then { o with empty := 1 } else if t = [123, 125] then { o with empty := 2 } else { o with value := t }
theorem bare_cu (b : Nat) (s : Bs) (a : Nat) (o : Ct) (hl : s.length ≤ 1000000) (ha : a ≤ s.length) (w : World) (hg : Gm w) (hok : (ChR b s a o).ok w) : Cu Tryd.prog 86 [PB b] (.tuple #[]) [ChR b s a o] [ChR b s a (bareS s a o)] w := by
  refine calls_of_Wp (vs := [_]) Tryd.func86 ?_
  have hc := cellsR hok
  have hcl := cut_fst_le (s.drop a) [32, 35]
  have hld : (s.drop a).length = s.length - a := List.length_drop
  refine Wp.seq (Wp.draws [] mixed (WD.rd (is := [0, 1, 2, 3, 4, 5, 6, 7, 8]) (fun _ _ _ _ _ h => h) (Keep.drew _) (Rn.s rfl Yv.mv (Rn.s rfl Yv.nc (Rn.s rfl (Yv.fa (off := 0)) (Rn.s rfl (Yv.ld (hc.at_ 0)) (Rn.s rfl Yv.mv (Rn.s rfl Yv.nc (Rn.s rfl (Yv.fa (off := 1)) (Rn.s rfl (Yv.ld (hc.at_ 1)) (Rn.s rfl (Yv.ss_f (by omega) (by omega)) (Rn.nil)))))))))) (WD.cv 9 rfl (cut_cv (s.drop (a : Int).toNat) [32, 35] (by rw [Int.toNat_natCast]; omega) _ hg) (Keep.drew _) (FnOk.of Tryd.func70) (fun wx1 kx1 => WD.rd (is := [10, 11, 12, 13, 14, 15, 16]) (fun _ _ _ _ _ h => h) ((Keep.drew _).trans kx1) (Rn.s rfl Yv.mv (Rn.s rfl Yv.ex (Rn.s rfl Yv.ex (Rn.s rfl Yv.ex (Rn.s rfl Yv.as (Rn.s rfl Yv.as (Rn.s rfl Yv.as (Rn.nil)))))))) (WD.done ?_)))))
  rw [Int.toNat_natCast]
  refine Wp.seq (Wp.regionL (l := [0, 1, 2]) (WO.rd (is := [0]) (js := [1, 2]) (Keep.refl _) (Rn.s rfl Yv.mv (Rn.nil)) (WO.cv rfl (trimR_cv (Lib.cut (s.drop a) [32, 35]).1 32 (by decide) (by omega) _) (Keep.refl _) (FnOk.of Tryd.func107) (fun wy1 ky1 => WO.rd (is := [2]) (js := []) ((Keep.refl _).trans ky1) (Rn.s rfl Yv.as (Rn.nil)) (WO.done ?_)))))
  have hst := (ownR hok).quiet (((Keep.drew _).trans kx1).trans ky1)
  refine Wp.seq (Wp.reads (is := [0]) (Keep.refl _) (Rn.s rfl Yv.mv (Rn.nil)) ?_)
  refine Wp.block (Wp.seq (Wp.reads (is := [0, 1]) (Keep.refl _) (Rn.s rfl (Yv.scm _ rfl) (Rn.s rfl Yv.as (Rn.nil))) ?_))
  unfold bareS
  obtain ⟨T, hT⟩ : ∃ T, T = Lib.trimRightB (Lib.cut (s.drop a) [32, 35]).1 32 := ⟨_, rfl⟩
  simp only [← hT]
  refine Wp.cond rfl (fun h => ?_) (fun h => ?_)
  · have h : T = [91, 93] := by simpa using h
    refine Wp.regionL (l := [0, 1, 2, 3, 4]) (WO.rd (is := [0, 1, 2, 3]) (js := [4]) (Keep.refl _) (Rn.s rfl Yv.mv (Rn.s rfl Yv.nc (Rn.s rfl (Yv.fa (off := 2)) (Rn.s rfl (Yv.fa (off := 4)) (Rn.nil))))) (WO.act (hc := rfl) (he := Ef.store hst 0 (fun wz1 hsz1 => WO.done ?_))))
    rw [if_pos h]
    exact Fin.normal (Res.none rfl) ⟨rfl, hsz1⟩
  have h : T ≠ [91, 93] := by simpa using h
  rw [if_neg h]
  refine Wp.seq (Wp.reads (is := [0, 1]) (Keep.refl _) (Rn.s rfl (Yv.scm _ rfl) (Rn.s rfl Yv.as (Rn.nil))) ?_)
  refine Wp.cond rfl (fun h2 => ?_) (fun h2 => ?_)
  · have h2 : T = [123, 125] := by simpa using h2
    refine Wp.regionL (l := [0, 1, 2, 3, 4]) (WO.rd (is := [0, 1, 2, 3]) (js := [4]) (Keep.refl _) (Rn.s rfl Yv.mv (Rn.s rfl Yv.nc (Rn.s rfl (Yv.fa (off := 2)) (Rn.s rfl (Yv.fa (off := 4)) (Rn.nil))))) (WO.act (hc := rfl) (he := Ef.store hst 0 (fun wz1 hsz1 => WO.done ?_))))
    rw [if_pos h2]
    exact Fin.normal (Res.none rfl) ⟨rfl, hsz1⟩
  have h2 : T ≠ [123, 125] := by simpa using h2
  rw [if_neg h2]
  refine Wp.regionL (l := [0, 1, 2, 3, 4, 5]) (WO.rd (is := [0, 1, 2, 3, 4]) (js := [5]) (Keep.refl _) (Rn.s rfl Yv.mv (Rn.s rfl Yv.mv (Rn.s rfl Yv.nc (Rn.s rfl (Yv.fa (off := 2)) (Rn.s rfl (Yv.fa (off := 3)) (Rn.nil)))))) (WO.act (hc := rfl) (he := Ef.store hst 0 (fun wz1 hsz1 => WO.done ?_))))
  exact Fin.normal (Res.none rfl) ⟨rfl, hsz1⟩
end Go.Proofs.YtgjhbapbomdpbaaDoor.C
