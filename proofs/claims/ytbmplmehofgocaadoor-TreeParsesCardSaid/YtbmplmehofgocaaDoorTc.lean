/- The document's reader of a line's text: Read. -/
import Derived.Test.YtbmplmehofgocaaDoorTb
set_option linter.unusedVariables false
set_option linter.unusedSimpArgs false
set_option maxRecDepth 10000
namespace Go.Proofs.YtbmplmehofgocaaDoor.C
open Go.RowKit Go.Proofs.YtbmplmehofgocaaDoor.Sh
theorem pre2 (s : Bs) (x y : UInt8) : Lib.hasPrefix s [x, y] = true ↔ 1 < s.length ∧ byt s 0 = (x.toNat : Int) ∧ byt s 1 = (y.toNat : Int) := by
  match s with
  | [] => simp [Lib.hasPrefix]
  | [a] => simp [Lib.hasPrefix]
  | a :: b :: r =>
    have e0 := byt_eq_iff (s := a :: b :: r) (i := 0) (by simp) x
    have e1 := byt_eq_iff (s := a :: b :: r) (i := 1) (by simp) y
    simp only [Int.natCast_zero, Int.natCast_one, List.getElem_cons_zero, List.getElem_cons_succ] at e0 e1
    rw [e0, e1]
    simp [Lib.hasPrefix]
    constructor
    · rintro ⟨h1, h2⟩; exact ⟨h1.symm, h2.symm⟩
    · rintro ⟨h1, h2⟩; exact ⟨h1.symm, h2.symm⟩
theorem pre1 (s : Bs) (x : UInt8) : Lib.hasPrefix s [x] = true ↔ 0 < s.length ∧ byt s 0 = (x.toNat : Int) := by
  match s with
  | [] => simp [Lib.hasPrefix]
  | a :: r =>
    have e0 := byt_eq_iff (s := a :: r) (i := 0) (by simp) x
    simp only [Int.natCast_zero, List.getElem_cons_zero] at e0
    rw [e0]
    simp [Lib.hasPrefix]
    exact ⟨fun h => h.symm, fun h => h.symm⟩
theorem namedN_step {s : Bs} {a : Nat} (h : a < s.length) : namedN s a = if namedB (byt s (a : Int)) = true then namedN s (a + 1) else a := by
  have e := byt_of (List.getElem?_eq_getElem h)
  unfold namedN
  rw [List.drop_eq_getElem_cons h, List.takeWhile_cons, e]
  by_cases q : namedB (s[a].toNat : Int) = true
  · rw [q]; simp; omega
  · have q : namedB (s[a].toNat : Int) = false := by simpa using q
    rw [q]; simp
theorem namedN_end {s : Bs} {a : Nat} (h : s.length ≤ a) : namedN s a = a := by
  unfold namedN
  rw [List.drop_eq_nil_of_le h]; rfl
theorem readC_eq (s : Bs) : readC s = match headS s with
    | .err why col => (ct0, col, why)
    | .ok a o => valC (valueS s (gapN s a.toNat) o) := by
  unfold readC
  cases headS s with
  | err why col => rfl
  | ok a o =>
    simp only
    cases valueS s (gapN s a.toNat) o <;> rfl
set_option maxHeartbeats 1600000 in
theorem rread_cv (s : Bs) (hl : s.length ≤ 1000000) (w0 : World) : Cv Tryd.prog 71 [S s] (.tuple #[.agg (readC s).1.cs.toArray, .int .i64 (readC s).2.1, .int .i64 (readC s).2.2]) w0 := by
  intro w hk
  refine calls_of_Wp (vs := [_]) Tryd.func71 ?_
  refine Wp.seq (Wp.regionL (l := [0, 1, 2]) (WO.act (hc := rfl) (he := Ef.allocL (vs := [.int .i64 0, S [], .bool false, S [], .int .i64 0, .int .i64 0, .int .i64 0]) (St.init w) (fun ba1 wa1 ka1 hsa1 => WO.rd (is := [1, 2]) (js := []) ((Keep.refl _).trans ka1) (Rn.s rfl Yv.as (Rn.s rfl Yv.as (Rn.nil))) (WO.done ?_)))))
  have hst : St w [] wa1 [Ch.cells ba1 93 ct0.cs] := hsa1
  rw [readC_eq]
  refine Wp.seq (Wp.seq (Wp.reads (is := [0, 1, 2, 3, 4, 5, 6, 7, 8, 9, 10, 11, 12, 13, 14, 15, 16]) (Keep.refl _) (Rn.s rfl Yv.mv (Rn.s rfl (Yv.scm _ rfl) (Rn.s rfl Yv.mv (Rn.or (is := [3, 4, 5, 6, 7, 8, 9, 10, 11, 12, 13, 14, 15, 16]) (js := []) (t := 12) (d := 26) (hg := rfl) (hf := fun h2 => Rn.s rfl Yv.mv (Rn.s rfl Yv.len_s (Rn.s rfl (Yv.cmp _ rfl) (Rn.s rfl Yv.mv (Rn.and (is := [7, 8, 9, 10]) (js := [11, 12, 13, 14, 15, 16]) (t := 16) (d := 20) (hg := rfl) (ht := fun h6 => have h6 := of_decide_eq_true h6; Rn.s rfl Yv.mv (Rn.s rfl (Yv.ix (by omega) (by omega)) (Rn.s rfl (Yv.cmp _ rfl) (Rn.s rfl Yv.pick_t ((Rn.e 4 rfl rfl)))))) (hf := fun _ => Rn.no rfl (Rn.no rfl (Rn.no rfl (Rn.s rfl Yv.pick_f (Rn.e 4 rfl rfl))))) (k := Rn.s rfl Yv.mv (Rn.and (is := [12, 13, 14, 15]) (js := [16]) (t := 21) (d := 25) (hg := rfl) (ht := fun h11 => have h11 : (1 : Int) < (s.length : Int) := (by simp only [Bool.and_eq_true, decide_eq_true_eq] at h11; exact h11.1); Rn.s rfl Yv.mv (Rn.s rfl (Yv.ix (by omega) (by omega)) (Rn.s rfl (Yv.cmp _ rfl) (Rn.s rfl Yv.pick_t ((Rn.e 4 rfl rfl)))))) (hf := fun _ => Rn.no rfl (Rn.no rfl (Rn.no rfl (Rn.s rfl Yv.pick_f (Rn.e 4 rfl rfl))))) (k := Rn.s rfl Yv.pick_f ((Rn.e 8 rfl rfl)))))))))) (ht := fun _ => Rn.no rfl (Rn.no rfl (Rn.no rfl (Rn.no rfl (Rn.no rfl (Rn.no rfl (Rn.no rfl (Rn.no rfl (Rn.no rfl (Rn.no rfl (Rn.no rfl (Rn.no rfl (Rn.no rfl (Rn.s rfl Yv.pick_t (Rn.e 14 rfl rfl))))))))))))))) (k := Rn.nil))))) ?_))
  refine Wp.cond rfl (fun h => ?_) (fun h => ?_)
  · have h : s = [45] ∨ Lib.hasPrefix s [45, 32] = true := by
      simp only [Bool.or_eq_true, Bool.and_eq_true, beq_iff_eq, decide_eq_true_eq] at h
      rcases h with h | ⟨⟨h1, h2⟩, h3⟩
      · exact .inl h
      · exact .inr ((pre2 s 45 32).2 ⟨by omega, h2, h3⟩)
    have hls : 1 ≤ s.length := by
      rcases h with h | h
      · rw [h]; simp
      · have := (pre2 s 45 32).1 h; omega
    have e : headS s = .ok 1 ⟨2, [], false, [], 0, 1, 0⟩ := by unfold headS; rw [if_pos h]
    rw [e]
    have hv := rvalue_cv s 1 ⟨2, [], false, [], 0, 1, 0⟩ rfl hls hl wa1
    refine Wp.seq (Wp.regionL (l := [0, 1, 2, 3, 4, 5, 6, 7, 8]) (WO.rd (is := [0, 1]) (js := [2, 3, 4, 5, 6, 7, 8]) (Keep.refl _) (Rn.s rfl Yv.mv (Rn.s rfl (Yv.bd (cs := Ct.cs ⟨2, [], false, [], 0, 1, 0⟩)) (Rn.nil))) (WO.cv rfl hv (Keep.refl _) (FnOk.of Tryd.func93) (fun wx1 kx1 => WO.rd (is := [3, 4, 5]) (js := [6, 7, 8]) ((Keep.refl _).trans kx1) (Rn.s rfl Yv.ex (Rn.s rfl Yv.ex (Rn.s rfl Yv.ex (Rn.nil)))) (WO.act (hc := rfl) (he := Ef.stores (hst.quiet kx1) 0 (fun wx2 hsx2 => WO.rd (is := [7, 8]) (js := []) (Keep.refl _) (Rn.s rfl Yv.as (Rn.s rfl Yv.as (Rn.nil))) (WO.done ?_))))))))
    exact Wp.ret (Fin.ret (resATT rfl rfl rfl rfl (hsx2.cells 0)) ⟨rfl, hsx2.keep⟩)
  have h : ¬ (s = [45] ∨ Lib.hasPrefix s [45, 32] = true) := by
    rintro (q | q)
    · rw [q] at h; simp at h
    · obtain ⟨q1, q2, q3⟩ := (pre2 s 45 32).1 q
      have q1 : (1 : Int) < (s.length : Int) := by omega
      have q2 : byt s 0 = 45 := q2
      have q3 : byt s 1 = 32 := q3
      simp [q1, q2, q3] at h
  refine Wp.skip (Wp.seq (Wp.regionL (l := [0, 1, 2]) (WO.rd (is := [0]) (js := [1, 2]) (Keep.refl _) (Rn.s rfl (Yv.bd (cs := Ct.cs (o1 []))) (Rn.nil)) (WO.act (hc := rfl) (he := Ef.allocL (vs := [.int .i64 0, S [], .bool false, S [], .int .i64 0, .int .i64 0, .int .i64 0]) hst (fun bb1 wb1 kb1 hsb1 => WO.act (hc := rfl) (he := Ef.stores hsb1 0 (fun wb2 hsb2 => WO.done ?_))))))))
  have hst : St w [] wb2 [Ch.cells bb1 93 (Ct.cs (o1 [])), Ch.cells ba1 93 ct0.cs] := hsb2
  refine Wp.seq (Wp.reads (is := [0]) (Keep.refl _) (Rn.s rfl Yv.as (Rn.nil)) ?_)
  refine Wp.seq (Wp.mid (fun ρ ds w' => ds = [] ∧ ∃ (n : Nat) (key : Bs), n ≤ s.length ∧ headS s = tailS s n key ∧ St w [] w' [Ch.cells bb1 93 (Ct.cs (o1 key)), Ch.cells ba1 93 ct0.cs] ∧ Sub [(0, S s), (2, PB ba1), (5, PB bb1), (6, .int .i64 (n : Int))] ρ) ?_ ?_)
  · refine Wp.seq (Wp.reads (is := [0, 1, 2, 3, 4, 5, 6, 7]) (Keep.refl _) (Rn.s rfl Yv.mv (Rn.s rfl Yv.len_s (Rn.s rfl (Yv.cmp _ rfl) (Rn.s rfl Yv.mv (Rn.and (is := [4, 5, 6, 7]) (js := []) (t := 37) (d := 41) (hg := rfl) (ht := fun h3 => have h3 := of_decide_eq_true h3; Rn.s rfl Yv.mv (Rn.s rfl (Yv.ix (by omega) (by omega)) (Rn.s rfl (Yv.cmp _ rfl) (Rn.s rfl Yv.pick_t ((Rn.e 4 rfl rfl)))))) (hf := fun _ => Rn.no rfl (Rn.no rfl (Rn.no rfl (Rn.s rfl Yv.pick_f (Rn.e 4 rfl rfl))))) (k := Rn.nil)))))) ?_)
    refine Wp.cond rfl (fun h2 => ?_) (fun h2 => ?_)
    · have h2 : 0 < s.length ∧ byt s 0 = 34 := by
        simp only [Bool.and_eq_true, beq_iff_eq, decide_eq_true_eq] at h2
        exact ⟨by omega, h2.2⟩
      have h2p : Lib.hasPrefix s [34] = true := (pre1 s 34).2 h2
      have hqc := rquoted_cv s 0 0 rfl h2.1 (by omega) wb2
      have hqa := readQ_at (s := s) (g := 0) h2.1
      rw [hqa, List.drop_zero] at hqc
      have hq := quoteR_bd s
      have e0 : headS s = if (quoteR s).2.2 then if (64 : Int) < (quoteR s).1.length then .err 20 1 else tailS s (quoteR s).2.1.toNat (quoteR s).1 else .err 21 ((quoteR s).2.1 + 1) := by
        unfold headS
        rw [if_neg h, if_pos h2p]
      obtain ⟨v, n, ok, hQ⟩ : ∃ v n ok, quoteR s = (v, n, ok) := ⟨_, _, _, rfl⟩
      rw [hQ] at hq e0 hqc
      simp only at hq e0 hqc
      refine Wp.seq (Wp.regionL (l := [0, 1, 2, 3, 4, 5, 6, 7, 8]) (WO.rd (is := [0]) (js := [1, 2, 3, 4, 5, 6, 7, 8]) (Keep.refl _) (Rn.s rfl Yv.mv (Rn.nil)) (WO.cv rfl hqc (Keep.refl _) (FnOk.of Tryd.func94) (fun wy1 ky1 => WO.rd (is := [2, 3, 4, 5, 6, 7, 8]) (js := []) ((Keep.refl _).trans ky1) (Rn.s rfl Yv.mv (Rn.s rfl Yv.ex (Rn.s rfl Yv.ex (Rn.s rfl Yv.ex (Rn.s rfl Yv.as (Rn.s rfl Yv.as (Rn.s rfl Yv.as (Rn.nil)))))))) (WO.done ?_)))))
      have hst := hst.quiet ky1
      refine Wp.seq (Wp.seq (Wp.reads (is := [0, 1]) (Keep.refl _) (Rn.s rfl Yv.mv (Rn.s rfl Yv.not (Rn.nil))) ?_))
      cases ok with
      | false =>
        refine Wp.cond_t rfl ?_
        refine Wp.seq (Wp.regionL (l := [0, 1, 2, 3, 4, 5]) (WO.rd (is := [0, 1, 2]) (js := [3, 4, 5]) (Keep.refl _) (Rn.s rfl (Yv.bd (cs := ct0.cs)) (Rn.s rfl Yv.mv (Rn.s rfl (Yv.add (by unfold inI; omega)) (Rn.nil)))) (WO.act (hc := rfl) (he := Ef.stores hst 1 (fun wz1 hsz1 => WO.rd (is := [4, 5]) (js := []) (Keep.refl _) (Rn.s rfl Yv.as (Rn.s rfl Yv.as (Rn.nil))) (WO.done ?_))))))
        refine Wp.ret (Fin.ret (resATT rfl rfl rfl rfl (hsz1.cells 0)) ⟨?_, hsz1.keep⟩)
        rw [e0]
        have : n + ((0 : Nat) : Int) + 1 = n + 1 := by omega
        rw [this]
        rfl
      | true =>
        refine Wp.cond_f rfl (Wp.skip ?_)
        rw [if_pos rfl] at e0
        refine Wp.seq (Wp.seq (Wp.reads (is := [0, 1, 2]) (Keep.refl _) (Rn.s rfl Yv.mv (Rn.s rfl Yv.len_s (Rn.s rfl (Yv.cmp _ rfl) (Rn.nil)))) ?_))
        refine Wp.cond rfl (fun h3 => ?_) (fun h3 => ?_)
        · have h3 := of_decide_eq_true h3
          rw [if_pos h3] at e0
          refine Wp.seq (Wp.regionL (l := [0, 1, 2, 3]) (WO.rd (is := [0]) (js := [1, 2, 3]) (Keep.refl _) (Rn.s rfl (Yv.bd (cs := ct0.cs)) (Rn.nil)) (WO.act (hc := rfl) (he := Ef.stores hst 1 (fun wz1 hsz1 => WO.rd (is := [2, 3]) (js := []) (Keep.refl _) (Rn.s rfl Yv.as (Rn.s rfl Yv.as (Rn.nil))) (WO.done ?_))))))
          refine Wp.ret (Fin.ret (resATT rfl rfl rfl rfl (hsz1.cells 0)) ⟨?_, hsz1.keep⟩)
          rw [e0]
          rfl
        · have h3 := of_decide_eq_false h3
          rw [if_neg h3] at e0
          refine Wp.skip (Wp.seq (Wp.regionL (l := [0, 1, 2]) (WO.rd (is := [0, 1]) (js := [2]) (Keep.refl _) (Rn.s rfl Yv.mv (Rn.s rfl (Yv.fa (off := 1)) (Rn.nil))) (WO.act (hc := rfl) (he := Ef.store hst 0 (fun wz1 hsz1 => WO.done ?_))))))
          refine Wp.reads (is := [0, 1]) (Keep.refl _) (Rn.s rfl Yv.mv (Rn.s rfl Yv.as (Rn.nil))) ?_
          have e1 : n + ((0 : Nat) : Int) = (n.toNat : Int) := by omega
          exact ⟨rfl, n.toNat, v, by omega, e0, hsz1, rfl, rfl, rfl, by rw [← e1]; rfl, trivial⟩
    · have h2p : ¬ Lib.hasPrefix s [34] = true := by
        intro q
        obtain ⟨q1, q2⟩ := (pre1 s 34).1 q
        have q1 : (0 : Int) < (s.length : Int) := by omega
        have q2 : byt s 0 = 34 := q2
        rw [decide_eq_true q1, q2] at h2
        exact absurd h2 (by decide)
      have e0 : headS s = if nameB (s.take (namedN s 0)) then tailS s (namedN s 0) (s.take (namedN s 0)) else .err 20 1 := by
        unfold headS
        rw [if_neg h, if_neg h2p]
      refine Wp.seq (Wp.block ?_)
      refine Wp.loop (α := Nat) (fun k ρ ds w' => ds = [] ∧ k ≤ s.length ∧ namedN s k = namedN s 0 ∧ Keep wb2 w' ∧ Sub [(0, S s), (2, PB ba1), (5, PB bb1), (6, .int .i64 (k : Int))] ρ) (fun k => s.length - k) 0 ⟨rfl, Nat.zero_le _, rfl, Keep.refl _, rfl, rfl, rfl, rfl, trivial⟩ ?_
      rintro k ρ ds w' ⟨rfl, hk1, hg, hkw, hs⟩
      refine Wp.forget _ ?_ hs
      refine Wp.seq (Wp.seq (Wp.regionL (l := [0, 1, 2, 3, 4, 5, 6, 7, 8, 9]) (WO.rd (is := [0, 1, 2, 3, 4]) (js := [5, 6, 7, 8, 9]) (Keep.refl _) (Rn.s rfl Yv.mv (Rn.s rfl Yv.mv (Rn.s rfl Yv.len_s (Rn.s rfl (Yv.cmp _ rfl) (Rn.s rfl Yv.mv (Rn.nil)))))) (WO.and (js := []) 64 69 (hg := rfl) (ht := fun h4 qu1 => have h4 := of_decide_eq_true h4; WO.rd (is := [5, 6, 7]) (js := [8, 9]) (Keep.refl _) (Rn.s rfl Yv.mv (Rn.s rfl Yv.mv (Rn.s rfl (Yv.ix (by omega) (by omega)) (Rn.nil)))) (WO.cv rfl (rnamed_cv (byt s k) _) (Keep.refl _) (FnOk.of Tryd.func95) (fun wu2 ku2 => WO.rd (is := [9]) (js := []) ((Keep.refl _).trans ku2) (Rn.s rfl Yv.pick_t (Rn.nil)) (WO.e 5 (qu1 _ ((Keep.refl _).trans ku2)))))) (hf := fun _ qu1 => WO.rd (is := [5, 6, 7, 8, 9]) (js := []) (Keep.refl _) (Rn.no rfl (Rn.no rfl (Rn.no rfl (Rn.no rfl (Rn.s rfl Yv.pick_f Rn.nil))))) (WO.e 5 (qu1 _ (Keep.refl _)))) (k := fun wu1 ku1 => WO.done ?_)))))
      refine Wp.cond rfl (fun h3 => ?_) (fun h3 => ?_)
      · simp only [Bool.and_eq_true, decide_eq_true_eq] at h3
        have hkl : k < s.length := by omega
        rw [namedN_step hkl, if_pos h3.2] at hg
        refine Wp.skip (Wp.block (Wp.reads (is := [0, 1, 2]) (Keep.refl _) (Rn.s rfl Yv.mv (Rn.s rfl (Yv.add (by unfold inI; omega)) (Rn.s rfl Yv.as (Rn.nil)))) ?_))
        exact ⟨k + 1, ⟨rfl, hkl, hg, hkw.trans ku1, rfl, rfl, rfl, rfl, trivial⟩, by omega⟩
      · have e3 : namedN s 0 = k := by
          rw [← hg]
          by_cases hkl : k < s.length
          · have h5 : decide ((k : Int) < (s.length : Int)) = true := by simpa using hkl
            rw [h5, Bool.true_and] at h3
            rw [namedN_step hkl, if_neg (by rw [h3]; decide)]
          · exact namedN_end (by omega)
        rw [e3] at e0
        have hst := hst.quiet (hkw.trans ku1)
        refine Wp.exit ?_
        refine Wp.seq (Wp.seq (Wp.regionL (l := [0, 1, 2, 3, 4]) (WO.rd (is := [0, 1, 2]) (js := [3, 4]) (Keep.refl _) (Rn.s rfl Yv.mv (Rn.s rfl Yv.mv (Rn.s rfl (Yv.ss_t (by omega) (by omega)) (Rn.nil)))) (WO.cv rfl (rname_cv (s.take (k : Int).toNat) (by simp; omega) _) (Keep.refl _) (FnOk.of Tryd.func96) (fun wv1 kv1 => WO.rd (is := [4]) (js := []) ((Keep.refl _).trans kv1) (Rn.s rfl Yv.not (Rn.nil)) (WO.done ?_))))))
        rw [Int.toNat_natCast]
        have hst := hst.quiet kv1
        cases hnb : nameB (s.take k) with
        | false =>
          refine Wp.cond_t rfl ?_
          refine Wp.seq (Wp.regionL (l := [0, 1, 2, 3]) (WO.rd (is := [0]) (js := [1, 2, 3]) (Keep.refl _) (Rn.s rfl (Yv.bd (cs := ct0.cs)) (Rn.nil)) (WO.act (hc := rfl) (he := Ef.stores hst 1 (fun wz1 hsz1 => WO.rd (is := [2, 3]) (js := []) (Keep.refl _) (Rn.s rfl Yv.as (Rn.s rfl Yv.as (Rn.nil))) (WO.done ?_))))))
          refine Wp.ret (Fin.ret (resATT rfl rfl rfl rfl (hsz1.cells 0)) ⟨?_, hsz1.keep⟩)
          rw [e0, hnb]
          rfl
        | true =>
          refine Wp.cond_f rfl (Wp.skip ?_)
          rw [hnb, if_pos rfl] at e0
          refine Wp.regionL (l := [0, 1, 2, 3, 4]) (WO.rd (is := [0, 1, 2, 3]) (js := [4]) (Keep.refl _) (Rn.s rfl Yv.mv (Rn.s rfl Yv.mv (Rn.s rfl (Yv.ss_t (by omega) (by omega)) (Rn.s rfl (Yv.fa (off := 1)) (Rn.nil))))) (WO.act (hc := rfl) (he := Ef.store hst 0 (fun wz1 hsz1 => WO.done ?_))))
          rw [Int.toNat_natCast] at hsz1
          exact ⟨rfl, k, s.take k, hk1, e0, hsz1, rfl, rfl, rfl, rfl, trivial⟩
  clear hst hsb1 hsb2 hsa1
  rintro ρ ds w' ⟨rfl, n, key, hn, he, hst, hs⟩
  refine Wp.forget _ ?_ hs
  rw [he]
  clear hs ρ
  refine Wp.seq (Wp.seq (Wp.reads (is := [0, 1, 2, 3, 4, 5, 6, 7, 8, 9]) (Keep.refl _) (Rn.s rfl Yv.mv (Rn.s rfl Yv.mv (Rn.s rfl Yv.len_s (Rn.s rfl (Yv.cmp _ rfl) (Rn.s rfl Yv.mv (Rn.or (is := [5, 6, 7, 8, 9]) (js := []) (t := 86) (d := 91) (hg := rfl) (hf := fun h4 => have h4 := ne_of_beq_false h4; Rn.s rfl Yv.mv (Rn.s rfl Yv.mv (Rn.s rfl (Yv.ix (by omega) (by omega)) (Rn.s rfl (Yv.cmp _ rfl) (Rn.s rfl Yv.pick_f ((Rn.e 5 rfl rfl))))))) (ht := fun _ => Rn.no rfl (Rn.no rfl (Rn.no rfl (Rn.no rfl (Rn.s rfl Yv.pick_t (Rn.e 5 rfl rfl)))))) (k := Rn.nil))))))) ?_))
  refine Wp.cond rfl (fun h3 => ?_) (fun h3 => ?_)
  · have h3 : s.length ≤ n ∨ byt s n ≠ 58 := by
      simp only [Bool.or_eq_true, bne_iff_ne, beq_iff_eq] at h3
      omega
    rw [tailS, if_pos h3]
    refine Wp.seq (Wp.regionL (l := [0, 1, 2, 3, 4, 5]) (WO.rd (is := [0, 1, 2]) (js := [3, 4, 5]) (Keep.refl _) (Rn.s rfl (Yv.bd (cs := ct0.cs)) (Rn.s rfl Yv.mv (Rn.s rfl (Yv.add (by unfold inI; omega)) (Rn.nil)))) (WO.act (hc := rfl) (he := Ef.stores hst 1 (fun wz1 hsz1 => WO.rd (is := [4, 5]) (js := []) (Keep.refl _) (Rn.s rfl Yv.as (Rn.s rfl Yv.as (Rn.nil))) (WO.done ?_))))))
    exact Wp.ret (Fin.ret (resATT rfl rfl rfl rfl (hsz1.cells 0)) ⟨rfl, hsz1.keep⟩)
  have h3 : ¬ (s.length ≤ n ∨ byt s n ≠ 58) := by
    simp only [Bool.or_eq_false_iff, bne_eq_false_iff_eq, beq_eq_false_iff_ne] at h3
    omega
  rw [tailS, if_neg h3]
  refine Wp.skip (Wp.seq (Wp.seq (Wp.reads (is := [0, 1, 2, 3, 4, 5, 6, 7, 8, 9, 10, 11]) (Keep.refl _) (Rn.s rfl Yv.mv (Rn.s rfl (Yv.add (by unfold inI; omega)) (Rn.s rfl Yv.mv (Rn.s rfl Yv.len_s (Rn.s rfl (Yv.cmp _ rfl) (Rn.s rfl Yv.mv (Rn.and (is := [6, 7, 8, 9, 10, 11]) (js := []) (t := 100) (d := 106) (hg := rfl) (ht := fun h5 => have h5 := of_decide_eq_true h5; Rn.s rfl Yv.mv (Rn.s rfl Yv.mv (Rn.s rfl (Yv.add (by unfold inI; omega)) (Rn.s rfl (Yv.ix (by omega) (by omega)) (Rn.s rfl (Yv.cmp _ rfl) (Rn.s rfl Yv.pick_t ((Rn.e 6 rfl rfl)))))))) (hf := fun _ => Rn.no rfl (Rn.no rfl (Rn.no rfl (Rn.no rfl (Rn.no rfl (Rn.s rfl Yv.pick_f (Rn.e 6 rfl rfl))))))) (k := Rn.nil)))))))) ?_)))
  refine Wp.cond rfl (fun h4 => ?_) (fun h4 => ?_)
  · have h4 : n + 1 < s.length ∧ byt s ((n : Int) + 1) ≠ 32 := by
      simp only [Bool.and_eq_true, bne_iff_ne, decide_eq_true_eq] at h4
      exact ⟨by omega, h4.2⟩
    rw [if_pos h4]
    refine Wp.seq (Wp.regionL (l := [0, 1, 2, 3, 4, 5]) (WO.rd (is := [0, 1, 2]) (js := [3, 4, 5]) (Keep.refl _) (Rn.s rfl (Yv.bd (cs := ct0.cs)) (Rn.s rfl Yv.mv (Rn.s rfl (Yv.add (by unfold inI; omega)) (Rn.nil)))) (WO.act (hc := rfl) (he := Ef.stores hst 1 (fun wz1 hsz1 => WO.rd (is := [4, 5]) (js := []) (Keep.refl _) (Rn.s rfl Yv.as (Rn.s rfl Yv.as (Rn.nil))) (WO.done ?_))))))
    refine Wp.ret (Fin.ret (resATT rfl rfl rfl rfl (hsz1.cells 0)) ⟨?_, hsz1.keep⟩)
    have : (n : Int) + 1 + 1 = (n : Int) + 2 := by omega
    rw [this]
    rfl
  have h4 : ¬ (n + 1 < s.length ∧ byt s ((n : Int) + 1) ≠ 32) := by
    rintro ⟨q1, q2⟩
    have q1 : (n : Int) + 1 < (s.length : Int) := by omega
    simp [q1, q2] at h4
  rw [if_neg h4]
  have c5 := hst.cells 0
  have hv := fun wq => rvalue_cv s (n + 1) (o1 key) rfl (by omega) hl wq
  have en : ((n + 1 : Nat) : Int) = (n : Int) + 1 := rfl
  rw [en] at hv
  refine Wp.skip (Wp.seq (Wp.regionL (l := [0, 1, 2, 3, 4, 5, 6, 7, 8, 9, 10]) (WO.rd (is := [0, 1, 2, 3]) (js := [4, 5, 6, 7, 8, 9, 10]) (Keep.refl _) (Rn.s rfl Yv.mv (Rn.s rfl Yv.mv (Rn.s rfl (Yv.add (by unfold inI; omega)) (Rn.s rfl (Yv.ldb c5) (Rn.nil))))) (WO.cv rfl (hv w') (Keep.refl _) (FnOk.of Tryd.func93) (fun wz1 kz1 => WO.rd (is := [5, 6, 7]) (js := [8, 9, 10]) ((Keep.refl _).trans kz1) (Rn.s rfl Yv.ex (Rn.s rfl Yv.ex (Rn.s rfl Yv.ex (Rn.nil)))) (WO.act (hc := rfl) (he := Ef.stores (hst.quiet kz1) 1 (fun wz2 hsz2 => WO.rd (is := [9, 10]) (js := []) (Keep.refl _) (Rn.s rfl Yv.as (Rn.s rfl Yv.as (Rn.nil))) (WO.done ?_)))))))))
  exact Wp.ret (Fin.ret (resATT rfl rfl rfl rfl (hsz2.cells 0)) ⟨rfl, hsz2.keep⟩)
end Go.Proofs.YtbmplmehofgocaaDoor.C
