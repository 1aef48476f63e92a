/- The document's lines: Split, Trim, Lines: what they say is what text.Lines says. -/
import Derived.Test.YtgjhbapbomdpbaaGreatDoorJ7
import Derived.Test.YtgjhbapbomdpbaaGreatDoorJ3
import Derived.Test.YtgjhbapbomdpbaaGreatDoorJ5
set_option linter.unusedVariables false
set_option linter.unusedSimpArgs false
set_option maxRecDepth 10000
namespace Go.Proofs.YtgjhbapbomdpbaaGreatDoor.C
open Go.RowKit Go.Proofs.YtgjhbapbomdpbaaGreatDoor.Sh
/-! ### 1. raw lines -/
def rawL (s : Bs) : List Bs := (rawFrom 1 s).map Prod.snd
theorem raw_snd : ∀ (m n k : Nat) (s : Bs), s.length ≤ m → (rawFrom n s).map Prod.snd = (rawFrom k s).map Prod.snd
  | 0, n, k, s, h => by
    obtain rfl := List.eq_nil_of_length_eq_zero (Nat.le_zero.1 h)
    rw [raw_nil, raw_nil]
  | m + 1, n, k, s, h => by
    by_cases hs : s = []
    · subst hs; rw [raw_nil, raw_nil]
    · have e : ∀ n, rawFrom n s = (n, (Lib.cut s [10]).1) :: rawFrom (n + 1) (Lib.cut s [10]).2.1 := fun n => by rw [rawFrom, dif_neg hs]
      have := cut_rest_lt s 10 hs
      rw [e n, e k, List.map_cons, List.map_cons, raw_snd m (n + 1) (k + 1) _ (by omega)]
theorem rawL_nil : rawL [] = [] := by unfold rawL; rw [raw_nil]; rfl
theorem rawL_cons (a r : Bs) (h : (10 : UInt8) ∉ a) : rawL (a ++ 10 :: r) = a :: rawL r := by
  unfold rawL
  rw [raw_cons 1 a r h, List.map_cons, raw_snd _ 2 1 r (Nat.le_refl _)]
theorem rawL_one (a : Bs) (h : (10 : UInt8) ∉ a) (ha : a ≠ []) : rawL a = [a] := by
  unfold rawL
  rw [raw_one 1 a h ha]; rfl
theorem rawL_len (s : Bs) : (rawL s).length = (rawFrom 1 s).length := by unfold rawL; simp
theorem byt_eq_iff {s : Bs} {i : Nat} (h : i < s.length) (c : UInt8) : byt s (i : Int) = (c.toNat : Int) ↔ s[i] = c := by
  rw [byt_of (List.getElem?_eq_getElem h)]
  constructor
  · intro e
    exact UInt8.toNat_inj.1 (by omega)
  · rintro rfl; rfl
theorem rsplit_cx (s : Bs) (hl : s.length ≤ 1000000) (w : World) : Cx Tryz.prog 91 [S s] [] (fun v D => ∃ A c, v = .slice A (rawL s).length c ∧ D = [Ch.row StE 9 A c (rawL s)]) w := by
  refine calls_of_Wp (vs := [_]) Tryz.func91 ?_
  refine Wp.seq (Wp.reads (is := [0]) (Keep.refl _) (Rn.s rfl Yv.as (Rn.nil)) ?_)
  refine Wp.seq (Wp.reads (is := [0]) (Keep.refl _) (Rn.s rfl Yv.as (Rn.nil)) ?_)
  refine Wp.seq (Wp.reads (is := [0]) (Keep.refl _) (Rn.s rfl Yv.as (Rn.nil)) ?_)
  refine Wp.seq (Wp.seq (Wp.reads (is := [0]) (Keep.refl _) (Rn.s rfl Yv.as (Rn.nil)) ?_))
  refine Wp.block ?_
  refine Wp.loop (α := Nat × Nat) (fun q ρ ds w' => ds = [] ∧ q.1 ≤ s.length ∧ q.2 ≤ q.1 ∧ (∃ A c acc, rawL s = acc ++ rawL (s.drop q.2) ∧ (10 : UInt8) ∉ (s.drop q.2).take (q.1 - q.2) ∧ acc.length ≤ q.2 ∧
    St w [] w' [Ch.row StE 9 A c acc] ∧ Sub [(0, S s), (3, .slice A acc.length c), (4, .int .i64 (q.2 : Int)), (5, .int .i64 (q.1 : Int))] ρ)) (fun q => s.length - q.1) (0, 0)
    ⟨rfl, Nat.zero_le _, Nat.le_refl _, ⟨none, 0, [], rfl, by simp, Nat.le_refl _, (St.init w).nilrow _ _, rfl, rfl, rfl, rfl, trivial⟩⟩ ?_
  rintro ⟨i, fr⟩ ρ ds w1 ⟨rfl, hi, hf, A, c, acc, hacc, hno, hal, hst, hs⟩
  simp only at hi hf hacc hno hal hs
  refine Wp.forget _ ?_ hs
  refine Wp.seq (Wp.seq (Wp.reads (is := [0, 1, 2, 3]) (Keep.refl _) (Rn.s rfl Yv.mv (Rn.s rfl Yv.mv (Rn.s rfl Yv.len_s (Rn.s rfl (Yv.cmp _ rfl) (Rn.nil))))) ?_))
  refine Wp.cond rfl (fun h => ?_) (fun h => ?_)
  · have h := of_decide_eq_true h
    have hil : i < s.length := by omega
    have hds : s.drop fr = (s.drop fr).take (i - fr) ++ s[i] :: s.drop (i + 1) := by
      have e1 : s.drop i = s[i] :: s.drop (i + 1) := List.drop_eq_getElem_cons hil
      rw [← e1]
      have e2 : s.drop i = (s.drop fr).drop (i - fr) := by rw [List.drop_drop]; congr 1; omega
      rw [e2, List.take_append_drop]
    refine Wp.skip (Wp.seq (Wp.block ?_))
    refine Wp.seq (Wp.reads (is := [0, 1, 2, 3]) (Keep.refl _) (Rn.s rfl Yv.mv (Rn.s rfl Yv.mv (Rn.s rfl (Yv.ix (by omega) (by omega)) (Rn.s rfl (Yv.cmp _ rfl) (Rn.nil))))) ?_)
    refine Wp.cond rfl (fun h2 => ?_) (fun h2 => ?_)
    · have h2 : s[i] = 10 := (byt_eq_iff hil 10).1 (by simpa using h2)
      refine Wp.seq (Wp.regionL (l := [0, 1, 2, 3, 4, 5, 6, 7]) (WO.rd (is := [0, 1, 2, 3, 4]) (js := [5, 6, 7]) (Keep.refl _) (Rn.s rfl Yv.mv (Rn.s rfl Yv.mv (Rn.s rfl Yv.mv (Rn.s rfl Yv.mv (Rn.s rfl (Yv.ss_ft (by omega) (by omega) (by omega)) (Rn.nil)))))) (WO.app StE [(s.take (i : Int).toNat).drop (fr : Int).toNat] rfl (fun _ => rfl) hst 0 (fitT (by simp only [List.length_cons, List.length_nil]; omega)) (fun bx1 Ax1 cx1 wx1 hsx1 => WO.rd (is := [7]) (js := []) (Keep.refl _) (Rn.s rfl Yv.as (Rn.nil)) (WO.done ?_)))))
      refine Wp.reads (is := [0, 1, 2]) (Keep.refl _) (Rn.s rfl Yv.mv (Rn.s rfl (Yv.add (by unfold inI; omega)) (Rn.s rfl Yv.as (Rn.nil)))) ?_
      refine Wp.reads (is := [0, 1, 2]) (Keep.refl _) (Rn.s rfl Yv.mv (Rn.s rfl (Yv.add (by unfold inI; omega)) (Rn.s rfl Yv.as (Rn.nil)))) ?_
      have hln : (s.take (i : Int).toNat).drop (fr : Int).toNat = (s.drop fr).take (i - fr) := by rw [Int.toNat_natCast, Int.toNat_natCast, List.drop_take]
      rw [hln] at hsx1 ⊢
      have hst : St w [] wx1 [Ch.row StE 9 Ax1 cx1 (acc ++ [(s.drop fr).take (i - fr)])] := hsx1.pick [0]
      refine ⟨(i + 1, i + 1), ⟨rfl, by omega, Nat.le_refl _, ⟨Ax1, cx1, acc ++ [(s.drop fr).take (i - fr)], ?_, by simp, by simp; omega, hst, rfl, rfl, rfl, rfl, trivial⟩⟩, by simp only; omega⟩
      rw [hacc]
      rw [hds, h2] at ⊢
      rw [rawL_cons _ _ hno]
      have : (s.drop fr).take (i - fr) = ((s.drop fr).take (i - fr) ++ 10 :: s.drop (i + 1)).take (i - fr) := by rw [← h2, ← hds]
      rw [← this]
      simp
    · have h2 : ¬ s[i] = 10 := fun e => by have := (byt_eq_iff hil 10).2 e; rw [this] at h2; exact absurd h2 (by decide)
      refine Wp.skip (Wp.reads (is := [0, 1, 2]) (Keep.refl _) (Rn.s rfl Yv.mv (Rn.s rfl (Yv.add (by unfold inI; omega)) (Rn.s rfl Yv.as (Rn.nil)))) ?_)
      refine ⟨(i + 1, fr), ⟨rfl, by omega, by simp only; omega, ⟨A, c, acc, hacc, ?_, hal, hst, rfl, rfl, rfl, rfl, trivial⟩⟩, by simp only; omega⟩
      have e : i + 1 - fr = (i - fr) + 1 := by omega
      simp only
      rw [e, List.take_add_one, List.mem_append]
      rintro (hm | hm)
      · exact hno hm
      · rw [List.getElem?_drop, show fr + (i - fr) = i by omega, List.getElem?_eq_getElem hil] at hm
        simp at hm
        exact h2 hm.symm
  · have h := of_decide_eq_false h
    have hie : i = s.length := by omega
    refine Wp.exit ?_
    have hno : (10 : UInt8) ∉ s.drop fr := by rwa [List.take_of_length_le (by simp; omega)] at hno
    refine Wp.seq (Wp.seq (Wp.reads (is := [0, 1, 2, 3]) (Keep.refl _) (Rn.s rfl Yv.mv (Rn.s rfl Yv.mv (Rn.s rfl Yv.len_s (Rn.s rfl (Yv.cmp _ rfl) (Rn.nil))))) ?_))
    refine Wp.cond rfl (fun h2 => ?_) (fun h2 => ?_)
    · have h2 := of_decide_eq_true h2
      refine Wp.regionL (l := [0, 1, 2, 3, 4, 5, 6]) (WO.rd (is := [0, 1, 2, 3]) (js := [4, 5, 6]) (Keep.refl _) (Rn.s rfl Yv.mv (Rn.s rfl Yv.mv (Rn.s rfl Yv.mv (Rn.s rfl (Yv.ss_f (by omega) (by omega)) (Rn.nil))))) (WO.app StE [s.drop (fr : Int).toNat] rfl (fun _ => rfl) hst 0 (fitT (by simp only [List.length_cons, List.length_nil]; omega)) (fun bx1 Ax1 cx1 wx1 hsx1 => WO.rd (is := [6]) (js := []) (Keep.refl _) (Rn.s rfl Yv.as (Rn.nil)) (WO.done ?_))))
      have hst : St w [] wx1 [Ch.row StE 9 Ax1 cx1 (acc ++ [s.drop (fr : Int).toNat])] := hsx1.pick [0]
      have e : acc ++ [s.drop (fr : Int).toNat] = rawL s := by
        rw [hacc, Int.toNat_natCast, rawL_one _ hno]
        intro q
        have := congrArg List.length q
        simp at this
        omega
      rw [e] at hst ⊢
      refine Wp.seq (Wp.reads (is := [0, 1]) (Keep.refl _) (Rn.s rfl Yv.mv (Rn.s rfl Yv.as (Rn.nil))) ?_)
      exact Wp.ret (Fin.ret (Res.one rfl rfl) ⟨_, _, rfl, ⟨Ax1, cx1, rfl, rfl⟩, hst⟩)
    · have h2 := of_decide_eq_false h2
      have e : acc = rawL s := by
        rw [hacc, List.drop_eq_nil_of_le (by omega), rawL_nil, List.append_nil]
      rw [e] at hst ⊢
      refine Wp.skip (Wp.seq (Wp.reads (is := [0, 1]) (Keep.refl _) (Rn.s rfl Yv.mv (Rn.s rfl Yv.as (Rn.nil))) ?_))
      exact Wp.ret (Fin.ret (Res.one rfl rfl) ⟨_, _, rfl, ⟨A, c, rfl, rfl⟩, hst⟩)
/-! ### 2. trimmed lines -/
theorem trimR_snoc (l : Bs) (x : UInt8) : Lib.trimRightB (l ++ [x]) 32 = if x = 32 then Lib.trimRightB l 32 else l ++ [x] := by
  unfold Lib.trimRightB
  rw [List.reverse_append]
  show ((x :: l.reverse).dropWhile _).reverse = _
  by_cases h : x = 32
  · subst h; rw [List.dropWhile_cons_of_pos (by rfl), if_pos rfl]
  · rw [List.dropWhile_cons_of_neg (by simpa using h), if_neg h]; simp
theorem tEnd_trim (s : Bs) (a : Nat) : ∀ b, a ≤ b → b ≤ s.length → (s.take (tEnd s a b)).drop a = Lib.trimRightB ((s.take b).drop a) 32
  | 0, h, _ => by
    obtain rfl : a = 0 := by omega
    rfl
  | b + 1, h, hb => by
    by_cases hab : a = b + 1
    · subst hab
      rw [tEnd, if_neg (by omega)]
      have : (s.take (b + 1)).drop (b + 1) = [] := List.drop_eq_nil_of_le (by simp; omega)
      rw [this]; rfl
    · have hbl : b < s.length := by omega
      have e : (s.take (b + 1)).drop a = (s.take b).drop a ++ [s[b]] := by
        rw [List.take_add_one, List.getElem?_eq_getElem hbl, List.drop_append_of_le_length (by simp; omega)]; rfl
      rw [tEnd, e, trimR_snoc]
      by_cases h2 : s[b] = 32
      · rw [if_pos ⟨by omega, (byt_eq_iff hbl 32).2 h2⟩, if_pos h2]
        exact tEnd_trim s a b (by omega) (by omega)
      · rw [if_neg (fun q => h2 ((byt_eq_iff hbl 32).1 q.2)), if_neg h2, e]
theorem trimR_cons (x : UInt8) (r : Bs) : Lib.trimRightB (x :: r) 32 = if Lib.trimRightB r 32 = [] then (if x = 32 then [] else [x]) else x :: Lib.trimRightB r 32 := by
  unfold Lib.trimRightB
  rw [List.reverse_cons, List.dropWhile_append]
  cases hd : r.reverse.dropWhile (· == 32) with
  | nil =>
    simp only [List.isEmpty_nil, if_true, List.reverse_nil]
    by_cases h : x = 32
    · subst h; rfl
    · rw [List.dropWhile_cons_of_neg (by simpa using h), if_neg h]; rfl
  | cons y l => simp
theorem trim_comm : ∀ s : Bs, Lib.trimB s 32 = Lib.trimRightB (Lib.trimLeftB s 32) 32
  | [] => rfl
  | x :: r => by
    have ih := trim_comm r
    unfold Lib.trimB at ih ⊢
    rw [trimR_cons]
    by_cases hx : x = 32
    · subst hx
      have e1 : Lib.trimLeftB (32 :: r) 32 = Lib.trimLeftB r 32 := by unfold Lib.trimLeftB; rw [List.dropWhile_cons_of_pos (by rfl)]
      rw [e1, ← ih]
      by_cases h : Lib.trimRightB r 32 = []
      · rw [if_pos h, if_pos rfl, h]
      · rw [if_neg h]; unfold Lib.trimLeftB; rw [List.dropWhile_cons_of_pos (by rfl)]
    · have e1 : ∀ r : Bs, Lib.trimLeftB (x :: r) 32 = x :: r := fun r => by unfold Lib.trimLeftB; rw [List.dropWhile_cons_of_neg (by simpa using hx)]
      rw [e1 r, trimR_cons]
      by_cases h : Lib.trimRightB r 32 = []
      · rw [if_pos h, if_neg hx, e1]
      · rw [if_neg h, e1]
theorem trimL_gap (s : Bs) : Lib.trimLeftB s 32 = s.drop (gapN s 0) := by
  unfold gapN Lib.trimLeftB
  rw [Nat.zero_add, List.drop_zero]
  induction s with
  | nil => rfl
  | cons x r ih =>
    by_cases hx : x = 32
    · subst hx; rw [List.dropWhile_cons_of_pos (by rfl), List.takeWhile_cons_of_pos (by rfl)]; exact ih
    · rw [List.dropWhile_cons_of_neg (by simpa using hx), List.takeWhile_cons_of_neg (by simpa using hx)]; rfl
theorem rtrim_eq (s : Bs) : (s.take (tEnd s (gapN s 0) s.length)).drop (gapN s 0) = Lib.trimB s 32 := by
  have hg := gapN_le s 0 (Nat.zero_le _)
  rw [tEnd_trim s _ s.length hg.2 (Nat.le_refl _), List.take_of_length_le (Nat.le_refl _), trim_comm, trimL_gap]
theorem index_gap : ∀ (s : Bs) (y : UInt8) (r : Bs), Lib.trimLeftB s 32 = y :: r → Lib.indexByte s y = ((s.takeWhile (· == 32)).length : Int)
  | [], y, r, h => by cases h
  | x :: s, y, r, h => by
    unfold Lib.trimLeftB at h
    by_cases hx : x = 32
    · subst hx
      rw [List.dropWhile_cons_of_pos (by rfl)] at h
      have ih := index_gap s y r h
      have hy : y ≠ 32 := by
        intro e
        have := List.head?_dropWhile_not (fun b : UInt8 => b == 32) s
        rw [h] at this
        simp [e] at this
      rw [Lib.indexByte, if_neg (by simpa using fun e : 32 = y => hy e.symm), List.takeWhile_cons_of_pos (by rfl), ih, if_neg (by simp)]
      simp
    · rw [List.dropWhile_cons_of_neg (by simpa using hx)] at h
      injection h with h1 h2
      subst h1
      rw [Lib.indexByte, if_pos (by simp), List.takeWhile_cons_of_neg (by simpa using hx)]; rfl
theorem index_trim {s : Bs} (h : Lib.trimB s 32 ≠ []) : Lib.indexByte s (nth (Lib.trimB s 32) 0) = (gapN s 0 : Nat) := by
  rw [trim_comm] at h ⊢
  cases hl : Lib.trimLeftB s 32 with
  | nil => rw [hl] at h; exact (h rfl).elim
  | cons y r =>
    have e : nth (Lib.trimRightB (y :: r) 32) 0 = y := by
      have hy : y ≠ 32 := by
        intro e
        have := List.head?_dropWhile_not (fun b : UInt8 => b == 32) s
        unfold Lib.trimLeftB at hl
        rw [hl] at this
        simp [e] at this
      rw [trimR_cons]
      split
      · first | rfl | (rw [if_neg hy]; rfl)
      · rfl
    rw [e, index_gap s y r hl]
    unfold gapN
    simp
theorem badI_drop {s : Bs} {k : Nat} (h : k < s.length) : badI (s.drop k) k = if badB s[k] then (k : Int) else badI (s.drop (k + 1)) ((k + 1 : Nat) : Int) := by
  rw [List.drop_eq_getElem_cons h, badI]
  rfl
/-! ### 3. the lines -/
theorem rlines_cx (s : Bs) (w : World) : Cx Tryz.prog 68 [S s] [] (fun v D => ∃ A c, v = .tuple #[.slice A (linesS s).ls.length c, .int .i64 (linesS s).no, .int .i64 (linesS s).col, .int .i64 (linesS s).e] ∧ D = [Ch.row LnE 129 A c (linesS s).ls]) w := by
  refine calls_of_Wp (vs := [_]) Tryz.func68 ?_
  refine Wp.seq (Wp.reads (is := [0, 1, 2, 3]) (Keep.refl _) (Rn.s rfl Yv.as (Rn.s rfl Yv.as (Rn.s rfl Yv.as (Rn.s rfl Yv.as (Rn.nil))))) ?_)
  refine Wp.seq (Wp.seq (Wp.reads (is := [0, 1, 2]) (Keep.refl _) (Rn.s rfl Yv.mv (Rn.s rfl Yv.len_s (Rn.s rfl (Yv.cmp _ rfl) (Rn.nil)))) ?_))
  refine Wp.cond rfl (fun h => ?_) (fun h => ?_)
  · have h := of_decide_eq_true h
    have e : linesS s = ⟨[], 0, 0, 10⟩ := by rw [linesS, if_pos h]
    rw [e]
    refine Wp.seq (Wp.reads (is := [0, 1, 2, 3]) (Keep.refl _) (Rn.s rfl Yv.as (Rn.s rfl Yv.as (Rn.s rfl Yv.as (Rn.s rfl Yv.as (Rn.nil))))) ?_)
    exact Wp.ret (Fin.ret (Res.four rfl rfl rfl rfl rfl) ⟨_, _, rfl, ⟨none, 0, rfl, rfl⟩, (St.init w).nilrow _ _⟩)
  have h := of_decide_eq_false h
  have e : linesS s = linesR (rawFrom 1 s) [] := by rw [linesS, if_neg h]
  rw [e]
  obtain ⟨R, hR⟩ : ∃ R, R = linesR (rawFrom 1 s) [] := ⟨_, rfl⟩
  rw [← hR]
  clear e
  refine Wp.skip (Wp.seq (Wp.reads (is := [0]) (Keep.refl _) (Rn.s rfl Yv.as (Rn.nil)) ?_))
  refine Wp.seq (Wp.regionL (l := [0, 1, 2]) (WO.rd (is := [0]) (js := [1, 2]) (Keep.refl _) (Rn.s rfl Yv.mv (Rn.nil)) (WO.act (hc := rfl) (he := Ef.cx (rsplit_cx s (by omega) w) (St.init w) (FnOk.of Tryz.func91) ?_))))
  rintro v D w1 ⟨AL, cL, rfl, rfl⟩ hs1
  refine WO.rd (is := [2]) (js := []) (Keep.refl _) (Rn.s rfl Yv.as (Rn.nil)) (WO.done ?_)
  have hst : St w [] w1 [Ch.row StE 9 AL cL (rawL s)] := hs1
  have hrl := rawL_len s
  have hrn := raw_len _ 1 s (Nat.le_refl _)
  refine Wp.seq (Wp.seq (Wp.reads (is := [0]) (Keep.refl _) (Rn.s rfl Yv.as (Rn.nil)) ?_))
  refine Wp.block ?_
  refine Wp.loop (α := Nat) (fun i ρ ds w' => ds = [] ∧ i ≤ (rawL s).length ∧ i ≤ 4096 ∧ (∃ A c acc, linesR ((rawFrom 1 s).drop i) acc = R ∧ acc.length ≤ i ∧
    St w [] w' [Ch.row LnE 129 A c acc, Ch.row StE 9 AL cL (rawL s)] ∧ Sub [(0, S s), (6, .slice A acc.length c), (7, .slice AL (rawL s).length cL), (8, .int .i64 (i : Int))] ρ)) (fun i => (rawL s).length - i) 0
    ⟨rfl, Nat.zero_le _, Nat.zero_le _, ⟨none, 0, [], hR.symm, Nat.le_refl _, hst.nilrow _ _, rfl, rfl, rfl, rfl, trivial⟩⟩ ?_
  clear hst hs1
  rintro i ρ ds w2 ⟨rfl, hi, hi2, A, c, acc, hacc, hal, hst, hs⟩
  refine Wp.forget _ ?_ hs
  refine Wp.seq (Wp.seq (Wp.reads (is := [0, 1, 2, 3]) (Keep.refl _) (Rn.s rfl Yv.mv (Rn.s rfl Yv.mv (Rn.s rfl (Yv.len_v (e := 9) (m := 1)) (Rn.s rfl (Yv.cmp _ rfl) (Rn.nil))))) ?_))
  refine Wp.cond rfl (fun h1 => ?_) (fun h1 => ?_)
  · have h1 := of_decide_eq_true h1
    have hil : i < (rawFrom 1 s).length := by omega
    have hx : (rawFrom 1 s)[i]? = some (rawFrom 1 s)[i] := List.getElem?_eq_getElem hil
    obtain ⟨n, line⟩ : Nat × Bs := (rawFrom 1 s)[i]
    obtain ⟨x, hxe⟩ : ∃ x, x = (rawFrom 1 s)[i] := ⟨_, rfl⟩
    rw [← hxe] at hx
    clear n line
    obtain ⟨n, line⟩ := x
    obtain ⟨hll, hn⟩ := raw_line_le s i _ hx
    simp only at hll hn
    have hnl : nth (rawL s) (i : Int) = line := nth_of (by unfold rawL; rw [List.getElem?_map, hx]; rfl)
    rw [List.drop_eq_getElem_cons hil, ← hxe, linesR] at hacc
    have hrd := hst.rd 1
    refine Wp.skip (Wp.seq (Wp.block ?_))
    refine Wp.seq (Wp.seq (Wp.reads (is := [0, 1]) (Keep.refl _) (Rn.s rfl Yv.mv (Rn.s rfl (Yv.cmp _ rfl) (Rn.nil))) ?_))
    refine Wp.cond rfl (fun h2 => ?_) (fun h2 => ?_)
    · have h2 : (i : Int) = 4096 := eq_of_beq h2
      rw [if_pos (by omega)] at hacc
      refine Wp.seq (Wp.reads (is := [0, 1, 2, 3, 4, 5]) (Keep.refl _) (Rn.s rfl Yv.mv (Rn.s rfl (Yv.add (by unfold inI; omega)) (Rn.s rfl Yv.as (Rn.s rfl Yv.as (Rn.s rfl Yv.as (Rn.s rfl Yv.as (Rn.nil))))))) ?_)
      rw [← hacc]
      refine Wp.ret (Fin.ret (Res.four rfl rfl rfl rfl rfl) ⟨_, _, rfl, ⟨none, 0, ?_, rfl⟩, (hst.pick []).nilrow _ _⟩)
      have : (i : Int) + 1 = (n : Int) := by omega
      rw [this]
      rfl
    have h2 : ¬ (i : Int) = 4096 := ne_of_beq_false h2
    rw [if_neg (by omega)] at hacc
    refine Wp.skip (Wp.seq (Wp.seq (Wp.reads (is := [0]) (Keep.refl _) (Rn.s rfl Yv.as (Rn.nil)) ?_)))
    refine Wp.block ?_
    refine Wp.loop (α := Nat) (fun k ρ ds w' => ds = [] ∧ w2 = w' ∧ k ≤ line.length ∧ badI (line.drop k) k = badI line 0 ∧ Sub [(0, S s), (6, .slice A acc.length c), (7, .slice AL (rawL s).length cL), (8, .int .i64 (i : Int)), (9, .int .i64 (k : Int))] ρ) (fun k => line.length - k) 0
      ⟨rfl, rfl, Nat.zero_le _, rfl, rfl, rfl, rfl, rfl, rfl, trivial⟩ ?_
    rintro k ρ ds w' ⟨rfl, rfl, hk, hbk, hs⟩
    refine Wp.forget _ ?_ hs
    refine Wp.seq (Wp.seq (Wp.reads (is := [0, 1, 2, 3, 4, 5, 6]) (Keep.refl _) (Rn.s rfl Yv.mv (Rn.s rfl Yv.mv (Rn.s rfl Yv.mv (Rn.s rfl (Yv.ia (e := 9) hrd (by omega) (by omega)) (Rn.s rfl (Yv.ld (hrd.ld 0 (by omega) (by omega))) (Rn.s rfl Yv.len_s (Rn.s rfl (Yv.cmp _ rfl) (Rn.nil)))))))) ?_))
    refine Wp.cond rfl (fun h3 => ?_) (fun h3 => ?_)
    · have h3 := of_decide_eq_true h3
      have hkn : k < (nth (rawL s) (i : Int)).length := by omega
      have hkl : k < line.length := by rw [← hnl]; exact hkn
      rw [badI_drop hkl] at hbk
      have hby : byt (nth (rawL s) (i : Int)) (k : Int) = (line[k].toNat : Int) := by rw [hnl]; exact byt_of (List.getElem?_eq_getElem hkl)
      refine Wp.skip (Wp.seq (Wp.block ?_))
      refine Wp.seq (Wp.reads (is := [0, 1, 2, 3, 4, 5, 6, 7, 8, 9, 10, 11, 12, 13, 14, 15]) (Keep.refl _) (Rn.s rfl Yv.mv (Rn.s rfl Yv.mv (Rn.s rfl (Yv.ia (e := 9) hrd (by omega) (by omega)) (Rn.s rfl (Yv.ld (hrd.ld 0 (by omega) (by omega))) (Rn.s rfl Yv.mv (Rn.s rfl (Yv.ix (by omega) (by omega)) (Rn.s rfl (Yv.cmp _ rfl) (Rn.s rfl Yv.mv (Rn.or (is := [8, 9, 10, 11, 12, 13, 14, 15]) (js := []) (t := 43) (d := 51) (hg := rfl) (hf := fun h7 => have h7 := of_decide_eq_false h7; Rn.s rfl Yv.mv (Rn.s rfl Yv.mv (Rn.s rfl (Yv.ia (e := 9) hrd (by omega) (by omega)) (Rn.s rfl (Yv.ld (hrd.ld 0 (by omega) (by omega))) (Rn.s rfl Yv.mv (Rn.s rfl (Yv.ix (by omega) (by omega)) (Rn.s rfl (Yv.cmp _ rfl) (Rn.s rfl Yv.pick_f ((Rn.e 8 rfl rfl)))))))))) (ht := fun _ => Rn.no rfl (Rn.no rfl (Rn.no rfl (Rn.no rfl (Rn.no rfl (Rn.no rfl (Rn.no rfl (Rn.s rfl Yv.pick_t (Rn.e 8 rfl rfl))))))))) (k := Rn.nil)))))))))) ?_)
      refine Wp.cond rfl (fun h4 => ?_) (fun h4 => ?_)
      · have hb : badB line[k] = true := by
          rw [hby] at h4
          unfold badB
          simp only [Bool.or_eq_true, decide_eq_true_eq, beq_iff_eq] at h4 ⊢
          omega
        rw [if_pos hb] at hbk
        rw [if_pos (by omega)] at hacc
        refine Wp.seq (Wp.reads (is := [0, 1, 2, 3, 4, 5, 6, 7]) (Keep.refl _) (Rn.s rfl Yv.mv (Rn.s rfl (Yv.add (by unfold inI; omega)) (Rn.s rfl Yv.mv (Rn.s rfl (Yv.add (by unfold inI; omega)) (Rn.s rfl Yv.as (Rn.s rfl Yv.as (Rn.s rfl Yv.as (Rn.s rfl Yv.as (Rn.nil))))))))) ?_)
        rw [← hacc]
        refine Wp.ret (Fin.ret (Res.four rfl rfl rfl rfl rfl) ⟨_, _, rfl, ⟨none, 0, ?_, rfl⟩, (hst.pick []).nilrow _ _⟩)
        have e1 : (i : Int) + 1 = (n : Int) := by omega
        rw [e1, ← hbk]
        rfl
      · have hb : badB line[k] = false := by
          rw [hby] at h4
          unfold badB
          simp only [Bool.or_eq_false_iff, decide_eq_false_iff_not, beq_eq_false_iff_ne] at h4 ⊢
          omega
        rw [if_neg (by rw [hb]; decide)] at hbk
        refine Wp.skip (Wp.reads (is := [0, 1, 2]) (Keep.refl _) (Rn.s rfl Yv.mv (Rn.s rfl (Yv.add (by unfold inI; omega)) (Rn.s rfl Yv.as (Rn.nil)))) ?_)
        exact ⟨k + 1, ⟨rfl, rfl, by omega, hbk, rfl, rfl, rfl, rfl, rfl, trivial⟩, by omega⟩
    have h3 := of_decide_eq_false h3
    have hkl : k = line.length := by rw [hnl] at h3; omega
    have hbd : badI line 0 = -1 := by rw [← hbk, List.drop_eq_nil_of_le (by omega)]; rfl
    rw [if_neg (by omega)] at hacc
    refine Wp.exit ?_
    have htr := rtrim_cv line (by omega) w2
    rw [rtrim_eq line] at htr
    have htr' : Cv Tryz.prog 92 [S (nth (rawL s) (i : Int))] (.tuple #[.int .i64 (gapN line 0), S (Lib.trimB line 32)]) w2 := by rw [hnl]; exact htr
    refine Wp.seq (Wp.regionL (l := [0, 1, 2, 3, 4, 5, 6, 7, 8, 9]) (WO.rd (is := [0, 1, 2, 3]) (js := [4, 5, 6, 7, 8, 9]) (Keep.refl _) (Rn.s rfl Yv.mv (Rn.s rfl Yv.mv (Rn.s rfl (Yv.ia (e := 9) hrd (by omega) (by omega)) (Rn.s rfl (Yv.ld (hrd.ld 0 (by omega) (by omega))) (Rn.nil))))) (WO.cv rfl htr' (Keep.refl _) (FnOk.of Tryz.func92) (fun wx1 kx1 => WO.rd (is := [5, 6, 7, 8, 9]) (js := []) ((Keep.refl _).trans kx1) (Rn.s rfl Yv.mv (Rn.s rfl Yv.ex (Rn.s rfl Yv.ex (Rn.s rfl Yv.as (Rn.s rfl Yv.as (Rn.nil)))))) (WO.done ?_)))))
    have hst := hst.quiet kx1
    refine Wp.seq (Wp.reads (is := [0, 1, 2, 3, 4, 5, 6]) (Keep.refl _) (Rn.s rfl Yv.mv (Rn.s rfl (Yv.scm _ rfl) (Rn.s rfl Yv.mv (Rn.and (is := [3, 4, 5, 6]) (js := []) (t := 66) (d := 70) (hg := rfl) (ht := fun h2 => have h2' := h2; Rn.s rfl Yv.mv (Rn.s rfl (Yv.ix (by omega) (by have := List.length_pos_iff.2 (bne_iff_ne.1 h2); omega)) (Rn.s rfl (Yv.cmp _ rfl) (Rn.s rfl Yv.pick_t ((Rn.e 4 rfl rfl)))))) (hf := fun _ => Rn.no rfl (Rn.no rfl (Rn.no rfl (Rn.s rfl Yv.pick_f (Rn.e 4 rfl rfl))))) (k := Rn.nil))))) ?_)
    refine Wp.cond rfl (fun h4 => ?_) (fun h4 => ?_)
    · have h4 : ¬ (Lib.trimB line 32 = [] ∨ byt (Lib.trimB line 32) 0 = 35) := by
        rintro (q | q)
        · simp [q] at h4
        · simp [q] at h4
      have hne : Lib.trimB line 32 ≠ [] := fun q => h4 (.inl q)
      have e2 : lineOf n line = some ⟨n, gapN line 0, Lib.trimB line 32⟩ := by simp only [lineOf]; rw [if_neg h4, index_trim hne]
      rw [e2] at hacc
      refine Wp.regionL (l := [0, 1, 2, 3, 4, 5, 6, 7, 8]) (WO.rd (is := [0, 1, 2, 3, 4, 5]) (js := [6, 7, 8]) (Keep.refl _) (Rn.s rfl Yv.mv (Rn.s rfl Yv.mv (Rn.s rfl (Yv.add (by unfold inI; omega)) (Rn.s rfl Yv.mv (Rn.s rfl Yv.mv (Rn.s rfl (Yv.bd (cs := Ln.cs ⟨(i : Int) + 1, gapN line 0, Lib.trimB line 32⟩)) (Rn.nil))))))) (WO.app LnE [⟨(i : Int) + 1, gapN line 0, Lib.trimB line 32⟩] rfl (fun _ => rfl) hst 0 (.inl (by simp only [List.length_cons, List.length_nil]; omega)) (fun bz1 Az1 cz1 wz1 hsz1 => WO.rd (is := [8]) (js := []) (Keep.refl _) (Rn.s rfl Yv.as (Rn.nil)) (WO.done ?_))))
      refine Wp.reads (is := [0, 1, 2]) (Keep.refl _) (Rn.s rfl Yv.mv (Rn.s rfl (Yv.add (by unfold inI; omega)) (Rn.s rfl Yv.as (Rn.nil)))) ?_
      have e3 : (i : Int) + 1 = (n : Int) := by omega
      rw [e3] at hsz1
      have hst : St w [] wz1 [Ch.row LnE 129 Az1 cz1 (acc ++ [⟨n, gapN line 0, Lib.trimB line 32⟩]), Ch.row StE 9 AL cL (rawL s)] := hsz1.pick [0, 1]
      refine ⟨i + 1, ⟨rfl, by omega, by omega, ⟨Az1, cz1, _, hacc, by simp; omega, hst, rfl, ?_, rfl, rfl, trivial⟩⟩, by omega⟩
      simp; rfl
    · have h4 : Lib.trimB line 32 = [] ∨ byt (Lib.trimB line 32) 0 = 35 := by
        by_cases q : Lib.trimB line 32 = []
        · exact .inl q
        · right; simpa [q] using h4
      have e2 : lineOf n line = none := by simp only [lineOf]; rw [if_pos h4]
      rw [e2] at hacc
      refine Wp.skip (Wp.reads (is := [0, 1, 2]) (Keep.refl _) (Rn.s rfl Yv.mv (Rn.s rfl (Yv.add (by unfold inI; omega)) (Rn.s rfl Yv.as (Rn.nil)))) ?_)
      exact ⟨i + 1, ⟨rfl, by omega, by omega, ⟨A, c, acc, hacc, by omega, hst, rfl, rfl, rfl, rfl, trivial⟩⟩, by omega⟩
  · have h1 := of_decide_eq_false h1
    rw [List.drop_eq_nil_of_le (by omega), linesR] at hacc
    refine Wp.exit ?_
    refine Wp.seq (Wp.reads (is := [0, 1, 2, 3, 4]) (Keep.refl _) (Rn.s rfl Yv.mv (Rn.s rfl Yv.as (Rn.s rfl Yv.as (Rn.s rfl Yv.as (Rn.s rfl Yv.as (Rn.nil)))))) ?_)
    rw [← hacc]
    exact Wp.ret (Fin.ret (Res.four rfl rfl rfl rfl rfl) ⟨_, _, rfl, ⟨A, c, rfl, rfl⟩, hst.pick [0]⟩)
end Go.Proofs.YtgjhbapbomdpbaaGreatDoor.C
/- The document's reader of a line's text: value and Read: what they say is what scalar.Read says. -/
set_option linter.unusedVariables false
set_option linter.unusedSimpArgs false
set_option maxRecDepth 10000
namespace Go.Proofs.YtgjhbapbomdpbaaGreatDoor.C
open Go.RowKit Go.Proofs.YtgjhbapbomdpbaaGreatDoor.Sh
/-! ### 1. where a bare value ends -/
def cutN (s : Bs) (a : Nat) : Nat := a + (Lib.cut (s.drop a) [32, 35]).1.length
theorem cut2_cons (x : UInt8) (r : Bs) : (Lib.cut (x :: r) [32, 35]).1 = if x = 32 ∧ r.head? = some 35 then [] else x :: (Lib.cut r [32, 35]).1 := by
  have hg := Lib.index_ge r [32, 35]
  by_cases h : x = 32 ∧ r.head? = some 35
  · rw [if_pos h]
    obtain ⟨rfl, h2⟩ := h
    cases r with
    | nil => cases h2
    | cons y r =>
      simp at h2
      subst h2
      have e : Lib.index (32 :: 35 :: r) [32, 35] = 0 := by
        unfold Lib.index
        rw [if_pos (by simp [List.isPrefixOf])]
      unfold Lib.cut
      rw [e]
      rfl
  · rw [if_neg h]
    have hp : ([32, 35] : Bs).isPrefixOf (x :: r) = false := by
      cases r with
      | nil => simp [List.isPrefixOf]
      | cons y r =>
        simp only [List.head?_cons, Option.some.injEq, not_and] at h
        by_cases hx : x = 32
        · subst hx
          have hy := h rfl
          simp [List.isPrefixOf]
          exact fun e => hy e.symm
        · simp [List.isPrefixOf]
          intro e
          exact (hx e.symm).elim
    have e : Lib.index (x :: r) [32, 35] = if Lib.index r [32, 35] == -1 then -1 else Lib.index r [32, 35] + 1 := by
      rw [Lib.index, hp]; rfl
    unfold Lib.cut
    rw [e]
    by_cases h1 : Lib.index r [32, 35] = -1
    · rw [h1]; rfl
    · have h2 : (Lib.index r [32, 35] == -1) = false := by simpa using h1
      rw [h2]
      simp only [Bool.false_eq_true, if_false]
      rw [if_pos (by omega), if_pos (by omega)]
      have : (Lib.index r [32, 35] + 1).toNat = (Lib.index r [32, 35]).toNat + 1 := by omega
      rw [this, List.take_succ_cons]
theorem cutN_step {s : Bs} {a : Nat} (h : a < s.length) : cutN s a = if s[a] = 32 ∧ s[a + 1]? = some 35 then a else cutN s (a + 1) := by
  unfold cutN
  rw [List.drop_eq_getElem_cons h, cut2_cons]
  have : (s.drop (a + 1)).head? = s[a + 1]? := by simp [List.head?_drop]
  rw [this]
  split
  · rfl
  · rw [List.length_cons]; omega
theorem cutN_end {s : Bs} {a : Nat} (h : s.length ≤ a) : cutN s a = a := by
  unfold cutN
  rw [List.drop_eq_nil_of_le h]
  rfl
theorem cutN_bd {s : Bs} {a : Nat} (h : a ≤ s.length) : a ≤ cutN s a ∧ cutN s a ≤ s.length := by
  have := cut_fst_le (s.drop a) [32, 35]
  simp only [List.length_drop] at this
  unfold cutN
  omega
theorem cutN_text {s : Bs} {a : Nat} (h : a ≤ s.length) : (s.take (cutN s a)).drop a = (Lib.cut (s.drop a) [32, 35]).1 := by
  have e : (Lib.cut (s.drop a) [32, 35]).1 = (s.drop a).take (Lib.cut (s.drop a) [32, 35]).1.length := by
    have hp : (Lib.cut (s.drop a) [32, 35]).1 <+: s.drop a := by
      unfold Lib.cut
      split
      · exact List.take_prefix _ _
      · exact List.prefix_refl _
    exact (List.prefix_iff_eq_take.1 hp)
  rw [List.drop_take, e]
  congr 1
  unfold cutN
  have : (Lib.cut (s.drop a) [32, 35]).1.length = ((s.drop a).take (Lib.cut (s.drop a) [32, 35]).1.length).length := by rw [← e]
  omega
theorem bare_text {s : Bs} {a : Nat} (h : a ≤ s.length) : (s.take (tEnd s a (cutN s a))).drop a = Lib.trimRightB (Lib.cut (s.drop a) [32, 35]).1 32 := by
  have hb := cutN_bd h
  rw [tEnd_trim s a _ hb.1 hb.2, cutN_text h]
theorem readQ_shift (d : Int) : ∀ (k : Nat) (t : Bs) (n : Int) (acc : Bs), t.length ≤ k → readQ t (n + d) acc = ((readQ t n acc).1, (readQ t n acc).2.1 + d, (readQ t n acc).2.2)
  | k, [], n, acc, _ => by rw [readQ_nil, readQ_nil]
  | 0, b :: t, n, acc, h => by simp at h
  | k + 1, b :: t, n, acc, h => by
    rw [readQ_cons, readQ_cons]
    have e1 : n + d + 1 = n + 1 + d := by omega
    have e2 : n + d + 1 + (escS t).2 = n + 1 + (escS t).2 + d := by omega
    simp only [List.length_cons] at h
    split
    · rw [e1]
    split
    · split
      · rfl
      · rw [e2, readQ_shift d k _ _ _ (by simp; omega)]
    · rw [e1, readQ_shift d k _ _ _ (by omega)]
theorem readQ_at {s : Bs} {g : Nat} (h : g < s.length) : readQ (s.drop (g + 1)) (g + 1) [] = ((quoteR (s.drop g)).1, (quoteR (s.drop g)).2.1 + g, (quoteR (s.drop g)).2.2) := by
  have e : quoteR (s.drop g) = readQ (s.drop (g + 1)) 1 [] := by
    unfold quoteR
    rw [if_neg, List.drop_drop]
    intro q
    have := congrArg List.length q
    simp at this
    omega
  have e2 : ((g : Int) + 1) = 1 + (g : Int) := by omega
  rw [e, e2, readQ_shift g _ _ 1 [] (Nat.le_refl _)]
theorem resATT {P : Program} {fn : Func} {N n : Nat} {ρ : Env} {w : World} {t u v b : Nat} {ty : TypeId} {vs : List Value} {x y : Value} (h : fn.results = #[.cell t ty, .tmp u, .tmp v]) (hp : lk ρ t = some (PB b)) (hx : lk ρ u = some x) (hy : lk ρ v = some y) (hc : Cells w b vs) (hn : vs.length = n := by rfl) (ht : agB P ty n = true := by kernel_rfl) : Res P fn N ρ w (.tuple #[.agg vs.toArray, x, y]) := fun a ds ha => by
  have h1 := ha.val t _ hp
  have h3 := ha.val u _ hx
  have h4 := ha.val v _ hy
  have h2 : (loadVar ty ⟨b, 0, none⟩).run P w = .ok (.agg vs.toArray) w := run_loadVar_ag (agB_of ht) ⟨b, 0, none⟩ vs hn (fun j v hj => by rw [add_off, Nat.zero_add]; exact hc j v hj)
  simp only [results, h]
  simp at h1 h3 h4
  simp [h1, h2, h3, h4, asAddr]
/-! ### 2. value -/
def valC : Oc → Ct × Int × Int
  | .err why col => (ct0, col, why)
  | .ok _ o => (o, 0, 0)
set_option maxHeartbeats 1600000 in
theorem rvalue_cv (s : Bs) (a : Nat) (o : Ct) (ho : o.value = []) (ha : a ≤ s.length) (hl : s.length ≤ 1000000) (w0 : World) :
    Cv Tryz.prog 116 [S s, .int .i64 a, .agg o.cs.toArray] (.tuple #[.agg (valC (valueS s (gapN s a) o)).1.cs.toArray, .int .i64 (valC (valueS s (gapN s a) o)).2.1, .int .i64 (valC (valueS s (gapN s a) o)).2.2]) w0 := by
  intro w hk
  refine calls_of_Wp (vs := [_, _, _]) Tryz.func116 ?_
  refine Wp.seq (Wp.regionL (l := [0, 1, 2, 3]) (WO.act (hc := rfl) (he := Ef.boxL (o.cs) (St.init w) (fun ba1 wa1 ka1 hsa1 => WO.act (hc := rfl) (he := Ef.allocL (vs := [.int .i64 0, S [], .bool false, S [], .int .i64 0, .int .i64 0, .int .i64 0]) hsa1 (fun ba2 wa2 ka2 hsa2 => WO.rd (is := [2, 3]) (js := []) (((Keep.refl _).trans ka1).trans ka2) (Rn.s rfl Yv.as (Rn.s rfl Yv.as (Rn.nil))) (WO.done ?_)))))))
  have hst : St w [] wa2 [Ch.cells ba1 131 o.cs, Ch.cells ba2 131 ct0.cs] := hsa2.pick [1, 0]
  have hg := gapN_le s a ha
  refine Wp.seq (Wp.regionL (l := [0, 1, 2, 3]) (WO.rd (is := [0, 1]) (js := [2, 3]) (Keep.refl _) (Rn.s rfl Yv.mv (Rn.s rfl Yv.mv (Rn.nil))) (WO.cv rfl (rskip_cv s a hl ha _) (Keep.refl _) (FnOk.of Tryz.func136) (fun wx1 kx1 => WO.rd (is := [3]) (js := []) ((Keep.refl _).trans kx1) (Rn.s rfl Yv.as (Rn.nil)) (WO.done ?_)))))
  obtain ⟨g, hge⟩ : ∃ g, g = gapN s a := ⟨_, rfl⟩
  rw [← hge] at hg ⊢
  clear hge
  have hst := hst.quiet kx1
  obtain ⟨-, hgl⟩ := hg
  refine Wp.seq (Wp.seq (Wp.reads (is := [0, 1, 2, 3, 4, 5, 6, 7, 8, 9]) (Keep.refl _) (Rn.s rfl Yv.mv (Rn.s rfl Yv.mv (Rn.s rfl Yv.len_s (Rn.s rfl (Yv.cmp _ rfl) (Rn.s rfl Yv.mv (Rn.or (is := [5, 6, 7, 8, 9]) (js := []) (t := 21) (d := 26) (hg := rfl) (hf := fun h4 => have h4 := ne_of_beq_false h4; Rn.s rfl Yv.mv (Rn.s rfl Yv.mv (Rn.s rfl (Yv.ix (by omega) (by omega)) (Rn.s rfl (Yv.cmp _ rfl) (Rn.s rfl Yv.pick_f ((Rn.e 5 rfl rfl))))))) (ht := fun _ => Rn.no rfl (Rn.no rfl (Rn.no rfl (Rn.no rfl (Rn.s rfl Yv.pick_t (Rn.e 5 rfl rfl)))))) (k := Rn.nil))))))) ?_))
  refine Wp.cond rfl (fun h => ?_) (fun h => ?_)
  · have h : s.length ≤ g ∨ byt s g = 35 := by
      simp only [Bool.or_eq_true, beq_iff_eq] at h
      omega
    rw [valueS, if_pos h]
    have c5 := hst.cells 0
    refine Wp.seq (Wp.regionL (l := [0, 1, 2, 3]) (WO.rd (is := [0]) (js := [1, 2, 3]) (Keep.refl _) (Rn.s rfl (Yv.ldb c5) (Rn.nil)) (WO.act (hc := rfl) (he := Ef.stores hst 1 (fun wy1 hsy1 => WO.rd (is := [2, 3]) (js := []) (Keep.refl _) (Rn.s rfl Yv.as (Rn.s rfl Yv.as (Rn.nil))) (WO.done ?_))))))
    exact Wp.ret (Fin.ret (resATT rfl rfl rfl rfl (hsy1.cells 0)) ⟨rfl, hsy1.keep⟩)
  have h : ¬ (s.length ≤ g ∨ byt s g = 35) := by
    simp only [Bool.or_eq_false_iff, beq_eq_false_iff_ne] at h
    omega
  have hgl2 : g < s.length := by omega
  refine Wp.skip (Wp.seq (Wp.regionL (l := [0, 1]) (WO.rd (is := [0]) (js := [1]) (Keep.refl _) (Rn.s rfl (Yv.fa (off := 2)) (Rn.nil)) (WO.act (hc := rfl) (he := Ef.store hst 0 (fun wb1 hsb1 => WO.done ?_))))))
  refine Wp.seq (Wp.regionL (l := [0, 1, 2, 3]) (WO.rd (is := [0, 1, 2]) (js := [3]) (Keep.refl _) (Rn.s rfl Yv.mv (Rn.s rfl (Yv.add (by unfold inI; omega)) (Rn.s rfl (Yv.fa (off := 6)) (Rn.nil)))) (WO.act (hc := rfl) (he := Ef.store hsb1 0 (fun wc1 hsc1 => WO.done ?_)))))
  obtain ⟨o2, ho2⟩ : ∃ o2 : Ct, o2 = { o with has := true, val := (g : Int) + 1 } := ⟨_, rfl⟩
  have hst : St w [] wc1 [Ch.cells ba1 131 o2.cs, Ch.cells ba2 131 ct0.cs] := by rw [ho2]; exact hsc1
  refine Wp.seq (Wp.seq (Wp.reads (is := [0, 1, 2, 3]) (Keep.refl _) (Rn.s rfl Yv.mv (Rn.s rfl Yv.mv (Rn.s rfl (Yv.ix (by omega) (by omega)) (Rn.s rfl (Yv.cmp _ rfl) (Rn.nil))))) ?_))
  refine Wp.cond rfl (fun h2 => ?_) (fun h2 => ?_)
  · have h2 : byt s g = 34 := eq_of_beq h2
    have hq := quoteR_bd (s.drop g)
    simp only [List.length_drop] at hq
    have e0 : valueS s g o = if (quoteR (s.drop g)).2.2 then
      if gapN s (g + (quoteR (s.drop g)).2.1.toNat) < s.length ∧ (byt s (gapN s (g + (quoteR (s.drop g)).2.1.toNat)) ≠ 35 ∨ gapN s (g + (quoteR (s.drop g)).2.1.toNat) = g + (quoteR (s.drop g)).2.1.toNat) then .err 22 ((gapN s (g + (quoteR (s.drop g)).2.1.toNat) : Nat) + 1)
      else .ok (gapN s (g + (quoteR (s.drop g)).2.1.toNat)) { o with has := true, val := (g : Int) + 1, value := (quoteR (s.drop g)).1 }
      else .err 21 ((g : Int) + (quoteR (s.drop g)).2.1 + 1) := by rw [valueS, if_neg h, if_neg (by simp [h2])]
    have hqc := rquoted_cv s g g rfl hgl2 (by omega) wc1
    rw [readQ_at hgl2] at hqc
    obtain ⟨v, n, ok, hQ⟩ : ∃ v n ok, quoteR (s.drop g) = (v, n, ok) := ⟨_, _, _, rfl⟩
    rw [hQ] at hq e0 hqc
    simp only at hq e0 hqc
    refine Wp.seq (Wp.regionL (l := [0, 1, 2, 3, 4, 5, 6, 7, 8, 9]) (WO.rd (is := [0, 1]) (js := [2, 3, 4, 5, 6, 7, 8, 9]) (Keep.refl _) (Rn.s rfl Yv.mv (Rn.s rfl Yv.mv (Rn.nil))) (WO.cv rfl hqc (Keep.refl _) (FnOk.of Tryz.func117) (fun wy1 ky1 => WO.rd (is := [3, 4, 5, 6, 7, 8, 9]) (js := []) ((Keep.refl _).trans ky1) (Rn.s rfl Yv.mv (Rn.s rfl Yv.ex (Rn.s rfl Yv.ex (Rn.s rfl Yv.ex (Rn.s rfl Yv.as (Rn.s rfl Yv.as (Rn.s rfl Yv.as (Rn.nil)))))))) (WO.done ?_)))))
    have hst := hst.quiet ky1
    refine Wp.seq (Wp.seq (Wp.reads (is := [0, 1]) (Keep.refl _) (Rn.s rfl Yv.mv (Rn.s rfl Yv.not (Rn.nil))) ?_))
    cases ok with
    | false =>
      refine Wp.cond_t rfl ?_
      refine Wp.seq (Wp.regionL (l := [0, 1, 2, 3, 4, 5]) (WO.rd (is := [0, 1, 2]) (js := [3, 4, 5]) (Keep.refl _) (Rn.s rfl (Yv.bd (cs := ct0.cs)) (Rn.s rfl Yv.mv (Rn.s rfl (Yv.add (by unfold inI; omega)) (Rn.nil)))) (WO.act (hc := rfl) (he := Ef.stores hst 1 (fun wz1 hsz1 => WO.rd (is := [4, 5]) (js := []) (Keep.refl _) (Rn.s rfl Yv.as (Rn.s rfl Yv.as (Rn.nil))) (WO.done ?_))))))
      refine Wp.ret (Fin.ret (resATT rfl rfl rfl rfl (hsz1.cells 0)) ⟨?_, hsz1.keep⟩)
      rw [e0]
      have : n + (g : Int) + 1 = (g : Int) + n + 1 := by omega
      rw [this]
      rfl
    | true =>
      refine Wp.cond_f rfl (Wp.skip ?_)
      rw [if_pos rfl] at e0
      obtain ⟨m, hm⟩ : ∃ m : Nat, m = g + n.toNat := ⟨_, rfl⟩
      rw [← hm] at e0
      have e1 : n + (g : Int) = (m : Int) := by omega
      rw [e1]
      have hml : m ≤ s.length := by omega
      have hgm := gapN_le s m hml
      refine Wp.seq (Wp.regionL (l := [0, 1, 2, 3]) (WO.rd (is := [0, 1]) (js := [2, 3]) (Keep.refl _) (Rn.s rfl Yv.mv (Rn.s rfl Yv.mv (Rn.nil))) (WO.cv rfl (rskip_cv s m hl hml _) (Keep.refl _) (FnOk.of Tryz.func136) (fun wz1 kz1 => WO.rd (is := [3]) (js := []) ((Keep.refl _).trans kz1) (Rn.s rfl Yv.as (Rn.nil)) (WO.done ?_)))))
      have hst := hst.quiet kz1
      obtain ⟨E, hE⟩ : ∃ E, E = gapN s m := ⟨_, rfl⟩
      rw [← hE] at e0 hgm ⊢
      refine Wp.seq (Wp.seq (Wp.reads (is := [0, 1, 2, 3, 4, 5, 6, 7, 8, 9, 10, 11, 12, 13, 14]) (Keep.refl _) (Rn.s rfl Yv.mv (Rn.s rfl Yv.mv (Rn.s rfl Yv.len_s (Rn.s rfl (Yv.cmp _ rfl) (Rn.s rfl Yv.mv (Rn.and (is := [5, 6, 7, 8, 9, 10, 11, 12, 13, 14]) (js := []) (t := 55) (d := 65) (hg := rfl) (ht := fun h4 => have h4 := of_decide_eq_true h4; Rn.s rfl Yv.mv (Rn.s rfl Yv.mv (Rn.s rfl (Yv.ix (by omega) (by omega)) (Rn.s rfl (Yv.cmp _ rfl) (Rn.s rfl Yv.mv (Rn.or (is := [10, 11, 12, 13]) (js := [14]) (t := 60) (d := 64) (hg := rfl) (hf := fun h9 => have h9 := bne_eq_false_iff_eq.1 h9; Rn.s rfl Yv.mv (Rn.s rfl Yv.mv (Rn.s rfl (Yv.cmp _ rfl) (Rn.s rfl Yv.pick_f ((Rn.e 4 rfl rfl)))))) (ht := fun _ => Rn.no rfl (Rn.no rfl (Rn.no rfl (Rn.s rfl Yv.pick_t (Rn.e 4 rfl rfl))))) (k := Rn.s rfl Yv.pick_t ((Rn.e 7 rfl rfl))))))))) (hf := fun _ => Rn.no rfl (Rn.no rfl (Rn.no rfl (Rn.no rfl (Rn.no rfl (Rn.no rfl (Rn.no rfl (Rn.no rfl (Rn.no rfl (Rn.s rfl Yv.pick_f (Rn.e 10 rfl rfl))))))))))) (k := Rn.nil))))))) ?_))
      refine Wp.cond rfl (fun h3 => ?_) (fun h3 => ?_)
      · have h3 : E < s.length ∧ (byt s E ≠ 35 ∨ E = m) := by
          simp only [Bool.and_eq_true, Bool.or_eq_true, decide_eq_true_eq, bne_iff_ne, beq_iff_eq] at h3
          omega
        rw [if_pos h3] at e0
        refine Wp.seq (Wp.regionL (l := [0, 1, 2, 3, 4, 5]) (WO.rd (is := [0, 1, 2]) (js := [3, 4, 5]) (Keep.refl _) (Rn.s rfl (Yv.bd (cs := ct0.cs)) (Rn.s rfl Yv.mv (Rn.s rfl (Yv.add (by unfold inI; omega)) (Rn.nil)))) (WO.act (hc := rfl) (he := Ef.stores hst 1 (fun wz1 hsz1 => WO.rd (is := [4, 5]) (js := []) (Keep.refl _) (Rn.s rfl Yv.as (Rn.s rfl Yv.as (Rn.nil))) (WO.done ?_))))))
        refine Wp.ret (Fin.ret (resATT rfl rfl rfl rfl (hsz1.cells 0)) ⟨?_, hsz1.keep⟩)
        rw [e0]
        rfl
      · have h3 : ¬ (E < s.length ∧ (byt s E ≠ 35 ∨ E = m)) := by
          simp only [Bool.and_eq_false_iff, Bool.or_eq_false_iff, decide_eq_false_iff_not, bne_eq_false_iff_eq, beq_eq_false_iff_ne] at h3
          omega
        rw [if_neg h3] at e0
        refine Wp.skip (Wp.seq (Wp.regionL (l := [0, 1, 2]) (WO.rd (is := [0, 1]) (js := [2]) (Keep.refl _) (Rn.s rfl Yv.mv (Rn.s rfl (Yv.fa (off := 3)) (Rn.nil))) (WO.act (hc := rfl) (he := Ef.store hst 0 (fun wz1 hsz1 => WO.done ?_))))))
        have hst : St w [] wz1 [Ch.cells ba1 131 (Ct.cs { o with has := true, val := (g : Int) + 1, value := v }), Ch.cells ba2 131 ct0.cs] := by rw [ho2] at hsz1; exact hsz1
        have c5 := hst.cells 0
        refine Wp.seq (Wp.regionL (l := [0, 1, 2, 3]) (WO.rd (is := [0]) (js := [1, 2, 3]) (Keep.refl _) (Rn.s rfl (Yv.ldb c5) (Rn.nil)) (WO.act (hc := rfl) (he := Ef.stores hst 1 (fun wu1 hsu1 => WO.rd (is := [2, 3]) (js := []) (Keep.refl _) (Rn.s rfl Yv.as (Rn.s rfl Yv.as (Rn.nil))) (WO.done ?_))))))
        refine Wp.ret (Fin.ret (resATT rfl rfl rfl rfl (hsu1.cells 0)) ⟨?_, hsu1.keep⟩)
        rw [e0]
        rfl
  have h2 : byt s g ≠ 34 := ne_of_beq_false h2
  have e0 : valueS s g o = .ok g (bareS s g o2) := by rw [valueS, if_neg h, if_pos h2, ho2]
  rw [e0]
  refine Wp.skip (Wp.seq (Wp.reads (is := [0, 1]) (Keep.refl _) (Rn.s rfl Yv.mv (Rn.s rfl Yv.as (Rn.nil))) ?_))
  refine Wp.seq (Wp.block ?_)
  refine Wp.loop (α := Nat) (fun k ρ ds w' => ds = [] ∧ wc1 = w' ∧ g ≤ k ∧ k ≤ s.length ∧ cutN s k = cutN s g ∧ Sub [(0, S s), (1, .int .i64 (g : Int)), (5, PB ba1), (6, PB ba2), (13, .int .i64 (k : Int))] ρ) (fun k => s.length - k) g
    ⟨rfl, rfl, Nat.le_refl _, hgl, rfl, rfl, rfl, rfl, rfl, rfl, trivial⟩ ?_
  rintro k ρ ds w' ⟨rfl, rfl, hk0, hk1, hcn, hs⟩
  refine Wp.forget _ ?_ hs
  refine Wp.seq (Wp.seq (Wp.reads (is := [0, 1, 2, 3, 4, 5, 6, 7, 8, 9, 10, 11, 12, 13, 14, 15, 16, 17, 18, 19, 20, 21, 22, 23, 24]) (Keep.refl _) (Rn.s rfl Yv.mv (Rn.s rfl Yv.mv (Rn.s rfl Yv.len_s (Rn.s rfl (Yv.cmp _ rfl) (Rn.s rfl Yv.mv (Rn.and (is := [5, 6, 7, 8, 9, 10, 11, 12, 13, 14, 15, 16, 17, 18, 19, 20, 21, 22, 23, 24]) (js := []) (t := 77) (d := 97) (hg := rfl) (ht := fun h4 => have h4 := of_decide_eq_true h4; Rn.s rfl Yv.mv (Rn.s rfl Yv.mv (Rn.s rfl (Yv.ix (by omega) (by omega)) (Rn.s rfl (Yv.cmp _ rfl) (Rn.s rfl Yv.mv (Rn.and (is := [10, 11, 12, 13, 14, 15]) (js := [16, 17, 18, 19, 20, 21, 22, 23, 24]) (t := 82) (d := 88) (hg := rfl) (ht := fun h9 => have h9 := eq_of_beq h9; Rn.s rfl Yv.mv (Rn.s rfl (Yv.add (by unfold inI; omega)) (Rn.s rfl Yv.mv (Rn.s rfl Yv.len_s (Rn.s rfl (Yv.cmp _ rfl) (Rn.s rfl Yv.pick_t ((Rn.e 6 rfl rfl)))))))) (hf := fun _ => Rn.no rfl (Rn.no rfl (Rn.no rfl (Rn.no rfl (Rn.no rfl (Rn.s rfl Yv.pick_f (Rn.e 6 rfl rfl))))))) (k := Rn.s rfl Yv.mv (Rn.and (is := [17, 18, 19, 20, 21, 22]) (js := [23, 24]) (t := 89) (d := 95) (hg := rfl) (ht := fun h16 => have h16 : (k : Int) + 1 < (s.length : Int) := (by simp only [Bool.and_eq_true, decide_eq_true_eq] at h16; exact h16.2); Rn.s rfl Yv.mv (Rn.s rfl Yv.mv (Rn.s rfl (Yv.add (by unfold inI; omega)) (Rn.s rfl (Yv.ix (by omega) (by omega)) (Rn.s rfl (Yv.cmp _ rfl) (Rn.s rfl Yv.pick_t ((Rn.e 6 rfl rfl)))))))) (hf := fun _ => Rn.no rfl (Rn.no rfl (Rn.no rfl (Rn.no rfl (Rn.no rfl (Rn.s rfl Yv.pick_f (Rn.e 6 rfl rfl))))))) (k := Rn.s rfl Yv.not (Rn.s rfl Yv.pick_t ((Rn.e 10 rfl rfl)))))))))))) (hf := fun _ => Rn.no rfl (Rn.no rfl (Rn.no rfl (Rn.no rfl (Rn.no rfl (Rn.no rfl (Rn.no rfl (Rn.no rfl (Rn.no rfl (Rn.no rfl (Rn.no rfl (Rn.no rfl (Rn.no rfl (Rn.no rfl (Rn.no rfl (Rn.no rfl (Rn.no rfl (Rn.no rfl (Rn.no rfl (Rn.s rfl Yv.pick_f (Rn.e 20 rfl rfl))))))))))))))))))))) (k := Rn.nil))))))) ?_))
  refine Wp.cond rfl (fun h3 => ?_) (fun h3 => ?_)
  · simp only [Bool.and_eq_true, decide_eq_true_eq, Bool.not_eq_true', Bool.and_eq_false_iff, beq_eq_false_iff_ne, decide_eq_false_iff_not] at h3
    have hkl : k < s.length := by omega
    rw [cutN_step hkl, if_neg] at hcn
    · refine Wp.skip (Wp.block (Wp.reads (is := [0, 1, 2]) (Keep.refl _) (Rn.s rfl Yv.mv (Rn.s rfl (Yv.add (by unfold inI; omega)) (Rn.s rfl Yv.as (Rn.nil)))) ?_))
      exact ⟨k + 1, ⟨rfl, rfl, by omega, hkl, hcn, rfl, rfl, rfl, rfl, rfl, trivial⟩, by omega⟩
    · rintro ⟨q1, q2⟩
      have hk1l : k + 1 < s.length := (List.getElem?_eq_some_iff.1 q2).1
      have b1 := (byt_eq_iff hkl 32).2 q1
      have b2 : byt s ((k : Int) + 1) = 35 := by
        have := byt_of q2
        simpa using this
      rcases h3.2 with (h4 | h4) | h4
      · exact h4 b1
      · omega
      · exact h4 b2
  have hke : k = cutN s g := by
    rw [← hcn]
    by_cases hkl : k < s.length
    · have h4 : byt s k = 32 ∧ (k : Int) + 1 < s.length ∧ byt s ((k : Int) + 1) = 35 := by
        have : decide ((k : Int) < (s.length : Int)) = true := by simpa using hkl
        rw [this, Bool.true_and] at h3
        simp only [Bool.not_eq_false', Bool.and_eq_true, beq_iff_eq, decide_eq_true_eq] at h3
        exact ⟨h3.1.1, h3.1.2, h3.2⟩
      have hk1l : k + 1 < s.length := by omega
      rw [cutN_step hkl, if_pos]
      refine ⟨(byt_eq_iff hkl 32).1 h4.1, ?_⟩
      rw [List.getElem?_eq_getElem hk1l]
      have := (byt_eq_iff hk1l 35).1 (by have := h4.2.2; simpa using this)
      rw [this]
    · exact (cutN_end (by omega)).symm
  subst hke
  clear h3 hcn hs ρ hk0 hk1
  have hcb := cutN_bd hgl
  refine Wp.exit ?_
  refine Wp.seq (Wp.block ?_)
  refine Wp.loop (α := Nat) (fun b ρ ds w' => ds = [] ∧ wc1 = w' ∧ g ≤ b ∧ b ≤ s.length ∧ tEnd s g b = tEnd s g (cutN s g) ∧ Sub [(0, S s), (1, .int .i64 (g : Int)), (5, PB ba1), (6, PB ba2), (13, .int .i64 (b : Int))] ρ) (fun b => b) (cutN s g)
    ⟨rfl, rfl, hcb.1, hcb.2, rfl, rfl, rfl, rfl, rfl, rfl, trivial⟩ ?_
  rintro b ρ ds w' ⟨rfl, rfl, hb0, hb1, hte, hs⟩
  refine Wp.forget _ ?_ hs
  refine Wp.seq (Wp.seq (Wp.reads (is := [0, 1, 2, 3, 4, 5, 6, 7, 8, 9]) (Keep.refl _) (Rn.s rfl Yv.mv (Rn.s rfl Yv.mv (Rn.s rfl (Yv.cmp _ rfl) (Rn.s rfl Yv.mv (Rn.and (is := [4, 5, 6, 7, 8, 9]) (js := []) (t := 103) (d := 109) (hg := rfl) (ht := fun h3 => have h3 := of_decide_eq_true h3; Rn.s rfl Yv.mv (Rn.s rfl Yv.mv (Rn.s rfl (Yv.sub ⟨by omega, by omega⟩) (Rn.s rfl (Yv.ix (by omega) (by omega)) (Rn.s rfl (Yv.cmp _ rfl) (Rn.s rfl Yv.pick_t ((Rn.e 6 rfl rfl)))))))) (hf := fun _ => Rn.no rfl (Rn.no rfl (Rn.no rfl (Rn.no rfl (Rn.no rfl (Rn.s rfl Yv.pick_f (Rn.e 6 rfl rfl))))))) (k := Rn.nil)))))) ?_))
  refine Wp.cond rfl (fun h3 => ?_) (fun h3 => ?_)
  · simp only [Bool.and_eq_true, decide_eq_true_eq, beq_iff_eq] at h3
    obtain ⟨b', rfl⟩ : ∃ b', b = b' + 1 := ⟨b - 1, by omega⟩
    have e1 : ((b' + 1 : Nat) : Int) - 1 = (b' : Int) := by omega
    rw [e1] at h3
    rw [tEnd, if_pos ⟨by omega, h3.2⟩] at hte
    refine Wp.skip (Wp.block (Wp.reads (is := [0, 1, 2]) (Keep.refl _) (Rn.s rfl Yv.mv (Rn.s rfl (Yv.sub (by unfold inI; omega)) (Rn.s rfl Yv.as (Rn.nil)))) ?_))
    exact ⟨b', ⟨rfl, rfl, by omega, by omega, hte, rfl, rfl, rfl, rfl, by rw [← e1]; rfl, trivial⟩, by omega⟩
  have e2 : tEnd s g b = b := by
    cases b with
    | zero => rfl
    | succ b' =>
      rw [tEnd, if_neg]
      rintro ⟨q1, q2⟩
      have e1 : ((b' + 1 : Nat) : Int) - 1 = (b' : Int) := by omega
      rw [e1] at h3
      simp only [Bool.and_eq_false_iff, decide_eq_false_iff_not, beq_eq_false_iff_ne] at h3
      rcases h3 with h3 | h3
      · omega
      · exact h3 q2
  rw [e2] at hte
  have htx : (s.take b).drop g = Lib.trimRightB (Lib.cut (s.drop g) [32, 35]).1 32 := by rw [hte]; exact bare_text hgl
  refine Wp.exit ?_
  refine Wp.seq (Wp.regionL (l := [0, 1, 2, 3, 4, 5]) (WO.rd (is := [0, 1, 2, 3, 4]) (js := [5]) (Keep.refl _) (Rn.s rfl Yv.mv (Rn.s rfl Yv.mv (Rn.s rfl Yv.mv (Rn.s rfl (Yv.ss_ft (by omega) (by omega) (by omega)) (Rn.s rfl (Yv.fa (off := 3)) (Rn.nil)))))) (WO.act (hc := rfl) (he := Ef.store hst 0 (fun wy1 hsy1 => WO.done ?_)))))
  rw [Int.toNat_natCast, Int.toNat_natCast, htx] at hsy1
  unfold bareS
  obtain ⟨T, hT⟩ : ∃ T, T = Lib.trimRightB (Lib.cut (s.drop g) [32, 35]).1 32 := ⟨_, rfl⟩
  simp only [← hT] at hsy1 ⊢
  have hst : St w [] wy1 [Ch.cells ba1 131 (Ct.cs { o2 with value := T }), Ch.cells ba2 131 ct0.cs] := hsy1
  have c5 := hst.cells 0
  have hv2 : o2.value = [] := by rw [ho2]; exact ho
  refine Wp.seq (Wp.seq (Wp.reads (is := [0, 1, 2]) (Keep.refl _) (Rn.s rfl (Yv.fa (off := 3)) (Rn.s rfl (Yv.ld (c5.at_ 3)) (Rn.s rfl (Yv.scm _ rfl) (Rn.nil)))) ?_))
  refine Wp.cond rfl (fun h3 => ?_) (fun h3 => ?_)
  · have h3 : T = [91, 93] := by simpa using h3
    rw [if_pos h3]
    refine Wp.seq (Wp.regionL (l := [0, 1]) (WO.rd (is := [0]) (js := [1]) (Keep.refl _) (Rn.s rfl (Yv.fa (off := 3)) (Rn.nil)) (WO.act (hc := rfl) (he := Ef.store hst 0 (fun wz1 hsz1 => WO.done ?_)))))
    refine Wp.regionL (l := [0, 1]) (WO.rd (is := [0]) (js := [1]) (Keep.refl _) (Rn.s rfl (Yv.fa (off := 4)) (Rn.nil)) (WO.act (hc := rfl) (he := Ef.store hsz1 0 (fun wu1 hsu1 => WO.done ?_))))
    have hst : St w [] wu1 [Ch.cells ba1 131 (Ct.cs { o2 with value := [], empty := 1 }), Ch.cells ba2 131 ct0.cs] := hsu1
    have c5 := hst.cells 0
    refine Wp.seq (Wp.seq (Wp.reads (is := [0, 1, 2]) (Keep.refl _) (Rn.s rfl (Yv.fa (off := 3)) (Rn.s rfl (Yv.ld (c5.at_ 3)) (Rn.s rfl (Yv.scm _ rfl) (Rn.nil)))) ?_))
    refine Wp.cond_f rfl (Wp.skip ?_)
    refine Wp.seq (Wp.regionL (l := [0, 1, 2, 3]) (WO.rd (is := [0]) (js := [1, 2, 3]) (Keep.refl _) (Rn.s rfl (Yv.ldb c5) (Rn.nil)) (WO.act (hc := rfl) (he := Ef.stores hst 1 (fun wv1 hsv1 => WO.rd (is := [2, 3]) (js := []) (Keep.refl _) (Rn.s rfl Yv.as (Rn.s rfl Yv.as (Rn.nil))) (WO.done ?_))))))
    refine Wp.ret (Fin.ret (resATT rfl rfl rfl rfl (hsv1.cells 0)) ⟨?_, hsv1.keep⟩)
    have : ({ o2 with value := [], empty := 1 } : Ct) = { o2 with empty := 1 } := by rw [← hv2]
    rw [this]; rfl
  have h3 : T ≠ [91, 93] := by simpa using h3
  rw [if_neg h3]
  refine Wp.skip (Wp.seq (Wp.seq (Wp.reads (is := [0, 1, 2]) (Keep.refl _) (Rn.s rfl (Yv.fa (off := 3)) (Rn.s rfl (Yv.ld (c5.at_ 3)) (Rn.s rfl (Yv.scm _ rfl) (Rn.nil)))) ?_)))
  refine Wp.cond rfl (fun h4 => ?_) (fun h4 => ?_)
  · have h4 : T = [123, 125] := by simpa using h4
    rw [if_pos h4]
    refine Wp.seq (Wp.regionL (l := [0, 1]) (WO.rd (is := [0]) (js := [1]) (Keep.refl _) (Rn.s rfl (Yv.fa (off := 3)) (Rn.nil)) (WO.act (hc := rfl) (he := Ef.store hst 0 (fun wz1 hsz1 => WO.done ?_)))))
    refine Wp.regionL (l := [0, 1]) (WO.rd (is := [0]) (js := [1]) (Keep.refl _) (Rn.s rfl (Yv.fa (off := 4)) (Rn.nil)) (WO.act (hc := rfl) (he := Ef.store hsz1 0 (fun wu1 hsu1 => WO.done ?_))))
    have hst : St w [] wu1 [Ch.cells ba1 131 (Ct.cs { o2 with value := [], empty := 2 }), Ch.cells ba2 131 ct0.cs] := hsu1
    have c5 := hst.cells 0
    refine Wp.seq (Wp.regionL (l := [0, 1, 2, 3]) (WO.rd (is := [0]) (js := [1, 2, 3]) (Keep.refl _) (Rn.s rfl (Yv.ldb c5) (Rn.nil)) (WO.act (hc := rfl) (he := Ef.stores hst 1 (fun wv1 hsv1 => WO.rd (is := [2, 3]) (js := []) (Keep.refl _) (Rn.s rfl Yv.as (Rn.s rfl Yv.as (Rn.nil))) (WO.done ?_))))))
    refine Wp.ret (Fin.ret (resATT rfl rfl rfl rfl (hsv1.cells 0)) ⟨?_, hsv1.keep⟩)
    have : ({ o2 with value := [], empty := 2 } : Ct) = { o2 with empty := 2 } := by rw [← hv2]
    rw [this]; rfl
  have h4 : T ≠ [123, 125] := by simpa using h4
  rw [if_neg h4]
  refine Wp.skip (Wp.seq (Wp.regionL (l := [0, 1, 2, 3]) (WO.rd (is := [0]) (js := [1, 2, 3]) (Keep.refl _) (Rn.s rfl (Yv.ldb c5) (Rn.nil)) (WO.act (hc := rfl) (he := Ef.stores hst 1 (fun wv1 hsv1 => WO.rd (is := [2, 3]) (js := []) (Keep.refl _) (Rn.s rfl Yv.as (Rn.s rfl Yv.as (Rn.nil))) (WO.done ?_)))))))
  exact Wp.ret (Fin.ret (resATT rfl rfl rfl rfl (hsv1.cells 0)) ⟨rfl, hsv1.keep⟩)
end Go.Proofs.YtgjhbapbomdpbaaGreatDoor.C
/- The document's reader of a line's text: Read. -/
set_option linter.unusedVariables false
set_option linter.unusedSimpArgs false
set_option maxRecDepth 10000
namespace Go.Proofs.YtgjhbapbomdpbaaGreatDoor.C
open Go.RowKit Go.Proofs.YtgjhbapbomdpbaaGreatDoor.Sh
theorem pre2 (s : Bs) (x y : UInt8) : Lib.hasPrefix s [x, y] = true ↔ 1 < s.length ∧ byt s 0 = (x.toNat : Int) ∧ byt s 1 = (y.toNat : Int) := by
  match s with
  | [] => simp [Lib.hasPrefix]
  | [a] => simp [Lib.hasPrefix]
  | a :: b :: r =>
    have e0 := byt_eq_iff (s := a :: b :: r) (i := 0) (by simp) x
    have e1 := byt_eq_iff (s := a :: b :: r) (i := 1) (by simp) y
    simp only [Int.natCast_zero, Int.natCast_one, List.getElem_cons_zero, List.getElem_cons_succ] at e0 e1
    rw [e0, e1]
    simp [Lib.hasPrefix]
    constructor
    · rintro ⟨h1, h2⟩; exact ⟨h1.symm, h2.symm⟩
    · rintro ⟨h1, h2⟩; exact ⟨h1.symm, h2.symm⟩
theorem pre1 (s : Bs) (x : UInt8) : Lib.hasPrefix s [x] = true ↔ 0 < s.length ∧ byt s 0 = (x.toNat : Int) := by
  match s with
  | [] => simp [Lib.hasPrefix]
  | a :: r =>
    have e0 := byt_eq_iff (s := a :: r) (i := 0) (by simp) x
    simp only [Int.natCast_zero, List.getElem_cons_zero] at e0
    rw [e0]
    simp [Lib.hasPrefix]
    exact ⟨fun h => h.symm, fun h => h.symm⟩
theorem namedN_step {s : Bs} {a : Nat} (h : a < s.length) : namedN s a = if namedB (byt s (a : Int)) = true then namedN s (a + 1) else a := by
  have e := byt_of (List.getElem?_eq_getElem h)
  unfold namedN
  rw [List.drop_eq_getElem_cons h, List.takeWhile_cons, e]
  by_cases q : namedB (s[a].toNat : Int) = true
  · rw [q]; simp; omega
  · have q : namedB (s[a].toNat : Int) = false := by simpa using q
    rw [q]; simp
theorem namedN_end {s : Bs} {a : Nat} (h : s.length ≤ a) : namedN s a = a := by
  unfold namedN
  rw [List.drop_eq_nil_of_le h]; rfl
theorem readC_eq (s : Bs) : readC s = match headS s with
    | .err why col => (ct0, col, why)
    | .ok a o => valC (valueS s (gapN s a.toNat) o) := by
  unfold readC
  cases headS s with
  | err why col => rfl
  | ok a o =>
    simp only
    cases valueS s (gapN s a.toNat) o <;> rfl
set_option maxHeartbeats 1600000 in
theorem rread_cv (s : Bs) (hl : s.length ≤ 1000000) (w0 : World) : Cv Tryz.prog 93 [S s] (.tuple #[.agg (readC s).1.cs.toArray, .int .i64 (readC s).2.1, .int .i64 (readC s).2.2]) w0 := by
  intro w hk
  refine calls_of_Wp (vs := [_]) Tryz.func93 ?_
  refine Wp.seq (Wp.regionL (l := [0, 1, 2]) (WO.act (hc := rfl) (he := Ef.allocL (vs := [.int .i64 0, S [], .bool false, S [], .int .i64 0, .int .i64 0, .int .i64 0]) (St.init w) (fun ba1 wa1 ka1 hsa1 => WO.rd (is := [1, 2]) (js := []) ((Keep.refl _).trans ka1) (Rn.s rfl Yv.as (Rn.s rfl Yv.as (Rn.nil))) (WO.done ?_)))))
  have hst : St w [] wa1 [Ch.cells ba1 131 ct0.cs] := hsa1
  rw [readC_eq]
  refine Wp.seq (Wp.seq (Wp.reads (is := [0, 1, 2, 3, 4, 5, 6, 7, 8, 9, 10, 11, 12, 13, 14, 15, 16]) (Keep.refl _) (Rn.s rfl Yv.mv (Rn.s rfl (Yv.scm _ rfl) (Rn.s rfl Yv.mv (Rn.or (is := [3, 4, 5, 6, 7, 8, 9, 10, 11, 12, 13, 14, 15, 16]) (js := []) (t := 12) (d := 26) (hg := rfl) (hf := fun h2 => Rn.s rfl Yv.mv (Rn.s rfl Yv.len_s (Rn.s rfl (Yv.cmp _ rfl) (Rn.s rfl Yv.mv (Rn.and (is := [7, 8, 9, 10]) (js := [11, 12, 13, 14, 15, 16]) (t := 16) (d := 20) (hg := rfl) (ht := fun h6 => have h6 := of_decide_eq_true h6; Rn.s rfl Yv.mv (Rn.s rfl (Yv.ix (by omega) (by omega)) (Rn.s rfl (Yv.cmp _ rfl) (Rn.s rfl Yv.pick_t ((Rn.e 4 rfl rfl)))))) (hf := fun _ => Rn.no rfl (Rn.no rfl (Rn.no rfl (Rn.s rfl Yv.pick_f (Rn.e 4 rfl rfl))))) (k := Rn.s rfl Yv.mv (Rn.and (is := [12, 13, 14, 15]) (js := [16]) (t := 21) (d := 25) (hg := rfl) (ht := fun h11 => have h11 : (1 : Int) < (s.length : Int) := (by simp only [Bool.and_eq_true, decide_eq_true_eq] at h11; exact h11.1); Rn.s rfl Yv.mv (Rn.s rfl (Yv.ix (by omega) (by omega)) (Rn.s rfl (Yv.cmp _ rfl) (Rn.s rfl Yv.pick_t ((Rn.e 4 rfl rfl)))))) (hf := fun _ => Rn.no rfl (Rn.no rfl (Rn.no rfl (Rn.s rfl Yv.pick_f (Rn.e 4 rfl rfl))))) (k := Rn.s rfl Yv.pick_f ((Rn.e 8 rfl rfl)))))))))) (ht := fun _ => Rn.no rfl (Rn.no rfl (Rn.no rfl (Rn.no rfl (Rn.no rfl (Rn.no rfl (Rn.no rfl (Rn.no rfl (Rn.no rfl (Rn.no rfl (Rn.no rfl (Rn.no rfl (Rn.no rfl (Rn.s rfl Yv.pick_t (Rn.e 14 rfl rfl))))))))))))))) (k := Rn.nil))))) ?_))
  refine Wp.cond rfl (fun h => ?_) (fun h => ?_)
  · have h : s = [45] ∨ Lib.hasPrefix s [45, 32] = true := by
      simp only [Bool.or_eq_true, Bool.and_eq_true, beq_iff_eq, decide_eq_true_eq] at h
      rcases h with h | ⟨⟨h1, h2⟩, h3⟩
      · exact .inl h
      · exact .inr ((pre2 s 45 32).2 ⟨by omega, h2, h3⟩)
    have hls : 1 ≤ s.length := by
      rcases h with h | h
      · rw [h]; simp
      · have := (pre2 s 45 32).1 h; omega
    have e : headS s = .ok 1 ⟨2, [], false, [], 0, 1, 0⟩ := by unfold headS; rw [if_pos h]
    rw [e]
    have hv := rvalue_cv s 1 ⟨2, [], false, [], 0, 1, 0⟩ rfl hls hl wa1
    refine Wp.seq (Wp.regionL (l := [0, 1, 2, 3, 4, 5, 6, 7, 8]) (WO.rd (is := [0, 1]) (js := [2, 3, 4, 5, 6, 7, 8]) (Keep.refl _) (Rn.s rfl Yv.mv (Rn.s rfl (Yv.bd (cs := Ct.cs ⟨2, [], false, [], 0, 1, 0⟩)) (Rn.nil))) (WO.cv rfl hv (Keep.refl _) (FnOk.of Tryz.func116) (fun wx1 kx1 => WO.rd (is := [3, 4, 5]) (js := [6, 7, 8]) ((Keep.refl _).trans kx1) (Rn.s rfl Yv.ex (Rn.s rfl Yv.ex (Rn.s rfl Yv.ex (Rn.nil)))) (WO.act (hc := rfl) (he := Ef.stores (hst.quiet kx1) 0 (fun wx2 hsx2 => WO.rd (is := [7, 8]) (js := []) (Keep.refl _) (Rn.s rfl Yv.as (Rn.s rfl Yv.as (Rn.nil))) (WO.done ?_))))))))
    exact Wp.ret (Fin.ret (resATT rfl rfl rfl rfl (hsx2.cells 0)) ⟨rfl, hsx2.keep⟩)
  have h : ¬ (s = [45] ∨ Lib.hasPrefix s [45, 32] = true) := by
    rintro (q | q)
    · rw [q] at h; simp at h
    · obtain ⟨q1, q2, q3⟩ := (pre2 s 45 32).1 q
      have q1 : (1 : Int) < (s.length : Int) := by omega
      have q2 : byt s 0 = 45 := q2
      have q3 : byt s 1 = 32 := q3
      simp [q1, q2, q3] at h
  refine Wp.skip (Wp.seq (Wp.regionL (l := [0, 1, 2]) (WO.rd (is := [0]) (js := [1, 2]) (Keep.refl _) (Rn.s rfl (Yv.bd (cs := Ct.cs (o1 []))) (Rn.nil)) (WO.act (hc := rfl) (he := Ef.allocL (vs := [.int .i64 0, S [], .bool false, S [], .int .i64 0, .int .i64 0, .int .i64 0]) hst (fun bb1 wb1 kb1 hsb1 => WO.act (hc := rfl) (he := Ef.stores hsb1 0 (fun wb2 hsb2 => WO.done ?_))))))))
  have hst : St w [] wb2 [Ch.cells bb1 131 (Ct.cs (o1 [])), Ch.cells ba1 131 ct0.cs] := hsb2
  refine Wp.seq (Wp.reads (is := [0]) (Keep.refl _) (Rn.s rfl Yv.as (Rn.nil)) ?_)
  refine Wp.seq (Wp.mid (fun ρ ds w' => ds = [] ∧ ∃ (n : Nat) (key : Bs), n ≤ s.length ∧ headS s = tailS s n key ∧ St w [] w' [Ch.cells bb1 131 (Ct.cs (o1 key)), Ch.cells ba1 131 ct0.cs] ∧ Sub [(0, S s), (2, PB ba1), (5, PB bb1), (6, .int .i64 (n : Int))] ρ) ?_ ?_)
  · refine Wp.seq (Wp.reads (is := [0, 1, 2, 3, 4, 5, 6, 7]) (Keep.refl _) (Rn.s rfl Yv.mv (Rn.s rfl Yv.len_s (Rn.s rfl (Yv.cmp _ rfl) (Rn.s rfl Yv.mv (Rn.and (is := [4, 5, 6, 7]) (js := []) (t := 37) (d := 41) (hg := rfl) (ht := fun h3 => have h3 := of_decide_eq_true h3; Rn.s rfl Yv.mv (Rn.s rfl (Yv.ix (by omega) (by omega)) (Rn.s rfl (Yv.cmp _ rfl) (Rn.s rfl Yv.pick_t ((Rn.e 4 rfl rfl)))))) (hf := fun _ => Rn.no rfl (Rn.no rfl (Rn.no rfl (Rn.s rfl Yv.pick_f (Rn.e 4 rfl rfl))))) (k := Rn.nil)))))) ?_)
    refine Wp.cond rfl (fun h2 => ?_) (fun h2 => ?_)
    · have h2 : 0 < s.length ∧ byt s 0 = 34 := by
        simp only [Bool.and_eq_true, beq_iff_eq, decide_eq_true_eq] at h2
        exact ⟨by omega, h2.2⟩
      have h2p : Lib.hasPrefix s [34] = true := (pre1 s 34).2 h2
      have hqc := rquoted_cv s 0 0 rfl h2.1 (by omega) wb2
      have hqa := readQ_at (s := s) (g := 0) h2.1
      rw [hqa, List.drop_zero] at hqc
      have hq := quoteR_bd s
      have e0 : headS s = if (quoteR s).2.2 then if (64 : Int) < (quoteR s).1.length then .err 20 1 else tailS s (quoteR s).2.1.toNat (quoteR s).1 else .err 21 ((quoteR s).2.1 + 1) := by
        unfold headS
        rw [if_neg h, if_pos h2p]
      obtain ⟨v, n, ok, hQ⟩ : ∃ v n ok, quoteR s = (v, n, ok) := ⟨_, _, _, rfl⟩
      rw [hQ] at hq e0 hqc
      simp only at hq e0 hqc
      refine Wp.seq (Wp.regionL (l := [0, 1, 2, 3, 4, 5, 6, 7, 8]) (WO.rd (is := [0]) (js := [1, 2, 3, 4, 5, 6, 7, 8]) (Keep.refl _) (Rn.s rfl Yv.mv (Rn.nil)) (WO.cv rfl hqc (Keep.refl _) (FnOk.of Tryz.func117) (fun wy1 ky1 => WO.rd (is := [2, 3, 4, 5, 6, 7, 8]) (js := []) ((Keep.refl _).trans ky1) (Rn.s rfl Yv.mv (Rn.s rfl Yv.ex (Rn.s rfl Yv.ex (Rn.s rfl Yv.ex (Rn.s rfl Yv.as (Rn.s rfl Yv.as (Rn.s rfl Yv.as (Rn.nil)))))))) (WO.done ?_)))))
      have hst := hst.quiet ky1
      refine Wp.seq (Wp.seq (Wp.reads (is := [0, 1]) (Keep.refl _) (Rn.s rfl Yv.mv (Rn.s rfl Yv.not (Rn.nil))) ?_))
      cases ok with
      | false =>
        refine Wp.cond_t rfl ?_
        refine Wp.seq (Wp.regionL (l := [0, 1, 2, 3, 4, 5]) (WO.rd (is := [0, 1, 2]) (js := [3, 4, 5]) (Keep.refl _) (Rn.s rfl (Yv.bd (cs := ct0.cs)) (Rn.s rfl Yv.mv (Rn.s rfl (Yv.add (by unfold inI; omega)) (Rn.nil)))) (WO.act (hc := rfl) (he := Ef.stores hst 1 (fun wz1 hsz1 => WO.rd (is := [4, 5]) (js := []) (Keep.refl _) (Rn.s rfl Yv.as (Rn.s rfl Yv.as (Rn.nil))) (WO.done ?_))))))
        refine Wp.ret (Fin.ret (resATT rfl rfl rfl rfl (hsz1.cells 0)) ⟨?_, hsz1.keep⟩)
        rw [e0]
        have : n + ((0 : Nat) : Int) + 1 = n + 1 := by omega
        rw [this]
        rfl
      | true =>
        refine Wp.cond_f rfl (Wp.skip ?_)
        rw [if_pos rfl] at e0
        refine Wp.seq (Wp.seq (Wp.reads (is := [0, 1, 2]) (Keep.refl _) (Rn.s rfl Yv.mv (Rn.s rfl Yv.len_s (Rn.s rfl (Yv.cmp _ rfl) (Rn.nil)))) ?_))
        refine Wp.cond rfl (fun h3 => ?_) (fun h3 => ?_)
        · have h3 := of_decide_eq_true h3
          rw [if_pos h3] at e0
          refine Wp.seq (Wp.regionL (l := [0, 1, 2, 3]) (WO.rd (is := [0]) (js := [1, 2, 3]) (Keep.refl _) (Rn.s rfl (Yv.bd (cs := ct0.cs)) (Rn.nil)) (WO.act (hc := rfl) (he := Ef.stores hst 1 (fun wz1 hsz1 => WO.rd (is := [2, 3]) (js := []) (Keep.refl _) (Rn.s rfl Yv.as (Rn.s rfl Yv.as (Rn.nil))) (WO.done ?_))))))
          refine Wp.ret (Fin.ret (resATT rfl rfl rfl rfl (hsz1.cells 0)) ⟨?_, hsz1.keep⟩)
          rw [e0]
          rfl
        · have h3 := of_decide_eq_false h3
          rw [if_neg h3] at e0
          refine Wp.skip (Wp.seq (Wp.regionL (l := [0, 1, 2]) (WO.rd (is := [0, 1]) (js := [2]) (Keep.refl _) (Rn.s rfl Yv.mv (Rn.s rfl (Yv.fa (off := 1)) (Rn.nil))) (WO.act (hc := rfl) (he := Ef.store hst 0 (fun wz1 hsz1 => WO.done ?_))))))
          refine Wp.reads (is := [0, 1]) (Keep.refl _) (Rn.s rfl Yv.mv (Rn.s rfl Yv.as (Rn.nil))) ?_
          have e1 : n + ((0 : Nat) : Int) = (n.toNat : Int) := by omega
          exact ⟨rfl, n.toNat, v, by omega, e0, hsz1, rfl, rfl, rfl, by rw [← e1]; rfl, trivial⟩
    · have h2p : ¬ Lib.hasPrefix s [34] = true := by
        intro q
        obtain ⟨q1, q2⟩ := (pre1 s 34).1 q
        have q1 : (0 : Int) < (s.length : Int) := by omega
        have q2 : byt s 0 = 34 := q2
        rw [decide_eq_true q1, q2] at h2
        exact absurd h2 (by decide)
      have e0 : headS s = if nameB (s.take (namedN s 0)) then tailS s (namedN s 0) (s.take (namedN s 0)) else .err 20 1 := by
        unfold headS
        rw [if_neg h, if_neg h2p]
      refine Wp.seq (Wp.block ?_)
      refine Wp.loop (α := Nat) (fun k ρ ds w' => ds = [] ∧ k ≤ s.length ∧ namedN s k = namedN s 0 ∧ Keep wb2 w' ∧ Sub [(0, S s), (2, PB ba1), (5, PB bb1), (6, .int .i64 (k : Int))] ρ) (fun k => s.length - k) 0 ⟨rfl, Nat.zero_le _, rfl, Keep.refl _, rfl, rfl, rfl, rfl, trivial⟩ ?_
      rintro k ρ ds w' ⟨rfl, hk1, hg, hkw, hs⟩
      refine Wp.forget _ ?_ hs
      refine Wp.seq (Wp.seq (Wp.regionL (l := [0, 1, 2, 3, 4, 5, 6, 7, 8, 9]) (WO.rd (is := [0, 1, 2, 3, 4]) (js := [5, 6, 7, 8, 9]) (Keep.refl _) (Rn.s rfl Yv.mv (Rn.s rfl Yv.mv (Rn.s rfl Yv.len_s (Rn.s rfl (Yv.cmp _ rfl) (Rn.s rfl Yv.mv (Rn.nil)))))) (WO.and (js := []) 64 69 (hg := rfl) (ht := fun h4 qu1 => have h4 := of_decide_eq_true h4; WO.rd (is := [5, 6, 7]) (js := [8, 9]) (Keep.refl _) (Rn.s rfl Yv.mv (Rn.s rfl Yv.mv (Rn.s rfl (Yv.ix (by omega) (by omega)) (Rn.nil)))) (WO.cv rfl (rnamed_cv (byt s k) _) (Keep.refl _) (FnOk.of Tryz.func118) (fun wu2 ku2 => WO.rd (is := [9]) (js := []) ((Keep.refl _).trans ku2) (Rn.s rfl Yv.pick_t (Rn.nil)) (WO.e 5 (qu1 _ ((Keep.refl _).trans ku2)))))) (hf := fun _ qu1 => WO.rd (is := [5, 6, 7, 8, 9]) (js := []) (Keep.refl _) (Rn.no rfl (Rn.no rfl (Rn.no rfl (Rn.no rfl (Rn.s rfl Yv.pick_f Rn.nil))))) (WO.e 5 (qu1 _ (Keep.refl _)))) (k := fun wu1 ku1 => WO.done ?_)))))
      refine Wp.cond rfl (fun h3 => ?_) (fun h3 => ?_)
      · simp only [Bool.and_eq_true, decide_eq_true_eq] at h3
        have hkl : k < s.length := by omega
        rw [namedN_step hkl, if_pos h3.2] at hg
        refine Wp.skip (Wp.block (Wp.reads (is := [0, 1, 2]) (Keep.refl _) (Rn.s rfl Yv.mv (Rn.s rfl (Yv.add (by unfold inI; omega)) (Rn.s rfl Yv.as (Rn.nil)))) ?_))
        exact ⟨k + 1, ⟨rfl, hkl, hg, hkw.trans ku1, rfl, rfl, rfl, rfl, trivial⟩, by omega⟩
      · have e3 : namedN s 0 = k := by
          rw [← hg]
          by_cases hkl : k < s.length
          · have h5 : decide ((k : Int) < (s.length : Int)) = true := by simpa using hkl
            rw [h5, Bool.true_and] at h3
            rw [namedN_step hkl, if_neg (by rw [h3]; decide)]
          · exact namedN_end (by omega)
        rw [e3] at e0
        have hst := hst.quiet (hkw.trans ku1)
        refine Wp.exit ?_
        refine Wp.seq (Wp.seq (Wp.regionL (l := [0, 1, 2, 3, 4]) (WO.rd (is := [0, 1, 2]) (js := [3, 4]) (Keep.refl _) (Rn.s rfl Yv.mv (Rn.s rfl Yv.mv (Rn.s rfl (Yv.ss_t (by omega) (by omega)) (Rn.nil)))) (WO.cv rfl (rname_cv (s.take (k : Int).toNat) (by simp; omega) _) (Keep.refl _) (FnOk.of Tryz.func119) (fun wv1 kv1 => WO.rd (is := [4]) (js := []) ((Keep.refl _).trans kv1) (Rn.s rfl Yv.not (Rn.nil)) (WO.done ?_))))))
        rw [Int.toNat_natCast]
        have hst := hst.quiet kv1
        cases hnb : nameB (s.take k) with
        | false =>
          refine Wp.cond_t rfl ?_
          refine Wp.seq (Wp.regionL (l := [0, 1, 2, 3]) (WO.rd (is := [0]) (js := [1, 2, 3]) (Keep.refl _) (Rn.s rfl (Yv.bd (cs := ct0.cs)) (Rn.nil)) (WO.act (hc := rfl) (he := Ef.stores hst 1 (fun wz1 hsz1 => WO.rd (is := [2, 3]) (js := []) (Keep.refl _) (Rn.s rfl Yv.as (Rn.s rfl Yv.as (Rn.nil))) (WO.done ?_))))))
          refine Wp.ret (Fin.ret (resATT rfl rfl rfl rfl (hsz1.cells 0)) ⟨?_, hsz1.keep⟩)
          rw [e0, hnb]
          rfl
        | true =>
          refine Wp.cond_f rfl (Wp.skip ?_)
          rw [hnb, if_pos rfl] at e0
          refine Wp.regionL (l := [0, 1, 2, 3, 4]) (WO.rd (is := [0, 1, 2, 3]) (js := [4]) (Keep.refl _) (Rn.s rfl Yv.mv (Rn.s rfl Yv.mv (Rn.s rfl (Yv.ss_t (by omega) (by omega)) (Rn.s rfl (Yv.fa (off := 1)) (Rn.nil))))) (WO.act (hc := rfl) (he := Ef.store hst 0 (fun wz1 hsz1 => WO.done ?_))))
          rw [Int.toNat_natCast] at hsz1
          exact ⟨rfl, k, s.take k, hk1, e0, hsz1, rfl, rfl, rfl, rfl, trivial⟩
  clear hst hsb1 hsb2 hsa1
  rintro ρ ds w' ⟨rfl, n, key, hn, he, hst, hs⟩
  refine Wp.forget _ ?_ hs
  rw [he]
  clear hs ρ
  refine Wp.seq (Wp.seq (Wp.reads (is := [0, 1, 2, 3, 4, 5, 6, 7, 8, 9]) (Keep.refl _) (Rn.s rfl Yv.mv (Rn.s rfl Yv.mv (Rn.s rfl Yv.len_s (Rn.s rfl (Yv.cmp _ rfl) (Rn.s rfl Yv.mv (Rn.or (is := [5, 6, 7, 8, 9]) (js := []) (t := 86) (d := 91) (hg := rfl) (hf := fun h4 => have h4 := ne_of_beq_false h4; Rn.s rfl Yv.mv (Rn.s rfl Yv.mv (Rn.s rfl (Yv.ix (by omega) (by omega)) (Rn.s rfl (Yv.cmp _ rfl) (Rn.s rfl Yv.pick_f ((Rn.e 5 rfl rfl))))))) (ht := fun _ => Rn.no rfl (Rn.no rfl (Rn.no rfl (Rn.no rfl (Rn.s rfl Yv.pick_t (Rn.e 5 rfl rfl)))))) (k := Rn.nil))))))) ?_))
  refine Wp.cond rfl (fun h3 => ?_) (fun h3 => ?_)
  · have h3 : s.length ≤ n ∨ byt s n ≠ 58 := by
      simp only [Bool.or_eq_true, bne_iff_ne, beq_iff_eq] at h3
      omega
    rw [tailS, if_pos h3]
    refine Wp.seq (Wp.regionL (l := [0, 1, 2, 3, 4, 5]) (WO.rd (is := [0, 1, 2]) (js := [3, 4, 5]) (Keep.refl _) (Rn.s rfl (Yv.bd (cs := ct0.cs)) (Rn.s rfl Yv.mv (Rn.s rfl (Yv.add (by unfold inI; omega)) (Rn.nil)))) (WO.act (hc := rfl) (he := Ef.stores hst 1 (fun wz1 hsz1 => WO.rd (is := [4, 5]) (js := []) (Keep.refl _) (Rn.s rfl Yv.as (Rn.s rfl Yv.as (Rn.nil))) (WO.done ?_))))))
    exact Wp.ret (Fin.ret (resATT rfl rfl rfl rfl (hsz1.cells 0)) ⟨rfl, hsz1.keep⟩)
  have h3 : ¬ (s.length ≤ n ∨ byt s n ≠ 58) := by
    simp only [Bool.or_eq_false_iff, bne_eq_false_iff_eq, beq_eq_false_iff_ne] at h3
    omega
  rw [tailS, if_neg h3]
  refine Wp.skip (Wp.seq (Wp.seq (Wp.reads (is := [0, 1, 2, 3, 4, 5, 6, 7, 8, 9, 10, 11]) (Keep.refl _) (Rn.s rfl Yv.mv (Rn.s rfl (Yv.add (by unfold inI; omega)) (Rn.s rfl Yv.mv (Rn.s rfl Yv.len_s (Rn.s rfl (Yv.cmp _ rfl) (Rn.s rfl Yv.mv (Rn.and (is := [6, 7, 8, 9, 10, 11]) (js := []) (t := 100) (d := 106) (hg := rfl) (ht := fun h5 => have h5 := of_decide_eq_true h5; Rn.s rfl Yv.mv (Rn.s rfl Yv.mv (Rn.s rfl (Yv.add (by unfold inI; omega)) (Rn.s rfl (Yv.ix (by omega) (by omega)) (Rn.s rfl (Yv.cmp _ rfl) (Rn.s rfl Yv.pick_t ((Rn.e 6 rfl rfl)))))))) (hf := fun _ => Rn.no rfl (Rn.no rfl (Rn.no rfl (Rn.no rfl (Rn.no rfl (Rn.s rfl Yv.pick_f (Rn.e 6 rfl rfl))))))) (k := Rn.nil)))))))) ?_)))
  refine Wp.cond rfl (fun h4 => ?_) (fun h4 => ?_)
  · have h4 : n + 1 < s.length ∧ byt s ((n : Int) + 1) ≠ 32 := by
      simp only [Bool.and_eq_true, bne_iff_ne, decide_eq_true_eq] at h4
      exact ⟨by omega, h4.2⟩
    rw [if_pos h4]
    refine Wp.seq (Wp.regionL (l := [0, 1, 2, 3, 4, 5]) (WO.rd (is := [0, 1, 2]) (js := [3, 4, 5]) (Keep.refl _) (Rn.s rfl (Yv.bd (cs := ct0.cs)) (Rn.s rfl Yv.mv (Rn.s rfl (Yv.add (by unfold inI; omega)) (Rn.nil)))) (WO.act (hc := rfl) (he := Ef.stores hst 1 (fun wz1 hsz1 => WO.rd (is := [4, 5]) (js := []) (Keep.refl _) (Rn.s rfl Yv.as (Rn.s rfl Yv.as (Rn.nil))) (WO.done ?_))))))
    refine Wp.ret (Fin.ret (resATT rfl rfl rfl rfl (hsz1.cells 0)) ⟨?_, hsz1.keep⟩)
    have : (n : Int) + 1 + 1 = (n : Int) + 2 := by omega
    rw [this]
    rfl
  have h4 : ¬ (n + 1 < s.length ∧ byt s ((n : Int) + 1) ≠ 32) := by
    rintro ⟨q1, q2⟩
    have q1 : (n : Int) + 1 < (s.length : Int) := by omega
    simp [q1, q2] at h4
  rw [if_neg h4]
  have c5 := hst.cells 0
  have hv := fun wq => rvalue_cv s (n + 1) (o1 key) rfl (by omega) hl wq
  have en : ((n + 1 : Nat) : Int) = (n : Int) + 1 := rfl
  rw [en] at hv
  refine Wp.skip (Wp.seq (Wp.regionL (l := [0, 1, 2, 3, 4, 5, 6, 7, 8, 9, 10]) (WO.rd (is := [0, 1, 2, 3]) (js := [4, 5, 6, 7, 8, 9, 10]) (Keep.refl _) (Rn.s rfl Yv.mv (Rn.s rfl Yv.mv (Rn.s rfl (Yv.add (by unfold inI; omega)) (Rn.s rfl (Yv.ldb c5) (Rn.nil))))) (WO.cv rfl (hv w') (Keep.refl _) (FnOk.of Tryz.func116) (fun wz1 kz1 => WO.rd (is := [5, 6, 7]) (js := [8, 9, 10]) ((Keep.refl _).trans kz1) (Rn.s rfl Yv.ex (Rn.s rfl Yv.ex (Rn.s rfl Yv.ex (Rn.nil)))) (WO.act (hc := rfl) (he := Ef.stores (hst.quiet kz1) 1 (fun wz2 hsz2 => WO.rd (is := [9, 10]) (js := []) (Keep.refl _) (Rn.s rfl Yv.as (Rn.s rfl Yv.as (Rn.nil))) (WO.done ?_)))))))))
  exact Wp.ret (Fin.ret (resATT rfl rfl rfl rfl (hsz2.cells 0)) ⟨rfl, hsz2.keep⟩)
end Go.Proofs.YtgjhbapbomdpbaaGreatDoor.C
