/- The document's lines: Split, Trim, Lines: what they say is what text.Lines says. -/
import Derived.Test.YtbmplmehofgocaaDoorBy
import Derived.Test.YtbmplmehofgocaaDoorBq
import Derived.Test.YtbmplmehofgocaaDoorPa
set_option linter.unusedVariables false
set_option linter.unusedSimpArgs false
set_option maxRecDepth 10000
namespace Go.Proofs.YtbmplmehofgocaaDoor.C
open Go.RowKit Go.Proofs.YtbmplmehofgocaaDoor.Sh
/-! ### 1. raw lines -/
def rawL (s : Bs) : List Bs := (rawFrom 1 s).map Prod.snd
theorem raw_snd : ∀ (m n k : Nat) (s : Bs), s.length ≤ m → (rawFrom n s).map Prod.snd = (rawFrom k s).map Prod.snd
  | 0, n, k, s, h => by
    obtain rfl := List.eq_nil_of_length_eq_zero (Nat.le_zero.1 h)
    rw [raw_nil, raw_nil]
  | m + 1, n, k, s, h => by
    by_cases hs : s = []
    · subst hs; rw [raw_nil, raw_nil]
    · have e : ∀ n, rawFrom n s = (n, (Lib.cut s [10]).1) :: rawFrom (n + 1) (Lib.cut s [10]).2.1 := fun n => by rw [rawFrom, dif_neg hs]
      have := cut_rest_lt s 10 hs
      rw [e n, e k, List.map_cons, List.map_cons, raw_snd m (n + 1) (k + 1) _ (by omega)]
theorem rawL_nil : rawL [] = [] := by unfold rawL; rw [raw_nil]; rfl
theorem rawL_cons (a r : Bs) (h : (10 : UInt8) ∉ a) : rawL (a ++ 10 :: r) = a :: rawL r := by
  unfold rawL
  rw [raw_cons 1 a r h, List.map_cons, raw_snd _ 2 1 r (Nat.le_refl _)]
theorem rawL_one (a : Bs) (h : (10 : UInt8) ∉ a) (ha : a ≠ []) : rawL a = [a] := by
  unfold rawL
  rw [raw_one 1 a h ha]; rfl
theorem rawL_len (s : Bs) : (rawL s).length = (rawFrom 1 s).length := by unfold rawL; simp
theorem byt_eq_iff {s : Bs} {i : Nat} (h : i < s.length) (c : UInt8) : byt s (i : Int) = (c.toNat : Int) ↔ s[i] = c := by
  rw [byt_of (List.getElem?_eq_getElem h)]
  constructor
  · intro e
    exact UInt8.toNat_inj.1 (by omega)
  · rintro rfl; rfl
theorem rsplit_cx (s : Bs) (hl : s.length ≤ 1000000) (w : World) : Cx Tryd.prog 69 [S s] [] (fun v D => ∃ A c, v = .slice A (rawL s).length c ∧ D = [Ch.row StE 9 A c (rawL s)]) w := by
  refine calls_of_Wp (vs := [_]) Tryd.func69 ?_
  refine Wp.seq (Wp.reads (is := [0]) (Keep.refl _) (Rn.s rfl Yv.as (Rn.nil)) ?_)
  refine Wp.seq (Wp.reads (is := [0]) (Keep.refl _) (Rn.s rfl Yv.as (Rn.nil)) ?_)
  refine Wp.seq (Wp.reads (is := [0]) (Keep.refl _) (Rn.s rfl Yv.as (Rn.nil)) ?_)
  refine Wp.seq (Wp.seq (Wp.reads (is := [0]) (Keep.refl _) (Rn.s rfl Yv.as (Rn.nil)) ?_))
  refine Wp.block ?_
  refine Wp.loop (α := Nat × Nat) (fun q ρ ds w' => ds = [] ∧ q.1 ≤ s.length ∧ q.2 ≤ q.1 ∧ (∃ A c acc, rawL s = acc ++ rawL (s.drop q.2) ∧ (10 : UInt8) ∉ (s.drop q.2).take (q.1 - q.2) ∧ acc.length ≤ q.2 ∧
    St w [] w' [Ch.row StE 9 A c acc] ∧ Sub [(0, S s), (3, .slice A acc.length c), (4, .int .i64 (q.2 : Int)), (5, .int .i64 (q.1 : Int))] ρ)) (fun q => s.length - q.1) (0, 0)
    ⟨rfl, Nat.zero_le _, Nat.le_refl _, ⟨none, 0, [], rfl, by simp, Nat.le_refl _, (St.init w).nilrow _ _, rfl, rfl, rfl, rfl, trivial⟩⟩ ?_
  rintro ⟨i, fr⟩ ρ ds w1 ⟨rfl, hi, hf, A, c, acc, hacc, hno, hal, hst, hs⟩
  simp only at hi hf hacc hno hal hs
  refine Wp.forget _ ?_ hs
  refine Wp.seq (Wp.seq (Wp.reads (is := [0, 1, 2, 3]) (Keep.refl _) (Rn.s rfl Yv.mv (Rn.s rfl Yv.mv (Rn.s rfl Yv.len_s (Rn.s rfl (Yv.cmp _ rfl) (Rn.nil))))) ?_))
  refine Wp.cond rfl (fun h => ?_) (fun h => ?_)
  · have h := of_decide_eq_true h
    have hil : i < s.length := by omega
    have hds : s.drop fr = (s.drop fr).take (i - fr) ++ s[i] :: s.drop (i + 1) := by
      have e1 : s.drop i = s[i] :: s.drop (i + 1) := List.drop_eq_getElem_cons hil
      rw [← e1]
      have e2 : s.drop i = (s.drop fr).drop (i - fr) := by rw [List.drop_drop]; congr 1; omega
      rw [e2, List.take_append_drop]
    refine Wp.skip (Wp.seq (Wp.block ?_))
    refine Wp.seq (Wp.reads (is := [0, 1, 2, 3]) (Keep.refl _) (Rn.s rfl Yv.mv (Rn.s rfl Yv.mv (Rn.s rfl (Yv.ix (by omega) (by omega)) (Rn.s rfl (Yv.cmp _ rfl) (Rn.nil))))) ?_)
    refine Wp.cond rfl (fun h2 => ?_) (fun h2 => ?_)
    · have h2 : s[i] = 10 := (byt_eq_iff hil 10).1 (by simpa using h2)
      refine Wp.seq (Wp.regionL (l := [0, 1, 2, 3, 4, 5, 6, 7]) (WO.rd (is := [0, 1, 2, 3, 4]) (js := [5, 6, 7]) (Keep.refl _) (Rn.s rfl Yv.mv (Rn.s rfl Yv.mv (Rn.s rfl Yv.mv (Rn.s rfl Yv.mv (Rn.s rfl (Yv.ss_ft (by omega) (by omega) (by omega)) (Rn.nil)))))) (WO.app StE [(s.take (i : Int).toNat).drop (fr : Int).toNat] rfl (fun _ => rfl) hst 0 (fitT (by simp only [List.length_cons, List.length_nil]; omega)) (fun bx1 Ax1 cx1 wx1 hsx1 => WO.rd (is := [7]) (js := []) (Keep.refl _) (Rn.s rfl Yv.as (Rn.nil)) (WO.done ?_)))))
      refine Wp.reads (is := [0, 1, 2]) (Keep.refl _) (Rn.s rfl Yv.mv (Rn.s rfl (Yv.add (by unfold inI; omega)) (Rn.s rfl Yv.as (Rn.nil)))) ?_
      refine Wp.reads (is := [0, 1, 2]) (Keep.refl _) (Rn.s rfl Yv.mv (Rn.s rfl (Yv.add (by unfold inI; omega)) (Rn.s rfl Yv.as (Rn.nil)))) ?_
      have hln : (s.take (i : Int).toNat).drop (fr : Int).toNat = (s.drop fr).take (i - fr) := by rw [Int.toNat_natCast, Int.toNat_natCast, List.drop_take]
      rw [hln] at hsx1 ⊢
      have hst : St w [] wx1 [Ch.row StE 9 Ax1 cx1 (acc ++ [(s.drop fr).take (i - fr)])] := hsx1.pick [0]
      refine ⟨(i + 1, i + 1), ⟨rfl, by omega, Nat.le_refl _, ⟨Ax1, cx1, acc ++ [(s.drop fr).take (i - fr)], ?_, by simp, by simp; omega, hst, rfl, rfl, rfl, rfl, trivial⟩⟩, by simp only; omega⟩
      rw [hacc]
      rw [hds, h2] at ⊢
      rw [rawL_cons _ _ hno]
      have : (s.drop fr).take (i - fr) = ((s.drop fr).take (i - fr) ++ 10 :: s.drop (i + 1)).take (i - fr) := by rw [← h2, ← hds]
      rw [← this]
      simp
    · have h2 : ¬ s[i] = 10 := fun e => by have := (byt_eq_iff hil 10).2 e; rw [this] at h2; exact absurd h2 (by decide)
      refine Wp.skip (Wp.reads (is := [0, 1, 2]) (Keep.refl _) (Rn.s rfl Yv.mv (Rn.s rfl (Yv.add (by unfold inI; omega)) (Rn.s rfl Yv.as (Rn.nil)))) ?_)
      refine ⟨(i + 1, fr), ⟨rfl, by omega, by simp only; omega, ⟨A, c, acc, hacc, ?_, hal, hst, rfl, rfl, rfl, rfl, trivial⟩⟩, by simp only; omega⟩
      have e : i + 1 - fr = (i - fr) + 1 := by omega
      simp only
      rw [e, List.take_add_one, List.mem_append]
      rintro (hm | hm)
      · exact hno hm
      · rw [List.getElem?_drop, show fr + (i - fr) = i by omega, List.getElem?_eq_getElem hil] at hm
        simp at hm
        exact h2 hm.symm
  · have h := of_decide_eq_false h
    have hie : i = s.length := by omega
    refine Wp.exit ?_
    have hno : (10 : UInt8) ∉ s.drop fr := by rwa [List.take_of_length_le (by simp; omega)] at hno
    refine Wp.seq (Wp.seq (Wp.reads (is := [0, 1, 2, 3]) (Keep.refl _) (Rn.s rfl Yv.mv (Rn.s rfl Yv.mv (Rn.s rfl Yv.len_s (Rn.s rfl (Yv.cmp _ rfl) (Rn.nil))))) ?_))
    refine Wp.cond rfl (fun h2 => ?_) (fun h2 => ?_)
    · have h2 := of_decide_eq_true h2
      refine Wp.regionL (l := [0, 1, 2, 3, 4, 5, 6]) (WO.rd (is := [0, 1, 2, 3]) (js := [4, 5, 6]) (Keep.refl _) (Rn.s rfl Yv.mv (Rn.s rfl Yv.mv (Rn.s rfl Yv.mv (Rn.s rfl (Yv.ss_f (by omega) (by omega)) (Rn.nil))))) (WO.app StE [s.drop (fr : Int).toNat] rfl (fun _ => rfl) hst 0 (fitT (by simp only [List.length_cons, List.length_nil]; omega)) (fun bx1 Ax1 cx1 wx1 hsx1 => WO.rd (is := [6]) (js := []) (Keep.refl _) (Rn.s rfl Yv.as (Rn.nil)) (WO.done ?_))))
      have hst : St w [] wx1 [Ch.row StE 9 Ax1 cx1 (acc ++ [s.drop (fr : Int).toNat])] := hsx1.pick [0]
      have e : acc ++ [s.drop (fr : Int).toNat] = rawL s := by
        rw [hacc, Int.toNat_natCast, rawL_one _ hno]
        intro q
        have := congrArg List.length q
        simp at this
        omega
      rw [e] at hst ⊢
      refine Wp.seq (Wp.reads (is := [0, 1]) (Keep.refl _) (Rn.s rfl Yv.mv (Rn.s rfl Yv.as (Rn.nil))) ?_)
      exact Wp.ret (Fin.ret (Res.one rfl rfl) ⟨_, _, rfl, ⟨Ax1, cx1, rfl, rfl⟩, hst⟩)
    · have h2 := of_decide_eq_false h2
      have e : acc = rawL s := by
        rw [hacc, List.drop_eq_nil_of_le (by omega), rawL_nil, List.append_nil]
      rw [e] at hst ⊢
      refine Wp.skip (Wp.seq (Wp.reads (is := [0, 1]) (Keep.refl _) (Rn.s rfl Yv.mv (Rn.s rfl Yv.as (Rn.nil))) ?_))
      exact Wp.ret (Fin.ret (Res.one rfl rfl) ⟨_, _, rfl, ⟨A, c, rfl, rfl⟩, hst⟩)
/-! ### 2. trimmed lines -/
theorem trimR_snoc (l : Bs) (x : UInt8) : Lib.trimRightB (l ++ [x]) 32 = if x = 32 then Lib.trimRightB l 32 else l ++ [x] := by
  unfold Lib.trimRightB
  rw [List.reverse_append]
  show ((x :: l.reverse).dropWhile _).reverse = _
  by_cases h : x = 32
  · subst h; rw [List.dropWhile_cons_of_pos (by rfl), if_pos rfl]
  · rw [List.dropWhile_cons_of_neg (by simpa using h), if_neg h]; simp
theorem tEnd_trim (s : Bs) (a : Nat) : ∀ b, a ≤ b → b ≤ s.length → (s.take (tEnd s a b)).drop a = Lib.trimRightB ((s.take b).drop a) 32
  | 0, h, _ => by
    obtain rfl : a = 0 := by omega
    rfl
  | b + 1, h, hb => by
    by_cases hab : a = b + 1
    · subst hab
      rw [tEnd, if_neg (by omega)]
      have : (s.take (b + 1)).drop (b + 1) = [] := List.drop_eq_nil_of_le (by simp; omega)
      rw [this]; rfl
    · have hbl : b < s.length := by omega
      have e : (s.take (b + 1)).drop a = (s.take b).drop a ++ [s[b]] := by
        rw [List.take_add_one, List.getElem?_eq_getElem hbl, List.drop_append_of_le_length (by simp; omega)]; rfl
      rw [tEnd, e, trimR_snoc]
      by_cases h2 : s[b] = 32
      · rw [if_pos ⟨by omega, (byt_eq_iff hbl 32).2 h2⟩, if_pos h2]
        exact tEnd_trim s a b (by omega) (by omega)
      · rw [if_neg (fun q => h2 ((byt_eq_iff hbl 32).1 q.2)), if_neg h2, e]
theorem trimR_cons (x : UInt8) (r : Bs) : Lib.trimRightB (x :: r) 32 = if Lib.trimRightB r 32 = [] then (if x = 32 then [] else [x]) else x :: Lib.trimRightB r 32 := by
  unfold Lib.trimRightB
  rw [List.reverse_cons, List.dropWhile_append]
  cases hd : r.reverse.dropWhile (· == 32) with
  | nil =>
    simp only [List.isEmpty_nil, if_true, List.reverse_nil]
    by_cases h : x = 32
    · subst h; rfl
    · rw [List.dropWhile_cons_of_neg (by simpa using h), if_neg h]; rfl
  | cons y l => simp
theorem trim_comm : ∀ s : Bs, Lib.trimB s 32 = Lib.trimRightB (Lib.trimLeftB s 32) 32
  | [] => rfl
  | x :: r => by
    have ih := trim_comm r
    unfold Lib.trimB at ih ⊢
    rw [trimR_cons]
    by_cases hx : x = 32
    · subst hx
      have e1 : Lib.trimLeftB (32 :: r) 32 = Lib.trimLeftB r 32 := by unfold Lib.trimLeftB; rw [List.dropWhile_cons_of_pos (by rfl)]
      rw [e1, ← ih]
      by_cases h : Lib.trimRightB r 32 = []
      · rw [if_pos h, if_pos rfl, h]
      · rw [if_neg h]; unfold Lib.trimLeftB; rw [List.dropWhile_cons_of_pos (by rfl)]
    · have e1 : ∀ r : Bs, Lib.trimLeftB (x :: r) 32 = x :: r := fun r => by unfold Lib.trimLeftB; rw [List.dropWhile_cons_of_neg (by simpa using hx)]
      rw [e1 r, trimR_cons]
      by_cases h : Lib.trimRightB r 32 = []
      · rw [if_pos h, if_neg hx, e1]
      · rw [if_neg h, e1]
theorem trimL_gap (s : Bs) : Lib.trimLeftB s 32 = s.drop (gapN s 0) := by
  unfold gapN Lib.trimLeftB
  rw [Nat.zero_add, List.drop_zero]
  induction s with
  | nil => rfl
  | cons x r ih =>
    by_cases hx : x = 32
    · subst hx; rw [List.dropWhile_cons_of_pos (by rfl), List.takeWhile_cons_of_pos (by rfl)]; exact ih
    · rw [List.dropWhile_cons_of_neg (by simpa using hx), List.takeWhile_cons_of_neg (by simpa using hx)]; rfl
theorem rtrim_eq (s : Bs) : (s.take (tEnd s (gapN s 0) s.length)).drop (gapN s 0) = Lib.trimB s 32 := by
  have hg := gapN_le s 0 (Nat.zero_le _)
  rw [tEnd_trim s _ s.length hg.2 (Nat.le_refl _), List.take_of_length_le (Nat.le_refl _), trim_comm, trimL_gap]
theorem index_gap : ∀ (s : Bs) (y : UInt8) (r : Bs), Lib.trimLeftB s 32 = y :: r → Lib.indexByte s y = ((s.takeWhile (· == 32)).length : Int)
  | [], y, r, h => by cases h
  | x :: s, y, r, h => by
    unfold Lib.trimLeftB at h
    by_cases hx : x = 32
    · subst hx
      rw [List.dropWhile_cons_of_pos (by rfl)] at h
      have ih := index_gap s y r h
      have hy : y ≠ 32 := by
        intro e
        have := List.head?_dropWhile_not (fun b : UInt8 => b == 32) s
        rw [h] at this
        simp [e] at this
      rw [Lib.indexByte, if_neg (by simpa using fun e : 32 = y => hy e.symm), List.takeWhile_cons_of_pos (by rfl), ih, if_neg (by simp)]
      simp
    · rw [List.dropWhile_cons_of_neg (by simpa using hx)] at h
      injection h with h1 h2
      subst h1
      rw [Lib.indexByte, if_pos (by simp), List.takeWhile_cons_of_neg (by simpa using hx)]; rfl
theorem index_trim {s : Bs} (h : Lib.trimB s 32 ≠ []) : Lib.indexByte s (nth (Lib.trimB s 32) 0) = (gapN s 0 : Nat) := by
  rw [trim_comm] at h ⊢
  cases hl : Lib.trimLeftB s 32 with
  | nil => rw [hl] at h; exact (h rfl).elim
  | cons y r =>
    have e : nth (Lib.trimRightB (y :: r) 32) 0 = y := by
      have hy : y ≠ 32 := by
        intro e
        have := List.head?_dropWhile_not (fun b : UInt8 => b == 32) s
        unfold Lib.trimLeftB at hl
        rw [hl] at this
        simp [e] at this
      rw [trimR_cons]
      split
      · first | rfl | (rw [if_neg hy]; rfl)
      · rfl
    rw [e, index_gap s y r hl]
    unfold gapN
    simp
theorem badI_drop {s : Bs} {k : Nat} (h : k < s.length) : badI (s.drop k) k = if badB s[k] then (k : Int) else badI (s.drop (k + 1)) ((k + 1 : Nat) : Int) := by
  rw [List.drop_eq_getElem_cons h, badI]
  rfl
/-! ### 3. the lines -/
theorem rlines_cx (s : Bs) (w : World) : Cx Tryd.prog 53 [S s] [] (fun v D => ∃ A c, v = .tuple #[.slice A (linesS s).ls.length c, .int .i64 (linesS s).no, .int .i64 (linesS s).col, .int .i64 (linesS s).e] ∧ D = [Ch.row LnE 56 A c (linesS s).ls]) w := by
  refine calls_of_Wp (vs := [_]) Tryd.func53 ?_
  refine Wp.seq (Wp.reads (is := [0, 1, 2, 3]) (Keep.refl _) (Rn.s rfl Yv.as (Rn.s rfl Yv.as (Rn.s rfl Yv.as (Rn.s rfl Yv.as (Rn.nil))))) ?_)
  refine Wp.seq (Wp.seq (Wp.reads (is := [0, 1, 2]) (Keep.refl _) (Rn.s rfl Yv.mv (Rn.s rfl Yv.len_s (Rn.s rfl (Yv.cmp _ rfl) (Rn.nil)))) ?_))
  refine Wp.cond rfl (fun h => ?_) (fun h => ?_)
  · have h := of_decide_eq_true h
    have e : linesS s = ⟨[], 0, 0, 10⟩ := by rw [linesS, if_pos h]
    rw [e]
    refine Wp.seq (Wp.reads (is := [0, 1, 2, 3]) (Keep.refl _) (Rn.s rfl Yv.as (Rn.s rfl Yv.as (Rn.s rfl Yv.as (Rn.s rfl Yv.as (Rn.nil))))) ?_)
    exact Wp.ret (Fin.ret (Res.four rfl rfl rfl rfl rfl) ⟨_, _, rfl, ⟨none, 0, rfl, rfl⟩, (St.init w).nilrow _ _⟩)
  have h := of_decide_eq_false h
  have e : linesS s = linesR (rawFrom 1 s) [] := by rw [linesS, if_neg h]
  rw [e]
  obtain ⟨R, hR⟩ : ∃ R, R = linesR (rawFrom 1 s) [] := ⟨_, rfl⟩
  rw [← hR]
  clear e
  refine Wp.skip (Wp.seq (Wp.reads (is := [0]) (Keep.refl _) (Rn.s rfl Yv.as (Rn.nil)) ?_))
  refine Wp.seq (Wp.regionL (l := [0, 1, 2]) (WO.rd (is := [0]) (js := [1, 2]) (Keep.refl _) (Rn.s rfl Yv.mv (Rn.nil)) (WO.act (hc := rfl) (he := Ef.cx (rsplit_cx s (by omega) w) (St.init w) (FnOk.of Tryd.func69) ?_))))
  rintro v D w1 ⟨AL, cL, rfl, rfl⟩ hs1
  refine WO.rd (is := [2]) (js := []) (Keep.refl _) (Rn.s rfl Yv.as (Rn.nil)) (WO.done ?_)
  have hst : St w [] w1 [Ch.row StE 9 AL cL (rawL s)] := hs1
  have hrl := rawL_len s
  have hrn := raw_len _ 1 s (Nat.le_refl _)
  refine Wp.seq (Wp.seq (Wp.reads (is := [0]) (Keep.refl _) (Rn.s rfl Yv.as (Rn.nil)) ?_))
  refine Wp.block ?_
  refine Wp.loop (α := Nat) (fun i ρ ds w' => ds = [] ∧ i ≤ (rawL s).length ∧ i ≤ 4096 ∧ (∃ A c acc, linesR ((rawFrom 1 s).drop i) acc = R ∧ acc.length ≤ i ∧
    St w [] w' [Ch.row LnE 56 A c acc, Ch.row StE 9 AL cL (rawL s)] ∧ Sub [(0, S s), (6, .slice A acc.length c), (7, .slice AL (rawL s).length cL), (8, .int .i64 (i : Int))] ρ)) (fun i => (rawL s).length - i) 0
    ⟨rfl, Nat.zero_le _, Nat.zero_le _, ⟨none, 0, [], hR.symm, Nat.le_refl _, hst.nilrow _ _, rfl, rfl, rfl, rfl, trivial⟩⟩ ?_
  clear hst hs1
  rintro i ρ ds w2 ⟨rfl, hi, hi2, A, c, acc, hacc, hal, hst, hs⟩
  refine Wp.forget _ ?_ hs
  refine Wp.seq (Wp.seq (Wp.reads (is := [0, 1, 2, 3]) (Keep.refl _) (Rn.s rfl Yv.mv (Rn.s rfl Yv.mv (Rn.s rfl (Yv.len_v (e := 9) (m := 1)) (Rn.s rfl (Yv.cmp _ rfl) (Rn.nil))))) ?_))
  refine Wp.cond rfl (fun h1 => ?_) (fun h1 => ?_)
  · have h1 := of_decide_eq_true h1
    have hil : i < (rawFrom 1 s).length := by omega
    have hx : (rawFrom 1 s)[i]? = some (rawFrom 1 s)[i] := List.getElem?_eq_getElem hil
    obtain ⟨n, line⟩ : Nat × Bs := (rawFrom 1 s)[i]
    obtain ⟨x, hxe⟩ : ∃ x, x = (rawFrom 1 s)[i] := ⟨_, rfl⟩
    rw [← hxe] at hx
    clear n line
    obtain ⟨n, line⟩ := x
    obtain ⟨hll, hn⟩ := raw_line_le s i _ hx
    simp only at hll hn
    have hnl : nth (rawL s) (i : Int) = line := nth_of (by unfold rawL; rw [List.getElem?_map, hx]; rfl)
    rw [List.drop_eq_getElem_cons hil, ← hxe, linesR] at hacc
    have hrd := hst.rd 1
    refine Wp.skip (Wp.seq (Wp.block ?_))
    refine Wp.seq (Wp.seq (Wp.reads (is := [0, 1]) (Keep.refl _) (Rn.s rfl Yv.mv (Rn.s rfl (Yv.cmp _ rfl) (Rn.nil))) ?_))
    refine Wp.cond rfl (fun h2 => ?_) (fun h2 => ?_)
    · have h2 : (i : Int) = 4096 := eq_of_beq h2
      rw [if_pos (by omega)] at hacc
      refine Wp.seq (Wp.reads (is := [0, 1, 2, 3, 4, 5]) (Keep.refl _) (Rn.s rfl Yv.mv (Rn.s rfl (Yv.add (by unfold inI; omega)) (Rn.s rfl Yv.as (Rn.s rfl Yv.as (Rn.s rfl Yv.as (Rn.s rfl Yv.as (Rn.nil))))))) ?_)
      rw [← hacc]
      refine Wp.ret (Fin.ret (Res.four rfl rfl rfl rfl rfl) ⟨_, _, rfl, ⟨none, 0, ?_, rfl⟩, (hst.pick []).nilrow _ _⟩)
      have : (i : Int) + 1 = (n : Int) := by omega
      rw [this]
      rfl
    have h2 : ¬ (i : Int) = 4096 := ne_of_beq_false h2
    rw [if_neg (by omega)] at hacc
    refine Wp.skip (Wp.seq (Wp.seq (Wp.reads (is := [0]) (Keep.refl _) (Rn.s rfl Yv.as (Rn.nil)) ?_)))
    refine Wp.block ?_
    refine Wp.loop (α := Nat) (fun k ρ ds w' => ds = [] ∧ w2 = w' ∧ k ≤ line.length ∧ badI (line.drop k) k = badI line 0 ∧ Sub [(0, S s), (6, .slice A acc.length c), (7, .slice AL (rawL s).length cL), (8, .int .i64 (i : Int)), (9, .int .i64 (k : Int))] ρ) (fun k => line.length - k) 0
      ⟨rfl, rfl, Nat.zero_le _, rfl, rfl, rfl, rfl, rfl, rfl, trivial⟩ ?_
    rintro k ρ ds w' ⟨rfl, rfl, hk, hbk, hs⟩
    refine Wp.forget _ ?_ hs
    refine Wp.seq (Wp.seq (Wp.reads (is := [0, 1, 2, 3, 4, 5, 6]) (Keep.refl _) (Rn.s rfl Yv.mv (Rn.s rfl Yv.mv (Rn.s rfl Yv.mv (Rn.s rfl (Yv.ia (e := 9) hrd (by omega) (by omega)) (Rn.s rfl (Yv.ld (hrd.ld 0 (by omega) (by omega))) (Rn.s rfl Yv.len_s (Rn.s rfl (Yv.cmp _ rfl) (Rn.nil)))))))) ?_))
    refine Wp.cond rfl (fun h3 => ?_) (fun h3 => ?_)
    · have h3 := of_decide_eq_true h3
      have hkn : k < (nth (rawL s) (i : Int)).length := by omega
      have hkl : k < line.length := by rw [← hnl]; exact hkn
      rw [badI_drop hkl] at hbk
      have hby : byt (nth (rawL s) (i : Int)) (k : Int) = (line[k].toNat : Int) := by rw [hnl]; exact byt_of (List.getElem?_eq_getElem hkl)
      refine Wp.skip (Wp.seq (Wp.block ?_))
      refine Wp.seq (Wp.reads (is := [0, 1, 2, 3, 4, 5, 6, 7, 8, 9, 10, 11, 12, 13, 14, 15]) (Keep.refl _) (Rn.s rfl Yv.mv (Rn.s rfl Yv.mv (Rn.s rfl (Yv.ia (e := 9) hrd (by omega) (by omega)) (Rn.s rfl (Yv.ld (hrd.ld 0 (by omega) (by omega))) (Rn.s rfl Yv.mv (Rn.s rfl (Yv.ix (by omega) (by omega)) (Rn.s rfl (Yv.cmp _ rfl) (Rn.s rfl Yv.mv (Rn.or (is := [8, 9, 10, 11, 12, 13, 14, 15]) (js := []) (t := 43) (d := 51) (hg := rfl) (hf := fun h7 => have h7 := of_decide_eq_false h7; Rn.s rfl Yv.mv (Rn.s rfl Yv.mv (Rn.s rfl (Yv.ia (e := 9) hrd (by omega) (by omega)) (Rn.s rfl (Yv.ld (hrd.ld 0 (by omega) (by omega))) (Rn.s rfl Yv.mv (Rn.s rfl (Yv.ix (by omega) (by omega)) (Rn.s rfl (Yv.cmp _ rfl) (Rn.s rfl Yv.pick_f ((Rn.e 8 rfl rfl)))))))))) (ht := fun _ => Rn.no rfl (Rn.no rfl (Rn.no rfl (Rn.no rfl (Rn.no rfl (Rn.no rfl (Rn.no rfl (Rn.s rfl Yv.pick_t (Rn.e 8 rfl rfl))))))))) (k := Rn.nil)))))))))) ?_)
      refine Wp.cond rfl (fun h4 => ?_) (fun h4 => ?_)
      · have hb : badB line[k] = true := by
          rw [hby] at h4
          unfold badB
          simp only [Bool.or_eq_true, decide_eq_true_eq, beq_iff_eq] at h4 ⊢
          omega
        rw [if_pos hb] at hbk
        rw [if_pos (by omega)] at hacc
        refine Wp.seq (Wp.reads (is := [0, 1, 2, 3, 4, 5, 6, 7]) (Keep.refl _) (Rn.s rfl Yv.mv (Rn.s rfl (Yv.add (by unfold inI; omega)) (Rn.s rfl Yv.mv (Rn.s rfl (Yv.add (by unfold inI; omega)) (Rn.s rfl Yv.as (Rn.s rfl Yv.as (Rn.s rfl Yv.as (Rn.s rfl Yv.as (Rn.nil))))))))) ?_)
        rw [← hacc]
        refine Wp.ret (Fin.ret (Res.four rfl rfl rfl rfl rfl) ⟨_, _, rfl, ⟨none, 0, ?_, rfl⟩, (hst.pick []).nilrow _ _⟩)
        have e1 : (i : Int) + 1 = (n : Int) := by omega
        rw [e1, ← hbk]
        rfl
      · have hb : badB line[k] = false := by
          rw [hby] at h4
          unfold badB
          simp only [Bool.or_eq_false_iff, decide_eq_false_iff_not, beq_eq_false_iff_ne] at h4 ⊢
          omega
        rw [if_neg (by rw [hb]; decide)] at hbk
        refine Wp.skip (Wp.reads (is := [0, 1, 2]) (Keep.refl _) (Rn.s rfl Yv.mv (Rn.s rfl (Yv.add (by unfold inI; omega)) (Rn.s rfl Yv.as (Rn.nil)))) ?_)
        exact ⟨k + 1, ⟨rfl, rfl, by omega, hbk, rfl, rfl, rfl, rfl, rfl, trivial⟩, by omega⟩
    have h3 := of_decide_eq_false h3
    have hkl : k = line.length := by rw [hnl] at h3; omega
    have hbd : badI line 0 = -1 := by rw [← hbk, List.drop_eq_nil_of_le (by omega)]; rfl
    rw [if_neg (by omega)] at hacc
    refine Wp.exit ?_
    have htr := rtrim_cv line (by omega) w2
    rw [rtrim_eq line] at htr
    have htr' : Cv Tryd.prog 70 [S (nth (rawL s) (i : Int))] (.tuple #[.int .i64 (gapN line 0), S (Lib.trimB line 32)]) w2 := by rw [hnl]; exact htr
    refine Wp.seq (Wp.regionL (l := [0, 1, 2, 3, 4, 5, 6, 7, 8, 9]) (WO.rd (is := [0, 1, 2, 3]) (js := [4, 5, 6, 7, 8, 9]) (Keep.refl _) (Rn.s rfl Yv.mv (Rn.s rfl Yv.mv (Rn.s rfl (Yv.ia (e := 9) hrd (by omega) (by omega)) (Rn.s rfl (Yv.ld (hrd.ld 0 (by omega) (by omega))) (Rn.nil))))) (WO.cv rfl htr' (Keep.refl _) (FnOk.of Tryd.func70) (fun wx1 kx1 => WO.rd (is := [5, 6, 7, 8, 9]) (js := []) ((Keep.refl _).trans kx1) (Rn.s rfl Yv.mv (Rn.s rfl Yv.ex (Rn.s rfl Yv.ex (Rn.s rfl Yv.as (Rn.s rfl Yv.as (Rn.nil)))))) (WO.done ?_)))))
    have hst := hst.quiet kx1
    refine Wp.seq (Wp.reads (is := [0, 1, 2, 3, 4, 5, 6]) (Keep.refl _) (Rn.s rfl Yv.mv (Rn.s rfl (Yv.scm _ rfl) (Rn.s rfl Yv.mv (Rn.and (is := [3, 4, 5, 6]) (js := []) (t := 66) (d := 70) (hg := rfl) (ht := fun h2 => have h2' := h2; Rn.s rfl Yv.mv (Rn.s rfl (Yv.ix (by omega) (by have := List.length_pos_iff.2 (bne_iff_ne.1 h2); omega)) (Rn.s rfl (Yv.cmp _ rfl) (Rn.s rfl Yv.pick_t ((Rn.e 4 rfl rfl)))))) (hf := fun _ => Rn.no rfl (Rn.no rfl (Rn.no rfl (Rn.s rfl Yv.pick_f (Rn.e 4 rfl rfl))))) (k := Rn.nil))))) ?_)
    refine Wp.cond rfl (fun h4 => ?_) (fun h4 => ?_)
    · have h4 : ¬ (Lib.trimB line 32 = [] ∨ byt (Lib.trimB line 32) 0 = 35) := by
        rintro (q | q)
        · simp [q] at h4
        · simp [q] at h4
      have hne : Lib.trimB line 32 ≠ [] := fun q => h4 (.inl q)
      have e2 : lineOf n line = some ⟨n, gapN line 0, Lib.trimB line 32⟩ := by simp only [lineOf]; rw [if_neg h4, index_trim hne]
      rw [e2] at hacc
      refine Wp.regionL (l := [0, 1, 2, 3, 4, 5, 6, 7, 8]) (WO.rd (is := [0, 1, 2, 3, 4, 5]) (js := [6, 7, 8]) (Keep.refl _) (Rn.s rfl Yv.mv (Rn.s rfl Yv.mv (Rn.s rfl (Yv.add (by unfold inI; omega)) (Rn.s rfl Yv.mv (Rn.s rfl Yv.mv (Rn.s rfl (Yv.bd (cs := Ln.cs ⟨(i : Int) + 1, gapN line 0, Lib.trimB line 32⟩)) (Rn.nil))))))) (WO.app LnE [⟨(i : Int) + 1, gapN line 0, Lib.trimB line 32⟩] rfl (fun _ => rfl) hst 0 (.inl (by simp only [List.length_cons, List.length_nil]; omega)) (fun bz1 Az1 cz1 wz1 hsz1 => WO.rd (is := [8]) (js := []) (Keep.refl _) (Rn.s rfl Yv.as (Rn.nil)) (WO.done ?_))))
      refine Wp.reads (is := [0, 1, 2]) (Keep.refl _) (Rn.s rfl Yv.mv (Rn.s rfl (Yv.add (by unfold inI; omega)) (Rn.s rfl Yv.as (Rn.nil)))) ?_
      have e3 : (i : Int) + 1 = (n : Int) := by omega
      rw [e3] at hsz1
      have hst : St w [] wz1 [Ch.row LnE 56 Az1 cz1 (acc ++ [⟨n, gapN line 0, Lib.trimB line 32⟩]), Ch.row StE 9 AL cL (rawL s)] := hsz1.pick [0, 1]
      refine ⟨i + 1, ⟨rfl, by omega, by omega, ⟨Az1, cz1, _, hacc, by simp; omega, hst, rfl, ?_, rfl, rfl, trivial⟩⟩, by omega⟩
      simp; rfl
    · have h4 : Lib.trimB line 32 = [] ∨ byt (Lib.trimB line 32) 0 = 35 := by
        by_cases q : Lib.trimB line 32 = []
        · exact .inl q
        · right; simpa [q] using h4
      have e2 : lineOf n line = none := by simp only [lineOf]; rw [if_pos h4]
      rw [e2] at hacc
      refine Wp.skip (Wp.reads (is := [0, 1, 2]) (Keep.refl _) (Rn.s rfl Yv.mv (Rn.s rfl (Yv.add (by unfold inI; omega)) (Rn.s rfl Yv.as (Rn.nil)))) ?_)
      exact ⟨i + 1, ⟨rfl, by omega, by omega, ⟨A, c, acc, hacc, by omega, hst, rfl, rfl, rfl, rfl, trivial⟩⟩, by omega⟩
  · have h1 := of_decide_eq_false h1
    rw [List.drop_eq_nil_of_le (by omega), linesR] at hacc
    refine Wp.exit ?_
    refine Wp.seq (Wp.reads (is := [0, 1, 2, 3, 4]) (Keep.refl _) (Rn.s rfl Yv.mv (Rn.s rfl Yv.as (Rn.s rfl Yv.as (Rn.s rfl Yv.as (Rn.s rfl Yv.as (Rn.nil)))))) ?_)
    rw [← hacc]
    exact Wp.ret (Fin.ret (Res.four rfl rfl rfl rfl rfl) ⟨_, _, rfl, ⟨A, c, rfl, rfl⟩, hst.pick [0]⟩)
end Go.Proofs.YtbmplmehofgocaaDoor.C
