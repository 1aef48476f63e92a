/- The library's functions on texts, at one byte: Cut, CutSuffix, Contains, Split, HasPrefix; names of variables. -/
import Derived.Test.YthbehiflmcljcaaDoorGi
import Derived.Test.YthbehiflmcljcaaDoorShelf
set_option linter.unusedVariables false
set_option linter.unusedSimpArgs false
set_option maxRecDepth 10000
namespace Go.Proofs.YthbehiflmcljcaaDoor.C
open Go.RowKit Go.Proofs.YthbehiflmcljcaaDoor.Sh
/-- a text ahead of a byte, and behind it -/
def cutC (c : UInt8) : Bs → Bs × Bs × Bool
  | [] => ([], [], false)
  | b :: l => if b = c then ([], l, true) else (b :: (cutC c l).1, (cutC c l).2.1, (cutC c l).2.2)
/-- its pieces between that byte -/
def splA (c : UInt8) : Bs → List Bs
  | [] => [[]]
  | b :: l => if b = c then [] :: splA c l else match splA c l with
    | x :: xs => (b :: x) :: xs
    | [] => [[b]]
theorem cut_index (c : UInt8) : ∀ s : Bs, ((cutC c s).2.2 = true → Lib.indexByte s c = ((cutC c s).1.length : Int) ∧ (cutC c s).1 = s.take (cutC c s).1.length ∧ (cutC c s).2.1 = s.drop ((cutC c s).1.length + 1) ∧ (cutC c s).1.length < s.length) ∧
    ((cutC c s).2.2 = false → Lib.indexByte s c = -1 ∧ (cutC c s).1 = s ∧ (cutC c s).2.1 = [])
  | [] => ⟨fun h => by simp [cutC] at h, fun _ => ⟨rfl, rfl, rfl⟩⟩
  | b :: l => by
    obtain ⟨i1, i2⟩ := cut_index c l
    by_cases h : b = c
    · have e : cutC c (b :: l) = ([], l, true) := by rw [cutC, if_pos h]
      rw [e]
      refine ⟨fun _ => ⟨?_, rfl, rfl, by simp⟩, fun q => by cases q⟩
      rw [Lib.indexByte, if_pos (by simpa using h)]
      rfl
    · have e : cutC c (b :: l) = (b :: (cutC c l).1, (cutC c l).2.1, (cutC c l).2.2) := by rw [cutC, if_neg h]
      rw [e]
      have e2 : Lib.indexByte (b :: l) c = if Lib.indexByte l c == -1 then -1 else Lib.indexByte l c + 1 := by rw [Lib.indexByte, if_neg (by simpa using h)]
      refine ⟨fun q => ?_, fun q => ?_⟩
      · obtain ⟨h1, h2, h3, h4⟩ := i1 q
        refine ⟨?_, ?_, ?_, ?_⟩
        · rw [e2, h1, if_neg (by simp)]
          simp
        · show b :: (cutC c l).1 = (b :: l).take ((cutC c l).1.length + 1)
          rw [List.take_succ_cons, ← h2]
        · show (cutC c l).2.1 = (b :: l).drop ((cutC c l).1.length + 1 + 1)
          rw [List.drop_succ_cons, ← h3]
        · show (cutC c l).1.length + 1 < l.length + 1
          omega
      · obtain ⟨h1, h2, h3⟩ := i2 q
        refine ⟨?_, ?_, h3⟩
        · rw [e2, h1]
          rfl
        · show b :: (cutC c l).1 = b :: l
          rw [h2]
theorem splA_ne (c : UInt8) : ∀ s : Bs, splA c s ≠ []
  | [] => by simp [splA]
  | b :: l => by
    unfold splA
    split
    · simp
    · split <;> simp
theorem splA_cut (c : UInt8) : ∀ s : Bs, splA c s = if (cutC c s).2.2 then (cutC c s).1 :: splA c (cutC c s).2.1 else [s]
  | [] => rfl
  | b :: l => by
    have ih := splA_cut c l
    by_cases h : b = c
    · have e : cutC c (b :: l) = ([], l, true) := by rw [cutC, if_pos h]
      rw [e, splA, if_pos h]
      rfl
    · have e : cutC c (b :: l) = (b :: (cutC c l).1, (cutC c l).2.1, (cutC c l).2.2) := by rw [cutC, if_neg h]
      rw [e, splA, if_neg h, ih]
      cases (cutC c l).2.2 <;> rfl
theorem splA_len (c : UInt8) : ∀ s : Bs, (splA c s).length = Lib.countByte s c + 1
  | [] => rfl
  | b :: l => by
    have ih := splA_len c l
    unfold Lib.countByte at ih ⊢
    by_cases h : b = c
    · rw [splA, if_pos h, List.length_cons, ih, List.count_cons, if_pos (by simpa using h)]
    · rw [splA, if_neg h, List.count_cons, if_neg (by simpa using h)]
      cases hs : splA c l with
      | nil => exact absurd hs (splA_ne c l)
      | cons x xs =>
        rw [hs] at ih
        exact ih
theorem lindex_cv (s : Bs) (c : UInt8) (w0 : World) : Cv Tryd.prog 81 [S s, S [c]] (.int .i64 (Lib.indexByte s c)) w0 := by
  intro w hk
  refine Calls.mono (Tryd.stringslite_Index_one ⟨⟨s⟩⟩ c w) ?_
  rintro e w' ⟨rfl, rfl⟩
  exact ⟨rfl, Keep.refl _⟩
theorem index1_cv (s : Bs) (c : UInt8) (w0 : World) : Cv Tryd.prog 67 [S s, S [c]] (.int .i64 (Lib.indexByte s c)) w0 := by
  intro w hk
  refine Calls.mono (Tryd.strings_Index_one ⟨⟨s⟩⟩ c w) ?_
  rintro e w' ⟨rfl, rfl⟩
  exact ⟨rfl, Keep.refl _⟩
theorem cont1_cv (s : Bs) (c : UInt8) (w0 : World) : Cv Tryd.prog 56 [S s, S [c]] (.bool (decide (0 ≤ Lib.indexByte s c))) w0 := by
  intro w hk
  refine Calls.mono (Tryd.strings_Contains_one ⟨⟨s⟩⟩ c w) ?_
  rintro e w' ⟨rfl, rfl⟩
  exact ⟨rfl, Keep.refl _⟩
theorem count1_cv (s : Bs) (c : UInt8) (w0 : World) : Cv Tryd.prog 84 [S s, S [c]] (.int .i64 (Lib.countByte s c)) w0 := by
  intro w hk
  refine Calls.mono (Tryd.strings_Count_one ⟨⟨s⟩⟩ c w) ?_
  rintro e w' ⟨rfl, rfl⟩
  exact ⟨rfl, Keep.refl _⟩
theorem cont1_eq (s : Bs) (c : UInt8) : decide (0 ≤ Lib.indexByte s c) = (cutC c s).2.2 := by
  obtain ⟨h1, h2⟩ := cut_index c s
  cases h : (cutC c s).2.2 with
  | true => rw [(h1 h).1]; exact decide_eq_true (by omega)
  | false => rw [(h2 h).1]; rfl
theorem lcut_cv (s : Bs) (c : UInt8) (hl : s.length ≤ 9223372036854775806) (w0 : World) : Cv Tryd.prog 63 [S s, S [c]] (.tuple #[S (cutC c s).1, S (cutC c s).2.1, .bool (cutC c s).2.2]) w0 := by
  obtain ⟨h1, h2⟩ := cut_index c s
  intro w hk
  refine calls_of_Wp (vs := [_, _]) Tryd.func63 ?_
  refine Wp.seq (Wp.reads (is := [0, 1, 2]) (Keep.refl _) (Rn.s rfl Yv.as (Rn.s rfl Yv.as (Rn.s rfl Yv.as (Rn.nil)))) ?_)
  refine Wp.seq (Wp.seq (Wp.regionL (l := [0, 1, 2, 3]) (WO.rd (is := [0, 1]) (js := [2, 3]) (Keep.refl _) (Rn.s rfl Yv.mv (Rn.s rfl Yv.mv (Rn.nil))) (WO.cv rfl (lindex_cv s c w) (Keep.refl _) (FnOk.of Tryd.func81) (fun wy1 ky1 => WO.rd (is := [3]) (js := []) ((Keep.refl _).trans ky1) (Rn.s rfl Yv.as (Rn.nil)) (WO.done ?_))))))
  refine Wp.seq (Wp.reads (is := [0, 1]) (Keep.refl _) (Rn.s rfl Yv.mv (Rn.s rfl (Yv.cmp _ rfl) (Rn.nil))) ?_)
  cases hf : (cutC c s).2.2 with
  | true =>
    obtain ⟨q1, q2, q3, q4⟩ := h1 hf
    rw [q1]
    refine Wp.cond rfl (fun h => ?_) (fun h => ?_)
    · have e : (1 : Int) = (([c] : Bs).length : Int) := rfl
      refine Wp.seq (Wp.readsD (is := [0, 1, 2, 3, 4, 5, 6, 7, 8, 9, 10, 11]) mixed (fun _ _ _ _ _ h => h) (Keep.refl _) (Rn.s rfl Yv.mv (Rn.s rfl Yv.mv (Rn.s rfl (Yv.ss_t (by omega) (by omega)) (Rn.s rfl Yv.mv (Rn.s rfl Yv.mv (Rn.s rfl Yv.mv (Rn.s rfl Yv.len_s (Rn.s rfl (Yv.add ⟨by simp only [List.length_cons, List.length_nil]; omega, by simp only [List.length_cons, List.length_nil]; omega⟩) (Rn.s rfl (Yv.ss_f (by simp only [List.length_cons, List.length_nil]; omega) (by simp only [List.length_cons, List.length_nil]; omega)) (Rn.s rfl Yv.as (Rn.s rfl Yv.as (Rn.s rfl Yv.as (Rn.nil))))))))))))) ?_)
      refine Wp.ret (Fin.ret (Res.three rfl rfl rfl rfl) ⟨?_, ky1.trans (Keep.drew _)⟩)
      have e1 : (((cutC c s).1.length : Nat) : Int).toNat = (cutC c s).1.length := Int.toNat_natCast _
      have e2 : (((cutC c s).1.length : Int) + ((([c] : Bs).length : Nat) : Int)).toNat = (cutC c s).1.length + 1 := by simp only [List.length_cons, List.length_nil]; omega
      rw [e1, e2, ← q2, ← q3]
    · simp at h
  | false =>
    obtain ⟨q1, q2, q3⟩ := h2 hf
    rw [q1]
    refine Wp.cond rfl (fun h => ?_) (fun h => ?_)
    · simp at h
    · refine Wp.skip ?_
      refine Wp.seq (Wp.reads (is := [0, 1, 2, 3]) (Keep.refl _) (Rn.s rfl Yv.mv (Rn.s rfl Yv.as (Rn.s rfl Yv.as (Rn.s rfl Yv.as (Rn.nil))))) ?_)
      refine Wp.ret (Fin.ret (Res.three rfl rfl rfl rfl) ⟨?_, ky1⟩)
      rw [q2, q3]
      rfl
theorem cut_cv (s : Bs) (c : UInt8) (hl : s.length ≤ 9223372036854775806) (w0 : World) : Cv Tryd.prog 53 [S s, S [c]] (.tuple #[S (cutC c s).1, S (cutC c s).2.1, .bool (cutC c s).2.2]) w0 := by
  intro w hk
  refine calls_of_Wp (vs := [_, _]) Tryd.func53 ?_
  refine Wp.seq (Wp.reads (is := [0, 1, 2]) (Keep.refl _) (Rn.s rfl Yv.as (Rn.s rfl Yv.as (Rn.s rfl Yv.as (Rn.nil)))) ?_)
  refine Wp.seq (Wp.regionL (l := [0, 1, 2, 3, 4, 5, 6, 7, 8]) (WO.rd (is := [0, 1]) (js := [2, 3, 4, 5, 6, 7, 8]) (Keep.refl _) (Rn.s rfl Yv.mv (Rn.s rfl Yv.mv (Rn.nil))) (WO.cv rfl (lcut_cv s c hl w) (Keep.refl _) (FnOk.of Tryd.func63) (fun wy1 ky1 => WO.rd (is := [3, 4, 5, 6, 7, 8]) (js := []) ((Keep.refl _).trans ky1) (Rn.s rfl Yv.ex (Rn.s rfl Yv.ex (Rn.s rfl Yv.ex (Rn.s rfl Yv.as (Rn.s rfl Yv.as (Rn.s rfl Yv.as (Rn.nil))))))) (WO.done ?_)))))
  exact Wp.ret (Fin.ret (Res.three rfl rfl rfl rfl) ⟨rfl, ky1⟩)
theorem hasPrefix_cv (s p : Bs) (w0 : World) : Cv Tryd.prog 59 [S s, S p] (.bool (decide (p.length ≤ s.length ∧ s.take p.length = p))) w0 := by
  have hl : Cv Tryd.prog 70 [S s, S p] (.bool (decide (p.length ≤ s.length ∧ s.take p.length = p))) w0 := by
    intro w hk
    refine calls_of_Wp (vs := [_, _]) Tryd.func70 ?_
    refine Wp.seq (Wp.reads (is := [0]) (Keep.refl _) (Rn.s rfl Yv.as (Rn.nil)) ?_)
    refine Wp.seq (Wp.reads (is := [0, 1, 2, 3, 4, 5, 6, 7, 8, 9, 10, 11, 12, 13]) (Keep.refl _) (Rn.s rfl Yv.mv (Rn.s rfl Yv.len_s (Rn.s rfl Yv.mv (Rn.s rfl Yv.len_s (Rn.s rfl (Yv.cmp _ rfl) (Rn.s rfl Yv.mv (Rn.and (is := [6, 7, 8, 9, 10, 11, 12]) (js := [13]) (t := 10) (d := 17) (hg := rfl) (ht := fun h5 => have h5 := of_decide_eq_true h5; Rn.s rfl Yv.mv (Rn.s rfl Yv.mv (Rn.s rfl Yv.len_s (Rn.s rfl (Yv.ss_t (by omega) (by omega)) (Rn.s rfl Yv.mv (Rn.s rfl (Yv.scm _ rfl) (Rn.s rfl Yv.pick_t ((Rn.e 7 rfl rfl))))))))) (hf := fun _ => Rn.no rfl (Rn.no rfl (Rn.no rfl (Rn.no rfl (Rn.no rfl (Rn.no rfl (Rn.s rfl Yv.pick_f (Rn.e 7 rfl rfl)))))))) (k := Rn.s rfl Yv.as (Rn.nil))))))))) ?_)
    refine Wp.ret (Fin.ret (Res.one rfl rfl) ⟨?_, Keep.refl _⟩)
    rw [Int.toNat_natCast]
    by_cases h : p.length ≤ s.length
    · have h' : (p.length : Int) ≤ s.length := by omega
      by_cases h2 : s.take p.length = p <;> simp [h, h', h2]
    · have h' : ¬ (p.length : Int) ≤ s.length := by omega
      simp [h, h']
  intro w hk
  refine calls_of_Wp (vs := [_, _]) Tryd.func59 ?_
  refine Wp.seq (Wp.reads (is := [0]) (Keep.refl _) (Rn.s rfl Yv.as (Rn.nil)) ?_)
  refine Wp.seq (Wp.regionL (l := [0, 1, 2, 3]) (WO.rd (is := [0, 1]) (js := [2, 3]) (Keep.refl _) (Rn.s rfl Yv.mv (Rn.s rfl Yv.mv (Rn.nil))) (WO.cv rfl (hl.keep hk) (Keep.refl _) (FnOk.of Tryd.func70) (fun wy1 ky1 => WO.rd (is := [3]) (js := []) ((Keep.refl _).trans ky1) (Rn.s rfl Yv.as (Rn.nil)) (WO.done ?_)))))
  exact Wp.ret (Fin.ret (Res.one rfl rfl) ⟨rfl, ky1⟩)
/-- without its last byte, where that is c -/
def cutL (c : UInt8) (s : Bs) : Bs × Bool := if s ≠ [] ∧ s.drop (s.length - 1) = [c] then (s.take (s.length - 1), true) else (s, false)
theorem cutL_cv (s : Bs) (c : UInt8) (hl : s.length ≤ 9223372036854775806) (w0 : World) : Cv Tryd.prog 55 [S s, S [c]] (.tuple #[S (cutL c s).1, .bool (cutL c s).2]) w0 := by
  have hs : Cv Tryd.prog 82 [S s, S [c]] (.bool (decide (s ≠ [] ∧ s.drop (s.length - 1) = [c]))) w0 := by
    intro w hk
    refine calls_of_Wp (vs := [_, _]) Tryd.func82 ?_
    refine Wp.seq (Wp.reads (is := [0]) (Keep.refl _) (Rn.s rfl Yv.as (Rn.nil)) ?_)
    refine Wp.seq (Wp.reads (is := [0, 1, 2, 3, 4, 5, 6, 7, 8, 9, 10, 11, 12, 13, 14, 15, 16]) (Keep.refl _) (Rn.s rfl Yv.mv (Rn.s rfl Yv.len_s (Rn.s rfl Yv.mv (Rn.s rfl Yv.len_s (Rn.s rfl (Yv.cmp _ rfl) (Rn.s rfl Yv.mv (Rn.and (is := [6, 7, 8, 9, 10, 11, 12, 13, 14, 15]) (js := [16]) (t := 10) (d := 20) (hg := rfl) (ht := fun h5 => have h5 : (1 : Int) ≤ s.length := of_decide_eq_true h5; Rn.s rfl Yv.mv (Rn.s rfl Yv.mv (Rn.s rfl Yv.len_s (Rn.s rfl Yv.mv (Rn.s rfl Yv.len_s (Rn.s rfl (Yv.sub ⟨by simp only [List.length_cons, List.length_nil]; omega, by simp only [List.length_cons, List.length_nil]; omega⟩) (Rn.s rfl (Yv.ss_f (by simp only [List.length_cons, List.length_nil]; omega) (by simp only [List.length_cons, List.length_nil]; omega)) (Rn.s rfl Yv.mv (Rn.s rfl (Yv.scm _ rfl) (Rn.s rfl Yv.pick_t ((Rn.e 10 rfl rfl)))))))))))) (hf := fun _ => Rn.no rfl (Rn.no rfl (Rn.no rfl (Rn.no rfl (Rn.no rfl (Rn.no rfl (Rn.no rfl (Rn.no rfl (Rn.no rfl (Rn.s rfl Yv.pick_f (Rn.e 10 rfl rfl))))))))))) (k := Rn.s rfl Yv.as (Rn.nil))))))))) ?_)
    refine Wp.ret (Fin.ret (Res.one rfl rfl) ⟨?_, Keep.refl _⟩)
    have e : ((s.length : Int) - ((([c] : Bs).length : Nat) : Int)).toNat = s.length - 1 := by simp only [List.length_cons, List.length_nil]; omega
    rw [e]
    by_cases h : s = []
    · subst h; simp
    · have h1 : 1 ≤ s.length := List.length_pos_iff.2 h
      have h' : (1 : Int) ≤ s.length := by omega
      by_cases h2 : s.drop (s.length - 1) = [c] <;> simp [h, h1, h', h2]
  have hc : Cv Tryd.prog 66 [S s, S [c]] (.tuple #[S (cutL c s).1, .bool (cutL c s).2]) w0 := by
    intro w hk
    refine calls_of_Wp (vs := [_, _]) Tryd.func66 ?_
    refine Wp.seq (Wp.reads (is := [0, 1]) (Keep.refl _) (Rn.s rfl Yv.as (Rn.s rfl Yv.as (Rn.nil))) ?_)
    refine Wp.seq (Wp.seq (Wp.regionL (l := [0, 1, 2, 3]) (WO.rd (is := [0, 1]) (js := [2, 3]) (Keep.refl _) (Rn.s rfl Yv.mv (Rn.s rfl Yv.mv (Rn.nil))) (WO.cv rfl (hs.keep hk) (Keep.refl _) (FnOk.of Tryd.func82) (fun wy1 ky1 => WO.rd (is := [3]) (js := []) ((Keep.refl _).trans ky1) (Rn.s rfl Yv.not (Rn.nil)) (WO.done ?_))))))
    refine Wp.cond rfl (fun h => ?_) (fun h => ?_)
    · have h : ¬ (s ≠ [] ∧ s.drop (s.length - 1) = [c]) := of_decide_eq_false (by rwa [Bool.not_eq_true'] at h)
      refine Wp.seq (Wp.reads (is := [0, 1, 2]) (Keep.refl _) (Rn.s rfl Yv.mv (Rn.s rfl Yv.as (Rn.s rfl Yv.as (Rn.nil)))) ?_)
      refine Wp.ret (Fin.ret (Res.two rfl rfl rfl) ⟨?_, ky1⟩)
      unfold cutL
      rw [if_neg h]
    · have h : s ≠ [] ∧ s.drop (s.length - 1) = [c] := of_decide_eq_true (by rwa [Bool.not_eq_false'] at h)
      have h1 : 1 ≤ s.length := List.length_pos_iff.2 h.1
      refine Wp.skip ?_
      refine Wp.seq (Wp.reads (is := [0, 1, 2, 3, 4, 5, 6, 7, 8]) (Keep.refl _) (Rn.s rfl Yv.mv (Rn.s rfl Yv.mv (Rn.s rfl Yv.len_s (Rn.s rfl Yv.mv (Rn.s rfl Yv.len_s (Rn.s rfl (Yv.sub ⟨by simp only [List.length_cons, List.length_nil]; omega, by simp only [List.length_cons, List.length_nil]; omega⟩) (Rn.s rfl (Yv.ss_t (by simp only [List.length_cons, List.length_nil]; omega) (by simp only [List.length_cons, List.length_nil]; omega)) (Rn.s rfl Yv.as (Rn.s rfl Yv.as (Rn.nil)))))))))) ?_)
      refine Wp.ret (Fin.ret (Res.two rfl rfl rfl) ⟨?_, ky1⟩)
      have e : ((s.length : Int) - ((([c] : Bs).length : Nat) : Int)).toNat = s.length - 1 := by simp only [List.length_cons, List.length_nil]; omega
      unfold cutL
      rw [if_pos h, e]
  intro w hk
  refine calls_of_Wp (vs := [_, _]) Tryd.func55 ?_
  refine Wp.seq (Wp.reads (is := [0, 1]) (Keep.refl _) (Rn.s rfl Yv.as (Rn.s rfl Yv.as (Rn.nil))) ?_)
  refine Wp.seq (Wp.regionL (l := [0, 1, 2, 3, 4, 5, 6]) (WO.rd (is := [0, 1]) (js := [2, 3, 4, 5, 6]) (Keep.refl _) (Rn.s rfl Yv.mv (Rn.s rfl Yv.mv (Rn.nil))) (WO.cv rfl (hc.keep hk) (Keep.refl _) (FnOk.of Tryd.func66) (fun wy1 ky1 => WO.rd (is := [3, 4, 5, 6]) (js := []) ((Keep.refl _).trans ky1) (Rn.s rfl Yv.ex (Rn.s rfl Yv.ex (Rn.s rfl Yv.as (Rn.s rfl Yv.as (Rn.nil))))) (WO.done ?_)))))
  exact Wp.ret (Fin.ret (Res.two rfl rfl rfl) ⟨rfl, ky1⟩)
end Go.Proofs.YthbehiflmcljcaaDoor.C
