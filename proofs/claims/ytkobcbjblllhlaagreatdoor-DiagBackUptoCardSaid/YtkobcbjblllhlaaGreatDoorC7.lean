/- Faults' texts, written and read: diag's Text, file, number, read, Parse. -/
import Derived.Test.YtkobcbjblllhlaaGreatDoorC6
import Derived.Test.YtkobcbjblllhlaaGreatDoorC4
import Derived.Lib.AtoiAllCases
set_option linter.unusedVariables false
set_option linter.unusedSimpArgs false
set_option maxRecDepth 10000
namespace Go.Proofs.YtkobcbjblllhlaaGreatDoor.C
open Go.RowKit Go.Proofs.YtkobcbjblllhlaaGreatDoor.Sh
theorem nDigits_le : ∀ (k u : Nat), u < 10 ^ (k + 1) → Lib.nDigits u ≤ k + 1
  | 0, u, h => by rw [Lib.nDigits_small (by simpa using h)]; omega
  | k + 1, u, h => by
    by_cases h' : u < 10
    · rw [Lib.nDigits_small h']; omega
    · rw [Lib.nDigits_big h']
      have := nDigits_le k (u / 10) (by rw [Nat.pow_succ] at h; omega)
      omega
theorem itoa_len (n : Int) (h0 : -9223372036854775808 ≤ n) (h1 : n ≤ 9223372036854775807) : (Lib.itoa n).length ≤ 20 := by
  unfold Lib.itoa
  split
  · rw [List.length_cons, Lib.decDigits_length]
    have := nDigits_le 18 n.natAbs (by omega)
    omega
  · rw [Lib.decDigits_length]
    have := nDigits_le 18 n.toNat (by omega)
    omega
structure Ft.Ok (f : Ft) : Prop where
  code : inI f.code
  line : inI f.line
  col : inI f.col
  file : f.file.length ≤ 500000000
def textS (f : Ft) : Bs := keyW f.file ++ [58] ++ Lib.itoa f.line ++ [58] ++ Lib.itoa f.col ++ [58, 32, 101, 114, 114, 111, 114, 32] ++ Lib.itoa f.code
theorem keyW_len (s : Bs) : (keyW s).length ≤ 4 * s.length + 2 := by
  unfold keyW
  split
  · omega
  · have := quoteW_len s
    unfold quoteW
    simp only [List.length_cons, List.length_append, List.length_nil]
    omega
theorem text_cv (f : Ft) (hf : f.Ok) (w0 : World) (hg : Gl w0) : Cv Tryz.prog 10 [.agg f.cs.toArray] (S (textS f)) w0 := by
  intro w hk
  have hg := hg.keep hk
  obtain ⟨⟨a1, a2⟩, ⟨a3, a4⟩, ⟨a5, a6⟩, a7⟩ := hf
  have l1 := itoa_len f.line a3 a4
  have l2 := itoa_len f.col a5 a6
  have l3 := itoa_len f.code a1 a2
  have l4 := keyW_len f.file
  refine calls_of_Wp (vs := [_]) Tryz.func10 ?_
  refine Wp.seq (Wp.regionL (l := [0, 1]) (WO.box rfl (fun b1 w1 k1 g1 c1 => WO.rd (is := [1]) (js := []) ((Keep.refl _).trans k1) (Rn.s rfl Yv.as (Rn.nil)) (WO.done ?_))))
  have hg1 := hg.keep k1
  have kk := k1
  refine Wp.seq (Wp.draws [] mixed (WD.rd (is := [0, 1, 4, 5, 9, 10, 14, 15]) (fun _ _ _ _ _ h => h) (Keep.drew _) (Rn.s rfl (Yv.fa (off := 1)) (Rn.s rfl (Yv.ld (c1.at_ 1)) (Rn.s rfl (Yv.fa (off := 2)) (Rn.s rfl (Yv.ld (c1.at_ 2)) (Rn.s rfl (Yv.fa (off := 3)) (Rn.s rfl (Yv.ld (c1.at_ 3)) (Rn.s rfl (Yv.fa (off := 0)) (Rn.s rfl (Yv.ld (c1.at_ 0)) (Rn.nil))))))))) (WD.cv 2 rfl (key_cv f.file a7 _) (Keep.drew _) (FnOk.of Tryz.func21) (fun w1 k1 => WD.rd (is := [3]) (fun _ _ _ _ _ h => h) ((Keep.drew _).trans k1) (Rn.s rfl (Yv.cat (b := [58]) (by simp; omega)) (Rn.nil)) (WD.cv 6 rfl (itoa_cv f.line a3 a4 _ hg1) ((Keep.drew _).trans k1) (FnOk.of Tryz.func22) (fun w2 k2 => WD.rd (is := [7, 8]) (fun _ _ _ _ _ h => h) (((Keep.drew _).trans k1).trans k2) (Rn.s rfl (Yv.cat (by simp; omega)) (Rn.s rfl (Yv.cat (b := [58]) (by simp; omega)) (Rn.nil))) (WD.cv 11 rfl (itoa_cv f.col a5 a6 _ hg1) (((Keep.drew _).trans k1).trans k2) (FnOk.of Tryz.func22) (fun w3 k3 => WD.rd (is := [12, 13]) (fun _ _ _ _ _ h => h) ((((Keep.drew _).trans k1).trans k2).trans k3) (Rn.s rfl (Yv.cat (by simp; omega)) (Rn.s rfl (Yv.cat (b := [58, 32, 101, 114, 114, 111, 114, 32]) (by simp; omega)) (Rn.nil))) (WD.cv 16 rfl (itoa_cv f.code a1 a2 _ hg1) ((((Keep.drew _).trans k1).trans k2).trans k3) (FnOk.of Tryz.func22) (fun w4 k4 => WD.rd (is := [17, 18]) (fun _ _ _ _ _ h => h) (((((Keep.drew _).trans k1).trans k2).trans k3).trans k4) (Rn.s rfl (Yv.cat (by simp; omega)) (Rn.s rfl Yv.as (Rn.nil))) (WD.done ?_)))))))))))
  exact Wp.ret (Fin.ret (Res.one rfl rfl) ⟨rfl, (kk.trans (Keep.drew _)).trans (((k1.trans k2).trans k3).trans k4)⟩)
/-! ### numbers and files -/
def numS (s : Bs) : Int × Bool := match Lib.atoiAll s with
  | .ok v => (v, (Lib.itoa v == s) && decide (((Lib.trimPrefix s [45]).length : Int) ≤ 18))
  | _ => (badS s, false)
theorem numS_bad {s : Bs} (h : ∀ u, Lib.atoiAll s ≠ .ok u) : numS s = (badS s, false) := by
  unfold numS
  cases h' : Lib.atoiAll s with
  | ok v => exact absurd h' (h v)
  | _ => rfl
theorem inI_of_ok {s : Bs} {v : Int} (h : Lib.atoiAll s = .ok v) : inI v := Lib.atoiAll_bounds h
theorem badS_in (s : Bs) : inI (badS s) := by
  unfold badS Lib.atoiSat
  constructor
  all_goals
    split
    · split <;> decide
    · decide
theorem number_cv (s : Bs) (hl : s.length ≤ 1000000000000) (w0 : World) (hg : Gl w0) : Cv Tryz.prog 33 [S s] (.tuple #[.int .i64 (numS s).1, .bool (numS s).2]) w0 := by
  intro w hk
  have hg := hg.keep hk
  refine calls_of_Wp (vs := [_]) Tryz.func33 ?_
  refine Wp.seq (Wp.reads (is := [0, 1]) (Keep.refl _) (Rn.s rfl Yv.as (Rn.s rfl Yv.as (Rn.nil))) ?_)
  refine Wp.seq (Wp.regionL (l := [0, 1, 2, 3, 4, 5, 6]) (WO.rd (is := [0]) (js := [1, 2, 3, 4, 5, 6]) (Keep.refl _) (Rn.s rfl Yv.mv (Rn.nil)) (WO.act (hc := rfl) (he := Ef.callv Tryz.func50 (Calls.mono (atoi_calls s hl w hg w (Keep.refl _)) ?_)))))
  rintro e w1 ⟨v, err, rfl, k1, hcase⟩
  refine WO.rd (is := [2, 3, 4, 5, 6]) (js := []) (Keep.refl _) (Rn.s rfl Yv.mv (Rn.s rfl Yv.ex (Rn.s rfl Yv.ex (Rn.s rfl Yv.as (Rn.s rfl Yv.as (Rn.nil)))))) (WO.done ?_)
  have kk := k1
  rcases hcase with ⟨h1, rfl⟩ | ⟨h1, ⟨t, p, rfl⟩, rfl⟩
  · obtain ⟨b1, b2⟩ := inI_of_ok h1
    refine Wp.seq (Wp.regionL (l := [0, 1, 2, 3, 4, 5, 6, 7, 8, 9, 10, 11, 12, 13, 14, 15, 16]) (WO.rd (is := [0, 1, 2, 3]) (js := [4, 5, 6, 7, 8, 9, 10, 11, 12, 13, 14, 15, 16]) (Keep.refl _) (Rn.s rfl Yv.mv (Rn.s rfl Yv.mv (Rn.s rfl Yv.ifn_t (Rn.s rfl Yv.mv (Rn.nil))))) (WO.and (js := [9, 10, 11, 12, 13, 14, 15, 16]) 14 19 (hg := rfl) (ht := fun h3 q1 => WO.rd (is := [4]) (js := [5, 6, 7, 8, 9, 10, 11, 12, 13, 14, 15, 16]) (Keep.refl _) (Rn.s rfl Yv.mv (Rn.nil)) (WO.cv rfl (itoa_cv v b1 b2 _ (hg.keep kk)) (Keep.refl _) (FnOk.of Tryz.func22) (fun w2 k2 => WO.rd (is := [6, 7, 8]) (js := [9, 10, 11, 12, 13, 14, 15, 16]) ((Keep.refl _).trans k2) (Rn.s rfl Yv.mv (Rn.s rfl (Yv.scm _ rfl) (Rn.s rfl Yv.pick_t (Rn.nil)))) (WO.e 5 (q1 _ ((Keep.refl _).trans k2)))))) (hf := fun _ q1 => WO.rd (is := [4, 5, 6, 7, 8]) (js := [9, 10, 11, 12, 13, 14, 15, 16]) (Keep.refl _) (Rn.no rfl (Rn.no rfl (Rn.no rfl (Rn.no rfl (Rn.s rfl Yv.pick_f Rn.nil))))) (WO.e 5 (q1 _ (Keep.refl _)))) (k := fun w1 k1 => WO.rd (is := [9]) (js := [10, 11, 12, 13, 14, 15, 16]) ((Keep.refl _).trans k1) (Rn.s rfl Yv.mv (Rn.nil)) (WO.and (js := [15, 16]) 20 25 (hg := rfl) (ht := fun h9 q3 => WO.rd (is := [10]) (js := [11, 12, 13, 14, 15, 16]) ((Keep.refl _).trans k1) (Rn.s rfl Yv.mv (Rn.nil)) (WO.cv rfl (trimPrefix_cv s [45] _) ((Keep.refl _).trans k1) (FnOk.of Tryz.func51) (fun w4 k4 => WO.rd (is := [12, 13, 14]) (js := [15, 16]) (((Keep.refl _).trans k1).trans k4) (Rn.s rfl Yv.len_s (Rn.s rfl (Yv.cmp _ rfl) (Rn.s rfl Yv.pick_t (Rn.nil)))) (WO.e 5 (q3 _ ((Keep.refl _).trans k4)))))) (hf := fun _ q3 => WO.rd (is := [10, 11, 12, 13, 14]) (js := [15, 16]) ((Keep.refl _).trans k1) (Rn.no rfl (Rn.no rfl (Rn.no rfl (Rn.no rfl (Rn.s rfl Yv.pick_f Rn.nil))))) (WO.e 5 (q3 _ (Keep.refl _)))) (k := fun w3 k3 => WO.rd (is := [15, 16]) (js := []) (((Keep.refl _).trans k1).trans k3) (Rn.s rfl Yv.as (Rn.s rfl Yv.as (Rn.nil))) (WO.done ?_)))))))
    refine Wp.ret (Fin.ret (Res.two rfl rfl rfl) ⟨?_, kk.trans (k1.trans k3)⟩)
    simp only [numS, h1]
    rfl
  · obtain ⟨b1, b2⟩ := badS_in s
    refine Wp.seq (Wp.regionL (l := [0, 1, 2, 3, 4, 5, 6, 7, 8, 9, 10, 11, 12, 13, 14, 15, 16]) (WO.rd (is := [0, 1, 2, 3]) (js := [4, 5, 6, 7, 8, 9, 10, 11, 12, 13, 14, 15, 16]) (Keep.refl _) (Rn.s rfl Yv.mv (Rn.s rfl Yv.mv (Rn.s rfl Yv.ifn_f (Rn.s rfl Yv.mv (Rn.nil))))) (WO.and (js := [9, 10, 11, 12, 13, 14, 15, 16]) 14 19 (hg := rfl) (ht := fun h3 q1 => WO.rd (is := [4]) (js := [5, 6, 7, 8, 9, 10, 11, 12, 13, 14, 15, 16]) (Keep.refl _) (Rn.s rfl Yv.mv (Rn.nil)) (WO.cv rfl (itoa_cv (badS s) b1 b2 _ (hg.keep kk)) (Keep.refl _) (FnOk.of Tryz.func22) (fun w2 k2 => WO.rd (is := [6, 7, 8]) (js := [9, 10, 11, 12, 13, 14, 15, 16]) ((Keep.refl _).trans k2) (Rn.s rfl Yv.mv (Rn.s rfl (Yv.scm _ rfl) (Rn.s rfl Yv.pick_t (Rn.nil)))) (WO.e 5 (q1 _ ((Keep.refl _).trans k2)))))) (hf := fun _ q1 => WO.rd (is := [4, 5, 6, 7, 8]) (js := [9, 10, 11, 12, 13, 14, 15, 16]) (Keep.refl _) (Rn.no rfl (Rn.no rfl (Rn.no rfl (Rn.no rfl (Rn.s rfl Yv.pick_f Rn.nil))))) (WO.e 5 (q1 _ (Keep.refl _)))) (k := fun w1 k1 => WO.rd (is := [9]) (js := [10, 11, 12, 13, 14, 15, 16]) ((Keep.refl _).trans k1) (Rn.s rfl Yv.mv (Rn.nil)) (WO.and (js := [15, 16]) 20 25 (hg := rfl) (ht := fun h9 q3 => WO.rd (is := [10]) (js := [11, 12, 13, 14, 15, 16]) ((Keep.refl _).trans k1) (Rn.s rfl Yv.mv (Rn.nil)) (WO.cv rfl (trimPrefix_cv s [45] _) ((Keep.refl _).trans k1) (FnOk.of Tryz.func51) (fun w4 k4 => WO.rd (is := [12, 13, 14]) (js := [15, 16]) (((Keep.refl _).trans k1).trans k4) (Rn.s rfl Yv.len_s (Rn.s rfl (Yv.cmp _ rfl) (Rn.s rfl Yv.pick_t (Rn.nil)))) (WO.e 5 (q3 _ ((Keep.refl _).trans k4)))))) (hf := fun _ q3 => WO.rd (is := [10, 11, 12, 13, 14]) (js := [15, 16]) ((Keep.refl _).trans k1) (Rn.no rfl (Rn.no rfl (Rn.no rfl (Rn.no rfl (Rn.s rfl Yv.pick_f Rn.nil))))) (WO.e 5 (q3 _ (Keep.refl _)))) (k := fun w3 k3 => WO.rd (is := [15, 16]) (js := []) (((Keep.refl _).trans k1).trans k3) (Rn.s rfl Yv.as (Rn.s rfl Yv.as (Rn.nil))) (WO.done ?_)))))))
    refine Wp.ret (Fin.ret (Res.two rfl rfl rfl) ⟨?_, kk.trans (k1.trans k3)⟩)
    rw [numS_bad h1]
    simp
def fileS (s : Bs) : Bs × Bs × Bool :=
  if Lib.hasPrefix s [34] then
    if (quoteR s).2.2 ∧ Lib.hasPrefix (s.drop (quoteR s).2.1.toNat) [58] ∧ keyW (quoteR s).1 = s.take (quoteR s).2.1.toNat then ((quoteR s).1, s.drop ((quoteR s).2.1 + 1).toNat, true) else ([], [], false)
  else ((Lib.cut s [58]).1, (Lib.cut s [58]).2.1, (Lib.cut s [58]).2.2 && nameB (Lib.cut s [58]).1)
theorem readQ_bd : ∀ (k : Nat) (t : Bs) (n : Int) (acc : Bs), t.length ≤ k → n ≤ (readQ t n acc).2.1 ∧ (readQ t n acc).2.1 ≤ n + t.length ∧ (readQ t n acc).1.length ≤ acc.length + t.length
  | k, [], n, acc, _ => by rw [readQ_nil]; simp
  | 0, b :: t, n, acc, h => by simp at h
  | k + 1, b :: t, n, acc, h => by
    simp only [List.length_cons] at h
    have he := escS_bd t
    rw [readQ_cons]
    split
    · simp; omega
    split
    · split
      · simp; omega
      · have := readQ_bd k (t.drop (escS t).2.toNat) (n + 1 + (escS t).2) (acc ++ [escU t]) (by simp; omega)
        simp only [List.length_drop, List.length_append, List.length_cons, List.length_nil] at this ⊢
        omega
    · have := readQ_bd k t (n + 1) (acc ++ [b]) (by omega)
      simp only [List.length_append, List.length_cons, List.length_nil] at this ⊢
      omega
theorem quoteR_bd (s : Bs) : 0 ≤ (quoteR s).2.1 ∧ (quoteR s).2.1 ≤ s.length ∧ (quoteR s).1.length ≤ s.length := by
  unfold quoteR
  split
  · simp
  · rename_i h
    have hp : 0 < s.length := List.length_pos_iff.2 h
    have := readQ_bd _ (s.drop 1) 1 [] (Nat.le_refl _)
    simp only [List.length_drop, List.length_nil] at this
    omega
theorem hasPrefix_lt {s : Bs} {n : Nat} {b : UInt8} (h : Lib.hasPrefix (s.drop n) [b] = true) : n < s.length := by
  rcases Nat.lt_or_ge n s.length with h' | h'
  · exact h'
  · rw [List.drop_eq_nil_of_le h'] at h
    simp [Lib.hasPrefix] at h
theorem file_cv (s : Bs) (hl : s.length ≤ 100000000) (w0 : World) (hg : Gl w0) : Cv Tryz.prog 30 [S s] (.tuple #[S (fileS s).1, S (fileS s).2.1, .bool (fileS s).2.2]) w0 := by
  intro w hk
  have hg := hg.keep hk
  refine calls_of_Wp (vs := [_]) Tryz.func30 ?_
  refine Wp.seq (Wp.reads (is := [0, 1, 2]) (Keep.refl _) (Rn.s rfl Yv.as (Rn.s rfl Yv.as (Rn.s rfl Yv.as (Rn.nil)))) ?_)
  refine Wp.seq (Wp.seq (Wp.regionL (l := [0, 1, 2]) (WO.rd (is := [0]) (js := [1, 2]) (Keep.refl _) (Rn.s rfl Yv.mv (Rn.nil)) (WO.cv rfl (hasPrefix_cv s [34] _) (Keep.refl _) (FnOk.of Tryz.func32) (fun w1 k1 => WO.rd (is := [2]) (js := []) ((Keep.refl _).trans k1) (Rn.s rfl Yv.not (Rn.nil)) (WO.done ?_))))))
  have kk := k1
  refine Wp.cond rfl (fun h => ?_) (fun h => ?_)
  · have h : Lib.hasPrefix s [34] = false := by simpa using h
    refine Wp.seq (Wp.regionL (l := [0, 1, 2, 3, 4, 5, 6, 7, 8]) (WO.rd (is := [0]) (js := [1, 2, 3, 4, 5, 6, 7, 8]) kk (Rn.s rfl Yv.mv (Rn.nil)) (WO.cv rfl (cut_cv s [58] (by omega) _ hg) kk (FnOk.of Tryz.func46) (fun w1 k1 => WO.rd (is := [2, 3, 4, 5, 6, 7, 8]) (js := []) (kk.trans k1) (Rn.s rfl Yv.mv (Rn.s rfl Yv.ex (Rn.s rfl Yv.ex (Rn.s rfl Yv.ex (Rn.s rfl Yv.as (Rn.s rfl Yv.as (Rn.s rfl Yv.as (Rn.nil)))))))) (WO.done ?_)))))
    have kk := kk.trans k1
    refine Wp.seq (Wp.regionL (l := [0, 1, 2, 3, 4, 5, 6, 7, 8, 9]) (WO.rd (is := [0, 1, 2, 3]) (js := [4, 5, 6, 7, 8, 9]) kk (Rn.s rfl Yv.mv (Rn.s rfl Yv.mv (Rn.s rfl Yv.mv (Rn.s rfl Yv.mv (Rn.nil))))) (WO.and (js := [7, 8, 9]) 23 26 (hg := rfl) (ht := fun h3 q1 => WO.rd (is := [4]) (js := [5, 6, 7, 8, 9]) kk (Rn.s rfl Yv.mv (Rn.nil)) (WO.cv rfl (name_cv _ _) kk (FnOk.of Tryz.func35) (fun w2 k2 => WO.rd (is := [6]) (js := [7, 8, 9]) (kk.trans k2) (Rn.s rfl Yv.pick_t (Rn.nil)) (WO.e 3 (q1 _ ((Keep.refl _).trans k2)))))) (hf := fun _ q1 => WO.rd (is := [4, 5, 6]) (js := [7, 8, 9]) kk (Rn.no rfl (Rn.no rfl (Rn.s rfl Yv.pick_f Rn.nil))) (WO.e 3 (q1 _ (Keep.refl _)))) (k := fun w1 k1 => WO.rd (is := [7, 8, 9]) (js := []) (kk.trans k1) (Rn.s rfl Yv.as (Rn.s rfl Yv.as (Rn.s rfl Yv.as (Rn.nil)))) (WO.done ?_)))))
    refine Wp.ret (Fin.ret (Res.three rfl rfl rfl rfl) ⟨?_, kk.trans k1⟩)
    simp only [fileS, h]
    rfl
  have h : Lib.hasPrefix s [34] = true := by simpa using h
  refine Wp.skip (Wp.seq (Wp.regionL (l := [0, 1, 2, 3, 4, 5, 6, 7, 8]) (WO.rd (is := [0]) (js := [1, 2, 3, 4, 5, 6, 7, 8]) kk (Rn.s rfl Yv.mv (Rn.nil)) (WO.cv rfl (read_cv s (by omega) _) kk (FnOk.of Tryz.func47) (fun w1 k1 => WO.rd (is := [2, 3, 4, 5, 6, 7, 8]) (js := []) (kk.trans k1) (Rn.s rfl Yv.mv (Rn.s rfl Yv.ex (Rn.s rfl Yv.ex (Rn.s rfl Yv.ex (Rn.s rfl Yv.as (Rn.s rfl Yv.as (Rn.s rfl Yv.as (Rn.nil)))))))) (WO.done ?_))))))
  have kk := kk.trans k1
  have hq := quoteR_bd s
  refine Wp.seq (Wp.seq (Wp.draws [] mixed (WD.rd (is := [0, 1, 2]) (fun _ _ _ _ _ h => h) (kk.trans (Keep.drew _)) (Rn.s rfl Yv.mv (Rn.s rfl Yv.not (Rn.s rfl Yv.mv (Rn.nil)))) (WD.or [3, 4, 5, 6, 7, 8] 35 41 (hg := rfl) (hf := fun h2 q1 => WD.rd (is := [3, 4, 5]) (fun _ _ _ _ _ h => h) (kk.trans (Keep.drew _)) (Rn.s rfl Yv.mv (Rn.s rfl Yv.mv (Rn.s rfl (Yv.ss_f hq.1 hq.2.1) (Rn.nil)))) (WD.cv 6 rfl (hasPrefix_cv _ [58] _) (kk.trans (Keep.drew _)) (FnOk.of Tryz.func32) (fun w2 k2 => WD.rd (is := [7, 8]) (fun _ _ _ _ _ h => h) ((kk.trans (Keep.drew _)).trans k2) (Rn.s rfl Yv.not (Rn.s rfl Yv.pick_f (Rn.nil))) (WD.e 6 (q1 _ ((Keep.refl _).trans k2)))))) (ht := fun _ q1 => WD.rd (is := [3, 4, 5, 6, 7, 8]) (fun _ _ _ _ _ h => h) (kk.trans (Keep.drew _)) (Rn.no rfl (Rn.no rfl (Rn.no rfl (Rn.no rfl (Rn.no rfl (Rn.s rfl Yv.pick_t Rn.nil)))))) (WD.e 6 (q1 _ (Keep.refl _)))) (k := fun w1 k1 => WD.rd (is := [9]) (fun _ _ _ _ _ h => h) ((kk.trans (Keep.drew _)).trans k1) (Rn.s rfl Yv.mv (Rn.nil)) (WD.or [10, 11, 12, 13, 14, 15, 16] 42 49 (hg := rfl) (hf := fun h9 q3 => WD.rd (is := [10, 12, 13, 14]) (fun _ _ _ _ _ h => h) ((kk.trans (Keep.drew _)).trans k1) (Rn.s rfl Yv.mv (Rn.s rfl Yv.mv (Rn.s rfl Yv.mv (Rn.s rfl (Yv.ss_t hq.1 hq.2.1) (Rn.nil))))) (WD.cv 11 rfl (key_cv _ (by omega) _) ((kk.trans (Keep.drew _)).trans k1) (FnOk.of Tryz.func21) (fun w4 k4 => WD.rd (is := [15, 16]) (fun _ _ _ _ _ h => h) (((kk.trans (Keep.drew _)).trans k1).trans k4) (Rn.s rfl (Yv.scm _ rfl) (Rn.s rfl Yv.pick_f (Rn.nil))) (WD.e 7 (q3 _ ((Keep.refl _).trans k4)))))) (ht := fun _ q3 => WD.rd (is := [10, 11, 12, 13, 14, 15, 16]) (fun _ _ _ _ _ h => h) ((kk.trans (Keep.drew _)).trans k1) (Rn.no rfl (Rn.no rfl (Rn.no rfl (Rn.no rfl (Rn.no rfl (Rn.no rfl (Rn.s rfl Yv.pick_t Rn.nil))))))) (WD.e 7 (q3 _ (Keep.refl _)))) (k := fun w3 k3 => WD.done ?_)))))))
  have kk := (kk.trans (Keep.drew _)).trans (k1.trans k3)
  refine Wp.cond rfl (fun h2 => ?_) (fun h2 => ?_)
  · refine Wp.seq (Wp.reads (is := [0, 1, 2]) (Keep.refl _) (Rn.s rfl Yv.as (Rn.s rfl Yv.as (Rn.s rfl Yv.as (Rn.nil)))) ?_)
    refine Wp.ret (Fin.ret (Res.three rfl rfl rfl rfl) ⟨?_, kk⟩)
    rw [fileS, if_pos h, if_neg]
    · rfl
    · rintro ⟨h3, h4, h5⟩
      simp [h3, h4, h5] at h2
  · have h3 : (quoteR s).2.2 = true ∧ Lib.hasPrefix (s.drop (quoteR s).2.1.toNat) [58] = true ∧ keyW (quoteR s).1 = s.take (quoteR s).2.1.toNat := by
      simpa [and_assoc] using h2
    have hlt := hasPrefix_lt h3.2.1
    refine Wp.skip (Wp.seq (Wp.readsD (is := [0, 1, 2, 3, 4, 5, 6, 7]) mixed (fun _ _ _ _ _ h => h) (Keep.refl _) (Rn.s rfl Yv.mv (Rn.s rfl Yv.mv (Rn.s rfl Yv.mv (Rn.s rfl (Yv.add (by unfold inI; omega)) (Rn.s rfl (Yv.ss_f (by omega) (by omega)) (Rn.s rfl Yv.as (Rn.s rfl Yv.as (Rn.s rfl Yv.as (Rn.nil))))))))) ?_))
    refine Wp.ret (Fin.ret (Res.three rfl rfl rfl rfl) ⟨?_, kk.trans (Keep.drew _)⟩)
    rw [fileS, if_pos h, if_pos h3]
    rfl
end Go.Proofs.YtkobcbjblllhlaaGreatDoor.C
