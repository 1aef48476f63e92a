/- A text's lines that say something: text.bad and text.Lines. -/
import Derived.Test.YtgjhbapbomdpbaaDoorB2
set_option linter.unusedVariables false
set_option linter.unusedSimpArgs false
set_option maxRecDepth 10000
namespace Go.Proofs.YtgjhbapbomdpbaaDoor.C
open Go.RowKit Go.Proofs.YtgjhbapbomdpbaaDoor.Sh
def badB (b : UInt8) : Bool := decide (b.toNat < 32) || b.toNat == 127
/-- the place of the first byte that may not be -/
def badI : Bs → Int → Int
  | [], _ => -1
  | b :: s, n => if badB b then n else badI s (n + 1)
theorem badI_bd : ∀ (s : Bs) (n : Int), 0 ≤ n → badI s n = -1 ∨ (n ≤ badI s n ∧ badI s n < n + s.length)
  | [], n, h => .inl rfl
  | b :: s, n, h => by
    unfold badI
    split
    · right; simp; omega
    · rcases badI_bd s (n + 1) (by omega) with h' | h'
      · exact .inl h'
      · right; simp only [List.length_cons]; omega
theorem bad_cv (s : Bs) (hl : s.length < 4000000000000000000) (w0 : World) : Cv Tryd.prog 51 [S s] (.int .i64 (badI s 0)) w0 := by
  intro w hk
  refine calls_of_Wp (vs := [_]) Tryd.func51 ?_
  refine Wp.seq (Wp.reads (is := [0]) (Keep.refl _) (Rn.s rfl Yv.as (Rn.nil)) ?_)
  refine Wp.seq (Wp.seq (Wp.reads (is := [0]) (Keep.refl _) (Rn.s rfl Yv.as (Rn.nil)) ?_))
  refine Wp.block ?_
  refine Wp.loop (α := Nat) (fun k ρ ds w' => ds = [] ∧ w' = w ∧ k ≤ s.length ∧ badI (s.drop k) k = badI s 0 ∧ Sub [(0, S s), (3, .int .i64 k)] ρ) (fun k => s.length - k) 0 ⟨rfl, rfl, by omega, rfl, rfl, rfl, trivial⟩ ?_
  rintro k ρ ds w' ⟨rfl, rfl, h1, h2, hs⟩
  refine Wp.forget _ ?_ hs
  refine Wp.seq (Wp.seq (Wp.reads (is := [0, 1, 2, 3]) (Keep.refl _) (Rn.s rfl Yv.mv (Rn.s rfl Yv.mv (Rn.s rfl Yv.len_s (Rn.s rfl (Yv.cmp _ rfl) (Rn.nil))))) ?_))
  refine Wp.cond rfl (fun hlt => ?_) (fun hlt => ?_)
  · have hlt := of_decide_eq_true hlt
    have hkl : k < s.length := by omega
    have hget : s[k]? = some s[k] := List.getElem?_eq_getElem hkl
    have hby := byt_of hget
    rw [List.drop_eq_getElem_cons hkl, badI] at h2
    refine Wp.skip (Wp.seq (Wp.block (Wp.seq (Wp.reads (is := [0, 1, 2, 3, 4, 5, 6, 7, 8, 9]) (Keep.refl _) (Rn.s rfl Yv.mv (Rn.s rfl Yv.mv (Rn.s rfl (Yv.ix (by omega) (by omega)) (Rn.s rfl (Yv.cmp _ rfl) (Rn.s rfl Yv.mv (Rn.or (is := [5, 6, 7, 8, 9]) (js := []) (t := 14) (d := 19) (hg := rfl) (hf := fun h4 => have h4 := of_decide_eq_false h4; Rn.s rfl Yv.mv (Rn.s rfl Yv.mv (Rn.s rfl (Yv.ix (by omega) (by omega)) (Rn.s rfl (Yv.cmp _ rfl) (Rn.s rfl Yv.pick_f ((Rn.e 5 rfl rfl))))))) (ht := fun _ => Rn.no rfl (Rn.no rfl (Rn.no rfl (Rn.no rfl (Rn.s rfl Yv.pick_t (Rn.e 5 rfl rfl)))))) (k := Rn.nil))))))) ?_))))
    have e : (decide (byt s k < 32) || byt s k == 127) = badB s[k] := by
      rw [hby]
      unfold badB
      congr 1
      · simp only [decide_eq_decide]; omega
      · by_cases h : s[k].toNat = 127
        · simp [h]
        · have : ¬ ((s[k].toNat : Int) = 127) := by omega
          rw [beq_eq_false_iff_ne.2 h, beq_eq_false_iff_ne.2 this]
    refine Wp.cond rfl (fun hb => ?_) (fun hb => ?_)
    · rw [e] at hb
      rw [if_pos hb] at h2
      refine Wp.seq (Wp.reads (is := [0, 1]) (Keep.refl _) (Rn.s rfl Yv.mv (Rn.s rfl Yv.as (Rn.nil))) ?_)
      exact Wp.ret (Fin.ret (Res.one rfl rfl) ⟨by rw [h2], Keep.refl _⟩)
    · rw [e] at hb
      rw [if_neg (by simp [hb])] at h2
      refine Wp.skip (Wp.reads (is := [0, 1, 2]) (Keep.refl _) (Rn.s rfl Yv.mv (Rn.s rfl (Yv.add (by unfold inI; omega)) (Rn.s rfl Yv.as (Rn.nil)))) ?_)
      exact ⟨k + 1, ⟨rfl, rfl, hkl, by rw [← h2]; rfl, rfl, rfl, trivial⟩, by omega⟩
  · have hlt := of_decide_eq_false hlt
    rw [List.drop_eq_nil_of_le (by omega), badI] at h2
    refine Wp.exit (Wp.seq (Wp.reads (is := [0]) (Keep.refl _) (Rn.s rfl Yv.as (Rn.nil)) ?_))
    exact Wp.ret (Fin.ret (Res.one rfl rfl) ⟨by rw [h2], Keep.refl _⟩)
/-- a line that says something -/
structure Ln where
  no : Int
  indent : Int
  text : Bs
deriving Inhabited, DecidableEq
abbrev Ln.cs (l : Ln) : List Value := [.int .i64 l.no, .int .i64 l.indent, S l.text]
abbrev LnE : Enc Ln := ⟨3, Ln.cs, fun _ => rfl⟩
structure LsR where
  ls : List Ln
  no : Int
  col : Int
  e : Int
deriving Inhabited, DecidableEq
def lineOf (n : Nat) (l : Bs) : Option Ln :=
  let t := Lib.trimB l 32
  if t = [] ∨ byt t 0 = 35 then none else some ⟨n, Lib.indexByte l (nth t 0), t⟩
def linesR : List (Nat × Bs) → List Ln → LsR
  | [], acc => ⟨acc, 0, 0, 0⟩
  | (n, l) :: xs, acc =>
    if (4096 : Int) < n then ⟨[], n, 0, 12⟩
    else if 0 ≤ badI l 0 then ⟨[], n, badI l 0 + 1, 11⟩
    else match lineOf n l with
      | none => linesR xs acc
      | some x => linesR xs (acc ++ [x])
def linesS (s : Bs) : LsR := if (65536 : Int) < s.length then ⟨[], 0, 0, 10⟩ else linesR (rawFrom 1 s) []
theorem trimB_le (l : Bs) (c : UInt8) : (Lib.trimB l c).length ≤ l.length := by
  unfold Lib.trimB Lib.trimLeftB Lib.trimRightB
  have h1 := (List.dropWhile_sublist (fun x => x == c) (l := (l.reverse.dropWhile (· == c)).reverse)).length_le
  have h2 := (List.dropWhile_sublist (fun x => x == c) (l := l.reverse)).length_le
  simp only [List.length_reverse] at h1 h2
  omega
theorem raw_line_le (s : Bs) (k : Nat) (x : Nat × Bs) (h : (rawFrom 1 s)[k]? = some x) : x.2.length ≤ s.length ∧ x.1 = 1 + k := by
  rw [raw_get] at h
  split at h
  · cases h
  · injection h with h
    subst h
    have := cut_fst_le (restK s k) [10]
    have := restK_le s k
    exact ⟨by simp only; omega, rfl⟩
/-- what text.Lines hands back -/
def LinesPost (s : Bs) (w : World) (e : Ending) (w' : World) : Prop := ∃ A c, e = .returned (.tuple #[.slice A (linesS s).ls.length c, .int .i64 (linesS s).no, .int .i64 (linesS s).col, .int .i64 (linesS s).e]) ∧ St w [] w' [Ch.row LnE 78 A c (linesS s).ls]
theorem _root_.Go.Proofs.YtgjhbapbomdpbaaDoor.Sh.Res.four {P : Program} {fn : Func} {N : Nat} {ρ : Env} {w : World} {t u s r : Nat} {v x y z : Value} (h : fn.results = #[.tmp t, .tmp u, .tmp s, .tmp r]) (hv : lk ρ t = some v) (hx : lk ρ u = some x) (hy : lk ρ s = some y) (hz : lk ρ r = some z) : Res P fn N ρ w (.tuple #[v, x, y, z]) := fun a ds ha => by
  have e1 := ha.val t v hv
  have e2 := ha.val u x hx
  have e3 := ha.val s y hy
  have e4 := ha.val r z hz
  simp only [results, h]
  simp at e1 e2 e3 e4
  simp [e1, e2, e3, e4]
theorem each_calls (s : Bs) (w : World) : Cx Tryd.prog 50 [S s] [] (fun v D => ∃ b, v = .func (.func 69) #[] #[.pointer (some ⟨b, 0, none⟩)] ∧ D = [Ch.cells b 9 [S s]]) w := by
  refine calls_of_Wp (vs := [_]) Tryd.func50 ?_
  refine Wp.seq (Wp.regionL (l := [0, 1]) (WO.act (hc := rfl) (he := Ef.boxL ([S s]) (St.init w) (fun bx1 wx1 kx1 hsx1 => WO.rd (is := [1]) (js := []) ((Keep.refl _).trans kx1) (Rn.s rfl Yv.as (Rn.nil)) (WO.done ?_)))))
  refine Wp.seq (Wp.reads (is := [0, 1]) (Keep.refl _) (Rn.s rfl Yv.mf (Rn.s rfl Yv.as (Rn.nil))) ?_)
  exact Wp.ret (Fin.ret (Res.one rfl rfl) ⟨_, _, rfl, ⟨bx1, rfl, rfl⟩, hsx1⟩)
theorem lines_calls (s : Bs) (w0 : World) (hg : Gm w0) (w : World) (hk : Keep w0 w) : Calls Tryd.prog 33 #[S s] w (LinesPost s w) := by
  have hg := hg.keep hk
  refine calls_of_Wp (vs := [_]) Tryd.func33 ?_
  refine Wp.seq (Wp.reads (is := [0, 1, 2, 3]) (Keep.refl _) (Rn.s rfl Yv.as (Rn.s rfl Yv.as (Rn.s rfl Yv.as (Rn.s rfl Yv.as (Rn.nil))))) ?_)
  refine Wp.scope ?_
  refine Wp.seq (Wp.seq (Wp.reads (is := [0, 1, 2]) (Keep.refl _) (Rn.s rfl Yv.mv (Rn.s rfl Yv.len_s (Rn.s rfl (Yv.cmp _ rfl) (Rn.nil)))) ?_))
  refine Wp.cond rfl (fun h => ?_) (fun h => ?_)
  · have h := of_decide_eq_true h
    refine Wp.seq (Wp.reads (is := [0, 1, 2, 3]) (Keep.refl _) (Rn.s rfl Yv.as (Rn.s rfl Yv.as (Rn.s rfl Yv.as (Rn.s rfl Yv.as (Rn.nil))))) ?_)
    have e : linesS s = ⟨[], 0, 0, 10⟩ := by rw [linesS, if_pos h]
    exact Wp.ret (Fin.ret (Res.four rfl rfl rfl rfl rfl) ⟨none, 0, by rw [e]; rfl, by rw [e]; exact (St.init w).nilrow _ _⟩)
  have h := of_decide_eq_false h
  have e : linesS s = linesR (rawFrom 1 s) [] := by rw [linesS, if_neg h]
  unfold LinesPost
  rw [e]
  obtain ⟨R, hR⟩ : ∃ R, R = linesR (rawFrom 1 s) [] := ⟨_, rfl⟩
  rw [← hR]
  have hrl := raw_len _ 1 s (Nat.le_refl _)
  refine Wp.skip (Wp.seq (Wp.regionL (l := [0]) (WO.act (hc := rfl) (he := Ef.allocL (vs := [.slice none 0 0]) (St.init w) (fun ba1 wa1 ka1 hsa1 => WO.done ?_)))))
  refine Wp.seq (Wp.regionL (l := [0, 1, 2, 3, 4, 5]) (WO.act (hc := rfl) (he := Ef.allocL (vs := [.int .i64 0]) hsa1 (fun bb1 wb1 kb1 hsb1 => WO.act (hc := rfl) (he := Ef.allocL (vs := [.int .i64 0]) hsb1 (fun bb2 wb2 kb2 hsb2 => WO.act (hc := rfl) (he := Ef.allocL (vs := [.int .i64 0]) hsb2 (fun bb3 wb3 kb3 hsb3 => WO.act (hc := rfl) (he := Ef.store hsb3 2 (fun wb4 hsb4 => WO.act (hc := rfl) (he := Ef.store hsb4 2 (fun wb5 hsb5 => WO.act (hc := rfl) (he := Ef.store hsb5 2 (fun wb6 hsb6 => WO.done ?_))))))))))))))
  refine Wp.seq (Wp.label ?_)
  have hs0 : St w [] wb6 [Ch.cells bb3 25 [.int .i64 0], Ch.cells bb2 3 [.int .i64 0], Ch.cells bb1 3 [.int .i64 0], Ch.cells ba1 68 [.slice none 0 0]] := hsb6
  have hs0 := hs0.nilrow LnE 78
  refine Wp.seq (Wp.seq (Wp.regionL (l := [0, 1]) (WO.rd (is := [0]) (js := [1]) (Keep.refl _) (Rn.s rfl Yv.mv (Rn.nil)) (WO.act (hc := rfl) (he := Ef.cx (each_calls s wb6) hs0 (FnOk.of Tryd.func50) ?_)))))
  rintro v D wd1 ⟨bs, rfl, rfl⟩ hsd1
  refine WO.done ?_
  have hst : St w [] wd1 (Ch.cells bs 9 [S (restK s 0)] :: [Ch.row LnE 78 none 0 [], Ch.cells bb3 25 [.int .i64 0], Ch.cells bb2 3 [.int .i64 0], Ch.cells bb1 3 [.int .i64 0], Ch.cells ba1 68 [.slice none 0 0]]) := hsd1
  refine Wp.mid (fun ρ ds w' => ∃ kb A c no col er, ds = [{ target := .collected kb, args := #[] }] ∧ St w [] w' (Ch.obj kb (.deferred (some [])) :: Ch.cells bb3 25 [.int .i64 er] :: Ch.cells bb2 3 [.int .i64 col] :: Ch.cells bb1 3 [.int .i64 no] :: (if er = 0 then [Ch.cells ba1 68 [.slice A R.ls.length c], Ch.row LnE 78 A c R.ls] else [])) ∧
    (if er = 0 then R.no = 0 ∧ R.col = 0 ∧ R.e = 0 else R = ⟨[], no, col, er⟩) ∧ Sub [(6, .pointer (some ⟨ba1, 0, none⟩)), (7, .pointer (some ⟨bb1, 0, none⟩)), (8, .pointer (some ⟨bb2, 0, none⟩)), (9, .pointer (some ⟨bb3, 0, none⟩))] ρ) ?_ ?_
  · refine Wp.block ?_
    refine Wp.rangesO hst (each_tells bs s (by omega)) (fun _ _ => rfl)
      (fun k D => ∃ A c acc, D = [Ch.row LnE 78 A c acc, Ch.cells bb3 25 [.int .i64 0], Ch.cells bb2 3 [.int .i64 0], Ch.cells bb1 3 [.int .i64 0], Ch.cells ba1 68 [.slice A acc.length c]] ∧ linesR ((rawFrom 1 s).drop k) acc = R ∧ acc.length ≤ k)
      (fun c D => c = .exit 0 ∧ ∃ no col er D', er ≠ 0 ∧ D = Ch.cells bb3 25 [.int .i64 er] :: Ch.cells bb2 3 [.int .i64 col] :: Ch.cells bb1 3 [.int .i64 no] :: D' ∧ R = ⟨[], no, col, er⟩)
      ?_ ⟨none, 0, [], rfl, hR.symm, Nat.le_refl _⟩ ?_ ?_ ?_ (hf := Tryd.func69)
    · rintro k j D' W ⟨A, c, acc, rfl, -⟩ h
      exact hg.keep h.keep
    · rintro k ⟨n, line⟩ l kb busy D' W hx ⟨A, c, acc, rfl, hacc, hal⟩ hW
      obtain ⟨hll, hn⟩ := raw_line_le s k _ hx
      simp only at hll hn
      have hkl : k < (rawFrom 1 s).length := (List.getElem?_eq_some_iff.1 hx).1
      rw [List.drop_eq_getElem_cons hkl, (List.getElem?_eq_some_iff.1 hx).2, linesR] at hacc
      refine Wp.seq (Wp.reads (is := [0]) (Keep.refl _) (Rn.s rfl Yv.as (Rn.nil)) (Wp.reads (is := [0]) (Keep.refl _) (Rn.s rfl Yv.as (Rn.nil)) ⟨rfl, Keep.refl _, ?_⟩))
      intro W2 hW2
      have hgW := hg.keep hW2.keep
      refine Wp.block (Wp.seq (Wp.seq (Wp.reads (is := [0, 1]) (Keep.refl _) (Rn.s rfl Yv.mv (Rn.s rfl (Yv.cmp _ rfl) (Rn.nil))) ?_)))
      refine Wp.cond rfl (fun h1 => ?_) (fun h1 => ?_)
      · have h1 := of_decide_eq_true h1
        rw [if_pos h1] at hacc
        refine Wp.seq (Wp.regionL (l := [0, 1, 2]) (WO.rd (is := [0]) (js := [1, 2]) (Keep.refl _) (Rn.s rfl Yv.mv (Rn.nil)) (WO.act (hc := rfl) (he := Ef.store hW2 6 (fun wx1 hsx1 => WO.act (hc := rfl) (he := Ef.store hsx1 5 (fun wx2 hsx2 => WO.done ?_)))))))
        refine Wp.exit ⟨_, ⟨rfl, (n : Int), 0, 12, [Ch.cells bs 9 [S (restK s k)]], by decide, rfl, hacc.symm⟩, hsx2.pick [2, 3, 0, 6, 1, 4]⟩
      have h1 := of_decide_eq_false h1
      rw [if_neg h1] at hacc
      refine Wp.skip (Wp.seq (Wp.seq (Wp.regionL (l := [0, 1, 2]) (WO.rd (is := [0]) (js := [1, 2]) (Keep.refl _) (Rn.s rfl Yv.mv (Rn.nil)) (WO.cv rfl (bad_cv line (by omega) _) (Keep.refl _) (FnOk.of Tryd.func51) (fun wx1 kx1 => WO.rd (is := [2]) (js := []) ((Keep.refl _).trans kx1) (Rn.s rfl Yv.as (Rn.nil)) (WO.done ?_)))))))
      have hW3 := hW2.quiet kx1
      refine Wp.seq (Wp.reads (is := [0, 1]) (Keep.refl _) (Rn.s rfl Yv.mv (Rn.s rfl (Yv.cmp _ rfl) (Rn.nil))) ?_)
      have hbd := badI_bd line 0 (by omega)
      refine Wp.cond rfl (fun h2 => ?_) (fun h2 => ?_)
      · have h2 := of_decide_eq_true h2
        rw [if_pos h2] at hacc
        refine Wp.seq (Wp.regionL (l := [0, 1, 2, 3, 4, 5]) (WO.rd (is := [0, 1, 2]) (js := [3, 4, 5]) (Keep.refl _) (Rn.s rfl Yv.mv (Rn.s rfl Yv.mv (Rn.s rfl (Yv.add (by unfold inI; omega)) (Rn.nil)))) (WO.act (hc := rfl) (he := Ef.store hW3 6 (fun wy1 hsy1 => WO.act (hc := rfl) (he := Ef.store hsy1 6 (fun wy2 hsy2 => WO.act (hc := rfl) (he := Ef.store hsy2 6 (fun wy3 hsy3 => WO.done ?_)))))))))
        refine Wp.exit ⟨_, ⟨rfl, (n : Int), badI line 0 + 1, 11, [Ch.cells bs 9 [S (restK s k)]], by decide, rfl, hacc.symm⟩, hsy3.pick [3, 4, 0, 1, 2, 5]⟩
      have h2 := of_decide_eq_false h2
      rw [if_neg h2] at hacc
      refine Wp.skip (Wp.seq (Wp.regionL (l := [0, 1, 2]) (WO.rd (is := [0]) (js := [1, 2]) (Keep.refl _) (Rn.s rfl Yv.mv (Rn.nil)) (WO.cv rfl (trim_cv line 32 (by decide) (by omega) _) (Keep.refl _) (FnOk.of Tryd.func52) (fun wy1 ky1 => WO.rd (is := [2]) (js := []) ((Keep.refl _).trans ky1) (Rn.s rfl Yv.as (Rn.nil)) (WO.done ?_))))))
      have hW4 := hW3.quiet ky1
      have htl := trimB_le line 32
      have e1 : (Lib.trimB line 32 == []) = decide (Lib.trimB line 32 = []) := by
        cases Lib.trimB line 32 <;> simp
      refine Wp.seq (Wp.seq (Wp.reads (is := [0, 1, 2, 3, 4, 5, 6]) (Keep.refl _) (Rn.s rfl Yv.mv (Rn.s rfl (Yv.scm _ rfl) (Rn.s rfl Yv.mv (Rn.or (is := [3, 4, 5, 6]) (js := []) (t := 35) (d := 39) (hg := rfl) (hf := fun h2 => Rn.s rfl Yv.mv (Rn.s rfl (Yv.ix (by omega) (by have := List.length_pos_iff.2 (ne_of_beq_false h2); omega)) (Rn.s rfl (Yv.cmp _ rfl) (Rn.s rfl Yv.pick_f ((Rn.e 4 rfl rfl)))))) (ht := fun _ => Rn.no rfl (Rn.no rfl (Rn.no rfl (Rn.s rfl Yv.pick_t (Rn.e 4 rfl rfl))))) (k := Rn.nil))))) ?_))
      refine Wp.cond rfl (fun h3 => ?_) (fun h3 => ?_)
      · have h3 : Lib.trimB line 32 = [] ∨ byt (Lib.trimB line 32) 0 = 35 := by simpa using h3
        have e2 : lineOf n line = none := by simp only [lineOf]; rw [if_pos h3]
        rw [e2] at hacc
        exact Wp.exit ⟨_, ⟨_, rfl, A, c, acc, rfl, hacc, by omega⟩, hW4⟩
      · have h3 : ¬ (Lib.trimB line 32 = [] ∨ byt (Lib.trimB line 32) 0 = 35) := by simpa using h3
        have hne : Lib.trimB line 32 ≠ [] := fun e => h3 (.inl e)
        have hlp := List.length_pos_iff.2 hne
        have e2 : lineOf n line = some ⟨n, Lib.indexByte line (nth (Lib.trimB line 32) 0), Lib.trimB line 32⟩ := by simp only [lineOf]; rw [if_neg h3]
        rw [e2] at hacc
        have e3 : S ((Lib.trimB line 32).take (1 : Int).toNat) = S [nth (Lib.trimB line 32) 0] := by
          obtain ⟨x, r, hxr⟩ := List.exists_cons_of_ne_nil hne
          rw [hxr]
          rfl
        have hc6 := hW4.cells 7
        refine Wp.skip (Wp.draws [9, 10] mixed (WD.rd (is := [0, 1, 2, 3, 4, 6]) (fun _ _ _ _ _ h => h) (Keep.drew _) (Rn.s rfl (Yv.ld (hc6.at_ 0)) (Rn.s rfl Yv.mv (Rn.s rfl Yv.mv (Rn.s rfl Yv.mv (Rn.s rfl (e3 ▸ Yv.ss_t (by omega) (by omega)) (Rn.s rfl Yv.mv (Rn.nil))))))) (WD.cv 5 rfl (index1_cv line (nth (Lib.trimB line 32) 0) _) (Keep.drew _) (FnOk.of Tryd.func53) (fun wz1 kz1 => WD.rd (is := [7]) (fun _ _ _ _ _ h => h) ((Keep.drew _).trans kz1) (Rn.s rfl (Yv.bd (cs := Ln.cs ⟨n, Lib.indexByte line (nth (Lib.trimB line 32) 0), Lib.trimB line 32⟩)) (Rn.nil)) (WD.app LnE [⟨n, Lib.indexByte line (nth (Lib.trimB line 32) 0), Lib.trimB line 32⟩] 8 9 rfl (fun _ => rfl) (hW4.quiet ((Keep.drew _).trans kz1)) 3 (.inl (by simp only [List.length_cons, List.length_nil]; omega)) (fun bz2 Az2 cz2 wz2 hsz2 => WD.act 10 (hc := rfl) (he := Ef.store hsz2 7 (fun wz3 hsz3 => ⟨fun hn => (hn (by decide)).elim, WD.done ?_⟩))))))))
        exact ⟨_, ⟨_, rfl, _, _, _, rfl, hacc, by simp only [List.length_append, List.length_cons, List.length_nil]; omega⟩, hsz3.pick [2, 3, 4, 1, 5, 6, 7, 0]⟩
    · rintro kb D' W ⟨A, c, acc, rfl, hacc, hal⟩ hW
      rw [List.drop_eq_nil_of_le (Nat.le_refl _), linesR] at hacc
      rw [← hacc]
      exact ⟨kb, A, c, 0, 0, 0, rfl, hW.pick [0, 3, 4, 5, 6, 2], ⟨rfl, rfl, rfl⟩, rfl, rfl, rfl, rfl, trivial⟩
    · rintro kb c D' W ⟨rfl, no, col, er, D2, her, rfl, hRe⟩ hW
      refine Wp.exit ⟨kb, none, 0, no, col, er, rfl, ?_, by rw [if_neg her]; exact hRe, rfl, rfl, rfl, rfl, trivial⟩
      rw [if_neg her]
      exact hW.pick [0, 1, 2, 3]
  · rintro ρ ds w' ⟨kb, A, c, no, col, er, rfl, hst, hRe, hs⟩
    refine Wp.forget _ ?_ hs
    have c9 := hst.cells 1
    have c8 := hst.cells 2
    have c7 := hst.cells 3
    refine Wp.seq (Wp.seq (Wp.reads (is := [0, 1]) (Keep.refl _) (Rn.s rfl (Yv.ld (c9.at_ 0)) (Rn.s rfl (Yv.cmp _ rfl) (Rn.nil))) ?_))
    by_cases her : er = 0
    · subst her
      simp only [if_true] at hst hRe
      refine Wp.cond_f rfl (Wp.skip ?_)
      have c6 := hst.cells 4
      refine Wp.seq (Wp.reads (is := [0, 1, 2, 3, 4]) (Keep.refl _) (Rn.s rfl (Yv.ld (c6.at_ 0)) (Rn.s rfl Yv.as (Rn.s rfl Yv.as (Rn.s rfl Yv.as (Rn.s rfl Yv.as (Rn.nil)))))) ?_)
      refine Wp.ret (Fin.retM (Lv.one hst 0 fun w2 hst2 => ⟨_, Res.four rfl rfl rfl rfl rfl, A, c, ?_, hst2.pick [4]⟩))
      rw [hRe.1, hRe.2.1, hRe.2.2]
    · simp only [if_neg her] at hst hRe
      refine Wp.cond_t ?_ ?_
      · have : (er != 0) = true := by simpa using her
        exact congrArg (fun b => some (Value.bool b)) this
      refine Wp.seq (Wp.readsD (is := [0, 1, 2, 3, 4, 5, 6]) mixed (fun _ _ _ _ _ h => h) (Keep.refl _) (Rn.s rfl (Yv.ld (c7.at_ 0)) (Rn.s rfl (Yv.ld (c8.at_ 0)) (Rn.s rfl (Yv.ld (c9.at_ 0)) (Rn.s rfl Yv.as (Rn.s rfl Yv.as (Rn.s rfl Yv.as (Rn.s rfl Yv.as (Rn.nil)))))))) ?_)
      refine Wp.ret (Fin.retM (Lv.one (hst.quiet (Keep.drew _)) 0 fun w2 hst2 => ⟨_, Res.four rfl rfl rfl rfl rfl, none, 0, ?_, ?_⟩))
      · rw [hRe]; rfl
      · rw [hRe]; exact (hst2.pick []).nilrow _ _
end Go.Proofs.YtgjhbapbomdpbaaDoor.C
