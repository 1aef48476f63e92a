/- The plain law of TreeJoins: two texts that are trees, one behind the other, are one tree with the parts of both. -/
import Derived.Test.YtbmplmehofgocaaDoorPd
set_option linter.unusedVariables false
set_option linter.unusedSimpArgs false
set_option maxRecDepth 10000
namespace Go.Proofs.YtbmplmehofgocaaDoor.C
open Go.RowKit Go.Proofs.YtbmplmehofgocaaDoor.Sh
/-! ### lines: their places and their numbers -/
theorem trimB_mem {l : Bs} {c x : UInt8} (h : x ∈ Lib.trimB l c) : x ∈ l := by
  unfold Lib.trimB Lib.trimLeftB Lib.trimRightB at h
  have h := (List.dropWhile_sublist _).mem h
  have h := List.mem_reverse.1 h
  exact List.mem_reverse.1 ((List.dropWhile_sublist _).mem h)
theorem lineOf_ind {n : Nat} {l : Bs} {x : Ln} (h : lineOf n l = some x) : 0 ≤ x.indent ∧ x.no = n ∧ x.text ≠ [] := by
  unfold lineOf at h
  simp only at h
  split at h
  · cases h
  rename_i h0
  injection h with h
  subst h
  have h0 : Lib.trimB l 32 ≠ [] := fun e => h0 (.inl e)
  refine ⟨?_, rfl, h0⟩
  have hb := (indexByte_bd l (nth (Lib.trimB l 32) 0)).1
  have hne : Lib.indexByte l (nth (Lib.trimB l 32) 0) ≠ -1 := by
    intro e
    obtain ⟨k, hk⟩ := List.mem_iff_getElem?.1 (trimB_mem (l := l) (c := 32) (x := nth (Lib.trimB l 32) 0) (by
      cases hh : Lib.trimB l 32 with
      | nil => exact (h0 hh).elim
      | cons a r => exact List.mem_cons_self ..))
    exact Lib.indexByte_none e k hk
  simp only
  omega
/-- what the lines are, from whatever has been read -/
theorem linesR_shift (c : Nat) : ∀ (xs : List (Nat × Bs)) (acc : List Ln), (linesR xs acc).e = 0 → (∀ x ∈ xs, x.1 + c ≤ 4096) →
    ∃ L, (linesR xs acc).ls = acc ++ L ∧ (∀ l ∈ L, 0 ≤ l.indent) ∧ ∀ acc', linesR (xs.map fun x => (x.1 + c, x.2)) acc' = ⟨acc' ++ L.map (fL (· + c) 0), 0, 0, 0⟩
  | [], acc, _, _ => ⟨[], by simp [linesR], by simp, fun acc' => by simp [linesR]⟩
  | (n, l) :: xs, acc, h, hx => by
    have hn := hx (n, l) (List.mem_cons_self ..)
    have hxs : ∀ x ∈ xs, x.1 + c ≤ 4096 := fun x hm => hx x (List.mem_cons_of_mem _ hm)
    simp only at hn
    by_cases h1 : (4096 : Int) < n
    · rw [linesR, if_pos h1] at h; cases h
    by_cases h2 : 0 ≤ badI l 0
    · rw [linesR, if_neg h1, if_pos h2] at h; cases h
    have e1 : linesR ((n, l) :: xs) acc = match lineOf n l with
      | none => linesR xs acc
      | some x => linesR xs (acc ++ [x]) := by
      rw [linesR, if_neg h1, if_neg h2]
      cases lineOf n l <;> rfl
    have e2 : ∀ acc', linesR (((n, l) :: xs).map fun x => (x.1 + c, x.2)) acc' = match lineOf (n + c) l with
      | none => linesR (xs.map fun x => (x.1 + c, x.2)) acc'
      | some x => linesR (xs.map fun x => (x.1 + c, x.2)) (acc' ++ [x]) := by
      intro acc'
      rw [List.map_cons, linesR, if_neg (by omega), if_neg h2]
      cases lineOf (n + c) l <;> rfl
    rw [e1] at h ⊢
    have hlo : lineOf (n + c) l = (lineOf n l).map (fL (· + c) 0) := by
      unfold lineOf
      simp only
      split
      · rfl
      · simp [fL]
    cases h3 : lineOf n l with
    | none =>
      rw [h3] at h hlo
      obtain ⟨L, q1, q2, q3⟩ := linesR_shift c xs acc h hxs
      refine ⟨L, q1, q2, fun acc' => ?_⟩
      rw [e2, hlo]
      exact q3 acc'
    | some x =>
      rw [h3] at h hlo
      obtain ⟨L, q1, q2, q3⟩ := linesR_shift c xs _ h hxs
      refine ⟨x :: L, by simp [q1], ?_, fun acc' => ?_⟩
      · intro l' hl'
        rcases List.mem_cons.1 hl' with rfl | hl'
        · exact (lineOf_ind h3).1
        · exact q2 l' hl'
      · rw [e2, hlo]
        simp only [Option.map_some]
        rw [q3]
        simp
theorem linesR_no : ∀ (xs : List (Nat × Bs)) (acc : List Ln), (∀ l ∈ acc, 0 ≤ l.no ∧ l.no ≤ 4096) → ∀ l ∈ (linesR xs acc).ls, 0 ≤ l.no ∧ l.no ≤ 4096
  | [], acc, h => by simpa [linesR] using h
  | (n, l) :: xs, acc, h => by
    by_cases h1 : (4096 : Int) < n
    · rw [linesR, if_pos h1]; simp
    by_cases h2 : 0 ≤ badI l 0
    · rw [linesR, if_neg h1, if_pos h2]; simp
    rw [linesR, if_neg h1, if_neg h2]
    cases h3 : lineOf n l with
    | none => exact linesR_no xs acc h
    | some x =>
      refine linesR_no xs _ fun y hy => ?_
      rcases List.mem_append.1 hy with hy | hy
      · exact h y hy
      · rw [List.mem_singleton.1 hy, (lineOf_ind h3).2.1]; omega
theorem parse_line {file s : Bs} (h : (parseS file s).2.code = 0) : ∀ n ∈ (parseS file s).1, 0 ≤ n.line ∧ n.line ≤ 4096 := by
  have he := parse_lines h
  have hm := ((parseS_law file s).2.2 he h).2.2
  have hl : ∀ l ∈ (linesS s).ls, 0 ≤ l.no ∧ l.no ≤ 4096 := by
    unfold linesS
    split
    · simp
    · exact linesR_no _ [] (by simp)
  intro n hn
  have : pl n ∈ (parseS file s).1.map pl := List.mem_map_of_mem hn
  rw [hm] at this
  rcases List.mem_cons.1 this with e | e
  · have : n.line = 0 := congrArg (·.2.1) e
    omega
  · obtain ⟨l, hl1, hl2⟩ := List.mem_map.1 e
    have e : l.no = n.line := congrArg (·.2.1) hl2
    rw [← e]; exact hl l hl1
theorem raw_shift (c : Nat) : ∀ (m n : Nat) (s : Bs), s.length ≤ m → rawFrom (n + c) s = (rawFrom n s).map fun x => (x.1 + c, x.2)
  | 0, n, s, h => by
    obtain rfl := List.eq_nil_of_length_eq_zero (Nat.le_zero.1 h)
    rw [raw_nil, raw_nil]; rfl
  | m + 1, n, s, h => by
    by_cases hs : s = []
    · subst hs; rw [raw_nil, raw_nil]; rfl
    have hlt := cut_rest_lt s 10 hs
    have e1 : ∀ n, rawFrom n s = (n, (Lib.cut s [10]).1) :: rawFrom (n + 1) (Lib.cut s [10]).2.1 := fun n => by rw [rawFrom, dif_neg hs]
    rw [e1, e1, List.map_cons, ← raw_shift c m (n + 1) _ (by omega)]
    have : n + c + 1 = n + 1 + c := by omega
    rw [this]
theorem isS_le {t : List Nd} (h : isS t = true) : ∀ n ∈ t.drop 1, n.depth ≤ 32 := by
  cases t with
  | nil => simp
  | cons a r =>
    unfold isS at h
    simp only at h
    split at h
    · cases h
    split at h
    · cases h
    · exact fun n hn => (isGo_depth _ _ _ _ _ h n hn).2
/-- the first line of a text that is a tree stands at the margin -/
theorem first_line {file : Bs} {l : Ln} {ls : List Ln} {G : List Nd × Ft} (hgo : goS file (l :: ls) [nd0 file] [ob0] false 0 = G) (hG : G.2.code = 0) :
    (readC l.text).2.2 = 0 ∧ (readC l.text).2.1 = 0 ∧ l.indent = 0 ∧ (readC l.text).1.kind ≠ 2 ∧ goS file ls ([nd0 file] ++ [nodeS file 1 l (readC l.text).1]) [{ ob0 with keys := aput (readC l.text).1.key (w64 (0 + 1)) [] }] (!(readC l.text).1.has) 0 = G := by
  rw [goS] at hgo
  by_cases h1 : (readC l.text).2.2 ≠ 0
  · rw [if_pos h1] at hgo; subst hgo; exact (h1 hG).elim
  rw [if_neg h1] at hgo
  have h1 : (readC l.text).2.2 = 0 := by simpa using h1
  by_cases h2 : (enterS [nd0 file] [ob0] false 0 l (readC l.text).1).1 ≠ 0
  · rw [if_pos h2] at hgo; subst hgo; exact (h2 hG).elim
  rw [if_neg h2] at hgo
  obtain ⟨E, N2, S2, hE⟩ : ∃ E N2 S2, enterS [nd0 file] [ob0] false 0 l (readC l.text).1 = (E, N2, S2) := ⟨_, _, _, rfl⟩
  rw [hE] at h2 hgo
  obtain rfl : E = 0 := by simpa using h2
  obtain ⟨b, r, hp, e1, e2, e3, e4, rfl, rfl⟩ := enterS_inv hE
  have hs : stack1 [nd0 file].length [ob0] false 0 l (readC l.text).1 = [ob0] := by rw [stack1, if_neg (by simp [opens])]
  rw [hs] at hp
  have hp : [ob0] = b :: r := hp
  injection hp with hp1 hp2
  subst hp1 hp2
  have hl0 : l.indent = 0 := e1.symm
  have hn : nodes1 [nd0 file] false 0 l (readC l.text).1 = [nd0 file] := by rw [nodes1, if_neg (by simp [opens])]
  refine ⟨h1, ?_, hl0, fun h => by rw [h] at e2; exact absurd e2 (by decide), ?_⟩
  · unfold readC at h1 ⊢
    cases hh : headS l.text with
    | err why col =>
      have := headS_g l.text
      rw [hh] at this
      rw [hh] at h1
      exact (this.1 h1).elim
    | ok a o =>
      simp only
      rw [hh] at h1
      simp only at h1
      have hg := headS_g l.text
      rw [hh] at hg
      obtain ⟨q1, q2, q3, q4, q5⟩ := hg
      have hgg := gapN_le l.text a.toNat (by omega)
      have hv := valueS_g l.text (gapN l.text a.toNat) o hgg.2 (by omega) q3 q4 q5
      cases h3 : valueS l.text (gapN l.text a.toNat) o with
      | err why col =>
        rw [h3] at h1 hv
        exact (hv.1 h1).elim
      | ok a' o' => rfl
  · rw [hn, hl0] at hgo
    exact hgo
theorem fN0 (c : Nat) (n : Nd) : fN (· + c) 0 0 n = { n with line := n.line + c } := by
  unfold fN
  cases n
  simp
  intro h
  exact h.symm
theorem joins_law {s u : Bs} (hl : s.length + u.length ≤ 20000) (hc : (endl s).count 10 + u.length ≤ 4096) (ha : (parseS [102] (endl s)).2.code = 0) (hb : (parseS [102] u).2.code = 0)
    (hno : ∀ n ∈ (parseS [102] u).1.drop 1, n.depth = 1 → ¬ 0 ≤ getS (parseS [102] (endl s)).1 [n.key]) :
    parseS [102] (endl s ++ u) = ((parseS [102] (endl s)).1 ++ ((parseS [102] u).1.drop 1).map fun x => { x with line := x.line + ((endl s).count 10 : Nat) }, ft0) := by
  have hle := endl_len s
  have hia := parse_is ha
  have hib := parse_is hb
  have heb := parse_lines hb
  have hfb := ((parseS_law [102] u).2.2 heb hb).1
  obtain ⟨c, hcd⟩ : ∃ c, c = (endl s).count 10 := ⟨_, rfl⟩
  obtain ⟨st, la, ind, rd, go⟩ := parse_more u (endl_nl s) (by omega) ha
  rw [← hcd] at hc go ⊢
  have elu : linesS u = linesR (rawFrom 1 u) [] := by unfold linesS; rw [if_neg (by omega)]
  have hrl := raw_len u.length 1 u (Nat.le_refl _)
  obtain ⟨L, hL, hLi, hLs⟩ := linesR_shift c (rawFrom 1 u) [] (by rw [← elu]; exact heb) (by
    intro x hx
    obtain ⟨k, hk⟩ := List.mem_iff_getElem?.1 hx
    have h1 := (raw_line_le u k x hk).2
    have h2 := (List.getElem?_eq_some_iff.1 hk).1
    omega)
  rw [← elu, List.nil_append] at hL
  rw [go (L.map (fL (· + c) 0)) (by rw [raw_shift c u.length 1 u (Nat.le_refl _)]; exact hLs _)]
  have hgo : goS [102] L [nd0 [102]] [ob0] false 0 = parseS [102] u := by unfold parseS; rw [if_neg (by simp [heb]), hL]
  have hno' : ∀ key, ((1 : Int), key) ∈ ((parseS [102] u).1.drop 1).map dk → ¬ ((1 : Int), key) ∈ ((parseS [102] (endl s)).1.drop 1).map dk := by
    intro key hk
    obtain ⟨n, hn, he⟩ := List.mem_map.1 hk
    injection he with q1 q2
    rw [← get_root hia, ← q2]
    exact hno n hn q1
  generalize hGd : parseS [102] u = G at hgo hb hib hfb hno' ⊢
  generalize (parseS [102] (endl s)).1 = T at rd hno' hia ⊢
  have hTl := rd.len
  have hfin : ((G.1.drop 1).map fun x : Nd => ({ x with line := x.line + (c : Nat) } : Nd)) = (G.1.drop 1).map (fN (· + c) 0 ([] : List OB).length) := List.map_congr_left fun n _ => (fN0 c n).symm
  rw [hfin, ← hfb]
  cases L with
  | nil =>
    rw [goS] at hgo
    subst hgo
    rw [List.map_nil, goS]
    simp
  | cons l ls =>
    obtain ⟨f1, f2, f3, f4, f5⟩ := first_line hgo hb
    have hin : ((1 : Int), (readC l.text).1.key) ∈ (G.1.drop 1).map dk := by
      obtain ⟨more, hm⟩ := goS_dk [102] ls _ _ _ _ (by rw [f5]; exact hb)
      rw [f5] at hm
      rw [List.map_drop, hm]
      simp [nodeS]
    obtain ⟨b, b1, b2, b3, b4, b5, b6⟩ := enter_root (last := la) (l := fL (· + c) 0 l) (o := (readC l.text).1) rd (by unfold fL; rw [f3]; rfl) f4
    have hE := b6 (hno' _ hin)
    have hrd : readC (fL (· + c) 0 l).text = ((readC l.text).1, 0, 0) := by
      have : (fL (· + c) 0 l).text = l.text := rfl
      rw [this]
      exact Prod.ext rfl (Prod.ext f2 f1)
    rw [List.map_cons, goS_cons _ _ _ _ _ _ _ hrd hE, if_neg (by decide)]
    have hli := hLi l (List.mem_cons_self ..)
    have hct := (readC_g l.text).1 f1
    have key := sim_go [102] (· + c) 0 (Int.le_refl _) [] (fun key => ((1 : Int), key) ∈ (T.drop 1).map dk) T (List.length_pos_iff.1 hTl) G hb (by
        intro n hn
        have := isS_le hib n hn
        simpa using this) hno' ls [nodeS [102] 1 l (readC l.text).1] [] { ob0 with keys := aput (readC l.text).1.key (w64 (0 + 1)) [] } { b with keys := aput (readC l.text).1.key (w64 ((alook (readC l.text).1.key b.keys).getD 0 + 1)) b.keys } (!(readC l.text).1.has) 0
      (by simp) (fun x hx => hLi x (List.mem_cons_of_mem _ hx)) rfl rfl b1 b2 (fun key => by
        simp only [alook_aput]
        by_cases e : (readC l.text).1.key = key
        · rw [if_pos e, if_pos e]; simp
        · rw [if_neg e, if_neg e, b3 key]; simp [alook]) f5
    have hnode := nodeS_fN [102] 1 0 (· + c) 0 l (readC l.text).1 hli hct
    have hind : (fL (· + c) 0 l).indent = 0 + 0 := by unfold fL; rw [f3]
    rw [hind]
    have hl1 : ([{ b with keys := aput (readC l.text).1.key (w64 ((alook (readC l.text).1.key b.keys).getD 0 + 1)) b.keys }] : List OB).length = 1 + 0 := rfl
    rw [hl1, hnode]
    exact key
end Go.Proofs.YtbmplmehofgocaaDoor.C
