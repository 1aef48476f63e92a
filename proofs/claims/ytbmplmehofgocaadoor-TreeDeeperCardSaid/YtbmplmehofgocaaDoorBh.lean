/- What tree.Parse hands back: a tree with true places, or a fault with a place in the text. -/
import Derived.Test.YtbmplmehofgocaaDoorBg
set_option linter.unusedVariables false
set_option linter.unusedSimpArgs false
set_option maxRecDepth 10000
namespace Go.Proofs.YtbmplmehofgocaaDoor.C
open Go.RowKit Go.Proofs.YtbmplmehofgocaaDoor.Sh
abbrev pl (n : Nd) : Bs × Int × Int × Int := (n.file, n.line, n.col, n.val)
def plL (file : Bs) (l : Ln) : Bs × Int × Int × Int := (file, l.no, l.indent + 1, if (readC l.text).1.has then l.indent + (readC l.text).1.val else 0)
theorem nodes1_pl (nodes : List Nd) (last : Bool) (ind : Int) (l : Ln) (o : Ct) : (nodes1 nodes last ind l o).map pl = nodes.map pl := by
  unfold nodes1
  split
  · rw [List.map_set]
    refine List.ext_getElem? fun i => ?_
    by_cases hi : nodes.length - 1 = i
    · subst hi
      by_cases hl : nodes.length - 1 < nodes.length
      · simp [hl, List.getElem?_eq_getElem hl, Nd.kd, pl]
      · have : nodes = [] := List.eq_nil_of_length_eq_zero (by omega)
        subst this; rfl
    · rw [List.getElem?_set_ne hi]
  · rfl
theorem nodes1_len (nodes : List Nd) (last : Bool) (ind : Int) (l : Ln) (o : Ct) : (nodes1 nodes last ind l o).length = nodes.length := by
  unfold nodes1; split <;> simp
theorem goS_law (file : Bs) : ∀ (ls : List Ln) (nodes : List Nd) (st : List OB) (last : Bool) (ind : Int) (s : List OB) (m : Nat), TI nodes st last s m → nodes.length + ls.length ≤ 16384 →
    ((goS file ls nodes st last ind).2.code ≠ 0 → (goS file ls nodes st last ind).1 = [] ∧ (goS file ls nodes st last ind).2.file = file ∧ ∃ l ∈ ls, l.no = (goS file ls nodes st last ind).2.line ∧ l.indent < (goS file ls nodes st last ind).2.col ∧ (goS file ls nodes st last ind).2.col ≤ l.indent + l.text.length + 1) ∧
    ((goS file ls nodes st last ind).2.code = 0 → (goS file ls nodes st last ind).2 = ft0 ∧ isS (goS file ls nodes st last ind).1 = true ∧ (goS file ls nodes st last ind).1.map pl = nodes.map pl ++ ls.map (plL file))
  | [], nodes, st, last, ind, s, m, h, hl => by
    rw [goS]
    refine ⟨fun h => (h rfl).elim, fun _ => ⟨rfl, isS_of h.gone h.root (by simpa using hl), by simp⟩⟩
  | l :: ls, nodes, st, last, ind, s, m, h, hl => by
    obtain ⟨g1, g2⟩ := readC_g l.text
    rw [goS]
    by_cases he : (readC l.text).2.2 ≠ 0
    · rw [if_pos he]
      obtain ⟨c1, c2⟩ := g2 he
      refine ⟨fun _ => ⟨rfl, rfl, l, List.mem_cons_self .., rfl, by simp only; omega, by simp only; omega⟩, fun h => (he h).elim⟩
    rw [if_neg he]
    have ho := g1 (by simpa using he)
    obtain ⟨o, hco⟩ : ∃ o, o = (readC l.text).1 := ⟨_, rfl⟩
    rw [← hco] at ho ⊢
    obtain ⟨E, N2, S2, hE⟩ : ∃ E N2 S2, enterS nodes st last ind l o = (E, N2, S2) := ⟨_, _, _, rfl⟩
    rw [hE]
    simp only
    by_cases hE0 : E ≠ 0
    · rw [if_pos hE0]
      refine ⟨fun _ => ⟨rfl, rfl, l, List.mem_cons_self .., rfl, by simp only; omega, by simp only; omega⟩, fun h => (hE0 h).elim⟩
    rw [if_neg hE0]
    have hE0 : E = 0 := by simpa using hE0
    subst hE0
    obtain ⟨s', hti⟩ := ti_step (file := file) h ho hE
    have hN2 : N2 = nodes1 nodes last ind l o := by
      unfold enterS at hE
      split at hE
      · cases hE
      split at hE
      · cases hE
      split at hE
      · cases hE
      split at hE
      · cases hE
      split at hE
      · cases hE
      injection hE with _ hE
      injection hE with h1 h2
      exact h1.symm
    have hlen : (N2 ++ [nodeS file S2.length l o]).length = nodes.length + 1 := by rw [List.length_append, hN2, nodes1_len]; rfl
    simp only [List.length_cons] at hl
    obtain ⟨r1, r2⟩ := goS_law file ls _ S2 (!o.has) l.indent s' 1 hti (by omega)
    refine ⟨fun h => ?_, fun h => ?_⟩
    · obtain ⟨q1, q2, l', hl', q3⟩ := r1 h
      exact ⟨q1, q2, l', List.mem_cons_of_mem _ hl', q3⟩
    · obtain ⟨q1, q2, q3⟩ := r2 h
      refine ⟨q1, q2, ?_⟩
      rw [q3, List.map_append, hN2, nodes1_pl, List.map_cons, List.append_assoc]
      have : pl (nodeS file S2.length l o) = plL file l := by
        unfold plL pl nodeS
        rw [← hco, ho.c]
      rw [List.map_cons, List.map_nil, this]
      rfl
theorem linesR_4096 : ∀ (xs : List (Nat × Bs)) (acc : List Ln) (n : Nat), (∀ k x, xs[k]? = some x → x.1 = n + k) → acc.length < n → acc.length ≤ 4096 → (linesR xs acc).ls.length ≤ 4096
  | [], acc, n, _, h1, h2 => by rw [linesR]; exact h2
  | (k, t) :: xs, acc, n, hx, h1, h2 => by
    have hk : k = n := hx 0 _ rfl
    have hxs : ∀ j x, xs[j]? = some x → x.1 = (n + 1) + j := fun j x h => by have := hx (j + 1) x h; omega
    rw [linesR]
    split
    · simp
    split
    · simp
    split
    · exact linesR_4096 xs acc (n + 1) hxs (by omega) h2
    · exact linesR_4096 xs _ (n + 1) hxs (by simp; omega) (by simp; omega)
theorem linesS_4096 (s : Bs) : (linesS s).ls.length ≤ 4096 := by
  unfold linesS
  split
  · simp
  · exact linesR_4096 _ [] 1 (fun k x h => (raw_line_le s k x h).2) (by simp) (by simp)
theorem parseS_law (file s : Bs) : ((linesS s).e ≠ 0 → parseS file s = ([], ⟨(linesS s).e, file, (linesS s).no, (linesS s).col⟩)) ∧
    ((linesS s).e = 0 → (parseS file s).2.code ≠ 0 → (parseS file s).1 = [] ∧ (parseS file s).2.file = file ∧ ∃ l ∈ (linesS s).ls, l.no = (parseS file s).2.line ∧ l.indent < (parseS file s).2.col ∧ (parseS file s).2.col ≤ l.indent + l.text.length + 1) ∧
    ((linesS s).e = 0 → (parseS file s).2.code = 0 → (parseS file s).2 = ft0 ∧ isS (parseS file s).1 = true ∧ (parseS file s).1.map pl = pl (nd0 file) :: (linesS s).ls.map (plL file)) := by
  have hl := linesS_4096 s
  have hti : TI [nd0 file] [ob0] false [⟨0, false, 0, []⟩] 0 := ⟨.root (by simp), rfl, ⟨⟨rfl, rfl, fun _ => rfl⟩, trivial⟩, by simp, .inr ⟨rfl, rfl, rfl, rfl, rfl⟩, fun h => (by cases h), rfl⟩
  obtain ⟨r1, r2⟩ := goS_law file (linesS s).ls [nd0 file] [ob0] false 0 _ 0 hti (by simp; omega)
  unfold parseS
  refine ⟨fun h => if_pos h, fun h => ?_, fun h => ?_⟩
  · rw [if_neg (by simp [h])]; exact r1
  · rw [if_neg (by simp [h])]; exact r2
theorem readC_err (s : Bs) (h : (readC s).2.2 ≠ 0) : (readC s).1 = ct0 := by
  unfold readC at h ⊢
  cases h1 : headS s with
  | err why col => rfl
  | ok a o =>
    rw [h1] at h
    simp only at h ⊢
    cases h2 : valueS s (gapN s a.toNat) o with
    | err why col => rfl
    | ok a' o' => rw [h2] at h; exact (h rfl).elim
theorem plL_val (file : Bs) (l : Ln) : (plL file l).2.2.2 = 0 ∨ (plL file l).2.2.1 < (plL file l).2.2.2 := by
  unfold plL
  simp only
  split
  · rename_i hh
    right
    by_cases h : (readC l.text).2.2 = 0
    · have := ((readC_g l.text).1 h).v hh; omega
    · rw [readC_err _ h] at hh; cases hh
  · exact .inl rfl
end Go.Proofs.YtbmplmehofgocaaDoor.C
