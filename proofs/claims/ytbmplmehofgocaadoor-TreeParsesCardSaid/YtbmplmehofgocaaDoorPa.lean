/- The plain laws of tree.Parse at a text behind another: the lines of both, and the state in which the first one leaves the reader. -/
import Derived.Test.YtbmplmehofgocaaDoorBe
import Derived.Test.YtbmplmehofgocaaDoorBf
set_option linter.unusedVariables false
set_option linter.unusedSimpArgs false
set_option maxRecDepth 10000
namespace Go.Proofs.YtbmplmehofgocaaDoor.C
open Go.RowKit Go.Proofs.YtbmplmehofgocaaDoor.Sh
/-! ### 1. lines of a text behind another -/
theorem indexByte_at : ∀ (a r : Bs) (c : UInt8), c ∉ a → Lib.indexByte (a ++ c :: r) c = a.length
  | [], r, c, _ => by simp [Lib.indexByte]
  | b :: a, r, c, h => by
    have hb : b ≠ c := fun e => h (by simp [e])
    have ih := indexByte_at a r c (fun e => h (List.mem_cons_of_mem _ e))
    rw [List.cons_append, Lib.indexByte, ih]
    have h1 : ((a.length : Int) == -1) = false := by rw [beq_eq_false_iff_ne]; omega
    simp [hb, h1]
theorem indexByte_no : ∀ (a : Bs) (c : UInt8), c ∉ a → Lib.indexByte a c = -1
  | [], c, _ => rfl
  | b :: a, c, h => by
    have hb : b ≠ c := fun e => h (by simp [e])
    have ih := indexByte_no a c (fun e => h (List.mem_cons_of_mem _ e))
    rw [Lib.indexByte, ih]
    simp [hb]
theorem cut_at (a r : Bs) (c : UInt8) (h : c ∉ a) : Lib.cut (a ++ c :: r) [c] = (a, r, true) := by
  unfold Lib.cut
  rw [Lib.index_one, indexByte_at a r c h, if_pos (by omega), Int.toNat_natCast]
  simp
theorem cut_no (a : Bs) (c : UInt8) (h : c ∉ a) : Lib.cut a [c] = (a, [], false) := by
  unfold Lib.cut
  rw [Lib.index_one, indexByte_no a c h]
  rfl
theorem raw_nil (n : Nat) : rawFrom n [] = [] := by rw [rawFrom, dif_pos rfl]
theorem raw_cons (n : Nat) (a r : Bs) (h : (10 : UInt8) ∉ a) : rawFrom n (a ++ 10 :: r) = (n, a) :: rawFrom (n + 1) r := by
  rw [rawFrom, dif_neg (by simp), cut_at a r 10 h]
theorem raw_one (n : Nat) (a : Bs) (h : (10 : UInt8) ∉ a) (ha : a ≠ []) : rawFrom n a = [(n, a)] := by
  rw [rawFrom, dif_neg ha, cut_no a 10 h, raw_nil]
def NL (s : Bs) : Prop := s = [] ∨ s.getLast? = some 10
theorem NL.tail {a r : Bs} (h : NL (a ++ 10 :: r)) : NL r := by
  cases r with
  | nil => exact .inl rfl
  | cons x r =>
    rcases h with h | h
    · simp at h
    · right
      rw [List.getLast?_append] at h
      simpa using h
theorem NL.mem {s : Bs} (h : NL s) (h0 : s ≠ []) : (10 : UInt8) ∈ s := by
  rcases h with h | h
  · exact (h0 h).elim
  · exact List.mem_of_getLast? h
theorem raw_app : ∀ (m n : Nat) (s t : Bs), s.length ≤ m → NL s → rawFrom n (s ++ t) = rawFrom n s ++ rawFrom (n + s.count 10) t
  | 0, n, s, t, hm, hs => by
    obtain rfl := List.eq_nil_of_length_eq_zero (Nat.le_zero.1 hm)
    rw [raw_nil]; rfl
  | m + 1, n, s, t, hm, hs => by
    by_cases h0 : s = []
    · subst h0; rw [raw_nil]; rfl
    obtain ⟨a, r, rfl, ha⟩ := List.eq_append_cons_of_mem (hs.mem h0)
    have hc : (a ++ 10 :: r).count 10 = 1 + r.count 10 := by
      rw [List.count_append, List.count_cons_self, List.count_eq_zero.2 ha]; omega
    simp only [List.length_append, List.length_cons] at hm
    rw [List.append_assoc, List.cons_append, raw_cons _ _ _ ha, raw_cons _ _ _ ha, raw_app m (n + 1) r t (by omega) hs.tail, List.cons_append, hc, Nat.add_assoc]
theorem raw_snoc : ∀ (m n : Nat) (s : Bs), s.length ≤ m → s ≠ [] → s.getLast? ≠ some 10 → rawFrom n (s ++ [10]) = rawFrom n s
  | 0, n, s, hm, h0, _ => (h0 (List.eq_nil_of_length_eq_zero (Nat.le_zero.1 hm))).elim
  | m + 1, n, s, hm, h0, hl => by
    by_cases h10 : (10 : UInt8) ∈ s
    · obtain ⟨a, r, rfl, ha⟩ := List.eq_append_cons_of_mem h10
      simp only [List.length_append, List.length_cons] at hm
      have hr : r ≠ [] := by rintro rfl; simp at hl
      have hr2 : r.getLast? ≠ some 10 := by
        intro h
        apply hl
        rw [List.getLast?_append, List.getLast?_cons, h]
        rfl
      rw [List.append_assoc, List.cons_append, raw_cons _ _ _ ha, raw_cons _ _ _ ha, raw_snoc m (n + 1) r (by omega) hr hr2]
    · rw [raw_one _ _ h10 h0, raw_cons _ _ _ h10, raw_nil]
/-- a text with its last line's end -/
def endl (s : Bs) : Bs := if s ≠ [] ∧ s.getLast? ≠ some 10 then s ++ [10] else s
theorem endl_nl (s : Bs) : NL (endl s) := by
  unfold endl
  split
  · right; simp
  · rename_i h
    by_cases h0 : s = []
    · exact .inl h0
    · right
      by_cases h1 : s.getLast? = some 10
      · exact h1
      · exact (h ⟨h0, h1⟩).elim
theorem endl_len (s : Bs) : s.length ≤ (endl s).length ∧ (endl s).length ≤ s.length + 1 := by
  unfold endl
  split <;> simp
theorem endl_raw (n : Nat) (s : Bs) : rawFrom n (endl s) = rawFrom n s := by
  unfold endl
  split
  · rename_i h; exact raw_snoc s.length n s (Nat.le_refl _) h.1 h.2
  · rfl
theorem linesR_app : ∀ (xs ys : List (Nat × Bs)) (acc : List Ln), (linesR xs acc).e = 0 → linesR (xs ++ ys) acc = linesR ys (linesR xs acc).ls
  | [], ys, acc, _ => rfl
  | (n, l) :: xs, ys, acc, h => by
    by_cases h1 : (4096 : Int) < n
    · rw [linesR, if_pos h1] at h; cases h
    by_cases h2 : 0 ≤ badI l 0
    · rw [linesR, if_neg h1, if_pos h2] at h; cases h
    have e1 : ∀ zs, linesR ((n, l) :: zs) acc = match lineOf n l with
      | none => linesR zs acc
      | some x => linesR zs (acc ++ [x]) := by
      intro zs
      rw [linesR, if_neg h1, if_neg h2]
      cases lineOf n l <;> rfl
    rw [e1] at h
    rw [List.cons_append, e1, e1]
    cases h3 : lineOf n l with
    | none => rw [h3] at h; exact linesR_app xs ys acc h
    | some x => rw [h3] at h; exact linesR_app xs ys _ h
theorem parse_endl (file s : Bs) (h : s.length ≤ 65535) : parseS file (endl s) = parseS file s := by
  have := endl_len s
  have e : linesS (endl s) = linesS s := by
    unfold linesS
    rw [endl_raw, if_neg (by omega), if_neg (by omega)]
  unfold parseS
  rw [e]
theorem parse_lines {file s : Bs} (h : (parseS file s).2.code = 0) : (linesS s).e = 0 := by
  by_cases he : (linesS s).e = 0
  · exact he
  · rw [(parseS_law file s).1 he] at h; exact (he h).elim
theorem lines_more {s : Bs} (t : Bs) (hs : NL s) (he : (linesS s).e = 0) (hl : s.length + t.length ≤ 65536) : linesS (s ++ t) = linesR (rawFrom (1 + s.count 10) t) (linesS s).ls := by
  have e : linesS s = linesR (rawFrom 1 s) [] := by unfold linesS; rw [if_neg (by omega)]
  rw [e] at he
  have e2 : linesS (s ++ t) = linesR (rawFrom 1 (s ++ t)) [] := by unfold linesS; rw [if_neg (by simp; omega)]
  rw [e2, raw_app s.length 1 s t (Nat.le_refl _) hs, linesR_app _ _ _ he, e]
/-! ### 2. the reader's state behind lines that were taken -/
theorem enterS_inv {nodes : List Nd} {st : List OB} {last : Bool} {ind : Int} {l : Ln} {o : Ct} {N2 : List Nd} {S2 : List OB} (h : enterS nodes st last ind l o = (0, N2, S2)) :
    ∃ b r, popS l.indent (stack1 nodes.length st last ind l o) = b :: r ∧ b.indent = l.indent ∧ b.items = (o.kind == 2) ∧ r.length + 1 ≤ 32 ∧ ((alook o.key b.keys).isSome && !(o.kind == 2)) = false ∧ N2 = nodes1 nodes last ind l o ∧ S2 = { b with keys := aput o.key (w64 ((alook o.key b.keys).getD 0 + 1)) b.keys } :: r := by
  unfold enterS at h
  split at h
  · cases h
  rename_i b r hb
  split at h
  · cases h
  split at h
  · cases h
  rename_i h40 h41
  split at h
  · cases h
  rename_i h43
  split at h
  · cases h
  rename_i h42
  injection h with _ h
  injection h with h1 h2
  simp only [List.length_cons] at h43
  exact ⟨b, r, hb, by simpa using h40, by simpa using h41, by omega, by simpa using h42, h1.symm, h2.symm⟩
abbrev dk (n : Nd) : Int × Bs := (n.depth, n.key)
theorem nodes1_dk (nodes : List Nd) (last : Bool) (ind : Int) (l : Ln) (o : Ct) : (nodes1 nodes last ind l o).map dk = nodes.map dk := by
  unfold nodes1
  split
  · rw [List.map_set]
    refine List.ext_getElem? fun i => ?_
    by_cases hi : nodes.length - 1 = i
    · subst hi
      by_cases hl : nodes.length - 1 < nodes.length
      · simp [hl, List.getElem?_eq_getElem hl, Nd.kd, dk]
      · have : nodes = [] := List.eq_nil_of_length_eq_zero (by omega)
        subst this; rfl
    · rw [List.getElem?_set_ne hi]
  · rfl
def rootKeys (nodes : List Nd) (b : OB) : Prop := ∀ key, (alook key b.keys).isSome = true ↔ ((1 : Int), key) ∈ (nodes.drop 1).map dk
structure Rdy (nodes : List Nd) (st : List OB) (ind : Int) : Prop where
  len : 0 < nodes.length
  ind : 0 ≤ ind
  root : ∃ up b, st = up ++ [b] ∧ b.indent = 0 ∧ b.items = false ∧ (∀ x ∈ up, 0 < x.indent) ∧ rootKeys nodes b
theorem popS_up (i : Int) (b : OB) : ∀ up : List OB, ∃ up', popS i (up ++ [b]) = up' ++ [b] ∧ ∀ x ∈ up', x ∈ up
  | [] => ⟨[], rfl, by simp⟩
  | x :: r => by
    obtain ⟨y, q, hq⟩ : ∃ y q, r ++ [b] = y :: q := by cases r <;> simp
    obtain ⟨up', h1, h2⟩ := popS_up i b r
    rw [List.cons_append, hq, popS]
    split
    · rw [← hq]; exact ⟨up', h1, fun z hz => List.mem_cons_of_mem _ (h2 z hz)⟩
    · exact ⟨x :: r, by rw [List.cons_append, hq], fun z hz => hz⟩
theorem popS_zero (b : OB) : ∀ up : List OB, (∀ x ∈ up, 0 < x.indent) → popS 0 (up ++ [b]) = [b]
  | [], _ => rfl
  | x :: r, h => by
    obtain ⟨y, q, hq⟩ : ∃ y q, r ++ [b] = y :: q := by cases r <;> simp
    rw [List.cons_append, hq, popS, if_pos (h x (List.mem_cons_self ..)), ← hq]
    exact popS_zero b r fun z hz => h z (List.mem_cons_of_mem _ hz)
theorem rdy_step {file : Bs} {nodes N2 : List Nd} {st S2 : List OB} {last : Bool} {ind : Int} {l : Ln} {o : Ct} (h : Rdy nodes st ind) (hE : enterS nodes st last ind l o = (0, N2, S2)) : Rdy (N2 ++ [nodeS file S2.length l o]) S2 l.indent := by
  obtain ⟨hl, hi, up, b0, rfl, hb0, hb1, hup, hk⟩ := h
  obtain ⟨b, r, hp, h1, h2, h3, h4, rfl, rfl⟩ := enterS_inv hE
  obtain ⟨up1, hs1, hu1⟩ : ∃ up1, stack1 nodes.length (up ++ [b0]) last ind l o = up1 ++ [b0] ∧ ∀ x ∈ up1, 0 < x.indent := by
    unfold stack1
    split
    · rename_i ho
      refine ⟨_ :: up, rfl, fun x hx => ?_⟩
      rcases List.mem_cons.1 hx with rfl | hx
      · unfold opens at ho; simp at ho; simp only; omega
      · exact hup x hx
    · exact ⟨up, rfl, hup⟩
  rw [hs1] at hp
  obtain ⟨up', h5, h6⟩ := popS_up l.indent b0 up1
  rw [h5] at hp
  have hn1 : (nodes1 nodes last ind l o).length = nodes.length := nodes1_len ..
  have hd : ∀ n : Nd, ((nodes1 nodes last ind l o ++ [n]).drop 1).map dk = (nodes.drop 1).map dk ++ [dk n] := by
    intro n
    rw [List.drop_append_of_le_length (by omega), List.map_append, List.map_drop, nodes1_dk, ← List.map_drop]
    rfl
  have hli : 0 ≤ l.indent := by
    rw [← h1]
    have : b ∈ up' ++ [b0] := by rw [hp]; exact List.mem_cons_self ..
    rcases List.mem_append.1 this with h | h
    · have := hu1 b (h6 b h); omega
    · rw [List.mem_singleton.1 h, hb0]; exact Int.le_refl _
  refine ⟨by simp, hli, ?_⟩
  cases up' with
  | nil =>
    injection hp with hp1 hp2
    subst hp1 hp2
    refine ⟨[], _, rfl, hb0, hb1, by simp, fun key => ?_⟩
    rw [hd]
    have hdk : dk (nodeS file [({ b0 with keys := aput o.key (w64 ((alook o.key b0.keys).getD 0 + 1)) b0.keys } : OB)].length l o) = (1, o.key) := rfl
    rw [hdk]
    simp only [alook_aput, List.mem_append, List.mem_singleton, ← hk key]
    by_cases e : o.key = key
    · subst e; simp
    · rw [if_neg e]
      constructor
      · exact .inl
      · rintro (h | h)
        · exact h
        · injection h with _ h; exact (e h.symm).elim
  | cons x q =>
    injection hp with hp1 hp2
    subst hp1 hp2
    refine ⟨_ :: q, b0, rfl, hb0, hb1, fun y hy => ?_, fun key => ?_⟩
    · rcases List.mem_cons.1 hy with rfl | hy
      · exact hu1 x (h6 x (List.mem_cons_self ..))
      · exact hu1 y (h6 y (List.mem_cons_of_mem _ hy))
    · rw [hd, hk key]
      generalize hS : (({ x with keys := aput o.key (w64 ((alook o.key x.keys).getD 0 + 1)) x.keys } : OB) :: (q ++ [b0])).length = m
      have hm : 2 ≤ m := by rw [← hS]; simp
      constructor
      · exact fun h => List.mem_append_left _ h
      · intro h
        rcases List.mem_append.1 h with h | h
        · exact h
        · have h := List.mem_singleton.1 h
          injection h with h _
          have : (1 : Int) = (m : Nat) := h
          omega
theorem goS_app (file : Bs) : ∀ (xs : List Ln) (nodes : List Nd) (st : List OB) (last : Bool) (ind : Int), Rdy nodes st ind → (goS file xs nodes st last ind).2.code = 0 →
    ∃ st' last' ind', Rdy (goS file xs nodes st last ind).1 st' ind' ∧ ∀ ys, goS file (xs ++ ys) nodes st last ind = goS file ys (goS file xs nodes st last ind).1 st' last' ind'
  | [], nodes, st, last, ind, h, _ => ⟨st, last, ind, h, fun _ => rfl⟩
  | l :: xs, nodes, st, last, ind, h, hc => by
    rw [goS] at hc ⊢
    by_cases h1 : (readC l.text).2.2 ≠ 0
    · rw [if_pos h1] at hc; exact (h1 hc).elim
    rw [if_neg h1] at hc ⊢
    by_cases h2 : (enterS nodes st last ind l (readC l.text).1).1 ≠ 0
    · rw [if_pos h2] at hc; exact (h2 hc).elim
    rw [if_neg h2] at hc ⊢
    obtain ⟨E, N2, S2, hE⟩ : ∃ E N2 S2, enterS nodes st last ind l (readC l.text).1 = (E, N2, S2) := ⟨_, _, _, rfl⟩
    rw [hE] at h2 hc ⊢
    obtain rfl : E = 0 := by simpa using h2
    obtain ⟨st', last', ind', r1, r2⟩ := goS_app file xs _ S2 _ l.indent (rdy_step (file := file) h hE) hc
    refine ⟨st', last', ind', r1, fun ys => ?_⟩
    rw [List.cons_append, goS, if_neg h1, hE]
    exact r2 ys
theorem rdy0 (file : Bs) : Rdy [nd0 file] [ob0] 0 := ⟨by simp, Int.le_refl _, [], ob0, rfl, rfl, rfl, by simp, fun key => by simp [alook]⟩
/-- behind a text that is taken -/
theorem parse_more {file s : Bs} (t : Bs) (hs : NL s) (hl : s.length + t.length ≤ 65536) (h : (parseS file s).2.code = 0) :
    ∃ st last ind, Rdy (parseS file s).1 st ind ∧ ∀ L, linesR (rawFrom (1 + s.count 10) t) (linesS s).ls = ⟨(linesS s).ls ++ L, 0, 0, 0⟩ → parseS file (s ++ t) = goS file L (parseS file s).1 st last ind := by
  have he := parse_lines h
  have e1 : parseS file s = goS file (linesS s).ls [nd0 file] [ob0] false 0 := by unfold parseS; rw [if_neg (by simp [he])]
  rw [e1] at h ⊢
  obtain ⟨st, last, ind, r1, r2⟩ := goS_app file _ _ _ _ _ (rdy0 file) h
  refine ⟨st, last, ind, r1, fun L hL => ?_⟩
  rw [← lines_more t hs he hl] at hL
  unfold parseS
  rw [hL, if_neg (by simp)]
  exact r2 L
/-! ### 3. lines that stand behind others -/
theorem badI_ok : ∀ (l : Bs) (n : Int), l.all (fun b => !badB b) = true → badI l n = -1
  | [], n, _ => rfl
  | b :: l, n, h => by
    simp only [List.all_cons, Bool.and_eq_true, Bool.not_eq_true'] at h
    rw [badI, if_neg (by simp [h.1])]
    exact badI_ok l (n + 1) h.2
theorem trim_pad (i : Nat) (t : Bs) (x : UInt8) (hx : x ≠ 32) (h1 : t.head? = some x) (y : UInt8) (hy : y ≠ 32) (h2 : t.getLast? = some y) : Lib.trimB (List.replicate i 32 ++ t) 32 = t := by
  have hr : Lib.trimRightB (List.replicate i 32 ++ t) 32 = List.replicate i 32 ++ t := by
    unfold Lib.trimRightB
    rw [List.reverse_append]
    have : t.reverse.head? = some y := by rw [List.head?_reverse]; exact h2
    cases hh : t.reverse with
    | nil => rw [hh] at this; cases this
    | cons z q =>
      rw [hh] at this
      injection this with this
      subst this
      rw [List.cons_append, List.dropWhile_cons_of_neg (by simpa using hy), ← List.cons_append, ← hh, ← List.reverse_append, List.reverse_reverse]
  unfold Lib.trimB
  rw [hr]
  unfold Lib.trimLeftB
  induction i with
  | zero =>
    cases t with
    | nil => cases h1
    | cons z q =>
      injection h1 with h1
      subst h1
      exact List.dropWhile_cons_of_neg (by simpa using hx)
  | succ i ih =>
    rw [List.replicate_succ, List.cons_append, List.dropWhile_cons_of_pos (by simp)]
    refine ih ?_
    unfold Lib.trimRightB at hr ⊢
    rw [List.reverse_append]
    have : t.reverse.head? = some y := by rw [List.head?_reverse]; exact h2
    cases hh : t.reverse with
    | nil => rw [hh] at this; cases this
    | cons z q =>
      rw [hh] at this
      injection this with this
      subst this
      rw [List.cons_append, List.dropWhile_cons_of_neg (by simpa using hy), ← List.cons_append, ← hh, ← List.reverse_append, List.reverse_reverse]
theorem lineOf_pad (n i : Nat) (t : Bs) (x : UInt8) (hx : x ≠ 32) (h35 : x.toNat ≠ 35) (h1 : t.head? = some x) (y : UInt8) (hy : y ≠ 32) (h2 : t.getLast? = some y) : lineOf n (List.replicate i 32 ++ t) = some ⟨n, i, t⟩ := by
  unfold lineOf
  simp only [trim_pad i t x hx h1 y hy h2]
  cases t with
  | nil => cases h1
  | cons z q =>
    injection h1 with h1
    subst h1
    have hb : byt (z :: q) 0 = z.toNat := rfl
    have hn : nth (z :: q) 0 = z := rfl
    rw [if_neg (by rw [hb]; simp; omega), hn, indexByte_at _ _ _ (by simp [List.mem_replicate]; intro _; exact hx), List.length_replicate]
theorem linesR_one (n : Nat) (l : Bs) (xs : List (Nat × Bs)) (acc : List Ln) (x : Ln) (h1 : n ≤ 4096) (h2 : l.all (fun b => !badB b) = true) (h3 : lineOf n l = some x) : linesR ((n, l) :: xs) acc = linesR xs (acc ++ [x]) := by
  rw [linesR, if_neg (by omega), if_neg (by rw [badI_ok l 0 h2]; decide), h3]
/-- an entry at the margin behind text that is taken -/
theorem enter_root {nodes : List Nd} {st : List OB} {last : Bool} {ind : Int} {l : Ln} {o : Ct} (h : Rdy nodes st ind) (hl : l.indent = 0) (ho : o.kind ≠ 2) :
    ∃ b, b.indent = 0 ∧ b.items = false ∧ rootKeys nodes b ∧ popS 0 st = [b] ∧ (((1 : Int), o.key) ∈ (nodes.drop 1).map dk → enterS nodes st last ind l o = (42, [], [])) ∧
      (((1 : Int), o.key) ∉ (nodes.drop 1).map dk → enterS nodes st last ind l o = (0, nodes, [{ b with keys := aput o.key (w64 ((alook o.key b.keys).getD 0 + 1)) b.keys }])) := by
  obtain ⟨hn, hi, up, b, rfl, hb0, hb1, hup, hk⟩ := h
  have hop : opens last ind l = false := by unfold opens; rw [hl]; simp; intro _; exact hi
  have h2 : (o.kind == 2) = false := by simpa using ho
  refine ⟨b, hb0, hb1, hk, popS_zero b up hup, fun hm => ?_, fun hm => ?_⟩
  · have hs := (hk o.key).2 hm
    unfold enterS
    rw [stack1, if_neg (by simp [hop]), hl, popS_zero b up hup]
    simp only [hb0, hb1, h2, hs]
    simp
  · have hs : (alook o.key b.keys).isSome = false := by
      by_cases e : (alook o.key b.keys).isSome = true
      · exact (hm ((hk o.key).1 e)).elim
      · simpa using e
    unfold enterS
    rw [stack1, if_neg (by simp [hop]), hl, popS_zero b up hup]
    simp only [hb0, hb1, h2, hs, nodes1, hop]
    simp
end Go.Proofs.YtbmplmehofgocaaDoor.C
