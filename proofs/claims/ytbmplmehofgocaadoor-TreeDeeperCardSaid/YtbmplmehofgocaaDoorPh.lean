/- The plain law of TreeDeeper: a text moved to the right under a key is the same tree, one deeper. -/
import Derived.Test.YtbmplmehofgocaaDoorPc
import Derived.Test.YtbmplmehofgocaaDoorPg
set_option linter.unusedVariables false
set_option linter.unusedSimpArgs false
set_option maxRecDepth 10000
namespace Go.Proofs.YtbmplmehofgocaaDoor.C
open Go.RowKit Go.Proofs.YtbmplmehofgocaaDoor.Sh
/-! ### 1. what a line's text looks like -/
theorem dropWhile_head {α : Type} (p : α → Bool) : ∀ (l : List α) {x : α} {r : List α}, l.dropWhile p = x :: r → p x = false
  | [], x, r, h => by cases h
  | a :: l, x, r, h => by
    rw [List.dropWhile_cons] at h
    split at h
    · exact dropWhile_head p l h
    · rename_i hp
      injection h with h1 h2
      subst h1
      simpa using hp
theorem badI_all : ∀ (l : Bs) (n : Int), 0 ≤ n → badI l n < 0 → l.all (fun b => !badB b) = true
  | [], n, _, _ => rfl
  | b :: l, n, h0, h => by
    rw [badI] at h
    split at h
    · omega
    · rename_i hb
      rw [List.all_cons, badI_all l (n + 1) (by omega) h]
      simpa using hb
structure LnG (l : Ln) : Prop where
  ind : 0 ≤ l.indent
  ok : l.text.all (fun b => !badB b) = true
  head : ∃ x, l.text.head? = some x ∧ x ≠ 32 ∧ x.toNat ≠ 35
  last : ∃ y, l.text.getLast? = some y ∧ y ≠ 32
theorem lineOf_good {n : Nat} {l : Bs} {x : Ln} (h : lineOf n l = some x) (hb : ¬ 0 ≤ badI l 0) : LnG x := by
  have hi := lineOf_ind h
  have hall := badI_all l 0 (Int.le_refl _) (by omega)
  unfold lineOf at h
  simp only at h
  split at h
  · cases h
  rename_i h0
  injection h with h
  subst h
  obtain ⟨h1, h2⟩ := not_or.1 h0
  refine ⟨hi.1, ?_, ?_, ?_⟩
  · exact List.all_eq_true.2 fun b hb => List.all_eq_true.1 hall b (trimB_mem hb)
  · simp only
    cases ht : Lib.trimB l 32 with
    | nil => exact (h1 ht).elim
    | cons a r =>
      refine ⟨a, rfl, ?_, ?_⟩
      · have := dropWhile_head _ _ ht
        simpa using this
      · rw [ht] at h2
        intro e
        apply h2
        show (a.toNat : Int) = 35
        omega
  · simp only
    have hrr : ∃ z q, l.reverse.dropWhile (· == 32) = z :: q := by
      cases hh : l.reverse.dropWhile (· == 32) with
      | nil => exfalso; apply h1; unfold Lib.trimB Lib.trimRightB Lib.trimLeftB; rw [hh]; rfl
      | cons z q => exact ⟨z, q, rfl⟩
    obtain ⟨z, q, hzq⟩ := hrr
    have hz := dropWhile_head _ _ hzq
    refine ⟨z, ?_, by simpa using hz⟩
    have e : Lib.trimB l 32 = ((z :: q).reverse).dropWhile (· == 32) := by unfold Lib.trimB Lib.trimRightB Lib.trimLeftB; rw [hzq]
    have hs : (z :: q).reverse = ((z :: q).reverse).takeWhile (· == 32) ++ Lib.trimB l 32 := by rw [e, List.takeWhile_append_dropWhile]
    have hlast : ((z :: q).reverse).getLast? = some z := by simp
    rw [hs, List.getLast?_append] at hlast
    cases ht : (Lib.trimB l 32).getLast? with
    | none => exact (h1 (List.getLast?_eq_none_iff.1 ht)).elim
    | some y =>
      rw [ht] at hlast
      exact hlast
theorem linesR_good : ∀ (xs : List (Nat × Bs)) (acc : List Ln), (∀ l ∈ acc, LnG l) → ∀ l ∈ (linesR xs acc).ls, LnG l
  | [], acc, h => by simpa [linesR] using h
  | (n, l) :: xs, acc, h => by
    by_cases h1 : (4096 : Int) < n
    · rw [linesR, if_pos h1]; simp
    by_cases h2 : 0 ≤ badI l 0
    · rw [linesR, if_neg h1, if_pos h2]; simp
    rw [linesR, if_neg h1, if_neg h2]
    cases h3 : lineOf n l with
    | none => exact linesR_good xs acc h
    | some x =>
      refine linesR_good xs _ fun y hy => ?_
      rcases List.mem_append.1 hy with hy | hy
      · exact h y hy
      · rw [List.mem_singleton.1 hy]; exact lineOf_good h3 h2
theorem linesS_good (s : Bs) : ∀ l ∈ (linesS s).ls, LnG l := by
  unfold linesS
  split
  · simp
  · exact linesR_good _ [] (by simp)
theorem linesS_few (s : Bs) : (linesS s).ls.length ≤ s.length := by
  unfold linesS
  split
  · simp
  · rename_i h
    have := (linesR_ok (rawFrom 1 s) [] (by
      intro x hx
      obtain ⟨k, hk⟩ := List.mem_iff_getElem?.1 hx
      have := (raw_line_le s k x hk).1
      omega) (by simp)).2
    have hl := raw_len _ 1 s (Nat.le_refl _)
    simp only [List.length_nil] at this
    omega
/-! ### 2. the moved text -/
def deepT (k : Nat) (ls : List Ln) : Bs := ls.flatMap fun l => spc k ++ (spc l.indent.toNat ++ (l.text ++ [10]))
def ll (l : Ln) : Ln := { l with no := 0 }
def nl (n : Nd) : Nd := { n with line := 0 }
theorem linesR_deep (k : Nat) : ∀ (ls : List Ln) (n : Nat) (acc : List Ln), (∀ l ∈ ls, LnG l) → n + ls.length ≤ 4097 → ∃ L, linesR (rawFrom n (deepT k ls)) acc = ⟨acc ++ L, 0, 0, 0⟩ ∧ L.map ll = (ls.map (fL id k)).map ll
  | [], n, acc, _, _ => ⟨[], by unfold deepT; rw [List.flatMap_nil, raw_nil, linesR]; simp, rfl⟩
  | l :: ls, n, acc, h, hn => by
    obtain ⟨g1, g2, ⟨x, g3, g4, g5⟩, y, g6, g7⟩ := h l (List.mem_cons_self ..)
    simp only [List.length_cons] at hn
    have e1 : deepT k (l :: ls) = (spc (k + l.indent.toNat) ++ l.text) ++ 10 :: deepT k ls := by
      unfold deepT spc
      rw [List.flatMap_cons, ← List.replicate_append_replicate]
      simp only [List.append_assoc, List.cons_append, List.nil_append]
    have ok : (spc (k + l.indent.toNat) ++ l.text).all (fun b => !badB b) = true := by rw [List.all_append, spc_ok, g2]; rfl
    have h10 : (10 : UInt8) ∉ spc (k + l.indent.toNat) ++ l.text := by
      intro hm
      have := List.all_eq_true.1 ok 10 hm
      revert this
      decide
    have hlo : lineOf n (spc (k + l.indent.toNat) ++ l.text) = some ⟨n, (k + l.indent.toNat : Nat), l.text⟩ := lineOf_pad n (k + l.indent.toNat) l.text x g4 g5 g3 y g7 g6
    obtain ⟨L, q1, q2⟩ := linesR_deep k ls (n + 1) (acc ++ [⟨n, (k + l.indent.toNat : Nat), l.text⟩]) (fun l hl => h l (List.mem_cons_of_mem _ hl)) (by omega)
    refine ⟨⟨n, (k + l.indent.toNat : Nat), l.text⟩ :: L, ?_, ?_⟩
    · rw [e1, raw_cons _ _ _ h10, linesR_one _ _ _ _ _ (by omega) ok hlo, q1]
      simp
    · rw [List.map_cons, q2, List.map_cons, List.map_cons]
      congr 1
      unfold ll fL
      simp only
      congr 1
      omega
/-! ### 3. the lines' numbers do not matter -/
theorem nodes1_nl (nodes : List Nd) (last : Bool) (ind : Int) (l : Ln) (o : Ct) : nodes1 (nodes.map nl) last ind (ll l) o = (nodes1 nodes last ind l o).map nl := by
  have ho : opens last ind (ll l) = opens last ind l := rfl
  unfold nodes1
  rw [ho]
  split
  · rw [List.map_set, List.length_map]
    by_cases h : nodes.length - 1 < nodes.length
    · congr 1
      simp [List.getElem?_eq_getElem h, nl, Nd.kd]
    · have : nodes = [] := List.eq_nil_of_length_eq_zero (by omega)
      subst this
      rfl
  · rfl
theorem enterS_nl (nodes : List Nd) (st : List OB) (last : Bool) (ind : Int) (l : Ln) (o : Ct) : enterS (nodes.map nl) st last ind (ll l) o = ((enterS nodes st last ind l o).1, (enterS nodes st last ind l o).2.1.map nl, (enterS nodes st last ind l o).2.2) := by
  have hs : stack1 (nodes.map nl).length st last ind (ll l) o = stack1 nodes.length st last ind l o := by rw [List.length_map]; rfl
  have hi : (ll l).indent = l.indent := rfl
  unfold enterS
  rw [hs, hi, nodes1_nl]
  cases popS l.indent (stack1 nodes.length st last ind l o) with
  | nil => rfl
  | cons b r =>
    simp only
    split
    · rfl
    split
    · rfl
    split
    · rfl
    split
    · rfl
    · rfl
theorem goS_no (file : Bs) : ∀ (ls : List Ln) (nodes : List Nd) (st : List OB) (last : Bool) (ind : Int), (goS file (ls.map ll) (nodes.map nl) st last ind).1 = (goS file ls nodes st last ind).1.map nl ∧ (goS file (ls.map ll) (nodes.map nl) st last ind).2.code = (goS file ls nodes st last ind).2.code
  | [], nodes, st, last, ind => ⟨rfl, rfl⟩
  | l :: ls, nodes, st, last, ind => by
    rw [List.map_cons, goS, goS]
    have ht : (ll l).text = l.text := rfl
    rw [ht, enterS_nl]
    by_cases h1 : (readC l.text).2.2 ≠ 0
    · rw [if_pos h1, if_pos h1]; exact ⟨rfl, rfl⟩
    rw [if_neg h1, if_neg h1]
    by_cases h2 : (enterS nodes st last ind l (readC l.text).1).1 ≠ 0
    · rw [if_pos h2, if_pos h2]; exact ⟨rfl, rfl⟩
    rw [if_neg h2, if_neg h2]
    have := goS_no file ls ((enterS nodes st last ind l (readC l.text).1).2.1 ++ [nodeS file (enterS nodes st last ind l (readC l.text).1).2.2.length l (readC l.text).1]) (enterS nodes st last ind l (readC l.text).1).2.2 (!(readC l.text).1.has) l.indent
    rw [List.map_append] at this
    exact this
/-! ### 4. the law -/
theorem deeper_law {s key : Bs} {k : Nat} (hk : lowKey key) (hk1 : 1 ≤ k) (hl : s.length ≤ 3000) (hc : (parseS [102] s).2.code = 0) (hne : (linesS s).ls ≠ []) (hd : ∀ n ∈ (parseS [102] s).1, n.depth < 32)
    (hu : (key ++ 58 :: 10 :: deepT k (linesS s).ls).length ≤ 65536) :
    (parseS [102] (key ++ 58 :: 10 :: deepT k (linesS s).ls)).2.code = 0 ∧ ∃ nk : Nd, nk.key = key ∧ nk.kind = 1 ∧
      (parseS [102] (key ++ 58 :: 10 :: deepT k (linesS s).ls)).1.map nl = (nd0 [102] :: nk :: ((parseS [102] s).1.drop 1).map (fN id k 1)).map nl := by
  have he := parse_lines hc
  have hgd := linesS_good s
  have hfew := linesS_few s
  have hgo : goS [102] (linesS s).ls [nd0 [102]] [ob0] false 0 = parseS [102] s := by unfold parseS; rw [if_neg (by simp [he])]
  generalize hx : (linesS s).ls = x at *
  generalize hG : parseS [102] s = G at *
  have h10 : (10 : UInt8) ∉ key ++ [58] := by have := key_10 hk; simp [this]
  have hok : (key ++ [58]).all (fun b => !badB b) = true := by rw [List.all_append, key_ok hk]; decide
  have hlk : lineOf 1 (key ++ [58]) = some ⟨(1 : Nat), 0, key ++ [58]⟩ := line_key hk 1 0 [] 58 (by decide) rfl
  obtain ⟨L, hL, hLl⟩ := linesR_deep k x 2 [⟨(1 : Nat), 0, key ++ [58]⟩] hgd (by omega)
  have hlines : linesS (key ++ 58 :: 10 :: deepT k x) = ⟨[⟨(1 : Nat), 0, key ++ [58]⟩] ++ L, 0, 0, 0⟩ := by
    unfold linesS
    rw [if_neg (by omega)]
    have e : key ++ 58 :: 10 :: deepT k x = (key ++ [58]) ++ 10 :: deepT k x := by simp
    rw [e, raw_cons _ _ _ h10, linesR_one _ _ _ _ _ (by omega) hok hlk]
    exact hL
  obtain ⟨b, b1, b2, b3, b4, b5, b6⟩ := enter_root (last := false) (l := ⟨(1 : Nat), 0, key ++ [58]⟩) (o := o1 key) (rdy0 [102]) rfl (show (1 : Int) ≠ 2 by decide)
  have hE := b6 (by simp)
  generalize hrK : ({ b with keys := aput (o1 key).key (w64 ((alook (o1 key).key b.keys).getD 0 + 1)) b.keys } : OB) = rK at hE
  have hparse : parseS [102] (key ++ 58 :: 10 :: deepT k x) = goS [102] L ([nd0 [102]] ++ [nodeS [102] 1 ⟨(1 : Nat), 0, key ++ [58]⟩ (o1 key)]) [rK] true 0 := by
    unfold parseS
    rw [hlines, if_neg (by simp)]
    simp only [List.cons_append, List.nil_append]
    rw [goS_cons _ _ _ _ _ _ _ (read_key hk) hE, if_neg (by decide)]
    rfl
  rw [hparse]
  generalize hnk : nodeS [102] 1 ⟨(1 : Nat), 0, key ++ [58]⟩ (o1 key) = nk
  have hnkk : nk.key = key := by rw [← hnk]; rfl
  -- the same with the first text's numbers
  have key1 := goS_no [102] L ([nd0 [102]] ++ [nk]) [rK] true 0
  have key2 := goS_no [102] (x.map (fL id k)) ([nd0 [102]] ++ [nk]) [rK] true 0
  rw [hLl] at key1
  rw [key2.1, key2.2] at key1
  rw [← key1.1, ← key1.2]
  cases hxx : x with
  | nil => exact (hne hxx).elim
  | cons l ls =>
    rw [hxx] at hgo
    obtain ⟨f1, f2, f3, f4, f5⟩ := first_line hgo hc
    have hct := (readC_g l.text).1 f1
    have h2 : ((readC l.text).1.kind == 2) = false := by simpa using f4
    have hind : (fL id k l).indent = (k : Int) := by unfold fL; rw [f3]; simp
    have hrd : readC (fL id k l).text = ((readC l.text).1, 0, 0) := by
      have : (fL id k l).text = l.text := rfl
      rw [this]
      exact Prod.ext rfl (Prod.ext f2 f1)
    have hop : opens true 0 (fL id k l) = true := by unfold opens; rw [hind]; simp; omega
    have hE2 : enterS ([nd0 [102]] ++ [nk]) [rK] true 0 (fL id k l) (readC l.text).1 = (0, [nd0 [102]] ++ [nk.kd 1], [⟨k, false, 1, aput (readC l.text).1.key (w64 (0 + 1)) []⟩, rK]) := by
      have hs : stack1 ([nd0 [102]] ++ [nk]).length [rK] true 0 (fL id k l) (readC l.text).1 = [⟨k, false, 1, []⟩, rK] := by
        rw [stack1, if_pos hop, hind, h2]; rfl
      have hp : popS (fL id k l).indent [⟨k, false, 1, []⟩, rK] = [⟨k, false, 1, []⟩, rK] := by rw [hind, popS, if_neg (by simp)]
      have hn1 : nodes1 ([nd0 [102]] ++ [nk]) true 0 (fL id k l) (readC l.text).1 = [nd0 [102]] ++ [nk.kd 1] := by
        rw [nodes1, if_pos hop, if_neg f4]; rfl
      unfold enterS
      rw [hs, hp, hn1]
      simp only [hind, h2, alook]
      simp
    rw [List.map_cons, goS_cons _ _ _ _ _ _ _ hrd hE2, if_neg (by decide)]
    have hgd' : ∀ y ∈ ls, 0 ≤ y.indent := fun y hy => (hgd y (by rw [hxx]; exact List.mem_cons_of_mem _ hy)).ind
    have sim := sim_go [102] id k (by omega) [rK] (fun _ => False) ([nd0 [102]] ++ [nk.kd 1]) (by simp) G hc (by
        intro n hn
        have := hd n (List.mem_of_mem_drop hn)
        simp only [List.length_cons, List.length_nil]
        omega) (fun _ _ h => h) ls [nodeS [102] 1 l (readC l.text).1] [] { ob0 with keys := aput (readC l.text).1.key (w64 (0 + 1)) [] } ⟨k, false, 1, aput (readC l.text).1.key (w64 (0 + 1)) []⟩ (!(readC l.text).1.has) 0
      (by simp) hgd' rfl rfl rfl rfl (fun key => by simp) f5
    have hnode := nodeS_fN [102] 1 1 id k l (readC l.text).1 (by omega) hct
    have hl2 : ([⟨k, false, 1, aput (readC l.text).1.key (w64 (0 + 1)) []⟩, rK] : List OB).length = 1 + 1 := rfl
    rw [hl2, hnode, hind]
    have e0 : (0 : Int) + k = k := by omega
    rw [e0] at sim
    have sim2 : goS [102] (ls.map (fL id k)) ([nd0 [102]] ++ [nk.kd 1] ++ [fN id k (1 : Nat) (nodeS [102] 1 l (readC l.text).1)]) [⟨k, false, 1, aput (readC l.text).1.key (w64 (0 + 1)) []⟩, rK] (!(readC l.text).1.has) k = ([nd0 [102]] ++ [nk.kd 1] ++ (G.1.drop 1).map (fN id k ([rK] : List OB).length), G.2) := sim
    rw [sim2]
    exact ⟨hc, nk.kd 1, hnkk, rfl, rfl⟩
end Go.Proofs.YtbmplmehofgocaaDoor.C
