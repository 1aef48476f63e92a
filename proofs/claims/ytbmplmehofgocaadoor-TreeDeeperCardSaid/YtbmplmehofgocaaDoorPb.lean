/- The plain laws of TreeTwice and TreeBlocks: entries behind a text that is taken. -/
import Derived.Test.YtbmplmehofgocaaDoorPa
set_option linter.unusedVariables false
set_option linter.unusedSimpArgs false
set_option maxRecDepth 10000
namespace Go.Proofs.YtbmplmehofgocaaDoor.C
open Go.RowKit Go.Proofs.YtbmplmehofgocaaDoor.Sh
/-! ### 1. small names -/
def lowB (b : UInt8) : Bool := decide (97 ≤ b.toNat) && decide (b.toNat ≤ 122)
def lowKey (key : Bs) : Prop := key ≠ [] ∧ key.length ≤ 20 ∧ key.all lowB = true
theorem low_of {key : Bs} (h : lowKey key) {b : UInt8} (hb : b ∈ key) : 97 ≤ b.toNat ∧ b.toNat ≤ 122 := by
  have := List.all_eq_true.1 h.2.2 b hb
  simpa [lowB] using this
theorem low_named : ∀ b : UInt8, lowB b = true → namedB b.toNat = true ∧ badB b = false ∧ b ≠ 32 ∧ b ≠ 10 ∧ b.toNat ≠ 35 ∧ b ≠ 45 ∧ b ≠ 34 := by
  intro b
  have : ∀ n : Fin 256, lowB (UInt8.ofNat n.val) = true → namedB (UInt8.ofNat n.val).toNat = true ∧ badB (UInt8.ofNat n.val) = false ∧ UInt8.ofNat n.val ≠ 32 ∧ UInt8.ofNat n.val ≠ 10 ∧ (UInt8.ofNat n.val).toNat ≠ 35 ∧ UInt8.ofNat n.val ≠ 45 ∧ UInt8.ofNat n.val ≠ 34 := by decide +kernel
  have h := this ⟨b.toNat, b.toNat_lt⟩
  simpa using h
theorem named_key {key : Bs} (h : lowKey key) (tl : Bs) : namedN (key ++ 58 :: tl) 0 = key.length := by
  unfold namedN
  rw [List.drop_zero, List.takeWhile_append_of_pos]
  · rw [List.takeWhile_cons_of_neg (by decide)]; simp
  · intro b hb
    exact (low_named b (List.all_eq_true.1 h.2.2 b hb)).1
theorem key_head {key : Bs} (h : lowKey key) : ∃ x r, key = x :: r ∧ lowB x = true := by
  cases key with
  | nil => exact (h.1 rfl).elim
  | cons x r => exact ⟨x, r, rfl, List.all_eq_true.1 h.2.2 x (List.mem_cons_self ..)⟩
theorem name_key {key : Bs} (h : lowKey key) : nameB key = true := by
  obtain ⟨x, r, rfl, hx⟩ := key_head h
  have hx' := low_named x hx
  have hl := h.2.1
  unfold nameB madeB
  have h1 : (x :: r).all (fun b => namedB b.toNat) = true := List.all_eq_true.2 fun b hb => (low_named b (List.all_eq_true.1 h.2.2 b hb)).1
  have h2 : (byt (x :: r) 0 != 45) = true := by
    have : byt (x :: r) 0 = x.toNat := rfl
    rw [this, bne_iff_ne]
    intro e
    have e : x.toNat = 45 := by omega
    exact hx'.2.2.2.2.2.1 (UInt8.toNat_inj.1 e)
  rw [h1, h2]
  simp only [List.length_cons] at hl
  simp
  omega
theorem byt_key (key tl : Bs) : byt (key ++ 58 :: tl) key.length = 58 := byt_of (k := key.length) (b := 58) (by simp)
theorem head_key {key : Bs} (h : lowKey key) (tl : Bs) (ht : tl = [] ∨ ∃ q, tl = 32 :: q) : headS (key ++ 58 :: tl) = .ok ((key.length : Int) + 1) (o1 key) := by
  obtain ⟨x, r, rfl, hx⟩ := key_head h
  obtain ⟨n1, n2, n3, n4, n5, n6, n7⟩ := low_named x hx
  unfold headS
  rw [if_neg, if_neg, named_key h, List.take_left', if_pos (name_key h)]
  · unfold tailS
    rw [byt_key, if_neg (by simp), if_neg]
    rintro ⟨h1, h2⟩
    rcases ht with rfl | ⟨q, rfl⟩
    · simp at h1
    · apply h2
      have := byt_of (s := x :: r ++ 58 :: 32 :: q) (k := (x :: r).length + 1) (b := 32) (by simp)
      exact this
  · rfl
  · unfold Lib.hasPrefix
    simp only [List.cons_append, List.isPrefixOf, Bool.and_true, Bool.and_eq_true, beq_iff_eq]
    exact fun e => n7 e.symm
  · unfold Lib.hasPrefix
    simp only [List.cons_append, List.isPrefixOf, Bool.and_eq_true, beq_iff_eq]
    rintro (e | e)
    · injection e with e; exact n6 e
    · exact n6 e.1.symm
theorem read_key {key : Bs} (h : lowKey key) : readC (key ++ [58]) = (o1 key, 0, 0) := by
  unfold readC
  rw [head_key h [] (.inl rfl)]
  simp only
  have hg : gapN (key ++ [58]) ((key.length : Int) + 1).toNat = key.length + 1 := by
    have : ((key.length : Int) + 1).toNat = key.length + 1 := by omega
    rw [this]
    unfold gapN
    rw [List.drop_eq_nil_of_le (by simp)]
    rfl
  rw [hg]
  unfold valueS
  rw [if_pos (.inl (by simp))]
theorem read_val {key : Bs} (h : lowKey key) (d : UInt8) (hd : d = 49 ∨ d = 50) : ∃ o, readC (key ++ [58, 32, d]) = (o, 0, 0) ∧ o.kind = 1 ∧ o.key = key ∧ o.has = true := by
  have hh := head_key h [32, d] (.inr ⟨_, rfl⟩)
  have hg : gapN (key ++ [58, 32, d]) ((key.length : Int) + 1).toNat = key.length + 2 := by
    have : ((key.length : Int) + 1).toNat = key.length + 1 := by omega
    rw [this]
    unfold gapN
    have : (key ++ [58, 32, d]).drop (key.length + 1) = [32, d] := by rw [← List.drop_drop]; simp
    rw [this]
    rcases hd with rfl | rfl <;> rfl
  have hb : byt (key ++ [58, 32, d]) ((key.length + 2 : Nat) : Int) = d.toNat := byt_of (by simp)
  have hdr : (key ++ [58, 32, d]).drop (key.length + 2) = [d] := by rw [← List.drop_drop]; simp
  unfold readC
  rw [hh]
  simp only [hg]
  unfold valueS
  rw [if_neg, if_pos]
  · refine ⟨_, rfl, ?_⟩
    unfold bareS
    rw [hdr]
    rcases hd with rfl | rfl
    · have : Lib.trimRightB (Lib.cut [49] [32, 35]).1 32 = [49] := by decide +kernel
      rw [this]; exact ⟨rfl, rfl, rfl⟩
    · have : Lib.trimRightB (Lib.cut [50] [32, 35]).1 32 = [50] := by decide +kernel
      rw [this]; exact ⟨rfl, rfl, rfl⟩
  · rw [hb]; rcases hd with rfl | rfl <;> decide
  · rw [hb]
    rintro (e | e)
    · simp at e
    · rcases hd with rfl | rfl <;> revert e <;> decide
theorem key_ok {key : Bs} (h : lowKey key) : key.all (fun b => !badB b) = true := List.all_eq_true.2 fun b hb => by simp [(low_named b (List.all_eq_true.1 h.2.2 b hb)).2.1]
theorem key_10 {key : Bs} (h : lowKey key) : (10 : UInt8) ∉ key := fun hb => (low_named _ (List.all_eq_true.1 h.2.2 _ hb)).2.2.2.1 rfl
/-- a line with a key -/
theorem line_key {key : Bs} (h : lowKey key) (n i : Nat) (tl : Bs) (y : UInt8) (hy : y ≠ 32) (hl : (58 :: tl).getLast? = some y) : lineOf n (List.replicate i 32 ++ (key ++ 58 :: tl)) = some ⟨n, i, key ++ 58 :: tl⟩ := by
  obtain ⟨x, r, rfl, hx⟩ := key_head h
  obtain ⟨n1, n2, n3, n4, n5, n6, n7⟩ := low_named x hx
  exact lineOf_pad n i _ x n3 n5 rfl y hy (by rw [List.getLast?_append, hl]; rfl)
/-! ### 2. does a key stand at the margin? -/
theorem partsR_iff (d : Int) : ∀ (r : List Nd) (k : Nat), (∀ n ∈ r, d + 1 ≤ n.depth) → ∀ x, x ∈ partsR d r k ↔ ∃ j n, r[j]? = some n ∧ n.depth = d + 1 ∧ x = k + j
  | [], k, _, x => by simp [partsR]
  | a :: r, k, h, x => by
    have ha := h a (List.mem_cons_self ..)
    have ih := partsR_iff d r (k + 1) (fun n hn => h n (List.mem_cons_of_mem _ hn)) x
    rw [partsR, if_pos (by omega)]
    have hr : (∃ j n, (a :: r)[j]? = some n ∧ n.depth = d + 1 ∧ x = k + j) ↔ (a.depth = d + 1 ∧ x = k) ∨ ∃ j n, r[j]? = some n ∧ n.depth = d + 1 ∧ x = k + 1 + j := by
      constructor
      · rintro ⟨j, n, h1, h2, h3⟩
        cases j with
        | zero => injection h1 with h1; subst h1; exact .inl ⟨h2, h3⟩
        | succ j => exact .inr ⟨j, n, h1, h2, by omega⟩
      · rintro (⟨h1, h2⟩ | ⟨j, n, h1, h2, h3⟩)
        · exact ⟨0, a, rfl, h1, h2⟩
        · exact ⟨j + 1, n, h1, h2, by omega⟩
    rw [hr, ← ih]
    split
    · rename_i h1; rw [List.mem_cons]; simp [h1]
    · rename_i h1; simp [h1]
theorem orN_nonneg (o : Option Nat) : 0 ≤ orN o ↔ o.isSome = true := by
  cases o with
  | none => simp [orN]
  | some n => simp [orN]
theorem isS_deep {t : List Nd} (h : isS t = true) : ∀ n ∈ t.drop 1, 1 ≤ n.depth := by
  cases t with
  | nil => simp
  | cons a r =>
    unfold isS at h
    simp only at h
    split at h
    · cases h
    split at h
    · cases h
    · exact fun n hn => (isGo_depth _ _ _ _ _ h n hn).1
theorem isS_root {t : List Nd} (h : isS t = true) : (nth t 0).kind = 1 ∧ (nth t 0).depth = 0 := by
  cases t with
  | nil => cases h
  | cons a r =>
    unfold isS at h
    simp only at h
    split at h
    · cases h
    split at h
    · cases h
    · rename_i h1
      have hr : rootOk a = true := by simpa using h1
      unfold rootOk at hr
      simp at hr
      exact ⟨hr.1.1.1, hr.1.1.2⟩
theorem get_root {t : List Nd} (h : isS t = true) (key : Bs) : 0 ≤ getS t [key] ↔ ((1 : Int), key) ∈ (t.drop 1).map dk := by
  obtain ⟨hk, hd⟩ := isS_root h
  unfold getS
  rw [if_pos h]
  have hs : stepS t 0 key = findS t 0 key := by unfold stepS; exact if_pos hk
  have hg : 0 ≤ getGo t [key] 0 ↔ 0 ≤ findS t 0 key := by
    rw [getGo, hs]
    split
    · rename_i h1; constructor
      · intro h; omega
      · intro h; omega
    · rename_i h1
      rw [getGo]
      constructor
      · intro; omega
      · intro; omega
  rw [hg]
  unfold findS
  rw [orN_nonneg, List.find?_isSome]
  unfold partsS
  have hd' : (nth t ((0 : Nat) : Int)).depth = 0 := hd
  rw [hd']
  constructor
  · rintro ⟨x, hx, he⟩
    obtain ⟨j, n, h1, h2, h3⟩ := (partsR_iff 0 _ _ (fun n hn => isS_deep h n hn) x).1 hx
    have hn : nth t (x : Int) = n := nth_of (by rw [h3]; rw [List.getElem?_drop] at h1; exact h1)
    rw [hn] at he
    refine List.mem_map.2 ⟨n, List.mem_of_getElem? h1, ?_⟩
    unfold dk
    rw [h2, eq_of_beq he]
    rfl
  · intro hm
    obtain ⟨n, hn, he⟩ := List.mem_map.1 hm
    injection he with e1 e2
    obtain ⟨j, hj⟩ := List.mem_iff_getElem?.1 hn
    refine ⟨0 + 1 + j, (partsR_iff 0 _ _ (fun n hn => isS_deep h n hn) _).2 ⟨j, n, hj, by omega, rfl⟩, ?_⟩
    have hn : nth t ((0 + 1 + j : Nat) : Int) = n := nth_of (by rw [List.getElem?_drop] at hj; exact hj)
    rw [hn, e2]
    simp
theorem parse_is {file s : Bs} (h : (parseS file s).2.code = 0) : isS (parseS file s).1 = true := ((parseS_law file s).2.2 (parse_lines h) h).2.1
/-! ### 3. TreeTwice -/
def twA (key : Bs) : Bs := key ++ 58 :: 10 :: ([32, 32] ++ (key ++ [58, 32, 49] ++ 10 :: []))
def twB (key : Bs) : Bs := key ++ [58, 32, 49] ++ 10 :: (key ++ [58, 32, 50] ++ 10 :: [])
theorem goS_cons (file : Bs) (l : Ln) (ls : List Ln) (nodes : List Nd) (st : List OB) (last : Bool) (ind : Int) {o : Ct} (h : readC l.text = (o, 0, 0)) {e : Int} {N2 : List Nd} {S2 : List OB} (hE : enterS nodes st last ind l o = (e, N2, S2)) :
    goS file (l :: ls) nodes st last ind = if e ≠ 0 then ([], ⟨e, file, l.no, l.indent + 1⟩) else goS file ls (N2 ++ [nodeS file S2.length l o]) S2 (!o.has) l.indent := by
  rw [goS, h, if_neg (by simp)]
  simp only [hE]
/-- a line further to the right behind an entry without value -/
theorem enter_in (T : List Nd) (b2 : OB) (n : Int) (k : Nat) (hk : 0 < k) (t : Bs) (o : Ct) (ho : o.kind = 1) : ∃ N2 b1, enterS T [b2] true 0 ⟨n, k, t⟩ o = (0, N2, [b1, b2]) ∧ b1.indent = k ∧ b1.items = false := by
  have hop : opens true 0 ⟨n, k, t⟩ = true := by simp [opens]; omega
  have h2 : (o.kind == 2) = false := by rw [ho]; rfl
  refine ⟨nodes1 T true 0 ⟨n, k, t⟩ o, ⟨k, false, (T.length : Int) - 1, aput o.key (w64 (0 + 1)) []⟩, ?_, rfl, rfl⟩
  have hs : stack1 T.length [b2] true 0 ⟨n, k, t⟩ o = [⟨k, false, (T.length : Int) - 1, []⟩, b2] := by rw [stack1, if_pos hop, h2]
  have hp : popS k [⟨k, false, (T.length : Int) - 1, []⟩, b2] = [⟨k, false, (T.length : Int) - 1, []⟩, b2] := by rw [popS, if_neg (by simp)]
  unfold enterS
  simp only [hs, hp, h2, alook]
  simp
theorem twice_law {s key : Bs} (hk : lowKey key) (hl : s.length ≤ 3000) (hc : (endl s).count 10 ≤ 4092) (h : (parseS [102] s).2.code = 0) :
    (0 ≤ getS (parseS [102] s).1 [key] → (parseS [102] (endl s ++ twA key)).2 = ⟨42, [102], (endl s).count 10 + 1, 1⟩ ∧ (parseS [102] (endl s ++ twB key)).2 = ⟨42, [102], (endl s).count 10 + 1, 1⟩) ∧
    (¬ 0 ≤ getS (parseS [102] s).1 [key] → (parseS [102] (endl s ++ twA key)).2 = ft0 ∧ (parseS [102] (endl s ++ twB key)).2 = ⟨42, [102], (endl s).count 10 + 2, 1⟩) := by
  rw [get_root (parse_is h)]
  have hle := endl_len s
  rw [← parse_endl [102] s (by omega)] at h ⊢
  obtain ⟨c, hcd⟩ : ∃ c, c = (endl s).count 10 := ⟨_, rfl⟩
  rw [← hcd] at hc ⊢
  have hkl := hk.2.1
  have h10 := key_10 hk
  have hok := key_ok hk
  have hn1 : (10 : UInt8) ∉ key ++ [58] := by simp [h10]
  have hn2 : (10 : UInt8) ∉ [32, 32] ++ (key ++ [58, 32, 49]) := by simp [h10]
  have hn3 : (10 : UInt8) ∉ key ++ [58, 32, 49] := by simp [h10]
  have hn4 : (10 : UInt8) ∉ key ++ [58, 32, 50] := by simp [h10]
  have rA : ∀ n, rawFrom n (twA key) = [(n, key ++ [58]), (n + 1, [32, 32] ++ (key ++ [58, 32, 49]))] := by
    intro n
    have e : twA key = (key ++ [58]) ++ 10 :: (([32, 32] ++ (key ++ [58, 32, 49])) ++ 10 :: []) := by unfold twA; simp
    rw [e, raw_cons _ _ _ hn1, raw_cons _ _ _ hn2, raw_nil]
  have rB : ∀ n, rawFrom n (twB key) = [(n, key ++ [58, 32, 49]), (n + 1, key ++ [58, 32, 50])] := by
    intro n
    unfold twB
    rw [raw_cons _ _ _ hn3, raw_cons _ _ _ hn4, raw_nil]
  have lA1 : ∀ n : Nat, lineOf n (key ++ [58]) = some ⟨n, 0, key ++ [58]⟩ := fun n => line_key hk n 0 [] 58 (by decide) rfl
  have lA2 : ∀ n : Nat, lineOf n ([32, 32] ++ (key ++ [58, 32, 49])) = some ⟨n, 2, key ++ [58, 32, 49]⟩ := fun n => line_key hk n 2 [32, 49] 49 (by decide) rfl
  have lB1 : ∀ n : Nat, lineOf n (key ++ [58, 32, 49]) = some ⟨n, 0, key ++ [58, 32, 49]⟩ := fun n => line_key hk n 0 [32, 49] 49 (by decide) rfl
  have lB2 : ∀ n : Nat, lineOf n (key ++ [58, 32, 50]) = some ⟨n, 0, key ++ [58, 32, 50]⟩ := fun n => line_key hk n 0 [32, 50] 50 (by decide) rfl
  have oA1 : (key ++ [58]).all (fun b => !badB b) = true := by rw [List.all_append, hok]; decide
  have oA2 : ([32, 32] ++ (key ++ [58, 32, 49])).all (fun b => !badB b) = true := by rw [List.all_append, List.all_append, hok]; decide
  have oB1 : (key ++ [58, 32, 49]).all (fun b => !badB b) = true := by rw [List.all_append, hok]; decide
  have oB2 : (key ++ [58, 32, 50]).all (fun b => !badB b) = true := by rw [List.all_append, hok]; decide
  have LA : ∀ acc, linesR (rawFrom (1 + c) (twA key)) acc = ⟨acc ++ [⟨(1 + c : Nat), 0, key ++ [58]⟩, ⟨(1 + c + 1 : Nat), 2, key ++ [58, 32, 49]⟩], 0, 0, 0⟩ := by
    intro acc
    rw [rA, linesR_one _ _ _ _ _ (by omega) oA1 (lA1 _), linesR_one _ _ _ _ _ (by omega) oA2 (lA2 _), linesR, List.append_assoc]
    rfl
  have LB : ∀ acc, linesR (rawFrom (1 + c) (twB key)) acc = ⟨acc ++ [⟨(1 + c : Nat), 0, key ++ [58, 32, 49]⟩, ⟨(1 + c + 1 : Nat), 0, key ++ [58, 32, 50]⟩], 0, 0, 0⟩ := by
    intro acc
    rw [rB, linesR_one _ _ _ _ _ (by omega) oB1 (lB1 _), linesR_one _ _ _ _ _ (by omega) oB2 (lB2 _), linesR, List.append_assoc]
    rfl
  have tA : (twA key).length ≤ 100 := by unfold twA; simp; omega
  have tB : (twB key).length ≤ 100 := by unfold twB; simp; omega
  have hcn : (endl s).count 10 = c := hcd.symm
  obtain ⟨stA, laA, inA, rdA, goA⟩ := parse_more (twA key) (endl_nl s) (by omega) h
  obtain ⟨stB, laB, inB, rdB, goB⟩ := parse_more (twB key) (endl_nl s) (by omega) h
  rw [hcn] at goA goB
  rw [goA _ (LA _), goB _ (LB _)]
  generalize (parseS [102] (endl s)).1 = T at rdA rdB ⊢
  have rk := read_key hk
  obtain ⟨o1', rv1, k1, k2, k3⟩ := read_val hk 49 (.inl rfl)
  obtain ⟨o2', rv2, j1, j2, j3⟩ := read_val hk 50 (.inr rfl)
  obtain ⟨bA, a1, a2, a3, a4, a5, a6⟩ := enter_root (last := laA) (l := ⟨(1 + c : Nat), 0, key ++ [58]⟩) (o := o1 key) rdA rfl (show (1 : Int) ≠ 2 by decide)
  obtain ⟨bB, b1, b2, b3, b4, b5, b6⟩ := enter_root (last := laB) (l := ⟨(1 + c : Nat), 0, key ++ [58, 32, 49]⟩) (o := o1') rdB rfl (by omega)
  rw [k2] at b5 b6
  have ec : ((1 + c : Nat) : Int) = (c : Int) + 1 := by omega
  have ec2 : ((1 + c + 1 : Nat) : Int) = (c : Int) + 2 := by omega
  constructor
  · intro hm
    rw [goS_cons _ _ _ _ _ _ _ rk (a5 hm), goS_cons _ _ _ _ _ _ _ rv1 (b5 hm), if_pos (by decide), if_pos (by decide), ec]
    exact ⟨rfl, rfl⟩
  · intro hm
    rw [goS_cons _ _ _ _ _ _ _ rk (a6 hm), goS_cons _ _ _ _ _ _ _ rv1 (b6 hm), if_neg (by decide), if_neg (by decide)]
    constructor
    · generalize hT2 : T ++ [nodeS [102] _ _ _] = T2
      obtain ⟨N2, b1', hE, -, -⟩ := enter_in T2 { bA with keys := aput (o1 key).key (w64 ((alook (o1 key).key bA.keys).getD 0 + 1)) bA.keys } (1 + c + 1 : Nat) 2 (by decide) (key ++ [58, 32, 49]) o1' k1
      have g := goS_cons [102] (⟨(1 + c + 1 : Nat), (2 : Nat), key ++ [58, 32, 49]⟩ : Ln) [] T2 _ true 0 rv1 hE
      rw [if_neg (by decide), goS] at g
      exact congrArg Prod.snd g
    · have hop : opens (!o1'.has) 0 ⟨(1 + c + 1 : Nat), 0, key ++ [58, 32, 50]⟩ = false := by simp [opens]
      generalize hT2 : T ++ [nodeS [102] _ _ _] = T2
      have hE : enterS T2 [{ bB with keys := aput key (w64 ((alook key bB.keys).getD 0 + 1)) bB.keys }] (!o1'.has) 0 ⟨(1 + c + 1 : Nat), 0, key ++ [58, 32, 50]⟩ o2' = (42, [], []) := by
        unfold enterS
        have hs : ∀ st, stack1 T2.length st (!o1'.has) 0 ⟨(1 + c + 1 : Nat), 0, key ++ [58, 32, 50]⟩ o2' = st := fun st => by rw [stack1, if_neg (by rw [hop]; decide)]
        rw [hs, popS]
        · simp [b1, b2, j1, j2, alook_aput]
        · simp
      rw [goS_cons _ _ _ _ _ _ _ rv2 hE, if_pos (by decide), ec2]
      rfl
end Go.Proofs.YtbmplmehofgocaaDoor.C
