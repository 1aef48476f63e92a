/- The plain law of TreeBlocks: lines that are too far to the right, between two blocks, or of the other kind, behind a text that is taken. -/
import Derived.Test.YtbmplmehofgocaaDoorPb
set_option linter.unusedVariables false
set_option linter.unusedSimpArgs false
set_option maxRecDepth 10000
namespace Go.Proofs.YtbmplmehofgocaaDoor.C
open Go.RowKit Go.Proofs.YtbmplmehofgocaaDoor.Sh
abbrev z0 : Bs := [34, 122, 122, 32, 48, 34, 58]
abbrev z1 : Bs := [34, 122, 122, 32, 49, 34, 58, 32, 49]
abbrev zb : Bs := [98, 58, 32, 49]
abbrev zi : Bs := [45, 32, 49]
def spc (k : Nat) : Bs := List.replicate k 32
def blk (k i : Nat) (x : Bs) : Bs := z0 ++ 10 :: (spc k ++ z1 ++ 10 :: (spc i ++ x ++ 10 :: []))
theorem rz0 : readC z0 = (⟨1, [122, 122, 32, 48], false, [], 0, 1, 0⟩, 0, 0) := by decide +kernel
theorem rz1 : readC z1 = (⟨1, [122, 122, 32, 49], true, [49], 0, 1, 9⟩, 0, 0) := by decide +kernel
theorem rzb : readC zb = (⟨1, [98], true, [49], 0, 1, 4⟩, 0, 0) := by decide +kernel
theorem rzi : readC zi = (⟨2, [], true, [49], 0, 1, 3⟩, 0, 0) := by decide +kernel
theorem spc_10 (k : Nat) : (10 : UInt8) ∉ spc k := by unfold spc; simp [List.mem_replicate]
theorem spc_ok (k : Nat) : (spc k).all (fun b => !badB b) = true := List.all_eq_true.2 fun b hb => by rw [(List.mem_replicate.1 hb).2]; decide
theorem blk_lines (n k i : Nat) (x : Bs) (a y : UInt8) (hn : n + 2 ≤ 4096) (hx : (10 : UInt8) ∉ x) (hok : x.all (fun b => !badB b) = true) (ha : a ≠ 32) (h35 : a.toNat ≠ 35) (h1 : x.head? = some a) (hy : y ≠ 32) (h2 : x.getLast? = some y) (acc : List Ln) :
    linesR (rawFrom n (blk k i x)) acc = ⟨acc ++ [⟨n, 0, z0⟩, ⟨(n + 1 : Nat), k, z1⟩, ⟨(n + 1 + 1 : Nat), i, x⟩], 0, 0, 0⟩ := by
  have e1 : (10 : UInt8) ∉ z0 := by decide
  have e2 : (10 : UInt8) ∉ spc k ++ z1 := by
    intro h
    rcases List.mem_append.1 h with h | h
    · exact spc_10 k h
    · revert h; decide
  have e3 : (10 : UInt8) ∉ spc i ++ x := by
    intro h
    rcases List.mem_append.1 h with h | h
    · exact spc_10 i h
    · exact hx h
  have o2 : (spc k ++ z1).all (fun b => !badB b) = true := by rw [List.all_append, spc_ok]; decide
  have o3 : (spc i ++ x).all (fun b => !badB b) = true := by rw [List.all_append, spc_ok, hok]; decide
  have l1 : lineOf n z0 = some ⟨n, 0, z0⟩ := lineOf_pad n 0 z0 34 (by decide) (by decide) rfl 58 (by decide) rfl
  have l2 : lineOf (n + 1) (spc k ++ z1) = some ⟨(n + 1 : Nat), k, z1⟩ := lineOf_pad (n + 1) k z1 34 (by decide) (by decide) rfl 49 (by decide) rfl
  have l3 : lineOf (n + 1 + 1) (spc i ++ x) = some ⟨(n + 1 + 1 : Nat), i, x⟩ := lineOf_pad (n + 1 + 1) i x a ha h35 h1 y hy h2
  unfold blk
  rw [raw_cons _ _ _ e1, raw_cons _ _ _ e2, raw_cons _ _ _ e3, raw_nil,
    linesR_one _ _ _ _ _ (by omega) (by decide) l1,
    linesR_one _ _ _ _ _ (by omega) o2 l2,
    linesR_one _ _ _ _ _ (by omega) o3 l3, linesR]
  simp
theorem blocks_law {s : Bs} {k i : Nat} {x : Bs} {a y : UInt8} {o : Ct} {e : Int} (hk : 2 ≤ k) (hk7 : k ≤ 7) (hi : i ≤ 8) (hl : s.length ≤ 3000) (hc : (endl s).count 10 ≤ 4092) (h : (parseS [102] s).2.code = 0)
    (hx : (10 : UInt8) ∉ x) (hok : x.all (fun b => !badB b) = true) (ha : a ≠ 32) (h35 : a.toNat ≠ 35) (h1 : x.head? = some a) (hy : y ≠ 32) (h2 : x.getLast? = some y) (hxl : x.length ≤ 4) (ho : readC x = (o, 0, 0)) (he : e ≠ 0)
    (hE : ∀ (T : List Nd) (b1 b2 : OB) (n : Int), b1.indent = k → b1.items = false → b2.indent = 0 → b2.items = false → enterS T [b1, b2] false k ⟨n, i, x⟩ o = (e, [], [])) :
    (parseS [102] (endl s ++ blk k i x)).2 = ⟨42, [102], (endl s).count 10 + 1, 1⟩ ∨ (parseS [102] (endl s ++ blk k i x)).2 = ⟨e, [102], (endl s).count 10 + 3, (i : Int) + 1⟩ := by
  have hle := endl_len s
  rw [← parse_endl [102] s (by omega)] at h
  have tB : (blk k i x).length ≤ 60 := by unfold blk spc; simp; omega
  obtain ⟨st, la, ind, rd, go⟩ := parse_more (blk k i x) (endl_nl s) (by omega) h
  generalize hcd : (endl s).count 10 = c at *
  rw [go _ (blk_lines (1 + c) k i x a y (by omega) hx hok ha h35 h1 hy h2 _)]
  generalize (parseS [102] (endl s)).1 = T at rd ⊢
  obtain ⟨b, a1, a2, a3, a4, a5, a6⟩ := enter_root (last := la) (l := ⟨(1 + c : Nat), 0, z0⟩) (o := ⟨1, [122, 122, 32, 48], false, [], 0, 1, 0⟩) rd rfl (by decide)
  have ec : ((1 + c : Nat) : Int) = (c : Int) + 1 := by omega
  have ec3 : ((1 + c + 1 + 1 : Nat) : Int) = (c : Int) + 3 := by omega
  by_cases hm : ((1 : Int), [122, 122, 32, 48]) ∈ (T.drop 1).map dk
  · left
    rw [goS_cons _ _ _ _ _ _ _ rz0 (a5 hm), if_pos (by decide), ec]
    rfl
  · right
    rw [goS_cons _ _ _ _ _ _ _ rz0 (a6 hm), if_neg (by decide)]
    generalize hT2 : T ++ [nodeS [102] _ _ _] = T2
    generalize hb2 : ({ b with keys := aput _ _ b.keys } : OB) = b2
    have b2i : b2.indent = 0 := by rw [← hb2]; exact a1
    have b2t : b2.items = false := by rw [← hb2]; exact a2
    obtain ⟨N2, b1, hE2, b1i, b1t⟩ := enter_in T2 b2 (1 + c + 1 : Nat) k (by omega) z1 ⟨1, [122, 122, 32, 49], true, [49], 0, 1, 9⟩ rfl
    have g := goS_cons [102] (⟨(1 + c + 1 : Nat), k, z1⟩ : Ln) [⟨(1 + c + 1 + 1 : Nat), i, x⟩] T2 _ true 0 rz1 hE2
    rw [if_neg (by decide)] at g
    refine (congrArg Prod.snd g).trans ?_
    have g2 := goS_cons [102] (⟨(1 + c + 1 + 1 : Nat), i, x⟩ : Ln) [] (N2 ++ [nodeS [102] [b1, b2].length (⟨(1 + c + 1 : Nat), k, z1⟩ : Ln) ⟨1, [122, 122, 32, 49], true, [49], 0, 1, 9⟩]) _ false k ho (hE _ b1 b2 _ b1i b1t b2i b2t)
    rw [if_pos he] at g2
    refine (congrArg Prod.snd g2).trans ?_
    show (⟨e, [102], ((1 + c + 1 + 1 : Nat) : Int), (i : Int) + 1⟩ : Ft) = _
    rw [ec3]
theorem ent_far (k : Nat) (hk : 2 ≤ k) (T : List Nd) (b1 b2 : OB) (n : Int) (h1 : b1.indent = k) (h2 : b1.items = false) (h3 : b2.indent = 0) (h4 : b2.items = false) : enterS T [b1, b2] false k ⟨n, (k + 1 : Nat), zb⟩ ⟨1, [98], true, [49], 0, 1, 4⟩ = (40, [], []) := by
  unfold enterS
  rw [stack1, if_neg (by simp [opens]), popS, if_neg (by simp only [h1]; omega)]
  simp only
  rw [if_pos (by rw [h1]; omega)]
theorem ent_half (k : Nat) (hk : 2 ≤ k) (T : List Nd) (b1 b2 : OB) (n : Int) (h1 : b1.indent = k) (h2 : b1.items = false) (h3 : b2.indent = 0) (h4 : b2.items = false) : enterS T [b1, b2] false k ⟨n, (1 : Nat), zb⟩ ⟨1, [98], true, [49], 0, 1, 4⟩ = (40, [], []) := by
  unfold enterS
  rw [stack1, if_neg (by simp [opens]), popS, if_pos (by simp only [h1]; omega), popS]
  · simp only
    rw [if_pos (by rw [h3]; omega)]
  · simp
theorem ent_item (k : Nat) (hk : 2 ≤ k) (T : List Nd) (b1 b2 : OB) (n : Int) (h1 : b1.indent = k) (h2 : b1.items = false) (h3 : b2.indent = 0) (h4 : b2.items = false) : enterS T [b1, b2] false k ⟨n, k, zi⟩ ⟨2, [], true, [49], 0, 1, 3⟩ = (41, [], []) := by
  unfold enterS
  rw [stack1, if_neg (by simp [opens]), popS, if_neg (by simp only [h1]; omega)]
  simp only
  rw [if_neg (by rw [h1]; simp), if_pos (by rw [h2]; decide)]
/-- is it this fault, or one of a key that stood already? -/
def faultB (f : Ft) (e line col : Int) : Bool := decide (f = ⟨e, [102], line, col⟩) || f.code == 42 && decide (f.line < line)
theorem blocks_all {s : Bs} {k : Nat} (hk : 2 ≤ k) (hk7 : k ≤ 7) (hl : s.length ≤ 3000) (hc : (endl s).count 10 ≤ 4092) (h : (parseS [102] s).2.code = 0) :
    faultB (parseS [102] (endl s ++ blk k (k + 1) zb)).2 40 ((endl s).count 10 + 3) (k + 2) = true ∧ faultB (parseS [102] (endl s ++ blk k 1 zb)).2 40 ((endl s).count 10 + 3) 2 = true ∧ faultB (parseS [102] (endl s ++ blk k k zi)).2 41 ((endl s).count 10 + 3) (k + 1) = true := by
  have w : ∀ (e c : Int), faultB ⟨42, [102], (endl s).count 10 + 1, 1⟩ e ((endl s).count 10 + 3) c = true := by
    intro e c
    unfold faultB
    have : decide (((endl s).count 10 : Int) + 1 < (endl s).count 10 + 3) = true := by simp
    simp [this]
  have v : ∀ (e c : Int), faultB ⟨e, [102], (endl s).count 10 + 3, c⟩ e ((endl s).count 10 + 3) c = true := by
    intro e c
    unfold faultB
    simp
  refine ⟨?_, ?_, ?_⟩
  · rcases blocks_law (i := k + 1) (x := zb) (a := 98) (y := 49) hk hk7 (by omega) hl hc h (by decide) (by decide) (by decide) (by decide) rfl (by decide) rfl (by decide) rzb (e := 40) (by decide) (ent_far k hk) with h | h
    · rw [h]; exact w _ _
    · rw [h]
      have e : ((k + 1 : Nat) : Int) + 1 = (k : Int) + 2 := by omega
      rw [e]; exact v _ _
  · rcases blocks_law (i := 1) (x := zb) (a := 98) (y := 49) hk hk7 (by omega) hl hc h (by decide) (by decide) (by decide) (by decide) rfl (by decide) rfl (by decide) rzb (e := 40) (by decide) (ent_half k hk) with h | h
    · rw [h]; exact w _ _
    · rw [h]; exact v _ _
  · rcases blocks_law (i := k) (x := zi) (a := 45) (y := 49) hk hk7 (by omega) hl hc h (by decide) (by decide) (by decide) (by decide) rfl (by decide) rfl (by decide) rzi (e := 41) (by decide) (ent_item k hk) with h | h
    · rw [h]; exact w _ _
    · rw [h]; exact v _ _
end Go.Proofs.YtbmplmehofgocaaDoor.C
