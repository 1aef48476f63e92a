/- What the library's functions compute (the trees' seat). -/
import Derived.Test.YtgjhbapbomdpbaaDoorJ3
import Derived.Test.YtgjhbapbomdpbaaDoorShelf
import Derived.WalkSmall
import Derived.Lib.AppendIntMem
import Derived.Test.YtgjhbapbomdpbaaDoorJ2
set_option linter.unusedVariables false
set_option linter.unusedSimpArgs false
set_option maxRecDepth 10000
namespace Go.Proofs.YtgjhbapbomdpbaaDoor.C
open Go.RowKit Go.Proofs.YtgjhbapbomdpbaaDoor.Sh
/-! ### what is known of the package-level variables -/
structure Gm (w : World) : Prop where
  maxlen : ∃ m, w.cell? ⟨0, 0, none⟩ = some (.int .i64 m)
structure Gl (w : World) : Prop extends Gm w where
  pow10 : Lib.TabIs Tryd.prog w "internal/strconv.uint64pow10" .u64 Lib.pow10Tab
theorem gnum : Tryd.prog.globalNamed "internal/strconv.uint64pow10" = some 3 := by kernel_rfl
theorem var_lt {w : World} {n : String} {g : Nat} {cs : Array Value} (hg : Tryd.prog.globalNamed n = some g) (h : w.var? Tryd.prog n = some cs) : g < w.heap.size := by
  unfold World.var? at h
  rw [hg] at h
  simp only [Option.bind_some] at h
  rcases Nat.lt_or_ge g w.heap.size with h' | h'
  · exact h'
  · rw [Array.getElem?_eq_none h'] at h
    cases h
theorem Gm.keep {w w' : World} (h : Gm w) (k : Keep w w') : Gm w' := by
  obtain ⟨m, hm⟩ := h.maxlen
  exact ⟨⟨m, k.cell hm⟩⟩
theorem Gl.keep {w w' : World} (h : Gl w) (k : Keep w w') : Gl w' := by
  have hn := var_lt gnum h.pow10
  exact ⟨h.toGm.keep k, var?_below k gnum hn h.pow10⟩
instance (w : World) : Coe (Gl w) (Gm w) := ⟨fun h => h.toGm⟩
/-! ### the library -/
theorem keep_grow (w : World) (k : Nat) (os : Array Obj) : Keep w (Go.Sort.grow (w.drewN k) os) := Go.Lib.below_grow _ w (Nat.le_refl _) k os
theorem itoa_cv (n : Int) (h0 : -9223372036854775808 ≤ n) (h1 : n ≤ 9223372036854775807) (w0 : World) (hg : Gl w0) : Cv Tryd.prog 60 [.int .i64 n] (S (Lib.itoa n)) w0 := by
  intro w hk
  refine Calls.mono (Tryd.strconv_Itoa n h0 h1 w (hg.keep hk).pow10) ?_
  rintro e w' ⟨rfl, k, os, rfl⟩
  exact ⟨rfl, keep_grow w k os⟩
theorem hasPrefix_cv (s p : Bs) (w0 : World) : Cv Tryd.prog 79 [S s, S p] (.bool (Lib.hasPrefix s p)) w0 := by
  intro w hk
  refine Calls.mono (Tryd.strings_HasPrefix ⟨⟨s⟩⟩ ⟨⟨p⟩⟩ w) ?_
  rintro e w' ⟨rfl, rfl⟩
  exact ⟨rfl, Keep.refl _⟩
theorem keep_drewN (w : World) (n : Nat) : Keep w (w.drewN n) := by
  have := keep_grow w n #[]
  have e : Go.Sort.grow (w.drewN n) #[] = w.drewN n := by unfold Go.Sort.grow; rw [Array.append_empty]
  rw [e] at this
  exact this
theorem cut_cv (s p : Bs) (hl : s.length < 4294967281) (w0 : World) (hg : Gm w0) : Cv Tryd.prog 70 [S s, S p] (.tuple #[S (Lib.cut s p).1, S (Lib.cut s p).2.1, .bool (Lib.cut s p).2.2]) w0 := by
  intro w hk
  obtain ⟨m, hm⟩ := (hg.keep hk).maxlen
  refine Calls.mono (Tryd.strings_Cut ⟨⟨s⟩⟩ ⟨⟨p⟩⟩ m w hl hm) ?_
  rintro e w' ⟨rfl, n, rfl⟩
  exact ⟨rfl, keep_drewN w n⟩
theorem trim_cv (s : Bs) (c : UInt8) (hc : c.toNat < 128) (hl : s.length ≤ 9223372036854775807) (w0 : World) : Cv Tryd.prog 52 [S s, S [c]] (S (Lib.trimB s c)) w0 := by
  intro w hk
  refine Calls.mono (Tryd.strings_Trim_one ⟨⟨s⟩⟩ c hc w hl) ?_
  rintro e w' ⟨rfl, rfl | rfl⟩
  · exact ⟨rfl, Keep.refl _⟩
  · exact ⟨rfl, Keep.drew _⟩
theorem trimR_cv (s : Bs) (c : UInt8) (hc : c.toNat < 128) (hl : s.length ≤ 9223372036854775807) (w0 : World) : Cv Tryd.prog 107 [S s, S [c]] (S (Lib.trimRightB s c)) w0 := by
  intro w hk
  refine Calls.mono (Tryd.strings_TrimRight_one ⟨⟨s⟩⟩ c hc w hl) ?_
  rintro e w' ⟨rfl, rfl⟩
  exact ⟨rfl, Keep.refl _⟩
theorem index1_cv (s : Bs) (c : UInt8) (w0 : World) : Cv Tryd.prog 53 [S s, S [c]] (.int .i64 (Lib.indexByte s c)) w0 := by
  intro w hk
  refine Calls.mono (Tryd.strings_Index_one ⟨⟨s⟩⟩ c w) ?_
  rintro e w' ⟨rfl, rfl⟩
  exact ⟨rfl, Keep.refl _⟩
end Go.Proofs.YtgjhbapbomdpbaaDoor.C
/- A text's lines: what text.Lines computes. -/
set_option linter.unusedVariables false
set_option linter.unusedSimpArgs false
set_option maxRecDepth 10000
namespace Go.Proofs.YtgjhbapbomdpbaaDoor.C
open Go.RowKit Go.Proofs.YtgjhbapbomdpbaaDoor.Sh
theorem mixedN : Tryd.prog.follows .mixedOrders = true := mixed
/-! ### the lines as they are told -/
theorem cut_rest_le (s p : Bs) : (Lib.cut s p).2.1.length ≤ s.length := by
  unfold Lib.cut
  split <;> simp
theorem cut_rest_lt (s : Bs) (c : UInt8) (h : s ≠ []) : (Lib.cut s [c]).2.1.length < s.length := by
  have hp := List.length_pos_iff.2 h
  unfold Lib.cut
  split
  · simp; omega
  · simp; omega
theorem cut_fst_le (s p : Bs) : (Lib.cut s p).1.length ≤ s.length := by
  unfold Lib.cut
  split <;> simp
  omega
theorem cut_nil (c : UInt8) : Lib.cut [] [c] = ([], [], false) := by
  unfold Lib.cut
  rw [if_neg]
  show ¬ 0 ≤ Lib.index [] [c]
  simp [Lib.index]
def rawFrom (n : Nat) (s : Bs) : List (Nat × Bs) := if h : s = [] then [] else (n, (Lib.cut s [10]).1) :: rawFrom (n + 1) (Lib.cut s [10]).2.1
termination_by s.length
decreasing_by exact cut_rest_lt s 10 h
def restK (s : Bs) : Nat → Bs
  | 0 => s
  | k + 1 => (Lib.cut (restK s k) [10]).2.1
theorem restK_le (s : Bs) : ∀ k, (restK s k).length ≤ s.length
  | 0 => Nat.le_refl _
  | k + 1 => Nat.le_trans (cut_rest_le _ _) (restK_le s k)
theorem restK_succ' (s : Bs) : ∀ k, restK s (k + 1) = restK (Lib.cut s [10]).2.1 k
  | 0 => rfl
  | k + 1 => by
    have := restK_succ' s k
    show (Lib.cut (restK s (k + 1)) [10]).2.1 = (Lib.cut (restK (Lib.cut s [10]).2.1 k) [10]).2.1
    rw [this]
theorem restK_nil : ∀ k, restK [] k = []
  | 0 => rfl
  | k + 1 => by show (Lib.cut (restK [] k) [10]).2.1 = []; rw [restK_nil k, cut_nil]
theorem raw_get : ∀ (k n : Nat) (s : Bs), (rawFrom n s)[k]? = if restK s k = [] then none else some (n + k, (Lib.cut (restK s k) [10]).1)
  | 0, n, s => by
    rw [rawFrom]
    split
    · rename_i h; simp [restK, h]
    · rename_i h; simp [restK, h]
  | k + 1, n, s => by
    rw [rawFrom]
    split
    · rename_i h; subst h; rw [restK_nil]; simp
    · rename_i h
      rw [List.getElem?_cons_succ, raw_get k (n + 1) _, restK_succ' s k]
      split
      · rfl
      · congr 2
        omega
theorem raw_end (n : Nat) (s : Bs) (k : Nat) (h : k ≤ (rawFrom n s).length) : restK s k = [] ↔ k = (rawFrom n s).length := by
  have := raw_get k n s
  constructor
  · intro e
    rw [if_pos e] at this
    have := List.getElem?_eq_none_iff.1 this
    omega
  · intro e
    by_cases hr : restK s k = []
    · exact hr
    · rw [if_neg hr] at this
      have := (List.getElem?_eq_some_iff.1 this).1
      omega
theorem raw_len : ∀ (m n : Nat) (s : Bs), s.length ≤ m → (rawFrom n s).length ≤ s.length
  | 0, n, s, h => by
    have : s = [] := List.eq_nil_of_length_eq_zero (by omega)
    subst this
    rw [rawFrom]
    simp
  | m + 1, n, s, h => by
    rw [rawFrom]
    split
    · simp
    · rename_i hs
      have h1 := cut_rest_lt s 10 hs
      have := raw_len m (n + 1) (Lib.cut s [10]).2.1 (by omega)
      simp only [List.length_cons]
      omega
/-! ### the iterator -/
theorem each_tells (b : Nat) (s : Bs) (hl : s.length < 4294967281) :
    TellsO Tryd.prog 69 [.pointer (some ⟨b, 0, none⟩)] (fun x : Nat × Bs => [.int .i64 x.1, S x.2]) (rawFrom 1 s) (fun k => Ch.cells b 9 [S (restK s k)]) Gm := by
  intro l J Jx W hJ hJx hF hown hyield h0
  have hrl := raw_len _ 1 s (Nat.le_refl _)
  refine calls_of_Wp (vs := [_, _]) Tryd.func69 ?_
  refine Wp.seq (Wp.reads (is := [0]) (Keep.refl _) (Rn.s rfl Yv.as (Rn.nil)) ?_)
  refine Wp.block ?_
  refine Wp.loop (α := Nat) (fun k ρ ds w' => ds = [] ∧ k ≤ (rawFrom 1 s).length ∧ J k k w' ∧ Sub [(0, .func (.yield l) #[] #[]), (1, .pointer (some ⟨b, 0, none⟩)), (3, .int .i64 ((k : Int) + 1))] ρ) (fun k => (rawFrom 1 s).length - k) 0
    ⟨rfl, Nat.zero_le _, h0, rfl, rfl, rfl, trivial⟩ ?_
  rintro k ρ ds w' ⟨rfl, hk, hj, hs⟩
  refine Wp.forget _ ?_ hs
  obtain ⟨hok, hbl, -⟩ := hown k k w' hj
  have hc : Cells w' b [S (restK s k)] := fun j v hv => cells_cell (T := 9) hok j v hv
  refine Wp.seq (Wp.seq (Wp.reads (is := [0, 1]) (Keep.refl _) (Rn.s rfl (Yv.ld (hc.at_ 0)) (Rn.s rfl (Yv.scm _ rfl) (Rn.nil))) ?_))
  refine Wp.cond rfl (fun h => ?_) (fun h => ?_)
  · have h : restK s k ≠ [] := by simpa using h
    have hx := raw_get k 1 s
    rw [if_neg h] at hx
    have hkl : k < (rawFrom 1 s).length := (List.getElem?_eq_some_iff.1 hx).1
    have hle := restK_le s k
    refine Wp.skip (Wp.seq (Wp.block ?_))
    refine Wp.seq (Wp.regionL (l := [0, 1, 2, 3, 4, 5, 6, 7, 8]) (WO.rd (is := [0]) (js := [1, 2, 3, 4, 5, 6, 7, 8]) (Keep.refl _) (Rn.s rfl (Yv.ld (hc.at_ 0)) (Rn.nil)) (WO.cv rfl (cut_cv (restK s k) [10] (by omega) _ (hF _ _ _ hj)) (Keep.refl _) (FnOk.of Tryd.func70) (fun wa1 ka1 => WO.rd (is := [2, 3, 4, 5, 6, 7, 8]) (js := []) ((Keep.refl _).trans ka1) (Rn.s rfl Yv.mv (Rn.s rfl Yv.ex (Rn.s rfl Yv.ex (Rn.s rfl Yv.ex (Rn.s rfl Yv.as (Rn.s rfl Yv.as (Rn.s rfl Yv.as (Rn.nil)))))))) (WO.done ?_)))))
    have hj1 := hJ _ _ _ _ ka1 hj
    have hy : YieldTo Tryd.prog l [.int .i64 ((k : Int) + 1), S (Lib.cut (restK s k) [10]).1].toArray wa1 fun e W' => (e = .returned (.bool true) ∧ J (k + 1) k W') ∨ (e = .returned (.bool false) ∧ Jx k W') := by
      have := hyield k _ wa1 hx hj1
      simp only [show ((1 + k : Nat) : Int) = (k : Int) + 1 by omega] at this
      exact this
    refine Wp.seq (Wp.seq (Wp.regionL (l := [0, 1, 2, 3, 4]) (WO.rd (is := [0, 1, 2]) (js := [3, 4]) (Keep.refl _) (Rn.s rfl Yv.mv (Rn.s rfl Yv.mv (Rn.s rfl Yv.mv (Rn.nil)))) (WO.act (hc := rfl) (he := Ef.yield hy ?_)))))
    rintro e w2 (⟨rfl, hj2⟩ | ⟨rfl, hx2⟩)
    · refine WO.rd (is := [4]) (js := []) (Keep.refl _) (Rn.s rfl Yv.not (Rn.nil)) (WO.done ?_)
      refine Wp.cond_f rfl (Wp.skip ?_)
      obtain ⟨hok2, hbl2, hup⟩ := hown (k + 1) k w2 hj2
      have hst := St.own (M := [b]) hok2 (by intro x hx; exact ⟨hx, hbl2 x hx⟩)
      refine Wp.regionL (l := [0, 1]) (WO.rd (is := [0]) (js := [1]) (Keep.refl _) (Rn.s rfl Yv.mv (Rn.nil)) (WO.act (hc := rfl) (he := Ef.store hst 0 (fun wc1 hsc1 => WO.done ?_))))
      have hst2 : St w2 [b] wc1 [Ch.cells b 9 [S (restK s (k + 1))]] := hsc1
      have hj3 := hup (k + 1) wc1 hst2.chg (hst2.at_ 0)
      refine Wp.reads (is := [0, 1, 2]) (Keep.refl _) (Rn.s rfl Yv.mv (Rn.s rfl (Yv.add (by unfold inI; omega)) (Rn.s rfl Yv.as (Rn.nil)))) ?_
      exact ⟨k + 1, ⟨rfl, hkl, hj3, rfl, rfl, by rw [show (((k + 1 : Nat) : Int) + 1) = (k : Int) + 1 + 1 by omega]; rfl, trivial⟩, by omega⟩
    · refine WO.rd (is := [4]) (js := []) (Keep.refl _) (Rn.s rfl Yv.not (Rn.nil)) (WO.done ?_)
      refine Wp.cond_t rfl ?_
      exact Wp.ret (Fin.ret (Res.none rfl) ⟨⟨_, rfl⟩, .inr ⟨k, hx2⟩⟩)
  · have h : restK s k = [] := by simpa using h
    have he := (raw_end 1 s k hk).1 h
    refine Wp.exit ?_
    exact Fin.normal (Res.none rfl) ⟨⟨_, rfl⟩, .inl (by rw [← he]; exact hj)⟩
end Go.Proofs.YtgjhbapbomdpbaaDoor.C
/- A text's lines that say something: text.bad and text.Lines. -/
set_option linter.unusedVariables false
set_option linter.unusedSimpArgs false
set_option maxRecDepth 10000
namespace Go.Proofs.YtgjhbapbomdpbaaDoor.C
open Go.RowKit Go.Proofs.YtgjhbapbomdpbaaDoor.Sh
def badB (b : UInt8) : Bool := decide (b.toNat < 32) || b.toNat == 127
/-- the place of the first byte that may not be -/
def badI : Bs → Int → Int
  | [], _ => -1
  | b :: s, n => if badB b then n else badI s (n + 1)
theorem badI_bd : ∀ (s : Bs) (n : Int), 0 ≤ n → badI s n = -1 ∨ (n ≤ badI s n ∧ badI s n < n + s.length)
  | [], n, h => .inl rfl
  | b :: s, n, h => by
    unfold badI
    split
    · right; simp; omega
    · rcases badI_bd s (n + 1) (by omega) with h' | h'
      · exact .inl h'
      · right; simp only [List.length_cons]; omega
theorem bad_cv (s : Bs) (hl : s.length < 4000000000000000000) (w0 : World) : Cv Tryd.prog 51 [S s] (.int .i64 (badI s 0)) w0 := by
  intro w hk
  refine calls_of_Wp (vs := [_]) Tryd.func51 ?_
  refine Wp.seq (Wp.reads (is := [0]) (Keep.refl _) (Rn.s rfl Yv.as (Rn.nil)) ?_)
  refine Wp.seq (Wp.seq (Wp.reads (is := [0]) (Keep.refl _) (Rn.s rfl Yv.as (Rn.nil)) ?_))
  refine Wp.block ?_
  refine Wp.loop (α := Nat) (fun k ρ ds w' => ds = [] ∧ w' = w ∧ k ≤ s.length ∧ badI (s.drop k) k = badI s 0 ∧ Sub [(0, S s), (3, .int .i64 k)] ρ) (fun k => s.length - k) 0 ⟨rfl, rfl, by omega, rfl, rfl, rfl, trivial⟩ ?_
  rintro k ρ ds w' ⟨rfl, rfl, h1, h2, hs⟩
  refine Wp.forget _ ?_ hs
  refine Wp.seq (Wp.seq (Wp.reads (is := [0, 1, 2, 3]) (Keep.refl _) (Rn.s rfl Yv.mv (Rn.s rfl Yv.mv (Rn.s rfl Yv.len_s (Rn.s rfl (Yv.cmp _ rfl) (Rn.nil))))) ?_))
  refine Wp.cond rfl (fun hlt => ?_) (fun hlt => ?_)
  · have hlt := of_decide_eq_true hlt
    have hkl : k < s.length := by omega
    have hget : s[k]? = some s[k] := List.getElem?_eq_getElem hkl
    have hby := byt_of hget
    rw [List.drop_eq_getElem_cons hkl, badI] at h2
    refine Wp.skip (Wp.seq (Wp.block (Wp.seq (Wp.reads (is := [0, 1, 2, 3, 4, 5, 6, 7, 8, 9]) (Keep.refl _) (Rn.s rfl Yv.mv (Rn.s rfl Yv.mv (Rn.s rfl (Yv.ix (by omega) (by omega)) (Rn.s rfl (Yv.cmp _ rfl) (Rn.s rfl Yv.mv (Rn.or (is := [5, 6, 7, 8, 9]) (js := []) (t := 14) (d := 19) (hg := rfl) (hf := fun h4 => have h4 := of_decide_eq_false h4; Rn.s rfl Yv.mv (Rn.s rfl Yv.mv (Rn.s rfl (Yv.ix (by omega) (by omega)) (Rn.s rfl (Yv.cmp _ rfl) (Rn.s rfl Yv.pick_f ((Rn.e 5 rfl rfl))))))) (ht := fun _ => Rn.no rfl (Rn.no rfl (Rn.no rfl (Rn.no rfl (Rn.s rfl Yv.pick_t (Rn.e 5 rfl rfl)))))) (k := Rn.nil))))))) ?_))))
    have e : (decide (byt s k < 32) || byt s k == 127) = badB s[k] := by
      rw [hby]
      unfold badB
      congr 1
      · simp only [decide_eq_decide]; omega
      · by_cases h : s[k].toNat = 127
        · simp [h]
        · have : ¬ ((s[k].toNat : Int) = 127) := by omega
          rw [beq_eq_false_iff_ne.2 h, beq_eq_false_iff_ne.2 this]
    refine Wp.cond rfl (fun hb => ?_) (fun hb => ?_)
    · rw [e] at hb
      rw [if_pos hb] at h2
      refine Wp.seq (Wp.reads (is := [0, 1]) (Keep.refl _) (Rn.s rfl Yv.mv (Rn.s rfl Yv.as (Rn.nil))) ?_)
      exact Wp.ret (Fin.ret (Res.one rfl rfl) ⟨by rw [h2], Keep.refl _⟩)
    · rw [e] at hb
      rw [if_neg (by simp [hb])] at h2
      refine Wp.skip (Wp.reads (is := [0, 1, 2]) (Keep.refl _) (Rn.s rfl Yv.mv (Rn.s rfl (Yv.add (by unfold inI; omega)) (Rn.s rfl Yv.as (Rn.nil)))) ?_)
      exact ⟨k + 1, ⟨rfl, rfl, hkl, by rw [← h2]; rfl, rfl, rfl, trivial⟩, by omega⟩
  · have hlt := of_decide_eq_false hlt
    rw [List.drop_eq_nil_of_le (by omega), badI] at h2
    refine Wp.exit (Wp.seq (Wp.reads (is := [0]) (Keep.refl _) (Rn.s rfl Yv.as (Rn.nil)) ?_))
    exact Wp.ret (Fin.ret (Res.one rfl rfl) ⟨by rw [h2], Keep.refl _⟩)
/-- a line that says something -/
structure Ln where
  no : Int
  indent : Int
  text : Bs
deriving Inhabited, DecidableEq
abbrev Ln.cs (l : Ln) : List Value := [.int .i64 l.no, .int .i64 l.indent, S l.text]
abbrev LnE : Enc Ln := ⟨3, Ln.cs, fun _ => rfl⟩
structure LsR where
  ls : List Ln
  no : Int
  col : Int
  e : Int
deriving Inhabited, DecidableEq
def lineOf (n : Nat) (l : Bs) : Option Ln :=
  let t := Lib.trimB l 32
  if t = [] ∨ byt t 0 = 35 then none else some ⟨n, Lib.indexByte l (nth t 0), t⟩
def linesR : List (Nat × Bs) → List Ln → LsR
  | [], acc => ⟨acc, 0, 0, 0⟩
  | (n, l) :: xs, acc =>
    if (4096 : Int) < n then ⟨[], n, 0, 12⟩
    else if 0 ≤ badI l 0 then ⟨[], n, badI l 0 + 1, 11⟩
    else match lineOf n l with
      | none => linesR xs acc
      | some x => linesR xs (acc ++ [x])
def linesS (s : Bs) : LsR := if (65536 : Int) < s.length then ⟨[], 0, 0, 10⟩ else linesR (rawFrom 1 s) []
theorem trimB_le (l : Bs) (c : UInt8) : (Lib.trimB l c).length ≤ l.length := by
  unfold Lib.trimB Lib.trimLeftB Lib.trimRightB
  have h1 := (List.dropWhile_sublist (fun x => x == c) (l := (l.reverse.dropWhile (· == c)).reverse)).length_le
  have h2 := (List.dropWhile_sublist (fun x => x == c) (l := l.reverse)).length_le
  simp only [List.length_reverse] at h1 h2
  omega
theorem raw_line_le (s : Bs) (k : Nat) (x : Nat × Bs) (h : (rawFrom 1 s)[k]? = some x) : x.2.length ≤ s.length ∧ x.1 = 1 + k := by
  rw [raw_get] at h
  split at h
  · cases h
  · injection h with h
    subst h
    have := cut_fst_le (restK s k) [10]
    have := restK_le s k
    exact ⟨by simp only; omega, rfl⟩
/-- what text.Lines hands back -/
def LinesPost (s : Bs) (w : World) (e : Ending) (w' : World) : Prop := ∃ A c, e = .returned (.tuple #[.slice A (linesS s).ls.length c, .int .i64 (linesS s).no, .int .i64 (linesS s).col, .int .i64 (linesS s).e]) ∧ St w [] w' [Ch.row LnE 78 A c (linesS s).ls]
theorem _root_.Go.Proofs.YtgjhbapbomdpbaaDoor.Sh.Res.four {P : Program} {fn : Func} {N : Nat} {ρ : Env} {w : World} {t u s r : Nat} {v x y z : Value} (h : fn.results = #[.tmp t, .tmp u, .tmp s, .tmp r]) (hv : lk ρ t = some v) (hx : lk ρ u = some x) (hy : lk ρ s = some y) (hz : lk ρ r = some z) : Res P fn N ρ w (.tuple #[v, x, y, z]) := fun a ds ha => by
  have e1 := ha.val t v hv
  have e2 := ha.val u x hx
  have e3 := ha.val s y hy
  have e4 := ha.val r z hz
  simp only [results, h]
  simp at e1 e2 e3 e4
  simp [e1, e2, e3, e4]
theorem each_calls (s : Bs) (w : World) : Cx Tryd.prog 50 [S s] [] (fun v D => ∃ b, v = .func (.func 69) #[] #[.pointer (some ⟨b, 0, none⟩)] ∧ D = [Ch.cells b 9 [S s]]) w := by
  refine calls_of_Wp (vs := [_]) Tryd.func50 ?_
  refine Wp.seq (Wp.regionL (l := [0, 1]) (WO.act (hc := rfl) (he := Ef.boxL ([S s]) (St.init w) (fun bx1 wx1 kx1 hsx1 => WO.rd (is := [1]) (js := []) ((Keep.refl _).trans kx1) (Rn.s rfl Yv.as (Rn.nil)) (WO.done ?_)))))
  refine Wp.seq (Wp.reads (is := [0, 1]) (Keep.refl _) (Rn.s rfl Yv.mf (Rn.s rfl Yv.as (Rn.nil))) ?_)
  exact Wp.ret (Fin.ret (Res.one rfl rfl) ⟨_, _, rfl, ⟨bx1, rfl, rfl⟩, hsx1⟩)
theorem lines_calls (s : Bs) (w0 : World) (hg : Gm w0) (w : World) (hk : Keep w0 w) : Calls Tryd.prog 33 #[S s] w (LinesPost s w) := by
  have hg := hg.keep hk
  refine calls_of_Wp (vs := [_]) Tryd.func33 ?_
  refine Wp.seq (Wp.reads (is := [0, 1, 2, 3]) (Keep.refl _) (Rn.s rfl Yv.as (Rn.s rfl Yv.as (Rn.s rfl Yv.as (Rn.s rfl Yv.as (Rn.nil))))) ?_)
  refine Wp.scope ?_
  refine Wp.seq (Wp.seq (Wp.reads (is := [0, 1, 2]) (Keep.refl _) (Rn.s rfl Yv.mv (Rn.s rfl Yv.len_s (Rn.s rfl (Yv.cmp _ rfl) (Rn.nil)))) ?_))
  refine Wp.cond rfl (fun h => ?_) (fun h => ?_)
  · have h := of_decide_eq_true h
    refine Wp.seq (Wp.reads (is := [0, 1, 2, 3]) (Keep.refl _) (Rn.s rfl Yv.as (Rn.s rfl Yv.as (Rn.s rfl Yv.as (Rn.s rfl Yv.as (Rn.nil))))) ?_)
    have e : linesS s = ⟨[], 0, 0, 10⟩ := by rw [linesS, if_pos h]
    exact Wp.ret (Fin.ret (Res.four rfl rfl rfl rfl rfl) ⟨none, 0, by rw [e]; rfl, by rw [e]; exact (St.init w).nilrow _ _⟩)
  have h := of_decide_eq_false h
  have e : linesS s = linesR (rawFrom 1 s) [] := by rw [linesS, if_neg h]
  unfold LinesPost
  rw [e]
  obtain ⟨R, hR⟩ : ∃ R, R = linesR (rawFrom 1 s) [] := ⟨_, rfl⟩
  rw [← hR]
  have hrl := raw_len _ 1 s (Nat.le_refl _)
  refine Wp.skip (Wp.seq (Wp.regionL (l := [0]) (WO.act (hc := rfl) (he := Ef.allocL (vs := [.slice none 0 0]) (St.init w) (fun ba1 wa1 ka1 hsa1 => WO.done ?_)))))
  refine Wp.seq (Wp.regionL (l := [0, 1, 2, 3, 4, 5]) (WO.act (hc := rfl) (he := Ef.allocL (vs := [.int .i64 0]) hsa1 (fun bb1 wb1 kb1 hsb1 => WO.act (hc := rfl) (he := Ef.allocL (vs := [.int .i64 0]) hsb1 (fun bb2 wb2 kb2 hsb2 => WO.act (hc := rfl) (he := Ef.allocL (vs := [.int .i64 0]) hsb2 (fun bb3 wb3 kb3 hsb3 => WO.act (hc := rfl) (he := Ef.store hsb3 2 (fun wb4 hsb4 => WO.act (hc := rfl) (he := Ef.store hsb4 2 (fun wb5 hsb5 => WO.act (hc := rfl) (he := Ef.store hsb5 2 (fun wb6 hsb6 => WO.done ?_))))))))))))))
  refine Wp.seq (Wp.label ?_)
  have hs0 : St w [] wb6 [Ch.cells bb3 25 [.int .i64 0], Ch.cells bb2 3 [.int .i64 0], Ch.cells bb1 3 [.int .i64 0], Ch.cells ba1 68 [.slice none 0 0]] := hsb6
  have hs0 := hs0.nilrow LnE 78
  refine Wp.seq (Wp.seq (Wp.regionL (l := [0, 1]) (WO.rd (is := [0]) (js := [1]) (Keep.refl _) (Rn.s rfl Yv.mv (Rn.nil)) (WO.act (hc := rfl) (he := Ef.cx (each_calls s wb6) hs0 (FnOk.of Tryd.func50) ?_)))))
  rintro v D wd1 ⟨bs, rfl, rfl⟩ hsd1
  refine WO.done ?_
  have hst : St w [] wd1 (Ch.cells bs 9 [S (restK s 0)] :: [Ch.row LnE 78 none 0 [], Ch.cells bb3 25 [.int .i64 0], Ch.cells bb2 3 [.int .i64 0], Ch.cells bb1 3 [.int .i64 0], Ch.cells ba1 68 [.slice none 0 0]]) := hsd1
  refine Wp.mid (fun ρ ds w' => ∃ kb A c no col er, ds = [{ target := .collected kb, args := #[] }] ∧ St w [] w' (Ch.obj kb (.deferred (some [])) :: Ch.cells bb3 25 [.int .i64 er] :: Ch.cells bb2 3 [.int .i64 col] :: Ch.cells bb1 3 [.int .i64 no] :: (if er = 0 then [Ch.cells ba1 68 [.slice A R.ls.length c], Ch.row LnE 78 A c R.ls] else [])) ∧
    (if er = 0 then R.no = 0 ∧ R.col = 0 ∧ R.e = 0 else R = ⟨[], no, col, er⟩) ∧ Sub [(6, .pointer (some ⟨ba1, 0, none⟩)), (7, .pointer (some ⟨bb1, 0, none⟩)), (8, .pointer (some ⟨bb2, 0, none⟩)), (9, .pointer (some ⟨bb3, 0, none⟩))] ρ) ?_ ?_
  · refine Wp.block ?_
    refine Wp.rangesO hst (each_tells bs s (by omega)) (fun _ _ => rfl)
      (fun k D => ∃ A c acc, D = [Ch.row LnE 78 A c acc, Ch.cells bb3 25 [.int .i64 0], Ch.cells bb2 3 [.int .i64 0], Ch.cells bb1 3 [.int .i64 0], Ch.cells ba1 68 [.slice A acc.length c]] ∧ linesR ((rawFrom 1 s).drop k) acc = R ∧ acc.length ≤ k)
      (fun c D => c = .exit 0 ∧ ∃ no col er D', er ≠ 0 ∧ D = Ch.cells bb3 25 [.int .i64 er] :: Ch.cells bb2 3 [.int .i64 col] :: Ch.cells bb1 3 [.int .i64 no] :: D' ∧ R = ⟨[], no, col, er⟩)
      ?_ ⟨none, 0, [], rfl, hR.symm, Nat.le_refl _⟩ ?_ ?_ ?_ (hf := Tryd.func69)
    · rintro k j D' W ⟨A, c, acc, rfl, -⟩ h
      exact hg.keep h.keep
    · rintro k ⟨n, line⟩ l kb busy D' W hx ⟨A, c, acc, rfl, hacc, hal⟩ hW
      obtain ⟨hll, hn⟩ := raw_line_le s k _ hx
      simp only at hll hn
      have hkl : k < (rawFrom 1 s).length := (List.getElem?_eq_some_iff.1 hx).1
      rw [List.drop_eq_getElem_cons hkl, (List.getElem?_eq_some_iff.1 hx).2, linesR] at hacc
      refine Wp.seq (Wp.reads (is := [0]) (Keep.refl _) (Rn.s rfl Yv.as (Rn.nil)) (Wp.reads (is := [0]) (Keep.refl _) (Rn.s rfl Yv.as (Rn.nil)) ⟨rfl, Keep.refl _, ?_⟩))
      intro W2 hW2
      have hgW := hg.keep hW2.keep
      refine Wp.block (Wp.seq (Wp.seq (Wp.reads (is := [0, 1]) (Keep.refl _) (Rn.s rfl Yv.mv (Rn.s rfl (Yv.cmp _ rfl) (Rn.nil))) ?_)))
      refine Wp.cond rfl (fun h1 => ?_) (fun h1 => ?_)
      · have h1 := of_decide_eq_true h1
        rw [if_pos h1] at hacc
        refine Wp.seq (Wp.regionL (l := [0, 1, 2]) (WO.rd (is := [0]) (js := [1, 2]) (Keep.refl _) (Rn.s rfl Yv.mv (Rn.nil)) (WO.act (hc := rfl) (he := Ef.store hW2 6 (fun wx1 hsx1 => WO.act (hc := rfl) (he := Ef.store hsx1 5 (fun wx2 hsx2 => WO.done ?_)))))))
        refine Wp.exit ⟨_, ⟨rfl, (n : Int), 0, 12, [Ch.cells bs 9 [S (restK s k)]], by decide, rfl, hacc.symm⟩, hsx2.pick [2, 3, 0, 6, 1, 4]⟩
      have h1 := of_decide_eq_false h1
      rw [if_neg h1] at hacc
      refine Wp.skip (Wp.seq (Wp.seq (Wp.regionL (l := [0, 1, 2]) (WO.rd (is := [0]) (js := [1, 2]) (Keep.refl _) (Rn.s rfl Yv.mv (Rn.nil)) (WO.cv rfl (bad_cv line (by omega) _) (Keep.refl _) (FnOk.of Tryd.func51) (fun wx1 kx1 => WO.rd (is := [2]) (js := []) ((Keep.refl _).trans kx1) (Rn.s rfl Yv.as (Rn.nil)) (WO.done ?_)))))))
      have hW3 := hW2.quiet kx1
      refine Wp.seq (Wp.reads (is := [0, 1]) (Keep.refl _) (Rn.s rfl Yv.mv (Rn.s rfl (Yv.cmp _ rfl) (Rn.nil))) ?_)
      have hbd := badI_bd line 0 (by omega)
      refine Wp.cond rfl (fun h2 => ?_) (fun h2 => ?_)
      · have h2 := of_decide_eq_true h2
        rw [if_pos h2] at hacc
        refine Wp.seq (Wp.regionL (l := [0, 1, 2, 3, 4, 5]) (WO.rd (is := [0, 1, 2]) (js := [3, 4, 5]) (Keep.refl _) (Rn.s rfl Yv.mv (Rn.s rfl Yv.mv (Rn.s rfl (Yv.add (by unfold inI; omega)) (Rn.nil)))) (WO.act (hc := rfl) (he := Ef.store hW3 6 (fun wy1 hsy1 => WO.act (hc := rfl) (he := Ef.store hsy1 6 (fun wy2 hsy2 => WO.act (hc := rfl) (he := Ef.store hsy2 6 (fun wy3 hsy3 => WO.done ?_)))))))))
        refine Wp.exit ⟨_, ⟨rfl, (n : Int), badI line 0 + 1, 11, [Ch.cells bs 9 [S (restK s k)]], by decide, rfl, hacc.symm⟩, hsy3.pick [3, 4, 0, 1, 2, 5]⟩
      have h2 := of_decide_eq_false h2
      rw [if_neg h2] at hacc
      refine Wp.skip (Wp.seq (Wp.regionL (l := [0, 1, 2]) (WO.rd (is := [0]) (js := [1, 2]) (Keep.refl _) (Rn.s rfl Yv.mv (Rn.nil)) (WO.cv rfl (trim_cv line 32 (by decide) (by omega) _) (Keep.refl _) (FnOk.of Tryd.func52) (fun wy1 ky1 => WO.rd (is := [2]) (js := []) ((Keep.refl _).trans ky1) (Rn.s rfl Yv.as (Rn.nil)) (WO.done ?_))))))
      have hW4 := hW3.quiet ky1
      have htl := trimB_le line 32
      have e1 : (Lib.trimB line 32 == []) = decide (Lib.trimB line 32 = []) := by
        cases Lib.trimB line 32 <;> simp
      refine Wp.seq (Wp.seq (Wp.reads (is := [0, 1, 2, 3, 4, 5, 6]) (Keep.refl _) (Rn.s rfl Yv.mv (Rn.s rfl (Yv.scm _ rfl) (Rn.s rfl Yv.mv (Rn.or (is := [3, 4, 5, 6]) (js := []) (t := 35) (d := 39) (hg := rfl) (hf := fun h2 => Rn.s rfl Yv.mv (Rn.s rfl (Yv.ix (by omega) (by have := List.length_pos_iff.2 (ne_of_beq_false h2); omega)) (Rn.s rfl (Yv.cmp _ rfl) (Rn.s rfl Yv.pick_f ((Rn.e 4 rfl rfl)))))) (ht := fun _ => Rn.no rfl (Rn.no rfl (Rn.no rfl (Rn.s rfl Yv.pick_t (Rn.e 4 rfl rfl))))) (k := Rn.nil))))) ?_))
      refine Wp.cond rfl (fun h3 => ?_) (fun h3 => ?_)
      · have h3 : Lib.trimB line 32 = [] ∨ byt (Lib.trimB line 32) 0 = 35 := by simpa using h3
        have e2 : lineOf n line = none := by simp only [lineOf]; rw [if_pos h3]
        rw [e2] at hacc
        exact Wp.exit ⟨_, ⟨_, rfl, A, c, acc, rfl, hacc, by omega⟩, hW4⟩
      · have h3 : ¬ (Lib.trimB line 32 = [] ∨ byt (Lib.trimB line 32) 0 = 35) := by simpa using h3
        have hne : Lib.trimB line 32 ≠ [] := fun e => h3 (.inl e)
        have hlp := List.length_pos_iff.2 hne
        have e2 : lineOf n line = some ⟨n, Lib.indexByte line (nth (Lib.trimB line 32) 0), Lib.trimB line 32⟩ := by simp only [lineOf]; rw [if_neg h3]
        rw [e2] at hacc
        have e3 : S ((Lib.trimB line 32).take (1 : Int).toNat) = S [nth (Lib.trimB line 32) 0] := by
          obtain ⟨x, r, hxr⟩ := List.exists_cons_of_ne_nil hne
          rw [hxr]
          rfl
        have hc6 := hW4.cells 7
        refine Wp.skip (Wp.draws [9, 10] mixed (WD.rd (is := [0, 1, 2, 3, 4, 6]) (fun _ _ _ _ _ h => h) (Keep.drew _) (Rn.s rfl (Yv.ld (hc6.at_ 0)) (Rn.s rfl Yv.mv (Rn.s rfl Yv.mv (Rn.s rfl Yv.mv (Rn.s rfl (e3 ▸ Yv.ss_t (by omega) (by omega)) (Rn.s rfl Yv.mv (Rn.nil))))))) (WD.cv 5 rfl (index1_cv line (nth (Lib.trimB line 32) 0) _) (Keep.drew _) (FnOk.of Tryd.func53) (fun wz1 kz1 => WD.rd (is := [7]) (fun _ _ _ _ _ h => h) ((Keep.drew _).trans kz1) (Rn.s rfl (Yv.bd (cs := Ln.cs ⟨n, Lib.indexByte line (nth (Lib.trimB line 32) 0), Lib.trimB line 32⟩)) (Rn.nil)) (WD.app LnE [⟨n, Lib.indexByte line (nth (Lib.trimB line 32) 0), Lib.trimB line 32⟩] 8 9 rfl (fun _ => rfl) (hW4.quiet ((Keep.drew _).trans kz1)) 3 (.inl (by simp only [List.length_cons, List.length_nil]; omega)) (fun bz2 Az2 cz2 wz2 hsz2 => WD.act 10 (hc := rfl) (he := Ef.store hsz2 7 (fun wz3 hsz3 => ⟨fun hn => (hn (by decide)).elim, WD.done ?_⟩))))))))
        exact ⟨_, ⟨_, rfl, _, _, _, rfl, hacc, by simp only [List.length_append, List.length_cons, List.length_nil]; omega⟩, hsz3.pick [2, 3, 4, 1, 5, 6, 7, 0]⟩
    · rintro kb D' W ⟨A, c, acc, rfl, hacc, hal⟩ hW
      rw [List.drop_eq_nil_of_le (Nat.le_refl _), linesR] at hacc
      rw [← hacc]
      exact ⟨kb, A, c, 0, 0, 0, rfl, hW.pick [0, 3, 4, 5, 6, 2], ⟨rfl, rfl, rfl⟩, rfl, rfl, rfl, rfl, trivial⟩
    · rintro kb c D' W ⟨rfl, no, col, er, D2, her, rfl, hRe⟩ hW
      refine Wp.exit ⟨kb, none, 0, no, col, er, rfl, ?_, by rw [if_neg her]; exact hRe, rfl, rfl, rfl, rfl, trivial⟩
      rw [if_neg her]
      exact hW.pick [0, 1, 2, 3]
  · rintro ρ ds w' ⟨kb, A, c, no, col, er, rfl, hst, hRe, hs⟩
    refine Wp.forget _ ?_ hs
    have c9 := hst.cells 1
    have c8 := hst.cells 2
    have c7 := hst.cells 3
    refine Wp.seq (Wp.seq (Wp.reads (is := [0, 1]) (Keep.refl _) (Rn.s rfl (Yv.ld (c9.at_ 0)) (Rn.s rfl (Yv.cmp _ rfl) (Rn.nil))) ?_))
    by_cases her : er = 0
    · subst her
      simp only [if_true] at hst hRe
      refine Wp.cond_f rfl (Wp.skip ?_)
      have c6 := hst.cells 4
      refine Wp.seq (Wp.reads (is := [0, 1, 2, 3, 4]) (Keep.refl _) (Rn.s rfl (Yv.ld (c6.at_ 0)) (Rn.s rfl Yv.as (Rn.s rfl Yv.as (Rn.s rfl Yv.as (Rn.s rfl Yv.as (Rn.nil)))))) ?_)
      refine Wp.ret (Fin.retM (Lv.one hst 0 fun w2 hst2 => ⟨_, Res.four rfl rfl rfl rfl rfl, A, c, ?_, hst2.pick [4]⟩))
      rw [hRe.1, hRe.2.1, hRe.2.2]
    · simp only [if_neg her] at hst hRe
      refine Wp.cond_t ?_ ?_
      · have : (er != 0) = true := by simpa using her
        exact congrArg (fun b => some (Value.bool b)) this
      refine Wp.seq (Wp.readsD (is := [0, 1, 2, 3, 4, 5, 6]) mixed (fun _ _ _ _ _ h => h) (Keep.refl _) (Rn.s rfl (Yv.ld (c7.at_ 0)) (Rn.s rfl (Yv.ld (c8.at_ 0)) (Rn.s rfl (Yv.ld (c9.at_ 0)) (Rn.s rfl Yv.as (Rn.s rfl Yv.as (Rn.s rfl Yv.as (Rn.s rfl Yv.as (Rn.nil)))))))) ?_)
      refine Wp.ret (Fin.retM (Lv.one (hst.quiet (Keep.drew _)) 0 fun w2 hst2 => ⟨_, Res.four rfl rfl rfl rfl rfl, none, 0, ?_, ?_⟩))
      · rw [hRe]; rfl
      · rw [hRe]; exact (hst2.pick []).nilrow _ _
end Go.Proofs.YtgjhbapbomdpbaaDoor.C
/- What a line says: scalar's reader, the small methods. -/
set_option linter.unusedVariables false
set_option linter.unusedSimpArgs false
set_option maxRecDepth 10000
namespace Go.Proofs.YtgjhbapbomdpbaaDoor.C
open Go.RowKit Go.Proofs.YtgjhbapbomdpbaaDoor.Sh
/-- what a line says -/
structure Ct where
  kind : Int
  key : Bs
  has : Bool
  value : Bs
  empty : Int
  col : Int
  val : Int
deriving Inhabited, DecidableEq
abbrev Ct.cs (o : Ct) : List Value := [.int .i64 o.kind, S o.key, .bool o.has, S o.value, .int .i64 o.empty, .int .i64 o.col, .int .i64 o.val]
abbrev ct0 : Ct := ⟨0, [], false, [], 0, 0, 0⟩
abbrev rrcs (s : Bs) (a : Int) (o : Ct) : List Value := [S s, .int .i64 a, .int .i64 o.kind, S o.key, .bool o.has, S o.value, .int .i64 o.empty, .int .i64 o.col, .int .i64 o.val]
abbrev ChR (b : Nat) (s : Bs) (a : Int) (o : Ct) : Chunk := Ch.cells b 117 (rrcs s a o)
abbrev PB (b : Nat) : Value := .pointer (some ⟨b, 0, none⟩)
abbrev stopV (why col : Int) : Value := .iface 119 (.agg [.int .i64 why, .int .i64 col].toArray)
/-- what reading comes to -/
inductive Oc where
  | ok (a : Int) (o : Ct)
  | err (why col : Int)
deriving DecidableEq, Inhabited
theorem ownR {b : Nat} {s : Bs} {a : Int} {o : Ct} {w : World} (h : (ChR b s a o).ok w) : St w [b] w [ChR b s a o] :=
  St.own h (by intro x hx; simp [Ch.cells] at hx; subst hx; exact ⟨by simp, (Array.getElem?_eq_some_iff.1 h).1⟩)
theorem cellsR {b : Nat} {s : Bs} {a : Int} {o : Ct} {w : World} (h : (ChR b s a o).ok w) : Cells w b (rrcs s a o) := fun j v hj => cells_cell (T := 117) h j v hj
theorem end_cv (b : Nat) (s : Bs) (a : Int) (o : Ct) (i : Int) (w0 : World) (hc : Cells w0 b (rrcs s a o)) : Cv Tryd.prog 84 [PB b, .int .i64 i] (.bool (decide ((s.length : Int) ≤ i))) w0 := by
  intro w hk
  have hc := hc.keep hk
  refine calls_of_Wp (vs := [_, _]) Tryd.func84 ?_
  refine Wp.seq (Wp.reads (is := [0]) (Keep.refl _) (Rn.s rfl Yv.as (Rn.nil)) ?_)
  refine Wp.seq (Wp.reads (is := [0, 1, 2, 3, 4, 5, 6, 7]) (Keep.refl _) (Rn.s rfl Yv.mv (Rn.s rfl Yv.mv (Rn.s rfl Yv.nc (Rn.s rfl (Yv.fa (off := 0)) (Rn.s rfl (Yv.ld (hc.at_ 0)) (Rn.s rfl Yv.len_s (Rn.s rfl (Yv.cmp _ rfl) (Rn.s rfl Yv.as (Rn.nil))))))))) ?_)
  exact Wp.ret (Fin.ret (Res.one rfl rfl) ⟨rfl, Keep.refl _⟩)
theorem blank_cv (b : Nat) (s : Bs) (a : Int) (o : Ct) (i : Int) (h0 : 0 ≤ i) (w0 : World) (hc : Cells w0 b (rrcs s a o)) : Cv Tryd.prog 85 [PB b, .int .i64 i] (.bool (decide (i < (s.length : Int)) && byt s i == 32)) w0 := by
  intro w hk
  have hc := hc.keep hk
  refine calls_of_Wp (vs := [_, _]) Tryd.func85 ?_
  refine Wp.seq (Wp.reads (is := [0]) (Keep.refl _) (Rn.s rfl Yv.as (Rn.nil)) ?_)
  refine Wp.seq (Wp.reads (is := [0, 1, 2, 3, 4, 5, 6, 7, 8, 9, 10, 11, 12, 13, 14, 15, 16]) (Keep.refl _) (Rn.s rfl Yv.mv (Rn.s rfl Yv.mv (Rn.s rfl Yv.nc (Rn.s rfl (Yv.fa (off := 0)) (Rn.s rfl (Yv.ld (hc.at_ 0)) (Rn.s rfl Yv.len_s (Rn.s rfl (Yv.cmp _ rfl) (Rn.s rfl Yv.mv (Rn.and (is := [8, 9, 10, 11, 12, 13, 14, 15]) (js := [16]) (t := 12) (d := 20) (hg := rfl) (ht := fun h7 => have h7 := of_decide_eq_true h7; Rn.s rfl Yv.mv (Rn.s rfl Yv.nc (Rn.s rfl (Yv.fa (off := 0)) (Rn.s rfl (Yv.ld (hc.at_ 0)) (Rn.s rfl Yv.mv (Rn.s rfl (Yv.ix (by omega) (by omega)) (Rn.s rfl (Yv.cmp _ rfl) (Rn.s rfl Yv.pick_t ((Rn.e 8 rfl rfl)))))))))) (hf := fun _ => Rn.no rfl (Rn.no rfl (Rn.no rfl (Rn.no rfl (Rn.no rfl (Rn.no rfl (Rn.no rfl (Rn.s rfl Yv.pick_f (Rn.e 8 rfl rfl))))))))) (k := Rn.s rfl Yv.as (Rn.nil))))))))))) ?_)
  exact Wp.ret (Fin.ret (Res.one rfl rfl) ⟨rfl, Keep.refl _⟩)
theorem fail_calls (b : Nat) (why i : Int) (h : inI (i + 1)) (w : World) : Calls Tryd.prog 81 #[PB b, .int .i64 why, .int .i64 i] w fun e w' => e = .panicked [{ v := stopV why (i + 1), recovered := false }] ∧ w' = w := by
  refine calls_of_Wp (vs := [_, _, _]) Tryd.func81 ?_
  refine Wp.regionL (l := [0, 1, 2, 3, 4, 5]) ?_
  refine WO.rd (is := [0, 1, 2, 3, 4]) (js := [5]) (Keep.refl _) (Rn.s rfl Yv.mv (Rn.s rfl Yv.mv (Rn.s rfl (Yv.add h) (Rn.s rfl (Yv.bd (cs := [.int .i64 why, .int .i64 (i + 1)])) (Rn.s rfl Yv.mki (Rn.nil)))))) ?_
  exact WO.act (hc := rfl) (he := Ef.pan ⟨⟨rfl, rfl⟩⟩)
def gapN (s : Bs) (a : Nat) : Nat := a + ((s.drop a).takeWhile (· == 32)).length
theorem gapN_le (s : Bs) (a : Nat) (h : a ≤ s.length) : a ≤ gapN s a ∧ gapN s a ≤ s.length := by
  have := (List.takeWhile_prefix (· == (32 : UInt8)) (l := s.drop a)).length_le
  simp only [List.length_drop] at this
  unfold gapN
  omega
theorem gap_cu (b : Nat) (s : Bs) (a : Nat) (o : Ct) (hl : s.length ≤ 1000000) (ha : a ≤ s.length) (w : World) (hok : (ChR b s a o).ok w) : Cu Tryd.prog 56 [PB b] (.tuple #[]) [ChR b s a o] [ChR b s (gapN s a) o] w := by
  refine calls_of_Wp (vs := [_]) Tryd.func56 ?_
  refine Wp.block ?_
  refine Wp.loop (α := Nat) (fun k ρ ds w' => ds = [] ∧ k ≤ s.length ∧ gapN s k = gapN s a ∧ St w [b] w' [ChR b s k o] ∧ Sub [(0, PB b)] ρ) (fun k => s.length - k) a ⟨rfl, ha, rfl, ownR hok, rfl, trivial⟩ ?_
  rintro k ρ ds w' ⟨rfl, hk, hg, hst, hs⟩
  refine Wp.forget _ ?_ hs
  have hc := hst.cells 0
  refine Wp.seq (Wp.seq (Wp.regionL (l := [0, 1, 2, 3, 4, 5]) (WO.rd (is := [0, 1, 2, 3, 4]) (js := [5]) (Keep.refl _) (Rn.s rfl Yv.mv (Rn.s rfl Yv.mv (Rn.s rfl Yv.nc (Rn.s rfl (Yv.fa (off := 1)) (Rn.s rfl (Yv.ld (hc.at_ 1)) (Rn.nil)))))) (WO.cv rfl (blank_cv b s k o k (by omega) _ hc) (Keep.refl _) (FnOk.of Tryd.func85) (fun wx1 kx1 => WO.done ?_)))))
  have hst := hst.quiet kx1
  have hc := hst.cells 0
  refine Wp.cond rfl (fun h => ?_) (fun h => ?_)
  · simp only [Bool.and_eq_true, decide_eq_true_eq, beq_iff_eq] at h
    obtain ⟨h1, h2⟩ := h
    have hkl : k < s.length := by omega
    have hget : s[k]? = some s[k] := List.getElem?_eq_getElem hkl
    have hby := byt_of hget
    refine Wp.skip (Wp.block (Wp.regionL (l := [0, 1, 2, 3, 4, 5, 6, 7]) (WO.rd (is := [0, 1, 2, 3, 4, 5, 6]) (js := [7]) (Keep.refl _) (Rn.s rfl Yv.mv (Rn.s rfl Yv.nc (Rn.s rfl (Yv.fa (off := 1)) (Rn.s rfl (Yv.ld (hc.at_ 1)) (Rn.s rfl (Yv.add (by unfold inI; omega)) (Rn.s rfl Yv.nc (Rn.s rfl (Yv.fa (off := 1)) (Rn.nil)))))))) (WO.act (hc := rfl) (he := Ef.store hst 0 (fun wy1 hsy1 => WO.done ?_))))))
    refine ⟨k + 1, ⟨rfl, hkl, ?_, hsy1, rfl, trivial⟩, by omega⟩
    rw [← hg]
    unfold gapN
    rw [List.drop_eq_getElem_cons hkl, List.takeWhile_cons_of_pos]
    · simp only [List.length_cons]; omega
    · rw [hby] at h2
      rw [beq_iff_eq]
      apply UInt8.toNat_inj.1
      show s[k].toNat = 32
      omega
  · refine Wp.exit (Fin.normal (Res.none rfl) ⟨rfl, ?_⟩)
    have e : gapN s k = k := by
      unfold gapN
      rcases Nat.lt_or_ge k s.length with hkl | hkl
      · have hget : s[k]? = some s[k] := List.getElem?_eq_getElem hkl
        have hby := byt_of hget
        have h1 : decide ((k : Int) < (s.length : Int)) = true := by simpa using hkl
        rw [h1, Bool.true_and, hby] at h
        rw [List.drop_eq_getElem_cons hkl, List.takeWhile_cons_of_neg]
        · rfl
        · intro h2
          have h2 := eq_of_beq h2
          rw [h2] at h
          exact absurd h (by decide)
      · rw [List.drop_eq_nil_of_le hkl]; rfl
    rw [← hg, e]
    exact hst
/-- a method that may give up -/
def MPost (b : Nat) (s : Bs) (v : Value) (oc : Oc) (w : World) (e : Ending) (w' : World) : Prop :=
  match oc with
  | .ok a o => e = .returned v ∧ St w [b] w' [ChR b s a o]
  | .err why col => e = .panicked [{ v := stopV why col, recovered := false }] ∧ St w [b] w' []
theorem quoted_calls (b : Nat) (s : Bs) (a : Nat) (o : Ct) (hl : s.length ≤ 1000000) (ha : a ≤ s.length) (w : World) (hok : (ChR b s a o).ok w) :
    Calls Tryd.prog 80 #[PB b] w (MPost b s (S (quoteR (s.drop a)).1) (if (quoteR (s.drop a)).2.2 then .ok ((a : Int) + (quoteR (s.drop a)).2.1) o else .err 21 ((a : Int) + (quoteR (s.drop a)).2.1 + 1)) w) := by
  have hq := quoteR_bd (s.drop a)
  simp only [List.length_drop] at hq
  refine calls_of_Wp (vs := [_]) Tryd.func80 ?_
  refine Wp.seq (Wp.reads (is := [0]) (Keep.refl _) (Rn.s rfl Yv.as (Rn.nil)) ?_)
  have hc := cellsR hok
  refine Wp.seq (Wp.draws [] mixed (WD.rd (is := [0, 1, 2, 3, 4, 5, 6, 7, 8]) (fun _ _ _ _ _ h => h) (Keep.drew _) (Rn.s rfl Yv.mv (Rn.s rfl Yv.nc (Rn.s rfl (Yv.fa (off := 0)) (Rn.s rfl (Yv.ld (hc.at_ 0)) (Rn.s rfl Yv.mv (Rn.s rfl Yv.nc (Rn.s rfl (Yv.fa (off := 1)) (Rn.s rfl (Yv.ld (hc.at_ 1)) (Rn.s rfl (Yv.ss_f (by omega) (by omega)) (Rn.nil)))))))))) (WD.cv 9 rfl (read_cv (s.drop (a : Int).toNat) (by simp only [List.length_drop]; omega) _) (Keep.drew _) (FnOk.of Tryd.func104) (fun wx1 kx1 => WD.rd (is := [10, 11, 12, 13, 14, 15, 16]) (fun _ _ _ _ _ h => h) ((Keep.drew _).trans kx1) (Rn.s rfl Yv.mv (Rn.s rfl Yv.ex (Rn.s rfl Yv.ex (Rn.s rfl Yv.ex (Rn.s rfl Yv.as (Rn.s rfl Yv.as (Rn.s rfl Yv.as (Rn.nil)))))))) (WD.done ?_)))))
  rw [Int.toNat_natCast]
  have hst := (ownR hok).quiet ((Keep.drew _).trans kx1)
  have hc := hst.cells 0
  refine Wp.seq (Wp.seq (Wp.reads (is := [0, 1]) (Keep.refl _) (Rn.s rfl Yv.mv (Rn.s rfl Yv.not (Rn.nil))) ?_))
  cases hb : (quoteR (s.drop a)).2.2 with
  | false =>
    refine Wp.cond_t rfl ?_
    refine Wp.regionL (l := [0, 1, 2, 3, 4, 5, 6, 7]) ?_
    refine WO.rd (is := [0, 1, 2, 3, 4, 5, 6]) (js := [7]) (Keep.refl _) (Rn.s rfl Yv.mv (Rn.s rfl Yv.mv (Rn.s rfl Yv.nc (Rn.s rfl (Yv.fa (off := 1)) (Rn.s rfl (Yv.ld (hc.at_ 1)) (Rn.s rfl Yv.mv (Rn.s rfl (Yv.add (by unfold inI; omega)) (Rn.nil)))))))) ?_
    refine WO.act (hc := rfl) (he := Ef.callv Tryd.func81 (Calls.mono (fail_calls b 21 _ (by unfold inI; omega) _) ?_))
    rintro e w2 ⟨rfl, rfl⟩
    exact ⟨⟨rfl, hst.pick []⟩⟩
  | true =>
    refine Wp.cond_f rfl (Wp.skip ?_)
    refine Wp.seq (Wp.regionL (l := [0, 1, 2, 3, 4, 5, 6, 7, 8]) (WO.rd (is := [0, 1, 2, 3, 4, 5, 6, 7]) (js := [8]) (Keep.refl _) (Rn.s rfl Yv.mv (Rn.s rfl Yv.nc (Rn.s rfl (Yv.fa (off := 1)) (Rn.s rfl (Yv.ld (hc.at_ 1)) (Rn.s rfl Yv.mv (Rn.s rfl (Yv.add (by unfold inI; omega)) (Rn.s rfl Yv.nc (Rn.s rfl (Yv.fa (off := 1)) (Rn.nil))))))))) (WO.act (hc := rfl) (he := Ef.store hst 0 (fun wy1 hsy1 => WO.done ?_)))))
    refine Wp.seq (Wp.reads (is := [0, 1]) (Keep.refl _) (Rn.s rfl Yv.mv (Rn.s rfl Yv.as (Rn.nil))) ?_)
    exact Wp.ret (Fin.ret (Res.one rfl rfl) ⟨rfl, hsy1⟩)
def bareS (s : Bs) (a : Nat) (o : Ct) : Ct :=
  let t := Lib.trimRightB (Lib.cut (s.drop a) [32, 35]).1 32
  if t = [91, 93] then { o with empty := 1 } else if t = [123, 125] then { o with empty := 2 } else { o with value := t }
theorem bare_cu (b : Nat) (s : Bs) (a : Nat) (o : Ct) (hl : s.length ≤ 1000000) (ha : a ≤ s.length) (w : World) (hg : Gm w) (hok : (ChR b s a o).ok w) : Cu Tryd.prog 86 [PB b] (.tuple #[]) [ChR b s a o] [ChR b s a (bareS s a o)] w := by
  refine calls_of_Wp (vs := [_]) Tryd.func86 ?_
  have hc := cellsR hok
  have hcl := cut_fst_le (s.drop a) [32, 35]
  have hld : (s.drop a).length = s.length - a := List.length_drop
  refine Wp.seq (Wp.draws [] mixed (WD.rd (is := [0, 1, 2, 3, 4, 5, 6, 7, 8]) (fun _ _ _ _ _ h => h) (Keep.drew _) (Rn.s rfl Yv.mv (Rn.s rfl Yv.nc (Rn.s rfl (Yv.fa (off := 0)) (Rn.s rfl (Yv.ld (hc.at_ 0)) (Rn.s rfl Yv.mv (Rn.s rfl Yv.nc (Rn.s rfl (Yv.fa (off := 1)) (Rn.s rfl (Yv.ld (hc.at_ 1)) (Rn.s rfl (Yv.ss_f (by omega) (by omega)) (Rn.nil)))))))))) (WD.cv 9 rfl (cut_cv (s.drop (a : Int).toNat) [32, 35] (by rw [Int.toNat_natCast]; omega) _ hg) (Keep.drew _) (FnOk.of Tryd.func70) (fun wx1 kx1 => WD.rd (is := [10, 11, 12, 13, 14, 15, 16]) (fun _ _ _ _ _ h => h) ((Keep.drew _).trans kx1) (Rn.s rfl Yv.mv (Rn.s rfl Yv.ex (Rn.s rfl Yv.ex (Rn.s rfl Yv.ex (Rn.s rfl Yv.as (Rn.s rfl Yv.as (Rn.s rfl Yv.as (Rn.nil)))))))) (WD.done ?_)))))
  rw [Int.toNat_natCast]
  refine Wp.seq (Wp.regionL (l := [0, 1, 2]) (WO.rd (is := [0]) (js := [1, 2]) (Keep.refl _) (Rn.s rfl Yv.mv (Rn.nil)) (WO.cv rfl (trimR_cv (Lib.cut (s.drop a) [32, 35]).1 32 (by decide) (by omega) _) (Keep.refl _) (FnOk.of Tryd.func107) (fun wy1 ky1 => WO.rd (is := [2]) (js := []) ((Keep.refl _).trans ky1) (Rn.s rfl Yv.as (Rn.nil)) (WO.done ?_)))))
  have hst := (ownR hok).quiet (((Keep.drew _).trans kx1).trans ky1)
  refine Wp.seq (Wp.reads (is := [0]) (Keep.refl _) (Rn.s rfl Yv.mv (Rn.nil)) ?_)
  refine Wp.block (Wp.seq (Wp.reads (is := [0, 1]) (Keep.refl _) (Rn.s rfl (Yv.scm _ rfl) (Rn.s rfl Yv.as (Rn.nil))) ?_))
  unfold bareS
  obtain ⟨T, hT⟩ : ∃ T, T = Lib.trimRightB (Lib.cut (s.drop a) [32, 35]).1 32 := ⟨_, rfl⟩
  simp only [← hT]
  refine Wp.cond rfl (fun h => ?_) (fun h => ?_)
  · have h : T = [91, 93] := by simpa using h
    refine Wp.regionL (l := [0, 1, 2, 3, 4]) (WO.rd (is := [0, 1, 2, 3]) (js := [4]) (Keep.refl _) (Rn.s rfl Yv.mv (Rn.s rfl Yv.nc (Rn.s rfl (Yv.fa (off := 2)) (Rn.s rfl (Yv.fa (off := 4)) (Rn.nil))))) (WO.act (hc := rfl) (he := Ef.store hst 0 (fun wz1 hsz1 => WO.done ?_))))
    rw [if_pos h]
    exact Fin.normal (Res.none rfl) ⟨rfl, hsz1⟩
  have h : T ≠ [91, 93] := by simpa using h
  rw [if_neg h]
  refine Wp.seq (Wp.reads (is := [0, 1]) (Keep.refl _) (Rn.s rfl (Yv.scm _ rfl) (Rn.s rfl Yv.as (Rn.nil))) ?_)
  refine Wp.cond rfl (fun h2 => ?_) (fun h2 => ?_)
  · have h2 : T = [123, 125] := by simpa using h2
    refine Wp.regionL (l := [0, 1, 2, 3, 4]) (WO.rd (is := [0, 1, 2, 3]) (js := [4]) (Keep.refl _) (Rn.s rfl Yv.mv (Rn.s rfl Yv.nc (Rn.s rfl (Yv.fa (off := 2)) (Rn.s rfl (Yv.fa (off := 4)) (Rn.nil))))) (WO.act (hc := rfl) (he := Ef.store hst 0 (fun wz1 hsz1 => WO.done ?_))))
    rw [if_pos h2]
    exact Fin.normal (Res.none rfl) ⟨rfl, hsz1⟩
  have h2 : T ≠ [123, 125] := by simpa using h2
  rw [if_neg h2]
  refine Wp.regionL (l := [0, 1, 2, 3, 4, 5]) (WO.rd (is := [0, 1, 2, 3, 4]) (js := [5]) (Keep.refl _) (Rn.s rfl Yv.mv (Rn.s rfl Yv.mv (Rn.s rfl Yv.nc (Rn.s rfl (Yv.fa (off := 2)) (Rn.s rfl (Yv.fa (off := 3)) (Rn.nil)))))) (WO.act (hc := rfl) (he := Ef.store hst 0 (fun wz1 hsz1 => WO.done ?_))))
  exact Fin.normal (Res.none rfl) ⟨rfl, hsz1⟩
end Go.Proofs.YtgjhbapbomdpbaaDoor.C
/- What a line says: scalar's reader, its head and its value. -/
set_option linter.unusedVariables false
set_option linter.unusedSimpArgs false
set_option maxRecDepth 10000
namespace Go.Proofs.YtgjhbapbomdpbaaDoor.C
open Go.RowKit Go.Proofs.YtgjhbapbomdpbaaDoor.Sh
def namedN (s : Bs) (a : Nat) : Nat := a + ((s.drop a).takeWhile (fun b => namedB b.toNat)).length
theorem namedN_le (s : Bs) (a : Nat) (h : a ≤ s.length) : a ≤ namedN s a ∧ namedN s a ≤ s.length := by
  have := (List.takeWhile_prefix (fun b : UInt8 => namedB b.toNat) (l := s.drop a)).length_le
  simp only [List.length_drop] at this
  unfold namedN
  omega
abbrev o1 (key : Bs) : Ct := ⟨1, key, false, [], 0, 1, 0⟩
def tailS (s : Bs) (n : Nat) (key : Bs) : Oc :=
  if s.length ≤ n ∨ byt s n ≠ 58 then .err 20 (n + 1) else if n + 1 < s.length ∧ byt s ((n : Int) + 1) ≠ 32 then .err 20 ((n : Int) + 1 + 1) else .ok ((n : Int) + 1) (o1 key)
def headS (s : Bs) : Oc :=
  if s = [45] ∨ Lib.hasPrefix s [45, 32] then .ok 1 ⟨2, [], false, [], 0, 1, 0⟩
  else if Lib.hasPrefix s [34] then
    if (quoteR s).2.2 then if (64 : Int) < (quoteR s).1.length then .err 20 1 else tailS s (quoteR s).2.1.toNat (quoteR s).1
    else .err 21 ((quoteR s).2.1 + 1)
  else if nameB (s.take (namedN s 0)) then tailS s (namedN s 0) (s.take (namedN s 0)) else .err 20 1
theorem head_calls (b : Nat) (s : Bs) (o : Ct) (hl : s.length ≤ 1000000) (w : World) (hok : (ChR b s 0 o).ok w) :
    Calls Tryd.prog 55 #[PB b] w (MPost b s (.tuple #[]) (headS s) w) := by
  refine calls_of_Wp (vs := [_]) Tryd.func55 ?_
  refine Wp.seq (Wp.regionL (l := [0, 1, 2, 3, 4]) (WO.rd (is := [0, 1, 2, 3]) (js := [4]) (Keep.refl _) (Rn.s rfl Yv.mv (Rn.s rfl (Yv.bd (cs := Ct.cs (o1 []))) (Rn.s rfl Yv.nc (Rn.s rfl (Yv.fa (off := 2)) (Rn.nil))))) (WO.act (hc := rfl) (he := Ef.stores (ownR hok) 0 (fun wx1 hsx1 => WO.done ?_)))))
  have hst : St w [b] wx1 [ChR b s 0 (o1 [])] := hsx1
  have hc := hst.cells 0
  refine Wp.seq (Wp.seq (Wp.regionL (l := [0, 1, 2, 3, 4, 5, 6, 7, 8, 9, 10, 11]) (WO.rd (is := [0, 1, 2, 3, 4, 5]) (js := [6, 7, 8, 9, 10, 11]) (Keep.refl _) (Rn.s rfl Yv.mv (Rn.s rfl Yv.nc (Rn.s rfl (Yv.fa (off := 0)) (Rn.s rfl (Yv.ld (hc.at_ 0)) (Rn.s rfl (Yv.scm _ rfl) (Rn.s rfl Yv.mv (Rn.nil))))))) (WO.or (js := []) 11 17 (hg := rfl) (hf := fun h5 qy1 => WO.rd (is := [6, 7, 8, 9]) (js := [10, 11]) (Keep.refl _) (Rn.s rfl Yv.mv (Rn.s rfl Yv.nc (Rn.s rfl (Yv.fa (off := 0)) (Rn.s rfl (Yv.ld (hc.at_ 0)) (Rn.nil))))) (WO.cv rfl (hasPrefix_cv s [45, 32] _) (Keep.refl _) (FnOk.of Tryd.func79) (fun wy2 ky2 => WO.rd (is := [11]) (js := []) ((Keep.refl _).trans ky2) (Rn.s rfl Yv.pick_f (Rn.nil)) (WO.e 6 (qy1 _ ((Keep.refl _).trans ky2)))))) (ht := fun _ qy1 => WO.rd (is := [6, 7, 8, 9, 10, 11]) (js := []) (Keep.refl _) (Rn.no rfl (Rn.no rfl (Rn.no rfl (Rn.no rfl (Rn.no rfl (Rn.s rfl Yv.pick_t Rn.nil)))))) (WO.e 6 (qy1 _ (Keep.refl _)))) (k := fun wy1 ky1 => WO.done ?_)))))
  have hst := hst.quiet ky1
  have hc := hst.cells 0
  have e1 : (s == [45]) = decide (s = [45]) := by
    by_cases h : s = [45] <;> simp [h]
  refine Wp.cond rfl (fun h => ?_) (fun h => ?_)
  · have h : s = [45] ∨ Lib.hasPrefix s [45, 32] = true := by simpa using h
    refine Wp.seq (Wp.regionL (l := [0, 1, 2, 3, 4]) (WO.rd (is := [0, 1, 2, 3]) (js := [4]) (Keep.refl _) (Rn.s rfl Yv.mv (Rn.s rfl Yv.nc (Rn.s rfl (Yv.fa (off := 2)) (Rn.s rfl (Yv.fa (off := 0)) (Rn.nil))))) (WO.act (hc := rfl) (he := Ef.store hst 0 (fun wz1 hsz1 => WO.done ?_)))))
    refine Wp.seq (Wp.regionL (l := [0, 1, 2, 3]) (WO.rd (is := [0, 1, 2]) (js := [3]) (Keep.refl _) (Rn.s rfl Yv.mv (Rn.s rfl Yv.nc (Rn.s rfl (Yv.fa (off := 1)) (Rn.nil)))) (WO.act (hc := rfl) (he := Ef.store hsz1 0 (fun wu1 hsu1 => WO.done ?_)))))
    refine Wp.ret (Fin.ret (Res.none rfl) ?_)
    rw [headS, if_pos h]
    exact ⟨rfl, hsu1⟩
  have h : ¬ (s = [45] ∨ Lib.hasPrefix s [45, 32] = true) := by simpa using h
  refine Wp.skip (Wp.seq (Wp.seq (Wp.regionL (l := [0, 1, 2, 3, 4]) (WO.rd (is := [0, 1, 2, 3]) (js := [4]) (Keep.refl _) (Rn.s rfl Yv.mv (Rn.s rfl Yv.nc (Rn.s rfl (Yv.fa (off := 0)) (Rn.s rfl (Yv.ld (hc.at_ 0)) (Rn.nil))))) (WO.cv rfl (hasPrefix_cv s [34] _) (Keep.refl _) (FnOk.of Tryd.func79) (fun wz1 kz1 => WO.done ?_))))))
  have hst := hst.quiet kz1
  have hc := hst.cells 0
  refine Wp.mid (fun ρ ds w' => ds = [] ∧ ∃ (n : Nat) (key : Bs), n ≤ s.length ∧ headS s = tailS s n key ∧ St w [b] w' [ChR b s n (o1 key)] ∧ Sub [(0, PB b)] ρ) ?_ ?_
  · refine Wp.cond rfl (fun h2 => ?_) (fun h2 => ?_)
    · have hq := quoteR_bd s
      refine Wp.seq (Wp.regionL (l := [0, 1, 2, 3, 4, 5, 6]) (WO.rd (is := [0, 1]) (js := [2, 3, 4, 5, 6]) (Keep.refl _) (Rn.s rfl Yv.mv (Rn.s rfl Yv.mv (Rn.nil))) (WO.act (hc := rfl) (he := Ef.callv Tryd.func80 (Calls.mono (quoted_calls b s 0 (o1 []) hl (by omega) _ (hst.at_ 0)) ?_)))))
      rintro e w2 hp
      simp only [List.drop_zero] at hp
      cases hb : (quoteR s).2.2 with
      | false =>
        simp only [hb, Bool.false_eq_true, if_false, MPost] at hp
        obtain ⟨rfl, hs2⟩ := hp
        refine ⟨?_⟩
        have e : headS s = .err 21 (((0 : Nat) : Int) + (quoteR s).2.1 + 1) := by rw [headS, if_neg h, if_pos h2, hb]; simp
        show MPost b s _ (headS s) w _ _
        rw [e]
        exact ⟨rfl, hst.call (A := [ChR b s 0 (o1 [])]) hs2⟩
      | true =>
        simp only [hb, if_true, MPost] at hp
        obtain ⟨rfl, hs2⟩ := hp
        have e0 : ((0 : Nat) : Int) + (quoteR s).2.1 = (((quoteR s).2.1.toNat : Nat) : Int) := by omega
        rw [e0] at hs2
        have hst := hst.call (A := [ChR b s 0 (o1 [])]) (D := []) hs2
        refine WO.rd (is := [3, 4, 5]) (js := [6]) (Keep.refl _) (Rn.s rfl Yv.nc (Rn.s rfl (Yv.fa (off := 2)) (Rn.s rfl (Yv.fa (off := 1)) (Rn.nil)))) (WO.act (hc := rfl) (he := Ef.store hst 0 fun w3 hs3 => WO.done ?_))
        have hst : St w [b] w3 [ChR b s (quoteR s).2.1.toNat (o1 (quoteR s).1)] := hs3
        have hc := hst.cells 0
        refine Wp.seq (Wp.reads (is := [0, 1, 2, 3, 4, 5, 6]) (Keep.refl _) (Rn.s rfl Yv.mv (Rn.s rfl Yv.nc (Rn.s rfl (Yv.fa (off := 2)) (Rn.s rfl (Yv.fa (off := 1)) (Rn.s rfl (Yv.ld (hc.at_ 3)) (Rn.s rfl Yv.len_s (Rn.s rfl (Yv.cmp _ rfl) (Rn.nil)))))))) ?_)
        refine Wp.cond rfl (fun h3 => ?_) (fun h3 => ?_)
        · have h3 := of_decide_eq_true h3
          refine Wp.regionL (l := [0, 1]) (WO.rd (is := [0]) (js := [1]) (Keep.refl _) (Rn.s rfl Yv.mv (Rn.nil)) (WO.act (hc := rfl) (he := Ef.callv Tryd.func81 (Calls.mono (fail_calls b 20 0 (by unfold inI; omega) _) ?_))))
          rintro e w4 ⟨rfl, rfl⟩
          have e : headS s = .err 20 (0 + 1) := by rw [headS, if_neg h, if_pos h2, if_pos hb, if_pos h3]; rfl
          refine ⟨?_⟩
          show MPost b s _ (headS s) w _ _
          rw [e]
          exact ⟨rfl, hst.pick []⟩
        · have h3 := of_decide_eq_false h3
          refine Wp.skip ⟨rfl, _, _, by omega, ?_, hst, rfl, trivial⟩
          rw [headS, if_neg h, if_pos h2, if_pos hb, if_neg h3]
    · refine Wp.seq (Wp.block ?_)
      refine Wp.loop (α := Nat) (fun k ρ ds w' => ds = [] ∧ k ≤ s.length ∧ namedN s k = namedN s 0 ∧ St w [b] w' [ChR b s k (o1 [])] ∧ Sub [(0, PB b)] ρ) (fun k => s.length - k) 0 ⟨rfl, by omega, rfl, hst, rfl, trivial⟩ ?_
      rintro k ρ ds w' ⟨rfl, hk, hg, hst, hs⟩
      refine Wp.forget _ ?_ hs
      have hc := hst.cells 0
      refine Wp.seq (Wp.seq (Wp.draws [] mixed (WD.rd (is := [0, 1, 2, 3, 4, 5, 6, 7, 8, 9, 10]) (fun _ _ _ _ _ h => h) (Keep.drew _) (Rn.s rfl Yv.mv (Rn.s rfl Yv.nc (Rn.s rfl (Yv.fa (off := 1)) (Rn.s rfl (Yv.ld (hc.at_ 1)) (Rn.s rfl Yv.mv (Rn.s rfl Yv.nc (Rn.s rfl (Yv.fa (off := 0)) (Rn.s rfl (Yv.ld (hc.at_ 0)) (Rn.s rfl Yv.len_s (Rn.s rfl (Yv.cmp _ rfl) (Rn.s rfl Yv.mv (Rn.nil)))))))))))) (WD.and [11, 12, 13, 14, 15, 16, 17, 18, 19, 20, 21] 55 66 (hg := rfl) (ht := fun h10 qu1 => have h10 := of_decide_eq_true h10; WD.rd (is := [11, 12, 13, 14, 15, 16, 17, 18, 19]) (fun _ _ _ _ _ h => h) (Keep.drew _) (Rn.s rfl Yv.mv (Rn.s rfl Yv.nc (Rn.s rfl (Yv.fa (off := 0)) (Rn.s rfl (Yv.ld (hc.at_ 0)) (Rn.s rfl Yv.mv (Rn.s rfl Yv.nc (Rn.s rfl (Yv.fa (off := 1)) (Rn.s rfl (Yv.ld (hc.at_ 1)) (Rn.s rfl (Yv.ix (by omega) (by omega)) (Rn.nil)))))))))) (WD.cv 20 rfl (named_cv (byt s k) _) (Keep.drew _) (FnOk.of Tryd.func82) (fun wu2 ku2 => WD.rd (is := [21]) (fun _ _ _ _ _ h => h) ((Keep.drew _).trans ku2) (Rn.s rfl Yv.pick_t (Rn.nil)) (WD.e 11 (qu1 _ ((Keep.refl _).trans ku2)))))) (hf := fun _ qu1 => WD.rd (is := [11, 12, 13, 14, 15, 16, 17, 18, 19, 20, 21]) (fun _ _ _ _ _ h => h) (Keep.drew _) (Rn.no rfl (Rn.no rfl (Rn.no rfl (Rn.no rfl (Rn.no rfl (Rn.no rfl (Rn.no rfl (Rn.no rfl (Rn.no rfl (Rn.no rfl (Rn.s rfl Yv.pick_f Rn.nil))))))))))) (WD.e 11 (qu1 _ (Keep.refl _)))) (k := fun wu1 ku1 => WD.done ?_)))))
      have hst := hst.quiet ((Keep.drew _).trans ku1)
      have hc := hst.cells 0
      refine Wp.cond rfl (fun h3 => ?_) (fun h3 => ?_)
      · simp only [Bool.and_eq_true, decide_eq_true_eq] at h3
        obtain ⟨h3, h4⟩ := h3
        have hkl : k < s.length := by omega
        have hby := byt_of (List.getElem?_eq_getElem hkl)
        refine Wp.skip (Wp.block (Wp.regionL (l := [0, 1, 2, 3, 4, 5, 6, 7]) (WO.rd (is := [0, 1, 2, 3, 4, 5, 6]) (js := [7]) (Keep.refl _) (Rn.s rfl Yv.mv (Rn.s rfl Yv.nc (Rn.s rfl (Yv.fa (off := 1)) (Rn.s rfl (Yv.ld (hc.at_ 1)) (Rn.s rfl (Yv.add (by unfold inI; omega)) (Rn.s rfl Yv.nc (Rn.s rfl (Yv.fa (off := 1)) (Rn.nil)))))))) (WO.act (hc := rfl) (he := Ef.store hst 0 (fun wv1 hsv1 => WO.done ?_))))))
        refine ⟨k + 1, ⟨rfl, hkl, ?_, hsv1, rfl, trivial⟩, by omega⟩
        rw [← hg]
        unfold namedN
        rw [List.drop_eq_getElem_cons hkl, List.takeWhile_cons_of_pos]
        · simp only [List.length_cons]; omega
        · rw [← hby]; exact h4
      · have e2 : namedN s k = k := by
          unfold namedN
          rcases Nat.lt_or_ge k s.length with hkl | hkl
          · have hby := byt_of (List.getElem?_eq_getElem hkl)
            have h5 : decide ((k : Int) < (s.length : Int)) = true := by simpa using hkl
            rw [h5, Bool.true_and, hby] at h3
            rw [List.drop_eq_getElem_cons hkl, List.takeWhile_cons_of_neg]
            · rfl
            · rw [h3]; decide
          · rw [List.drop_eq_nil_of_le hkl]; rfl
        have e3 : namedN s 0 = k := by rw [← hg, e2]
        refine Wp.exit ?_
        refine Wp.seq (Wp.draws [13] mixed (WD.rd (is := [0, 1, 2, 3, 4, 5, 6, 7, 8, 9, 10, 11, 12]) (fun _ _ _ _ _ h => h) (Keep.drew _) (Rn.s rfl Yv.mv (Rn.s rfl Yv.mv (Rn.s rfl Yv.nc (Rn.s rfl (Yv.fa (off := 0)) (Rn.s rfl (Yv.ld (hc.at_ 0)) (Rn.s rfl Yv.mv (Rn.s rfl Yv.nc (Rn.s rfl (Yv.fa (off := 1)) (Rn.s rfl (Yv.ld (hc.at_ 1)) (Rn.s rfl (Yv.ss_t (by omega) (by omega)) (Rn.s rfl Yv.nc (Rn.s rfl (Yv.fa (off := 2)) (Rn.s rfl (Yv.fa (off := 1)) (Rn.nil)))))))))))))) (WD.act 13 (hc := rfl) (he := Ef.store (hst.quiet (Keep.drew _)) 0 (fun wv1 hsv1 => ⟨fun hn => (hn (by decide)).elim, WD.done ?_⟩)))))
        rw [Int.toNat_natCast] at hsv1
        have hst : St w [b] wv1 [ChR b s k (o1 (s.take k))] := hsv1
        have hc := hst.cells 0
        refine Wp.seq (Wp.regionL (l := [0, 1, 2, 3, 4, 5, 6]) (WO.rd (is := [0, 1, 2, 3, 4]) (js := [5, 6]) (Keep.refl _) (Rn.s rfl Yv.mv (Rn.s rfl Yv.nc (Rn.s rfl (Yv.fa (off := 2)) (Rn.s rfl (Yv.fa (off := 1)) (Rn.s rfl (Yv.ld (hc.at_ 3)) (Rn.nil)))))) (WO.cv rfl (name_cv (s.take k) _) (Keep.refl _) (FnOk.of Tryd.func83) (fun wa1 ka1 => WO.rd (is := [6]) (js := []) ((Keep.refl _).trans ka1) (Rn.s rfl Yv.not (Rn.nil)) (WO.done ?_)))))
        have hst := hst.quiet ka1
        refine Wp.cond rfl (fun h3 => ?_) (fun h3 => ?_)
        · have h3 : nameB (s.take k) = false := by simpa using h3
          refine Wp.regionL (l := [0, 1]) (WO.rd (is := [0]) (js := [1]) (Keep.refl _) (Rn.s rfl Yv.mv (Rn.nil)) (WO.act (hc := rfl) (he := Ef.callv Tryd.func81 (Calls.mono (fail_calls b 20 0 (by unfold inI; omega) _) ?_))))
          rintro e w4 ⟨rfl, rfl⟩
          have e : headS s = .err 20 (0 + 1) := by rw [headS, if_neg h, if_neg (by simp [h2]), e3, if_neg (by simp [h3])]; rfl
          refine ⟨?_⟩
          show MPost b s _ (headS s) w _ _
          rw [e]
          exact ⟨rfl, hst.pick []⟩
        · have h3 : nameB (s.take k) = true := by simpa using h3
          refine Wp.skip ⟨rfl, _, _, hk, ?_, hst, rfl, trivial⟩
          rw [headS, if_neg h, if_neg (by simp [h2]), e3, if_pos h3]
  · rintro ρ ds w' ⟨rfl, n, key, hn, he, hst, hs⟩
    refine Wp.forget _ ?_ hs
    rw [he]
    have hc := hst.cells 0
    refine Wp.seq (Wp.seq (Wp.draws [] mixed (WD.rd (is := [0, 1, 2, 3, 4]) (fun _ _ _ _ _ h => h) (Keep.drew _) (Rn.s rfl Yv.mv (Rn.s rfl Yv.mv (Rn.s rfl Yv.nc (Rn.s rfl (Yv.fa (off := 1)) (Rn.s rfl (Yv.ld (hc.at_ 1)) (Rn.nil)))))) (WD.cv 5 rfl (end_cv b s n (o1 key) n _ hc) (Keep.drew _) (FnOk.of Tryd.func84) (fun wa1 ka1 => WD.rd (is := [6, 7, 8, 9, 10, 11, 12, 13, 14, 15, 16, 17]) (fun _ _ _ _ _ h => h) ((Keep.drew _).trans ka1) (Rn.s rfl Yv.mv (Rn.or (is := [7, 8, 9, 10, 11, 12, 13, 14, 15, 16, 17]) (js := []) (t := 102) (d := 113) (hg := rfl) (hf := fun h6 => have h6 := of_decide_eq_false h6; Rn.s rfl Yv.mv (Rn.s rfl Yv.nc (Rn.s rfl (Yv.fa (off := 0)) (Rn.s rfl (Yv.ld (hc.at_ 0)) (Rn.s rfl Yv.mv (Rn.s rfl Yv.nc (Rn.s rfl (Yv.fa (off := 1)) (Rn.s rfl (Yv.ld (hc.at_ 1)) (Rn.s rfl (Yv.ix (by omega) (by omega)) (Rn.s rfl (Yv.cmp _ rfl) (Rn.s rfl Yv.pick_f ((Rn.e 11 rfl rfl))))))))))))) (ht := fun _ => Rn.no rfl (Rn.no rfl (Rn.no rfl (Rn.no rfl (Rn.no rfl (Rn.no rfl (Rn.no rfl (Rn.no rfl (Rn.no rfl (Rn.no rfl (Rn.s rfl Yv.pick_t (Rn.e 11 rfl rfl)))))))))))) (k := Rn.nil))) (WD.done ?_))))))
    have hst := hst.quiet ((Keep.drew _).trans ka1)
    have hc := hst.cells 0
    refine Wp.cond rfl (fun h3 => ?_) (fun h3 => ?_)
    · refine Wp.regionL (l := [0, 1, 2, 3, 4, 5]) (WO.rd (is := [0, 1, 2, 3, 4]) (js := [5]) (Keep.refl _) (Rn.s rfl Yv.mv (Rn.s rfl Yv.mv (Rn.s rfl Yv.nc (Rn.s rfl (Yv.fa (off := 1)) (Rn.s rfl (Yv.ld (hc.at_ 1)) (Rn.nil)))))) (WO.act (hc := rfl) (he := Ef.callv Tryd.func81 (Calls.mono (fail_calls b 20 n (by unfold inI; omega) _) ?_))))
      rintro e w4 ⟨rfl, rfl⟩
      have e : tailS s n key = .err 20 ((n : Int) + 1) := by
        rw [tailS, if_pos]
        simp only [Bool.or_eq_true, decide_eq_true_eq, bne_iff_ne] at h3
        omega
      refine ⟨?_⟩
      show MPost b s _ (tailS s n key) w _ _
      rw [e]
      exact ⟨rfl, hst.pick []⟩
    have h3 : ¬ (s.length ≤ n ∨ byt s n ≠ 58) := by
      simp only [Bool.or_eq_false_iff, decide_eq_false_iff_not, bne_eq_false_iff_eq] at h3
      omega
    refine Wp.skip (Wp.seq (Wp.regionL (l := [0, 1, 2, 3, 4, 5, 6, 7]) (WO.rd (is := [0, 1, 2, 3, 4, 5, 6]) (js := [7]) (Keep.refl _) (Rn.s rfl Yv.mv (Rn.s rfl Yv.nc (Rn.s rfl (Yv.fa (off := 1)) (Rn.s rfl (Yv.ld (hc.at_ 1)) (Rn.s rfl (Yv.add (by unfold inI; omega)) (Rn.s rfl Yv.nc (Rn.s rfl (Yv.fa (off := 1)) (Rn.nil)))))))) (WO.act (hc := rfl) (he := Ef.store hst 0 (fun wy1 hsy1 => WO.done ?_))))))
    have hst : St w [b] wy1 [ChR b s ((n : Int) + 1) (o1 key)] := hsy1
    have hc := hst.cells 0
    refine Wp.seq (Wp.regionL (l := [0, 1, 2, 3, 4, 5, 6, 7, 8, 9, 10, 11, 12, 13, 14, 15]) (WO.rd (is := [0, 1, 2, 3, 4]) (js := [5, 6, 7, 8, 9, 10, 11, 12, 13, 14, 15]) (Keep.refl _) (Rn.s rfl Yv.mv (Rn.s rfl Yv.mv (Rn.s rfl Yv.nc (Rn.s rfl (Yv.fa (off := 1)) (Rn.s rfl (Yv.ld (hc.at_ 1)) (Rn.nil)))))) (WO.cv rfl (end_cv b s ((n : Int) + 1) (o1 key) ((n : Int) + 1) _ hc) (Keep.refl _) (FnOk.of Tryd.func84) (fun wz1 kz1 => WO.rd (is := [6, 7]) (js := [8, 9, 10, 11, 12, 13, 14, 15]) ((Keep.refl _).trans kz1) (Rn.s rfl Yv.not (Rn.s rfl Yv.mv (Rn.nil))) (WO.and (js := []) 134 142 (hg := rfl) (ht := fun h7 qz2 => WO.rd (is := [8, 9, 10, 11, 12]) (js := [13, 14, 15]) ((Keep.refl _).trans kz1) (Rn.s rfl Yv.mv (Rn.s rfl Yv.mv (Rn.s rfl Yv.nc (Rn.s rfl (Yv.fa (off := 1)) (Rn.s rfl (Yv.ld (hc.at_ 1)) (Rn.nil)))))) (WO.cv rfl (blank_cv b s ((n : Int) + 1) (o1 key) ((n : Int) + 1) (by omega) _ hc) ((Keep.refl _).trans kz1) (FnOk.of Tryd.func85) (fun wz3 kz3 => WO.rd (is := [14, 15]) (js := []) (((Keep.refl _).trans kz1).trans kz3) (Rn.s rfl Yv.not (Rn.s rfl Yv.pick_t (Rn.nil))) (WO.e 8 (qz2 _ ((Keep.refl _).trans kz3)))))) (hf := fun _ qz2 => WO.rd (is := [8, 9, 10, 11, 12, 13, 14, 15]) (js := []) ((Keep.refl _).trans kz1) (Rn.no rfl (Rn.no rfl (Rn.no rfl (Rn.no rfl (Rn.no rfl (Rn.no rfl (Rn.no rfl (Rn.s rfl Yv.pick_f Rn.nil)))))))) (WO.e 8 (qz2 _ (Keep.refl _)))) (k := fun wz2 kz2 => WO.done ?_))))))
    have hst := hst.quiet (kz1.trans kz2)
    have hc := hst.cells 0
    refine Wp.cond rfl (fun h4 => ?_) (fun h4 => ?_)
    · refine Wp.regionL (l := [0, 1, 2, 3, 4, 5]) (WO.rd (is := [0, 1, 2, 3, 4]) (js := [5]) (Keep.refl _) (Rn.s rfl Yv.mv (Rn.s rfl Yv.mv (Rn.s rfl Yv.nc (Rn.s rfl (Yv.fa (off := 1)) (Rn.s rfl (Yv.ld (hc.at_ 1)) (Rn.nil)))))) (WO.act (hc := rfl) (he := Ef.callv Tryd.func81 (Calls.mono (fail_calls b 20 ((n : Int) + 1) (by unfold inI; omega) _) ?_))))
      rintro e w4 ⟨rfl, rfl⟩
      have e : tailS s n key = .err 20 ((n : Int) + 1 + 1) := by
        rw [tailS, if_neg h3, if_pos]
        simp only [Bool.and_eq_true, Bool.not_eq_true', Bool.and_eq_false_iff, decide_eq_false_iff_not, beq_eq_false_iff_ne] at h4
        omega
      refine ⟨?_⟩
      show MPost b s _ (tailS s n key) w _ _
      rw [e]
      exact ⟨rfl, hst.pick []⟩
    · have e : tailS s n key = .ok ((n : Int) + 1) (o1 key) := by
        rw [tailS, if_neg h3, if_neg]
        simp only [Bool.and_eq_false_iff, Bool.not_eq_false', Bool.and_eq_true, decide_eq_true_eq, beq_iff_eq] at h4
        omega
      refine Wp.skip (Fin.normal (Res.none rfl) ?_)
      rw [e]
      exact ⟨rfl, hst⟩
def valueS (s : Bs) (a : Nat) (o : Ct) : Oc :=
  if s.length ≤ a ∨ byt s a = 35 then .ok a o
  else if byt s a ≠ 34 then .ok a (bareS s a { o with has := true, val := (a : Int) + 1 })
  else if (quoteR (s.drop a)).2.2 then
    if gapN s (a + (quoteR (s.drop a)).2.1.toNat) < s.length ∧ (byt s (gapN s (a + (quoteR (s.drop a)).2.1.toNat)) ≠ 35 ∨ gapN s (a + (quoteR (s.drop a)).2.1.toNat) = a + (quoteR (s.drop a)).2.1.toNat) then .err 22 ((gapN s (a + (quoteR (s.drop a)).2.1.toNat) : Nat) + 1)
    else .ok (gapN s (a + (quoteR (s.drop a)).2.1.toNat)) { o with has := true, val := (a : Int) + 1, value := (quoteR (s.drop a)).1 }
  else .err 21 ((a : Int) + (quoteR (s.drop a)).2.1 + 1)
theorem keep_chg {w0 w w' : World} {b : Nat} (k : Keep w0 w) (h : Chg [b] w w') (hb : w0.heap.size ≤ b) : Keep w0 w' :=
  ((Chg.of_keep [] k).trans h (by intro x hx; obtain rfl := List.mem_singleton.1 hx; exact .inr hb)).keep
theorem value_calls (b : Nat) (s : Bs) (a : Nat) (o : Ct) (hl : s.length ≤ 1000000) (ha : a ≤ s.length) (w0 : World) (hg0 : Gm w0) (hb0 : w0.heap.size ≤ b) (w : World) (hk0 : Keep w0 w) (hok : (ChR b s a o).ok w) :
    Calls Tryd.prog 57 #[PB b] w (MPost b s (.tuple #[]) (valueS s a o) w) := by
  refine calls_of_Wp (vs := [_]) Tryd.func57 ?_
  have hst := ownR hok
  have hc := cellsR hok
  refine Wp.seq (Wp.seq (Wp.draws [] mixed (WD.rd (is := [0, 1, 2, 3, 4]) (fun _ _ _ _ _ h => h) (Keep.drew _) (Rn.s rfl Yv.mv (Rn.s rfl Yv.mv (Rn.s rfl Yv.nc (Rn.s rfl (Yv.fa (off := 1)) (Rn.s rfl (Yv.ld (hc.at_ 1)) (Rn.nil)))))) (WD.cv 5 rfl (end_cv b s a o a _ hc) (Keep.drew _) (FnOk.of Tryd.func84) (fun wx1 kx1 => WD.rd (is := [6, 7, 8, 9, 10, 11, 12, 13, 14, 15, 16, 17]) (fun _ _ _ _ _ h => h) ((Keep.drew _).trans kx1) (Rn.s rfl Yv.mv (Rn.or (is := [7, 8, 9, 10, 11, 12, 13, 14, 15, 16, 17]) (js := []) (t := 9) (d := 20) (hg := rfl) (hf := fun h6 => have h6 := of_decide_eq_false h6; Rn.s rfl Yv.mv (Rn.s rfl Yv.nc (Rn.s rfl (Yv.fa (off := 0)) (Rn.s rfl (Yv.ld (hc.at_ 0)) (Rn.s rfl Yv.mv (Rn.s rfl Yv.nc (Rn.s rfl (Yv.fa (off := 1)) (Rn.s rfl (Yv.ld (hc.at_ 1)) (Rn.s rfl (Yv.ix (by omega) (by omega)) (Rn.s rfl (Yv.cmp _ rfl) (Rn.s rfl Yv.pick_f ((Rn.e 11 rfl rfl))))))))))))) (ht := fun _ => Rn.no rfl (Rn.no rfl (Rn.no rfl (Rn.no rfl (Rn.no rfl (Rn.no rfl (Rn.no rfl (Rn.no rfl (Rn.no rfl (Rn.no rfl (Rn.s rfl Yv.pick_t (Rn.e 11 rfl rfl)))))))))))) (k := Rn.nil))) (WD.done ?_))))))
  have kx := (Keep.drew _).trans kx1
  have hst := hst.quiet kx
  have hc := hst.cells 0
  refine Wp.cond rfl (fun h => ?_) (fun h => ?_)
  · refine Wp.ret (Fin.ret (Res.none rfl) ?_)
    rw [valueS, if_pos]
    · exact ⟨rfl, hst⟩
    · simp only [Bool.or_eq_true, decide_eq_true_eq, beq_iff_eq] at h
      omega
  have h : ¬ (s.length ≤ a ∨ byt s a = 35) := by
    simp only [Bool.or_eq_false_iff, decide_eq_false_iff_not, beq_eq_false_iff_ne] at h
    omega
  refine Wp.skip (Wp.seq (Wp.regionL (l := [0, 1, 2, 3, 4, 5, 6, 7, 8, 9, 10, 11, 12, 13, 14]) (WO.rd (is := [0, 1, 2, 3, 4, 5, 6, 7, 8, 9]) (js := [10, 11, 12, 13, 14]) (Keep.refl _) (Rn.s rfl Yv.mv (Rn.s rfl Yv.mv (Rn.s rfl Yv.mv (Rn.s rfl Yv.nc (Rn.s rfl (Yv.fa (off := 1)) (Rn.s rfl (Yv.ld (hc.at_ 1)) (Rn.s rfl (Yv.add (by unfold inI; omega)) (Rn.s rfl Yv.nc (Rn.s rfl (Yv.fa (off := 2)) (Rn.s rfl (Yv.fa (off := 2)) (Rn.nil))))))))))) (WO.act (hc := rfl) (he := Ef.store (vs := rrcs s a o) hst 0 (fun wy1 hsy1 => WO.rd (is := [11, 12, 13]) (js := [14]) (Keep.refl _) (Rn.s rfl Yv.nc (Rn.s rfl (Yv.fa (off := 2)) (Rn.s rfl (Yv.fa (off := 6)) (Rn.nil)))) (WO.act (hc := rfl) (he := Ef.store (vs := rrcs s a { o with has := true }) hsy1 0 (fun wy2 hsy2 => WO.done ?_)))))))))
  obtain ⟨o2, ho2⟩ : ∃ o2 : Ct, o2 = { o with has := true, val := (a : Int) + 1 } := ⟨_, rfl⟩
  have hst : St w [b] wy2 [ChR b s a o2] := by rw [ho2]; exact hsy2
  have hc := hst.cells 0
  refine Wp.seq (Wp.seq (Wp.readsD (is := [0, 1, 2, 3, 4, 5, 6, 7, 8, 9]) mixed (fun _ _ _ _ _ h => h) (Keep.refl _) (Rn.s rfl Yv.mv (Rn.s rfl Yv.nc (Rn.s rfl (Yv.fa (off := 0)) (Rn.s rfl (Yv.ld (hc.at_ 0)) (Rn.s rfl Yv.mv (Rn.s rfl Yv.nc (Rn.s rfl (Yv.fa (off := 1)) (Rn.s rfl (Yv.ld (hc.at_ 1)) (Rn.s rfl (Yv.ix (by omega) (by omega)) (Rn.s rfl (Yv.cmp _ rfl) (Rn.nil))))))))))) ?_))
  have hst := hst.quiet (Keep.drew _)
  have hgy : Gm wy2.drew := hg0.keep (keep_chg hk0 hst.chg hb0)
  refine Wp.cond rfl (fun h2 => ?_) (fun h2 => ?_)
  · have h2 : byt s a ≠ 34 := by simpa using h2
    refine Wp.seq (Wp.regionL (l := [0, 1]) (WO.rd (is := [0]) (js := [1]) (Keep.refl _) (Rn.s rfl Yv.mv (Rn.nil)) (WO.act (hc := rfl) (he := Ef.cu (bare_cu b s a o2 hl ha _ hgy (hst.at_ 0)) hst (FnOk.of Tryd.func86) (fun wz1 hsz1 => WO.done ?_)))))
    refine Wp.ret (Fin.ret (Res.none rfl) ?_)
    rw [valueS, if_neg h, if_pos h2, ← ho2]
    exact ⟨rfl, hsz1⟩
  have h2 : byt s a = 34 := by simpa using h2
  have hq := quoteR_bd (s.drop a)
  simp only [List.length_drop] at hq
  have e0 : valueS s a o = if (quoteR (s.drop a)).2.2 then
    if gapN s (a + (quoteR (s.drop a)).2.1.toNat) < s.length ∧ (byt s (gapN s (a + (quoteR (s.drop a)).2.1.toNat)) ≠ 35 ∨ gapN s (a + (quoteR (s.drop a)).2.1.toNat) = a + (quoteR (s.drop a)).2.1.toNat) then .err 22 ((gapN s (a + (quoteR (s.drop a)).2.1.toNat) : Nat) + 1)
    else .ok (gapN s (a + (quoteR (s.drop a)).2.1.toNat)) { o with has := true, val := (a : Int) + 1, value := (quoteR (s.drop a)).1 }
    else .err 21 ((a : Int) + (quoteR (s.drop a)).2.1 + 1) := by rw [valueS, if_neg h, if_neg (by simp [h2])]
  refine Wp.skip (Wp.seq (Wp.regionL (l := [0, 1, 2, 3, 4, 5, 6]) (WO.rd (is := [0, 1]) (js := [2, 3, 4, 5, 6]) (Keep.refl _) (Rn.s rfl Yv.mv (Rn.s rfl Yv.mv (Rn.nil))) (WO.act (hc := rfl) (he := Ef.callv Tryd.func80 (Calls.mono (quoted_calls b s a o2 hl ha _ (hst.at_ 0)) ?_))))))
  rintro e w2 hp
  cases hb : (quoteR (s.drop a)).2.2 with
  | false =>
    simp only [hb, Bool.false_eq_true, if_false, MPost] at hp
    obtain ⟨rfl, hs2⟩ := hp
    refine ⟨?_⟩
    show MPost b s _ (valueS s a o) w _ _
    rw [e0, hb]
    exact ⟨rfl, hst.call (A := [ChR b s a o2]) hs2⟩
  | true =>
    simp only [hb, if_true, MPost] at hp
    obtain ⟨rfl, hs2⟩ := hp
    rw [hb, if_pos rfl] at e0
    obtain ⟨a2, ha2⟩ : ∃ a2 : Nat, a2 = a + (quoteR (s.drop a)).2.1.toNat := ⟨_, rfl⟩
    rw [← ha2] at e0
    have e1 : (a : Int) + (quoteR (s.drop a)).2.1 = (a2 : Int) := by omega
    rw [e1] at hs2
    have ha2l : a2 ≤ s.length := by omega
    have hst := hst.call (A := [ChR b s a o2]) (D := []) hs2
    refine WO.rd (is := [3, 4, 5]) (js := [6]) (Keep.refl _) (Rn.s rfl Yv.nc (Rn.s rfl (Yv.fa (off := 2)) (Rn.s rfl (Yv.fa (off := 3)) (Rn.nil)))) (WO.act (hc := rfl) (he := Ef.store hst 0 fun w3 hs3 => WO.done ?_))
    obtain ⟨o3, ho3⟩ : ∃ o3 : Ct, o3 = { o with has := true, val := (a : Int) + 1, value := (quoteR (s.drop a)).1 } := ⟨_, rfl⟩
    rw [← ho3] at e0
    have hst : St w [b] w3 [ChR b s a2 o3] := by rw [ho3]; rw [ho2] at hs3; exact hs3
    have hc := hst.cells 0
    refine Wp.seq (Wp.reads (is := [0, 1, 2, 3, 4]) (Keep.refl _) (Rn.s rfl Yv.mv (Rn.s rfl Yv.nc (Rn.s rfl (Yv.fa (off := 1)) (Rn.s rfl (Yv.ld (hc.at_ 1)) (Rn.s rfl Yv.as (Rn.nil)))))) ?_)
    refine Wp.seq (Wp.regionL (l := [0, 1]) (WO.rd (is := [0]) (js := [1]) (Keep.refl _) (Rn.s rfl Yv.mv (Rn.nil)) (WO.act (hc := rfl) (he := Ef.cu (gap_cu b s a2 o3 hl ha2l _ (hst.at_ 0)) hst (FnOk.of Tryd.func56) (fun wz1 hsz1 => WO.done ?_)))))
    have hgl := gapN_le s a2 ha2l
    obtain ⟨a3, ha3⟩ : ∃ a3, a3 = gapN s a2 := ⟨_, rfl⟩
    rw [← ha3] at e0 hgl
    have hst : St w [b] wz1 [ChR b s a3 o3] := by rw [ha3]; exact hsz1
    have hc := hst.cells 0
    refine Wp.seq (Wp.draws [] mixed (WD.rd (is := [0, 1, 2, 3, 4]) (fun _ _ _ _ _ h => h) (Keep.drew _) (Rn.s rfl Yv.mv (Rn.s rfl Yv.mv (Rn.s rfl Yv.nc (Rn.s rfl (Yv.fa (off := 1)) (Rn.s rfl (Yv.ld (hc.at_ 1)) (Rn.nil)))))) (WD.cv 5 rfl (end_cv b s a3 o3 a3 _ hc) (Keep.drew _) (FnOk.of Tryd.func84) (fun wu1 ku1 => WD.rd (is := [6, 7, 8, 9, 10, 11, 12, 13, 14, 15, 16, 17, 18, 19, 20, 21, 22, 23, 24, 25, 26]) (fun _ _ _ _ _ h => h) ((Keep.drew _).trans ku1) (Rn.s rfl Yv.not (Rn.s rfl Yv.mv (Rn.and (is := [8, 9, 10, 11, 12, 13, 14, 15, 16, 17, 18, 19, 20, 21, 22, 23, 24, 25, 26]) (js := []) (t := 65) (d := 84) (hg := rfl) (ht := fun h7 => Rn.s rfl Yv.mv (Rn.s rfl Yv.nc (Rn.s rfl (Yv.fa (off := 0)) (Rn.s rfl (Yv.ld (hc.at_ 0)) (Rn.s rfl Yv.mv (Rn.s rfl Yv.nc (Rn.s rfl (Yv.fa (off := 1)) (Rn.s rfl (Yv.ld (hc.at_ 1)) (Rn.s rfl (Yv.ix (by omega) (by simp at h7; omega)) (Rn.s rfl (Yv.cmp _ rfl) (Rn.s rfl Yv.mv (Rn.or (is := [19, 20, 21, 22, 23, 24, 25]) (js := [26]) (t := 76) (d := 83) (hg := rfl) (hf := fun h18 => have h18 := bne_eq_false_iff_eq.1 h18; Rn.s rfl Yv.mv (Rn.s rfl Yv.nc (Rn.s rfl (Yv.fa (off := 1)) (Rn.s rfl (Yv.ld (hc.at_ 1)) (Rn.s rfl Yv.mv (Rn.s rfl (Yv.cmp _ rfl) (Rn.s rfl Yv.pick_f ((Rn.e 7 rfl rfl))))))))) (ht := fun _ => Rn.no rfl (Rn.no rfl (Rn.no rfl (Rn.no rfl (Rn.no rfl (Rn.no rfl (Rn.s rfl Yv.pick_t (Rn.e 7 rfl rfl)))))))) (k := Rn.s rfl Yv.pick_t ((Rn.e 13 rfl rfl))))))))))))))) (hf := fun _ => Rn.no rfl (Rn.no rfl (Rn.no rfl (Rn.no rfl (Rn.no rfl (Rn.no rfl (Rn.no rfl (Rn.no rfl (Rn.no rfl (Rn.no rfl (Rn.no rfl (Rn.no rfl (Rn.no rfl (Rn.no rfl (Rn.no rfl (Rn.no rfl (Rn.no rfl (Rn.no rfl (Rn.s rfl Yv.pick_f (Rn.e 19 rfl rfl)))))))))))))))))))) (k := Rn.nil)))) (WD.done ?_)))))
    have hst := hst.quiet ((Keep.drew _).trans ku1)
    have hc := hst.cells 0
    refine Wp.cond rfl (fun h3 => ?_) (fun h3 => ?_)
    · refine Wp.regionL (l := [0, 1, 2, 3, 4, 5]) (WO.rd (is := [0, 1, 2, 3, 4]) (js := [5]) (Keep.refl _) (Rn.s rfl Yv.mv (Rn.s rfl Yv.mv (Rn.s rfl Yv.nc (Rn.s rfl (Yv.fa (off := 1)) (Rn.s rfl (Yv.ld (hc.at_ 1)) (Rn.nil)))))) (WO.act (hc := rfl) (he := Ef.callv Tryd.func81 (Calls.mono (fail_calls b 22 a3 (by unfold inI; omega) _) ?_))))
      rintro e w4 ⟨rfl, rfl⟩
      refine ⟨?_⟩
      show MPost b s _ (valueS s a o) w _ _
      rw [e0, if_pos]
      · exact ⟨rfl, hst.pick []⟩
      · simp only [Bool.and_eq_true, Bool.or_eq_true, Bool.not_eq_true', decide_eq_false_iff_not, bne_iff_ne, beq_iff_eq] at h3
        omega
    · refine Wp.skip (Fin.normal (Res.none rfl) ?_)
      rw [e0, if_neg]
      · exact ⟨rfl, hst⟩
      · simp only [Bool.and_eq_false_iff, Bool.or_eq_false_iff, Bool.not_eq_false', decide_eq_true_eq, bne_eq_false_iff_eq, beq_eq_false_iff_ne] at h3
        omega
end Go.Proofs.YtgjhbapbomdpbaaDoor.C
