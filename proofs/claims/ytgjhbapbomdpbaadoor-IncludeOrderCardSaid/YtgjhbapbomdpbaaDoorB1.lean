/- What the library's functions compute (the trees' seat). -/
import Derived.Test.YtgjhbapbomdpbaaDoorCa
import Derived.Test.YtgjhbapbomdpbaaDoorShelf
import Derived.WalkSmall
import Derived.Lib.AppendIntMem
set_option linter.unusedVariables false
set_option linter.unusedSimpArgs false
set_option maxRecDepth 10000
namespace Go.Proofs.YtgjhbapbomdpbaaDoor.C
open Go.RowKit Go.Proofs.YtgjhbapbomdpbaaDoor.Sh
/-! ### what is known of the package-level variables -/
structure Gm (w : World) : Prop where
  maxlen : ∃ m, w.cell? ⟨0, 0, none⟩ = some (.int .i64 m)
structure Gl (w : World) : Prop extends Gm w where
  pow10 : Lib.TabIs Tryd.prog w "internal/strconv.uint64pow10" .u64 Lib.pow10Tab
theorem gnum : Tryd.prog.globalNamed "internal/strconv.uint64pow10" = some 3 := by kernel_rfl
theorem var_lt {w : World} {n : String} {g : Nat} {cs : Array Value} (hg : Tryd.prog.globalNamed n = some g) (h : w.var? Tryd.prog n = some cs) : g < w.heap.size := by
  unfold World.var? at h
  rw [hg] at h
  simp only [Option.bind_some] at h
  rcases Nat.lt_or_ge g w.heap.size with h' | h'
  · exact h'
  · rw [Array.getElem?_eq_none h'] at h
    cases h
theorem Gm.keep {w w' : World} (h : Gm w) (k : Keep w w') : Gm w' := by
  obtain ⟨m, hm⟩ := h.maxlen
  exact ⟨⟨m, k.cell hm⟩⟩
theorem Gl.keep {w w' : World} (h : Gl w) (k : Keep w w') : Gl w' := by
  have hn := var_lt gnum h.pow10
  exact ⟨h.toGm.keep k, var?_below k gnum hn h.pow10⟩
instance (w : World) : Coe (Gl w) (Gm w) := ⟨fun h => h.toGm⟩
/-! ### the library -/
theorem keep_grow (w : World) (k : Nat) (os : Array Obj) : Keep w (Go.Sort.grow (w.drewN k) os) := Go.Lib.below_grow _ w (Nat.le_refl _) k os
theorem itoa_cv (n : Int) (h0 : -9223372036854775808 ≤ n) (h1 : n ≤ 9223372036854775807) (w0 : World) (hg : Gl w0) : Cv Tryd.prog 60 [.int .i64 n] (S (Lib.itoa n)) w0 := by
  intro w hk
  refine Calls.mono (Tryd.strconv_Itoa n h0 h1 w (hg.keep hk).pow10) ?_
  rintro e w' ⟨rfl, k, os, rfl⟩
  exact ⟨rfl, keep_grow w k os⟩
theorem hasPrefix_cv (s p : Bs) (w0 : World) : Cv Tryd.prog 79 [S s, S p] (.bool (Lib.hasPrefix s p)) w0 := by
  intro w hk
  refine Calls.mono (Tryd.strings_HasPrefix ⟨⟨s⟩⟩ ⟨⟨p⟩⟩ w) ?_
  rintro e w' ⟨rfl, rfl⟩
  exact ⟨rfl, Keep.refl _⟩
theorem keep_drewN (w : World) (n : Nat) : Keep w (w.drewN n) := by
  have := keep_grow w n #[]
  have e : Go.Sort.grow (w.drewN n) #[] = w.drewN n := by unfold Go.Sort.grow; rw [Array.append_empty]
  rw [e] at this
  exact this
theorem cut_cv (s p : Bs) (hl : s.length < 4294967281) (w0 : World) (hg : Gm w0) : Cv Tryd.prog 70 [S s, S p] (.tuple #[S (Lib.cut s p).1, S (Lib.cut s p).2.1, .bool (Lib.cut s p).2.2]) w0 := by
  intro w hk
  obtain ⟨m, hm⟩ := (hg.keep hk).maxlen
  refine Calls.mono (Tryd.strings_Cut ⟨⟨s⟩⟩ ⟨⟨p⟩⟩ m w hl hm) ?_
  rintro e w' ⟨rfl, n, rfl⟩
  exact ⟨rfl, keep_drewN w n⟩
theorem trim_cv (s : Bs) (c : UInt8) (hc : c.toNat < 128) (hl : s.length ≤ 9223372036854775807) (w0 : World) : Cv Tryd.prog 52 [S s, S [c]] (S (Lib.trimB s c)) w0 := by
  intro w hk
  refine Calls.mono (Tryd.strings_Trim_one ⟨⟨s⟩⟩ c hc w hl) ?_
  rintro e w' ⟨rfl, rfl | rfl⟩
  · exact ⟨rfl, Keep.refl _⟩
  · exact ⟨rfl, Keep.drew _⟩
theorem trimR_cv (s : Bs) (c : UInt8) (hc : c.toNat < 128) (hl : s.length ≤ 9223372036854775807) (w0 : World) : Cv Tryd.prog 107 [S s, S [c]] (S (Lib.trimRightB s c)) w0 := by
  intro w hk
  refine Calls.mono (Tryd.strings_TrimRight_one ⟨⟨s⟩⟩ c hc w hl) ?_
  rintro e w' ⟨rfl, rfl⟩
  exact ⟨rfl, Keep.refl _⟩
theorem index1_cv (s : Bs) (c : UInt8) (w0 : World) : Cv Tryd.prog 53 [S s, S [c]] (.int .i64 (Lib.indexByte s c)) w0 := by
  intro w hk
  refine Calls.mono (Tryd.strings_Index_one ⟨⟨s⟩⟩ c w) ?_
  rintro e w' ⟨rfl, rfl⟩
  exact ⟨rfl, Keep.refl _⟩
end Go.Proofs.YtgjhbapbomdpbaaDoor.C
