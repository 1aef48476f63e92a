/- What the library's functions, scalar's Quote and Key, and diag's Text compute. -/
import Derived.Test.YtkobcbjblllhlaaGreatDoorC3
import Derived.Test.YtkobcbjblllhlaaGreatDoorShelf
import Derived.WalkSmall
import Derived.Lib.AppendIntMem
import Derived.Lib.AtoiErrMem
set_option linter.unusedVariables false
set_option linter.unusedSimpArgs false
set_option maxRecDepth 10000
namespace Go.Proofs.YtkobcbjblllhlaaGreatDoor.C
open Go.RowKit Go.Proofs.YtkobcbjblllhlaaGreatDoor.Sh
/-! ### what is known of the package-level variables -/
structure Gl (w : World) : Prop where
  maxlen : ∃ m, w.cell? ⟨1, 0, none⟩ = some (.int .i64 m)
  pow10 : Lib.TabIs Tryz.prog w "internal/strconv.uint64pow10" .u64 Lib.pow10Tab
  errS : ∃ ev, w.cell? ⟨3, 0, none⟩ = some ev ∧ (ev = .nilIface ∨ ∃ te pe, ev = .iface te pe)
  errR : ∃ ev, w.cell? ⟨4, 0, none⟩ = some ev ∧ (ev = .nilIface ∨ ∃ te pe, ev = .iface te pe)
  errT : w.cell? ⟨0, 0, none⟩ = some (.iface 105 (.agg #[.pointer (some ⟨9, 43, none⟩)]))
theorem gnum : Tryz.prog.globalNamed "internal/strconv.uint64pow10" = some 2 := by kernel_rfl
theorem var_lt {w : World} {n : String} {g : Nat} {cs : Array Value} (hg : Tryz.prog.globalNamed n = some g) (h : w.var? Tryz.prog n = some cs) : g < w.heap.size := by
  unfold World.var? at h
  rw [hg] at h
  simp only [Option.bind_some] at h
  rcases Nat.lt_or_ge g w.heap.size with h' | h'
  · exact h'
  · rw [Array.getElem?_eq_none h'] at h
    cases h
theorem Gl.keep {w w' : World} (h : Gl w) (k : Keep w w') : Gl w' := by
  obtain ⟨m, hm⟩ := h.maxlen
  have hn := var_lt gnum h.pow10
  obtain ⟨e1, h1, h1'⟩ := h.errS
  obtain ⟨e2, h2, h2'⟩ := h.errR
  exact ⟨⟨m, k.cell hm⟩, var?_below k gnum hn h.pow10, ⟨e1, k.cell h1, h1'⟩, ⟨e2, k.cell h2, h2'⟩, k.cell h.errT⟩
/-! ### the library -/
theorem keep_grow (w : World) (k : Nat) (os : Array Obj) : Keep w (Go.Sort.grow (w.drewN k) os) := Go.Lib.below_grow _ w (Nat.le_refl _) k os
theorem itoa_cv (n : Int) (h0 : -9223372036854775808 ≤ n) (h1 : n ≤ 9223372036854775807) (w0 : World) (hg : Gl w0) : Cv Tryz.prog 22 [.int .i64 n] (S (Lib.itoa n)) w0 := by
  intro w hk
  refine Calls.mono (Tryz.strconv_Itoa n h0 h1 w (hg.keep hk).pow10) ?_
  rintro e w' ⟨rfl, k, os, rfl⟩
  exact ⟨rfl, keep_grow w k os⟩
theorem hasPrefix_cv (s p : Bs) (w0 : World) : Cv Tryz.prog 32 [S s, S p] (.bool (Lib.hasPrefix s p)) w0 := by
  intro w hk
  refine Calls.mono (Tryz.strings_HasPrefix ⟨⟨s⟩⟩ ⟨⟨p⟩⟩ w) ?_
  rintro e w' ⟨rfl, rfl⟩
  exact ⟨rfl, Keep.refl _⟩
theorem trimPrefix_cv (s p : Bs) (w0 : World) : Cv Tryz.prog 51 [S s, S p] (S (Lib.trimPrefix s p)) w0 := by
  intro w hk
  refine Calls.mono (Tryz.strings_TrimPrefix ⟨⟨s⟩⟩ ⟨⟨p⟩⟩ w) ?_
  rintro e w' ⟨rfl, rfl⟩
  exact ⟨rfl, Keep.refl _⟩
theorem keep_drewN (w : World) (n : Nat) : Keep w (w.drewN n) := by
  have := keep_grow w n #[]
  have e : Go.Sort.grow (w.drewN n) #[] = w.drewN n := by unfold Go.Sort.grow; rw [Array.append_empty]
  rw [e] at this
  exact this
theorem cut_cv (s p : Bs) (hl : s.length < 4294967281) (w0 : World) (hg : Gl w0) : Cv Tryz.prog 46 [S s, S p] (.tuple #[S (Lib.cut s p).1, S (Lib.cut s p).2.1, .bool (Lib.cut s p).2.2]) w0 := by
  intro w hk
  obtain ⟨m, hm⟩ := (hg.keep hk).maxlen
  refine Calls.mono (Tryz.strings_Cut ⟨⟨s⟩⟩ ⟨⟨p⟩⟩ m w hl hm) ?_
  rintro e w' ⟨rfl, n, rfl⟩
  exact ⟨rfl, keep_drewN w n⟩
/-- what Atoi hands back beside an error -/
def badS (s : Bs) : Int := match Lib.atoiAll s with
  | .range => Lib.atoiSat s
  | _ => 0
theorem atoi_calls (s : Bs) (hl : s.length ≤ 1000000000000) (w0 : World) (hg : Gl w0) (w : World) (hk : Keep w0 w) : Calls Tryz.prog 50 #[S s] w fun e w' => ∃ v err, e = .returned (.tuple #[.int .i64 v, err]) ∧ Keep w w' ∧ ((Lib.atoiAll s = .ok v ∧ err = .nilIface) ∨ ((∀ u, Lib.atoiAll s ≠ .ok u) ∧ (∃ t p, err = .iface t p) ∧ v = badS s)) := by
  have hg := hg.keep hk
  cases h : Lib.atoiAll s with
  | ok v =>
    refine Calls.mono (Tryz.strconv_Atoi_ok ⟨⟨s⟩⟩ (by show s.length ≤ _; omega) v h w) ?_
    rintro e w' ⟨rfl, h2⟩
    refine ⟨v, _, rfl, ?_, .inl ⟨rfl, rfl⟩⟩
    rcases h2 with rfl | ⟨t, rfl⟩
    · exact Keep.refl _
    · exact Go.Lib.bytesWorld_below w _ _
  | range =>
    obtain ⟨ev, h1, h2⟩ := hg.errR
    refine Calls.mono (Tryz.strconv_Atoi_range ⟨⟨s⟩⟩ (by show s.length ≤ _; omega) h ev w h1 h2) ?_
    rintro e w' ⟨n, rfl, h3, h4, h5⟩
    exact ⟨_, _, rfl, h5, .inr ⟨by simp, ⟨_, _, rfl⟩, by simp [badS, h]⟩⟩
  | _ =>
    obtain ⟨ev, h1, h2⟩ := hg.errS
    refine Calls.mono (Tryz.strconv_Atoi_syntax ⟨⟨s⟩⟩ (by show s.length ≤ _; omega) h ev w h1 h2) ?_
    rintro e w' ⟨n, rfl, h3, h4, h5⟩
    exact ⟨0, _, rfl, h5, .inr ⟨by simp, ⟨_, _, rfl⟩, by simp [badS, h]⟩⟩
/-! ### scalar -/
theorem quote_cv (s : Bs) (hl : s.length ≤ 500000000) (w0 : World) : Cv Tryz.prog 36 [S s] (S (quoteW s)) w0 := by
  intro w hk
  refine calls_of_Wp (vs := [_]) Tryz.func36 ?_
  refine Wp.seq (Wp.reads (is := [0]) (Keep.refl _) (Rn.s rfl Yv.as (Rn.nil)) ?_)
  refine Wp.seq (Wp.regionL (l := [0, 1, 2]) (WO.rd (is := [0]) (js := [1, 2]) (Keep.refl _) (Rn.s rfl Yv.mv (Rn.nil)) (WO.cv rfl (write_cv s hl w) (Keep.refl _) (FnOk.of Tryz.func58) (fun w1 k1 => WO.rd (is := [2]) (js := []) ((Keep.refl _).trans k1) (Rn.s rfl Yv.as (Rn.nil)) (WO.done ?_)))))
  exact Wp.ret (Fin.ret (Res.one rfl rfl) ⟨rfl, k1⟩)
def keyW (s : Bs) : Bs := if nameB s then s else quoteW s
theorem key_cv (s : Bs) (hl : s.length ≤ 500000000) (w0 : World) : Cv Tryz.prog 21 [S s] (S (keyW s)) w0 := by
  intro w hk
  refine calls_of_Wp (vs := [_]) Tryz.func21 ?_
  refine Wp.seq (Wp.reads (is := [0]) (Keep.refl _) (Rn.s rfl Yv.as (Rn.nil)) ?_)
  refine Wp.seq (Wp.seq (Wp.regionL (l := [0, 1]) (WO.rd (is := [0]) (js := [1]) (Keep.refl _) (Rn.s rfl Yv.mv (Rn.nil)) (WO.cv rfl (name_cv s w) (Keep.refl _) (FnOk.of Tryz.func35) (fun w1 k1 => WO.done ?_)))))
  refine Wp.cond rfl (fun h => ?_) (fun h => ?_)
  · refine Wp.seq (Wp.reads (is := [0, 1]) (Keep.refl _) (Rn.s rfl Yv.mv (Rn.s rfl Yv.as (Rn.nil))) ?_)
    exact Wp.ret (Fin.ret (Res.one rfl rfl) ⟨by rw [keyW, if_pos h], k1⟩)
  · have kk := k1
    refine Wp.skip (Wp.seq (Wp.regionL (l := [0, 1, 2]) (WO.rd (is := [0]) (js := [1, 2]) kk (Rn.s rfl Yv.mv (Rn.nil)) (WO.cv rfl (quote_cv s hl w) kk (FnOk.of Tryz.func36) (fun w1 k1 => WO.rd (is := [2]) (js := []) (kk.trans k1) (Rn.s rfl Yv.as (Rn.nil)) (WO.done ?_))))))
    exact Wp.ret (Fin.ret (Res.one rfl rfl) ⟨by rw [keyW, h]; rfl, kk.trans k1⟩)
end Go.Proofs.YtkobcbjblllhlaaGreatDoor.C
