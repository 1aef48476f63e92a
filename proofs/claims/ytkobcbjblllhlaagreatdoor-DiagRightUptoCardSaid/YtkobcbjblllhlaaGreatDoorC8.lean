/- diag's read, of and Parse. -/
import Derived.Test.YtkobcbjblllhlaaGreatDoorC7
import Derived.Lib.Split
set_option linter.unusedVariables false
set_option linter.unusedSimpArgs false
set_option maxRecDepth 10000
namespace Go.Proofs.YtkobcbjblllhlaaGreatDoor.C
open Go.RowKit Go.Proofs.YtkobcbjblllhlaaGreatDoor.Sh
theorem len_splitK (sep : Bs) : ∀ (fuel : Nat) (s : Bs), (Lib.splitK sep 0 (Lib.countFrom sep fuel s) s).length = Lib.countFrom sep fuel s + 1
  | 0, s => by simp [Lib.countFrom, Lib.splitK]
  | fuel + 1, s => by
    simp only [Lib.countFrom]
    split
    · simp [Lib.splitK]
    · rename_i h
      rw [Nat.add_comm 1, Lib.splitK, if_neg h, List.length_cons, Nat.add_zero, len_splitK sep fuel]
abbrev StrE : Enc Bs := ⟨1, fun b => [S b], fun _ => rfl⟩
theorem flat_strs (l : List ByteArray) : l.map Value.string = (l.map (fun b => b.data.toList)).flatMap StrE.cells := by
  induction l with
  | nil => rfl
  | cons b l ih => simp only [List.map_cons, List.flatMap_cons, ih, S_of]; rfl
theorem split_calls (s p : Bs) (hl : s.length < 4294967281) (hp : 1 ≤ p.length) (w0 : World) (hg : Gl w0) (w : World) (hk : Keep w0 w) : Calls Tryz.prog 31 #[S s, S p] w fun e w' => ∃ A c, e = .returned (.slice A (Lib.split s p).length c) ∧ Keep w w' ∧ Rd StrE w' A (Lib.split s p) := by
  obtain ⟨m, hm⟩ := (hg.keep hk).maxlen
  refine Calls.mono (Tryz.strings_Split ⟨⟨s⟩⟩ ⟨⟨p⟩⟩ m w hl hm hp) ?_
  rintro e w' ⟨rfl, rfl⟩
  have hlen : (Lib.split s p).length = Lib.countB ⟨⟨s⟩⟩ ⟨⟨p⟩⟩ + 1 := len_splitK p _ s
  have hd := Lib.splitB_data ⟨⟨p⟩⟩ 0 (Lib.countB ⟨⟨s⟩⟩ ⟨⟨p⟩⟩) ⟨⟨s⟩⟩
  refine ⟨_, _, by rw [hlen], Keep.alloc _ _, ?_⟩
  have hsp : (Lib.splitB ⟨⟨p⟩⟩ 0 (Lib.countB ⟨⟨s⟩⟩ ⟨⟨p⟩⟩) ⟨⟨s⟩⟩).map (fun b => b.data.toList) = Lib.split s p := hd
  refine ⟨fun _ => rfl, fun j x hj k u hu => ?_⟩
  have hk0 : k = 0 := by
    cases k with
    | zero => rfl
    | succ k => simp at hu
  subst hk0
  have hf := flat_get (E := StrE) (Lib.split s p) j 0 x u hj hu
  rw [← hsp, ← flat_strs] at hf
  have := Cells.new w 9 ((Lib.splitB ⟨⟨p⟩⟩ 0 (Lib.countB ⟨⟨s⟩⟩ ⟨⟨p⟩⟩) ⟨⟨s⟩⟩).map Value.string) _ _ hf
  simp only [pb, pq, Nat.zero_add]
  exact this
def errS : Bs := [32, 101, 114, 114, 111, 114, 32]
def readS (s : Bs) : Option Ft :=
  let ps := Lib.split (fileS s).2.1 [58]
  if (fileS s).2.2 then
    if (ps.length : Int) ≠ 3 ∨ !(Lib.hasPrefix (nth ps 2) errS) then none
    else if (numS (nth ps 0)).2 && (numS (nth ps 1)).2 && (numS ((nth ps 2).drop 7)).2 then some ⟨(numS ((nth ps 2).drop 7)).1, (fileS s).1, (numS (nth ps 0)).1, (numS (nth ps 1)).1⟩
    else none
  else none
theorem mem_split_len (s p : Bs) : ∀ x ∈ Lib.split s p, x.length ≤ s.length := by
  have key : ∀ (k : Nat) (s : Bs), ∀ x ∈ Lib.splitK p 0 k s, x.length ≤ s.length := by
    intro k
    induction k with
    | zero => intro s x hx; simp [Lib.splitK] at hx; subst hx; omega
    | succ k ih =>
      intro s x hx
      simp only [Lib.splitK] at hx
      split at hx
      · simp at hx; subst hx; omega
      · rcases List.mem_cons.1 hx with rfl | hx
        · simp; omega
        · have := ih _ x hx
          simp at this
          omega
  exact key _ s
theorem nth_split_len (s p : Bs) (i : Int) : (nth (Lib.split s p) i).length ≤ s.length := by
  unfold nth
  rw [List.getD_eq_getElem?_getD]
  cases h : (Lib.split s p)[i.toNat]? with
  | none => exact Nat.zero_le _
  | some x => simpa using mem_split_len s p x (List.mem_of_getElem? h)
theorem fileS_len (s : Bs) : (fileS s).2.1.length ≤ s.length := by
  unfold fileS
  split
  · split <;> simp
  · simp only [Lib.cut]
    split <;> simp
theorem diagread_calls (s : Bs) (hl : s.length ≤ 100000000) (w0 : World) (hg : Gl w0) (w : World) (hk : Keep w0 w) : Calls Tryz.prog 19 #[S s] w fun e w' => Keep w w' ∧ match readS s with
    | none => e = .returned .nilIface
    | some f => ∃ b, e = .returned (.iface 63 (.pointer (some ⟨b, 0, none⟩))) ∧ Cells w' b f.cs := by
  have hg := hg.keep hk
  refine calls_of_Wp (vs := [_]) Tryz.func19 ?_
  refine Wp.seq (Wp.reads (is := [0]) (Keep.refl _) (Rn.s rfl Yv.as (Rn.nil)) ?_)
  refine Wp.seq (Wp.regionL (l := [0, 1, 2, 3, 4, 5, 6, 7, 8]) (WO.rd (is := [0]) (js := [1, 2, 3, 4, 5, 6, 7, 8]) (Keep.refl _) (Rn.s rfl Yv.mv (Rn.nil)) (WO.cv rfl (file_cv s hl _ hg) (Keep.refl _) (FnOk.of Tryz.func30) (fun w1 k1 => WO.rd (is := [2, 3, 4, 5, 6, 7, 8]) (js := []) ((Keep.refl _).trans k1) (Rn.s rfl Yv.mv (Rn.s rfl Yv.ex (Rn.s rfl Yv.ex (Rn.s rfl Yv.ex (Rn.s rfl Yv.as (Rn.s rfl Yv.as (Rn.s rfl Yv.as (Rn.nil)))))))) (WO.done ?_)))))
  have kk := k1
  refine Wp.seq (Wp.seq (Wp.reads (is := [0, 1]) (Keep.refl _) (Rn.s rfl Yv.mv (Rn.s rfl Yv.not (Rn.nil))) ?_))
  refine Wp.cond rfl (fun h => ?_) (fun h => ?_)
  · have h : (fileS s).2.2 = false := by simpa using h
    refine Wp.seq (Wp.reads (is := [0]) (Keep.refl _) (Rn.s rfl Yv.as (Rn.nil)) ?_)
    refine Wp.ret (Fin.ret (Res.one rfl rfl) ⟨kk, ?_⟩)
    simp [readS, h]
  have h : (fileS s).2.2 = true := by simpa using h
  have hfl := fileS_len s
  refine Wp.skip (Wp.seq (Wp.regionL (l := [0, 1, 2]) (WO.rd (is := [0]) (js := [1, 2]) (Keep.refl _) (Rn.s rfl Yv.mv (Rn.nil)) (WO.act (hc := rfl) (he := Ef.callv Tryz.func31 (Calls.mono (split_calls (fileS s).2.1 [58] (by omega) (by decide) _ (hg.keep kk) _ (Keep.refl _)) ?_))))))
  rintro e w2 ⟨A, c, rfl, k2, hr⟩
  obtain ⟨ps, hps⟩ : ∃ ps, ps = Lib.split (fileS s).2.1 [58] := ⟨_, rfl⟩
  rw [← hps] at hr
  rw [← hps]
  have kk := kk.trans k2
  have hgk := hg.keep kk
  refine WO.rd (is := [2]) (js := []) (Keep.refl _) (Rn.s rfl Yv.as (Rn.nil)) (WO.done ?_)
  refine Wp.seq (Wp.seq (Wp.regionL (l := [0, 1, 2, 3, 4, 5, 6, 7, 8, 9]) (WO.rd (is := [0, 1, 2, 3]) (js := [4, 5, 6, 7, 8, 9]) (Keep.refl _) (Rn.s rfl Yv.mv (Rn.s rfl (Yv.len_v (e := 9) (m := 1)) (Rn.s rfl (Yv.cmp _ rfl) (Rn.s rfl Yv.mv (Rn.nil))))) (WO.or (js := []) 26 32 (hg := rfl) (hf := fun h3 q1 => have h3 := bne_eq_false_iff_eq.1 h3; WO.rd (is := [4, 5, 6]) (js := [7, 8, 9]) (Keep.refl _) (Rn.s rfl Yv.mv (Rn.s rfl (Yv.ia (e := 9) hr (by omega) (by omega)) (Rn.s rfl (Yv.ld (hr.ld (i := 2) 0 (by omega) (by omega))) (Rn.nil)))) (WO.cv rfl (hasPrefix_cv (nth ps 2) errS _) (Keep.refl _) (FnOk.of Tryz.func32) (fun w2 k2 => WO.rd (is := [8, 9]) (js := []) ((Keep.refl _).trans k2) (Rn.s rfl Yv.not (Rn.s rfl Yv.pick_f (Rn.nil))) (WO.e 6 (q1 _ ((Keep.refl _).trans k2)))))) (ht := fun _ q1 => WO.rd (is := [4, 5, 6, 7, 8, 9]) (js := []) (Keep.refl _) (Rn.no rfl (Rn.no rfl (Rn.no rfl (Rn.no rfl (Rn.no rfl (Rn.s rfl Yv.pick_t Rn.nil)))))) (WO.e 6 (q1 _ (Keep.refl _)))) (k := fun w1 k1 => WO.done ?_)))))
  have kk := kk.trans k1
  refine Wp.cond rfl (fun h2 => ?_) (fun h2 => ?_)
  · refine Wp.seq (Wp.reads (is := [0]) (Keep.refl _) (Rn.s rfl Yv.as (Rn.nil)) ?_)
    refine Wp.ret (Fin.ret (Res.one rfl rfl) ⟨kk, ?_⟩)
    have e : readS s = none := by
      simp only [readS, h, if_true, ← hps]
      rw [if_pos]
      simpa using h2
    rw [e]
  have h3 : ¬ ((ps.length : Int) ≠ 3 ∨ (!(Lib.hasPrefix (nth ps 2) errS)) = true) := by simpa using h2
  have h4 : ps.length = 3 := by
    rcases Nat.decEq ps.length 3 with h' | h'
    · exact absurd (.inl (by omega)) h3
    · exact h'
  have h5 : Lib.hasPrefix (nth ps 2) errS = true := by
    cases h' : Lib.hasPrefix (nth ps 2) errS with
    | true => rfl
    | false => exact absurd (.inr (by simp [h'])) h3
  have l0 := nth_split_len (fileS s).2.1 [58] 0
  have l1 := nth_split_len (fileS s).2.1 [58] 1
  have l2 := nth_split_len (fileS s).2.1 [58] 2
  rw [← hps] at l0 l1 l2
  have l7 : 7 ≤ (nth ps 2).length := by
    have := List.isPrefixOf_iff_prefix.1 h5
    have := this.length_le
    simpa [errS] using this
  have hr := hr.keep k1
  have hgk := hgk.keep k1
  refine Wp.skip (Wp.seq (Wp.regionL (l := [0, 1, 2, 3, 4, 5, 6, 7, 8]) (WO.rd (is := [0, 1, 2]) (js := [3, 4, 5, 6, 7, 8]) (Keep.refl _) (Rn.s rfl Yv.mv (Rn.s rfl (Yv.ia (e := 9) hr (by omega) (by omega)) (Rn.s rfl (Yv.ld (hr.ld (i := 0) 0 (by omega) (by omega))) (Rn.nil)))) (WO.cv rfl (number_cv (nth ps 0) (by omega) _ hgk) (Keep.refl _) (FnOk.of Tryz.func33) (fun wa1 ka1 => WO.rd (is := [4, 5, 6, 7, 8]) (js := []) ((Keep.refl _).trans ka1) (Rn.s rfl Yv.mv (Rn.s rfl Yv.ex (Rn.s rfl Yv.ex (Rn.s rfl Yv.as (Rn.s rfl Yv.as (Rn.nil)))))) (WO.done ?_))))))
  refine Wp.seq (Wp.regionL (l := [0, 1, 2, 3, 4, 5, 6, 7, 8]) (WO.rd (is := [0, 1, 2]) (js := [3, 4, 5, 6, 7, 8]) ka1 (Rn.s rfl Yv.mv (Rn.s rfl (Yv.ia (e := 9) hr (by omega) (by omega)) (Rn.s rfl (Yv.ld (hr.ld (i := 1) 0 (by omega) (by omega))) (Rn.nil)))) (WO.cv rfl (number_cv (nth ps 1) (by omega) _ hgk) ka1 (FnOk.of Tryz.func33) (fun wb1 kb1 => WO.rd (is := [4, 5, 6, 7, 8]) (js := []) (ka1.trans kb1) (Rn.s rfl Yv.mv (Rn.s rfl Yv.ex (Rn.s rfl Yv.ex (Rn.s rfl Yv.as (Rn.s rfl Yv.as (Rn.nil)))))) (WO.done ?_)))))
  refine Wp.seq (Wp.regionL (l := [0, 1, 2, 3, 4, 5, 6, 7, 8, 9]) (WO.rd (is := [0, 1, 2, 3]) (js := [4, 5, 6, 7, 8, 9]) (ka1.trans kb1) (Rn.s rfl Yv.mv (Rn.s rfl (Yv.ia (e := 9) hr (by omega) (by omega)) (Rn.s rfl (Yv.ld (hr.ld (i := 2) 0 (by omega) (by omega))) (Rn.s rfl (Yv.ss_f (by decide) (by omega)) (Rn.nil))))) (WO.cv rfl (number_cv ((nth ps 2).drop 7) (by simp; omega) _ hgk) (ka1.trans kb1) (FnOk.of Tryz.func33) (fun wc1 kc1 => WO.rd (is := [5, 6, 7, 8, 9]) (js := []) ((ka1.trans kb1).trans kc1) (Rn.s rfl Yv.mv (Rn.s rfl Yv.ex (Rn.s rfl Yv.ex (Rn.s rfl Yv.as (Rn.s rfl Yv.as (Rn.nil)))))) (WO.done ?_)))))
  have kk := ((kk.trans ka1).trans kb1).trans kc1
  refine Wp.seq (Wp.seq (Wp.reads (is := [0, 1, 2, 3, 4, 5, 6, 7, 8, 9]) (Keep.refl _) (Rn.s rfl Yv.mv (Rn.s rfl Yv.not (Rn.s rfl Yv.mv (Rn.or (is := [3, 4, 5]) (js := [6, 7, 8, 9]) (t := 57) (d := 60) (hg := rfl) (hf := fun h2 => Rn.s rfl Yv.mv (Rn.s rfl Yv.not (Rn.s rfl Yv.pick_f ((Rn.e 3 rfl rfl))))) (ht := fun _ => Rn.no rfl (Rn.no rfl (Rn.s rfl Yv.pick_t (Rn.e 3 rfl rfl)))) (k := Rn.s rfl Yv.mv (Rn.or (is := [7, 8, 9]) (js := []) (t := 61) (d := 64) (hg := rfl) (hf := fun h6 => Rn.s rfl Yv.mv (Rn.s rfl Yv.not (Rn.s rfl Yv.pick_f ((Rn.e 3 rfl rfl))))) (ht := fun _ => Rn.no rfl (Rn.no rfl (Rn.s rfl Yv.pick_t (Rn.e 3 rfl rfl)))) (k := Rn.nil))))))) ?_))
  have e : readS s = if (numS (nth ps 0)).2 && (numS (nth ps 1)).2 && (numS ((nth ps 2).drop 7)).2 then some ⟨(numS ((nth ps 2).drop 7)).1, (fileS s).1, (numS (nth ps 0)).1, (numS (nth ps 1)).1⟩ else none := by
    simp only [readS, h, if_true, ← hps]
    rw [if_neg h3]
  refine Wp.cond rfl (fun h6 => ?_) (fun h6 => ?_)
  · refine Wp.seq (Wp.reads (is := [0]) (Keep.refl _) (Rn.s rfl Yv.as (Rn.nil)) ?_)
    refine Wp.ret (Fin.ret (Res.one rfl rfl) ⟨kk, ?_⟩)
    rw [e, if_neg]
    intro h7
    simp only [Bool.and_eq_true] at h7
    obtain ⟨⟨q1, q2⟩, q3⟩ := h7
    have q3' : (numS ((nth ps 2).drop (7 : Int).toNat)).2 = true := q3
    simp [q1, q2] at h6
    rw [q3] at h6
    cases h6
  · refine Wp.skip (Wp.seq (Wp.regionL (l := [0, 1, 2, 3, 4, 5, 6, 7, 8]) (WO.rd (is := [0, 1, 2, 3, 4, 5]) (js := [6, 7, 8]) (Keep.refl _) (Rn.s rfl Yv.mv (Rn.s rfl Yv.mv (Rn.s rfl Yv.mv (Rn.s rfl Yv.mv (Rn.s rfl (Yv.bd (cs := Ft.cs ⟨(numS ((nth ps 2).drop 7)).1, (fileS s).1, (numS (nth ps 0)).1, (numS (nth ps 1)).1⟩)) (Rn.s rfl (Yv.bd (cs := Ft.cs ⟨(numS ((nth ps 2).drop 7)).1, (fileS s).1, (numS (nth ps 0)).1, (numS (nth ps 1)).1⟩)) (Rn.nil))))))) (WO.box rfl fun b w5 k5 g5 c5 => WO.rd (is := [7, 8]) (js := []) (Keep.refl _) (Rn.s rfl Yv.mki (Rn.s rfl Yv.as (Rn.nil))) (WO.done ?_)))))
    refine Wp.ret (Fin.ret (Res.one rfl rfl) ⟨kk.trans k5, ?_⟩)
    rw [e, if_pos]
    · exact ⟨b, rfl, c5⟩
    · simp only [Bool.or_eq_false_iff, Bool.not_eq_false'] at h6
      obtain ⟨⟨q1, q2⟩, q3⟩ := h6
      have q3' : (numS ((nth ps 2).drop 7)).2 = true := q3
      simp [q1, q2, q3']
theorem of_calls (f : Ft) (b : Nat) (w : World) (hc : Cells w b f.cs) (hg : Gl w) : Calls Tryz.prog 20 #[.iface 63 (.pointer (some ⟨b, 0, none⟩))] w fun e w' => e = .returned (.agg f.cs.toArray) ∧ Keep w w' := by
  refine calls_of_Wp (vs := [_]) Tryz.func20 ?_
  refine Wp.seq (Wp.regionL (l := [0]) (WO.act (hc := rfl) (he := Ef.allocL (vs := (Ft.cs ⟨0, [], 0, 0⟩)) (St.init w) (fun bx1 wx1 kx1 hsx1 => WO.done ?_))))
  refine Wp.seq (Wp.regionL (l := [0]) (WO.act (hc := rfl) (he := Ef.allocL (vs := [.pointer none]) hsx1 (fun by1 wy1 ky1 hsy1 => WO.done ?_))))
  have hgy := hg.keep (kx1.trans ky1)
  refine Wp.seq (Wp.seq (Wp.regionL (l := [0, 1, 2]) (WO.rd (is := [0, 1]) (js := [2]) (Keep.refl _) (Rn.s rfl Yv.mv (Rn.s rfl Yv.mki (Rn.nil))) (WO.act (hc := rfl) (he := Ef.callv Tryz.func34 (Calls.mono (as_hit ⟨b, 0, none⟩ ⟨by1, 0, none⟩ (.pointer none) wy1 hgy.errT (hsy1.cell 0 0) (cells_frozen (hsy1.at_ 0) 0)) ?_))))))
  rintro e w2 ⟨rfl, rfl⟩
  refine WO.done ?_
  have kq : Keep wy1 ((((wy1.alloc (.cells #[.pointer (some ⟨by1, 0, none⟩)] 67)).alloc (.cells #[.pointer (some ⟨9, 67, none⟩), .pointer (some ⟨wy1.heap.size, 0, none⟩), .int .u64 150] 84)).alloc (.cells #[.pointer (some ⟨9, 67, none⟩), .pointer (some ⟨wy1.heap.size, 0, none⟩), .int .u64 150] 84)).alloc (.cells #[.pointer (some ⟨b, 0, none⟩)] 63)) :=
    (((Keep.alloc _ _).trans (Keep.alloc _ _)).trans (Keep.alloc _ _)).trans (Keep.alloc _ _)
  have hs3 := (hsy1.quiet kq).setCell 0 (.pointer (some ⟨b, 0, none⟩))
  refine Wp.cond_t rfl ?_
  have hc3 := hc.keep hs3.keep
  refine Wp.seq (Wp.regionL (l := [0, 1, 2, 3, 4]) (WO.rd (is := [0, 1, 2, 3]) (js := [4]) (Keep.refl _) (Rn.s rfl (Yv.ld (hs3.cell 0 0)) (Rn.s rfl Yv.nc (Rn.s rfl (Yv.fa (off := 0)) (Rn.s rfl (Yv.ldb hc3) (Rn.nil))))) (WO.act (hc := rfl) (he := Ef.stores hs3 1 (fun wz1 hsz1 => WO.done ?_)))))
  exact Wp.ret (Fin.ret (resAgg rfl rfl (hsz1.cells 0) rfl) ⟨rfl, hsz1.keep⟩)
def parseS (s : Bs) : Ft × Int := match readS s with
  | some f => (f, 0)
  | none => (⟨0, [], 0, 0⟩, 30)
theorem parse_cv (s : Bs) (hl : s.length ≤ 100000000) (w0 : World) (hg : Gl w0) : Cv Tryz.prog 9 [S s] (.tuple #[.agg (parseS s).1.cs.toArray, .int .i64 (parseS s).2]) w0 := by
  intro w hk
  have hg := hg.keep hk
  refine calls_of_Wp (vs := [_]) Tryz.func9 ?_
  refine Wp.seq (Wp.regionL (l := [0, 1]) (WO.act (hc := rfl) (he := Ef.allocL (vs := (Ft.cs ⟨0, [], 0, 0⟩)) (St.init w) (fun bx1 wx1 kx1 hsx1 => WO.rd (is := [1]) (js := []) ((Keep.refl _).trans kx1) (Rn.s rfl Yv.as (Rn.nil)) (WO.done ?_)))))
  have hgx := hg.keep kx1
  refine Wp.seq (Wp.regionL (l := [0, 1, 2]) (WO.rd (is := [0]) (js := [1, 2]) (Keep.refl _) (Rn.s rfl Yv.mv (Rn.nil)) (WO.act (hc := rfl) (he := Ef.callv Tryz.func19 (Calls.mono (diagread_calls s hl wx1 hgx wx1 (Keep.refl _)) ?_)))))
  rintro e w2 ⟨k2, hq⟩
  have hs2 := hsx1.quiet k2
  have hg2 := hgx.keep k2
  cases hr : readS s with
  | none =>
    rw [hr] at hq
    obtain rfl : e = .returned .nilIface := hq
    refine WO.rd (is := [2]) (js := []) (Keep.refl _) (Rn.s rfl Yv.as (Rn.nil)) (WO.done ?_)
    refine Wp.seq (Wp.seq (Wp.reads (is := [0, 1]) (Keep.refl _) (Rn.s rfl Yv.mv (Rn.s rfl Yv.ifn_t (Rn.nil))) ?_))
    refine Wp.cond_t rfl ?_
    refine Wp.seq (Wp.regionL (l := [0, 1, 2]) (WO.rd (is := [0]) (js := [1, 2]) (Keep.refl _) (Rn.s rfl (Yv.bd (cs := Ft.cs ⟨0, [], 0, 0⟩)) (Rn.nil)) (WO.act (hc := rfl) (he := Ef.stores hs2 0 (fun wz1 hsz1 => WO.rd (is := [2]) (js := []) (Keep.refl _) (Rn.s rfl Yv.as (Rn.nil)) (WO.done ?_))))))
    refine Wp.ret (Fin.ret (resAT rfl rfl rfl (hsz1.cells 0)) ⟨?_, hsz1.keep⟩)
    simp only [parseS, hr]
    rfl
  | some f =>
    rw [hr] at hq
    obtain ⟨b, rfl, hc⟩ := hq
    refine WO.rd (is := [2]) (js := []) (Keep.refl _) (Rn.s rfl Yv.as (Rn.nil)) (WO.done ?_)
    refine Wp.seq (Wp.seq (Wp.reads (is := [0, 1]) (Keep.refl _) (Rn.s rfl Yv.mv (Rn.s rfl Yv.ifn_f (Rn.nil))) ?_))
    refine Wp.cond_f rfl (Wp.skip ?_)
    refine Wp.seq (Wp.regionL (l := [0, 1, 2, 3]) (WO.rd (is := [0]) (js := [1, 2, 3]) (Keep.refl _) (Rn.s rfl Yv.mv (Rn.nil)) (WO.act (hc := rfl) (he := Ef.callv Tryz.func20 (Calls.mono (of_calls f b w2 hc hg2) ?_)))))
    rintro e w3 ⟨rfl, k3⟩
    have hs3 := hs2.quiet k3
    refine WO.act (hc := rfl) (he := Ef.stores hs3 0 fun w4 hs4 => ?_)
    refine WO.rd (is := [3]) (js := []) (Keep.refl _) (Rn.s rfl Yv.as (Rn.nil)) (WO.done ?_)
    refine Wp.ret (Fin.ret (resAT rfl rfl rfl (hs4.cells 0)) ⟨?_, hs4.keep⟩)
    simp only [parseS, hr]
    rfl
end Go.Proofs.YtkobcbjblllhlaaGreatDoor.C
