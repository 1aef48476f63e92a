/- What a line says: scalar.Read. -/
import Derived.Test.YtgjhbapbomdpbaaDoorJ4
set_option linter.unusedVariables false
set_option linter.unusedSimpArgs false
set_option maxRecDepth 10000
namespace Go.Proofs.YtgjhbapbomdpbaaDoor.C
open Go.RowKit Go.Proofs.YtgjhbapbomdpbaaDoor.Sh
abbrev ChO (bo bc be : Nat) (o : Ct) (col e : Int) : List Chunk := [Ch.cells be 25 [.int .i64 e], Ch.cells bc 3 [.int .i64 col], Ch.cells bo 80 o.cs]
/-- the deferred closure, where nothing has panicked -/
theorem rec_calm (bo bc be : Nat) (w : World) : CallsDIn (Fr none) 0 Tryd.prog 54 [PB bo, PB bc, PB be].toArray .returning w fun e u' w' => e = .returned (.tuple #[]) ∧ u' = .returning ∧ w' = w := by
  refine callsD_of_WpU Tryd.func54 ?_
  refine WpU.seq (WpU.region (WSO.rec_none rfl (WSO.rd rfl Yv.as (WSO.done ?_))))
  refine WpU.plain ?_
  refine Wp.seq (Wp.reads (is := [0, 1]) (Keep.refl _) (Rn.s rfl Yv.mv (Rn.s rfl Yv.ifn_nn (Rn.nil))) ?_)
  refine Wp.cond_f rfl (Wp.skip ?_)
  exact ⟨rfl, Fin.normal (Res.none rfl) ⟨rfl, rfl, rfl⟩⟩
/-- the deferred closure, where reading has given up -/
theorem rec_stop (bo bc be : Nat) (why col : Int) (o : Ct) (c0 e0 : Int) (w : World) (hs : St w [be, bc, bo] w (ChO bo bc be o c0 e0)) :
    CallsDIn (Fr none) 0 Tryd.prog 54 [PB bo, PB bc, PB be].toArray (.panicking [{ v := stopV why col, recovered := false }]) w fun e u' w' => e = .returned (.tuple #[]) ∧ u' = .panicking [{ v := stopV why col, recovered := true }] ∧ St w [be, bc, bo] w' (ChO bo bc be ct0 col why) := by
  refine callsD_of_WpU Tryd.func54 ?_
  refine WpU.seq (WpU.region (WSO.rec_some rfl (WSO.rd rfl Yv.as (WSO.done ?_))))
  refine WpU.plain ?_
  refine Wp.seq (Wp.reads (is := [0, 1]) (Keep.refl _) (Rn.s rfl Yv.mv (Rn.s rfl Yv.ifn_ne (Rn.nil))) ?_)
  refine Wp.cond_t rfl ?_
  refine Wp.seq (Wp.regionL (l := [0, 1, 2, 3, 4, 5, 6, 7]) (WO.rd (is := [0, 1, 2, 3, 4]) (js := [5, 6, 7]) (Keep.refl _) (Rn.s rfl Yv.mv (Rn.s rfl Yv.ta_t (Rn.s rfl Yv.mv (Rn.s rfl Yv.ex (Rn.s rfl Yv.ex (Rn.nil)))))) (WO.act (hc := rfl) (he := Ef.allocL (vs := [.int .i64 0, .int .i64 0]) hs (fun b w1 k1 hs1 => WO.act (hc := rfl) (he := Ef.stores hs1 0 (fun w2 hs2 => WO.rd (is := [7]) (js := []) (Keep.refl _) (Rn.s rfl Yv.as (Rn.nil)) (WO.done ?_))))))))
  refine Wp.seq (Wp.seq (Wp.reads (is := [0, 1]) (Keep.refl _) (Rn.s rfl Yv.mv (Rn.s rfl Yv.not (Rn.nil))) ?_))
  refine Wp.cond_f rfl (Wp.skip ?_)
  have hs2 : St w [be, bc, bo] w2 (Ch.cells b 119 [.int .i64 why, .int .i64 col] :: ChO bo bc be o c0 e0) := hs2
  have c4 := hs2.cells 0
  have hs2 := hs2.quiet (Keep.drew _)
  have ld1 : ∀ {W : World} {D : List Chunk}, St w [be, bc, bo] W D → (∃ i, D[i]? = some (Ch.cells b 119 [.int .i64 why, .int .i64 col])) → W.cell? ⟨b, 0 + 1, none⟩ = some (.int .i64 col) ∧ W.cell? ⟨b, 0 + 0, none⟩ = some (.int .i64 why) :=
    fun h ⟨i, hi⟩ => ⟨(h.cells i hi).at_ 1, (h.cells i hi).at_ 0⟩
  refine Wp.draws [2, 4, 5, 6, 7] mixed (WD.rd (is := [0, 1, 3]) (fun _ _ _ _ _ h => h) (Keep.drew _) (Rn.s rfl (Yv.bd (cs := Ct.cs ct0)) (Rn.s rfl (Yv.fa (off := 1)) (Rn.s rfl (Yv.fa (off := 0)) (Rn.nil)))) (WD.act3 2 4 5 (hci := rfl) (hcj := rfl) (hck := rfl) (hi := (Ef.rd (Yv.ld (ld1 (by assumption) (by first | exact ⟨0, rfl⟩ | exact ⟨1, rfl⟩ | exact ⟨2, rfl⟩ | exact ⟨3, rfl⟩)).1) ⟨fun hn => (hn (by decide)).elim, WD.act2 4 5 (hci := rfl) (hcj := rfl) (hi := (Ef.rd (Yv.ld (ld1 (by assumption) (by first | exact ⟨0, rfl⟩ | exact ⟨1, rfl⟩ | exact ⟨2, rfl⟩ | exact ⟨3, rfl⟩)).2) ⟨fun hn => (hn (by decide)).elim, WD.act 5 (hc := rfl) (he := (Ef.stores hs2 3 (fun wx3 hsx3 => ⟨fun hn => (hn (by decide)).elim, WD.act 6 (hc := rfl) (he := (Ef.store hsx3 3 (fun wx4 hsx4 => ⟨fun hn => (hn (by decide)).elim, WD.act 7 (hc := rfl) (he := (Ef.store hsx4 3 (fun wx5 hsx5 => ⟨fun hn => (hn (by decide)).elim, WD.done ?_⟩)))⟩)))⟩)))⟩)) (hj := (Ef.stores hs2 3 (fun wx6 hsx6 => ⟨fun hn => (hn (by decide)).elim, WD.act2 4 6 (hci := rfl) (hcj := rfl) (hi := (Ef.rd (Yv.ld (ld1 (by assumption) (by first | exact ⟨0, rfl⟩ | exact ⟨1, rfl⟩ | exact ⟨2, rfl⟩ | exact ⟨3, rfl⟩)).2) ⟨fun hn => (hn (by decide)).elim, WD.act 6 (hc := rfl) (he := (Ef.store hsx6 3 (fun wx8 hsx8 => ⟨fun hn => (hn (by decide)).elim, WD.act 7 (hc := rfl) (he := (Ef.store hsx8 3 (fun wx9 hsx9 => ⟨fun hn => (hn (by decide)).elim, WD.done ?_⟩)))⟩)))⟩)) (hj := (Ef.store hsx6 3 (fun wx10 hsx10 => ⟨fun hn => (hn (by decide)).elim, WD.act 4 (hc := rfl) (he := (Ef.rd (Yv.ld (ld1 (by assumption) (by first | exact ⟨0, rfl⟩ | exact ⟨1, rfl⟩ | exact ⟨2, rfl⟩ | exact ⟨3, rfl⟩)).2) ⟨fun hn => (hn (by decide)).elim, WD.act 7 (hc := rfl) (he := (Ef.store hsx10 3 (fun wx12 hsx12 => ⟨fun hn => (hn (by decide)).elim, WD.done ?_⟩)))⟩))⟩)))⟩)))⟩)) (hj := (Ef.rd (Yv.ld (ld1 (by assumption) (by first | exact ⟨0, rfl⟩ | exact ⟨1, rfl⟩ | exact ⟨2, rfl⟩ | exact ⟨3, rfl⟩)).2) ⟨fun hn => (hn (by decide)).elim, WD.act2 2 5 (hci := rfl) (hcj := rfl) (hi := (Ef.rd (Yv.ld (ld1 (by assumption) (by first | exact ⟨0, rfl⟩ | exact ⟨1, rfl⟩ | exact ⟨2, rfl⟩ | exact ⟨3, rfl⟩)).1) ⟨fun hn => (hn (by decide)).elim, WD.act 5 (hc := rfl) (he := (Ef.stores hs2 3 (fun wx15 hsx15 => ⟨fun hn => (hn (by decide)).elim, WD.act 6 (hc := rfl) (he := (Ef.store hsx15 3 (fun wx16 hsx16 => ⟨fun hn => (hn (by decide)).elim, WD.act 7 (hc := rfl) (he := (Ef.store hsx16 3 (fun wx17 hsx17 => ⟨fun hn => (hn (by decide)).elim, WD.done ?_⟩)))⟩)))⟩)))⟩)) (hj := (Ef.stores hs2 3 (fun wx18 hsx18 => ⟨fun hn => (hn (by decide)).elim, WD.act 2 (hc := rfl) (he := (Ef.rd (Yv.ld (ld1 (by assumption) (by first | exact ⟨0, rfl⟩ | exact ⟨1, rfl⟩ | exact ⟨2, rfl⟩ | exact ⟨3, rfl⟩)).1) ⟨fun hn => (hn (by decide)).elim, WD.act 6 (hc := rfl) (he := (Ef.store hsx18 3 (fun wx20 hsx20 => ⟨fun hn => (hn (by decide)).elim, WD.act 7 (hc := rfl) (he := (Ef.store hsx20 3 (fun wx21 hsx21 => ⟨fun hn => (hn (by decide)).elim, WD.done ?_⟩)))⟩)))⟩))⟩)))⟩)) (hk := (Ef.stores hs2 3 (fun wx22 hsx22 => ⟨fun hn => (hn (by decide)).elim, WD.act2 2 4 (hci := rfl) (hcj := rfl) (hi := (Ef.rd (Yv.ld (ld1 (by assumption) (by first | exact ⟨0, rfl⟩ | exact ⟨1, rfl⟩ | exact ⟨2, rfl⟩ | exact ⟨3, rfl⟩)).1) ⟨fun hn => (hn (by decide)).elim, WD.act2 4 6 (hci := rfl) (hcj := rfl) (hi := (Ef.rd (Yv.ld (ld1 (by assumption) (by first | exact ⟨0, rfl⟩ | exact ⟨1, rfl⟩ | exact ⟨2, rfl⟩ | exact ⟨3, rfl⟩)).2) ⟨fun hn => (hn (by decide)).elim, WD.act 6 (hc := rfl) (he := (Ef.store hsx22 3 (fun wx25 hsx25 => ⟨fun hn => (hn (by decide)).elim, WD.act 7 (hc := rfl) (he := (Ef.store hsx25 3 (fun wx26 hsx26 => ⟨fun hn => (hn (by decide)).elim, WD.done ?_⟩)))⟩)))⟩)) (hj := (Ef.store hsx22 3 (fun wx27 hsx27 => ⟨fun hn => (hn (by decide)).elim, WD.act 4 (hc := rfl) (he := (Ef.rd (Yv.ld (ld1 (by assumption) (by first | exact ⟨0, rfl⟩ | exact ⟨1, rfl⟩ | exact ⟨2, rfl⟩ | exact ⟨3, rfl⟩)).2) ⟨fun hn => (hn (by decide)).elim, WD.act 7 (hc := rfl) (he := (Ef.store hsx27 3 (fun wx29 hsx29 => ⟨fun hn => (hn (by decide)).elim, WD.done ?_⟩)))⟩))⟩)))⟩)) (hj := (Ef.rd (Yv.ld (ld1 (by assumption) (by first | exact ⟨0, rfl⟩ | exact ⟨1, rfl⟩ | exact ⟨2, rfl⟩ | exact ⟨3, rfl⟩)).2) ⟨fun hn => (hn (by decide)).elim, WD.act 2 (hc := rfl) (he := (Ef.rd (Yv.ld (ld1 (by assumption) (by first | exact ⟨0, rfl⟩ | exact ⟨1, rfl⟩ | exact ⟨2, rfl⟩ | exact ⟨3, rfl⟩)).1) ⟨fun hn => (hn (by decide)).elim, WD.act 6 (hc := rfl) (he := (Ef.store hsx22 3 (fun wx32 hsx32 => ⟨fun hn => (hn (by decide)).elim, WD.act 7 (hc := rfl) (he := (Ef.store hsx32 3 (fun wx33 hsx33 => ⟨fun hn => (hn (by decide)).elim, WD.done ?_⟩)))⟩)))⟩))⟩))⟩)))))
  all_goals exact ⟨rfl, Fin.normal (Res.none rfl) ⟨rfl, rfl, St.pick (by assumption) [0, 1, 2]⟩⟩
/-! ### Read -/
theorem tailS_bd {s : Bs} {n : Nat} {key : Bs} {a : Int} {o : Ct} (h : tailS s n key = .ok a o) : 0 ≤ a ∧ a ≤ s.length := by
  unfold tailS at h
  split at h
  · cases h
  · split at h
    · cases h
    · injection h with h
      omega
theorem headS_bd {s : Bs} {a : Int} {o : Ct} (h : headS s = .ok a o) : 0 ≤ a ∧ a ≤ s.length := by
  unfold headS at h
  split at h
  · rename_i hs
    injection h with h
    have : 1 ≤ s.length := by
      rcases hs with rfl | hs
      · simp
      · cases s with
        | nil => simp [Lib.hasPrefix, List.isPrefixOf] at hs
        | cons => simp
    omega
  · split at h
    · split at h
      · split at h
        · cases h
        · exact tailS_bd h
      · cases h
    · split at h
      · exact tailS_bd h
      · cases h
/-- what scalar.Read hands back -/
def readC (s : Bs) : Ct × Int × Int :=
  match headS s with
  | .err why col => (ct0, col, why)
  | .ok a o => match valueS s (gapN s a.toNat) o with
    | .err why col => (ct0, col, why)
    | .ok _ o' => (o', 0, 0)
abbrev MtE (b : Nat) : Enc FuncId := ⟨1, fun f => [.func (.func f) #[PB b] #[]], fun _ => rfl⟩
abbrev fns : List FuncId := [55, 56, 57]
/-- how far reading is, and with what -/
def Stg (s : Bs) (i : Nat) (a : Int) (o : Ct) : Prop :=
  match i with
  | 0 => a = 0 ∧ o = ct0
  | 1 => headS s = .ok a o
  | 2 => ∃ a1, headS s = .ok a1 o ∧ a = (gapN s a1.toNat : Nat)
  | _ => ∃ a1 o1, headS s = .ok a1 o1 ∧ valueS s (gapN s a1.toNat) o1 = .ok a o
/-- one of the three steps -/
theorem step_calls (b : Nat) (s : Bs) (i : Nat) (a : Int) (o : Ct) (hi : i < 3) (hl : s.length ≤ 1000000) (hst : Stg s i a o) (w0 : World) (hg0 : Gm w0) (hb0 : w0.heap.size ≤ b) (w : World) (hk0 : Keep w0 w) (hok : (ChR b s a o).ok w) :
    Calls Tryd.prog (nth fns (i : Int)) #[PB b] w fun e w' => (∃ a' o', Stg s (i + 1) a' o' ∧ e = .returned (.tuple #[]) ∧ St w [b] w' [ChR b s a' o']) ∨ (∃ why col, readC s = (ct0, col, why) ∧ e = .panicked [{ v := stopV why col, recovered := false }] ∧ St w [b] w' []) := by
  match i, hi, hst with
  | 0, _, hst =>
    obtain ⟨rfl, rfl⟩ := hst
    refine (head_calls b s ct0 hl w hok).mono fun e w' hp => ?_
    cases hh : headS s with
    | ok a' o' =>
      rw [hh] at hp
      exact .inl ⟨a', o', hh, hp.1, hp.2⟩
    | err why col =>
      rw [hh] at hp
      exact .inr ⟨why, col, by simp only [readC, hh], hp.1, hp.2⟩
  | 1, _, hst =>
    have hbd := headS_bd hst
    have e : a = ((a.toNat : Nat) : Int) := by omega
    rw [e] at hok
    refine (gap_cu b s a.toNat o hl (by omega) w hok).mono fun e w' hp => ?_
    exact .inl ⟨_, o, ⟨a, hst, rfl⟩, hp.1, hp.2⟩
  | 2, _, hst =>
    obtain ⟨a1, hh, rfl⟩ := hst
    have hbd := headS_bd hh
    have hgl := gapN_le s a1.toNat (by omega)
    refine (value_calls b s (gapN s a1.toNat) o hl hgl.2 w0 hg0 hb0 w hk0 hok).mono fun e w' hp => ?_
    cases hv : valueS s (gapN s a1.toNat) o with
    | ok a' o' =>
      rw [hv] at hp
      exact .inl ⟨a', o', ⟨a1, o, hh, hv⟩, hp.1, hp.2⟩
    | err why col =>
      rw [hv] at hp
      exact .inr ⟨why, col, by simp only [readC, hh, hv], hp.1, hp.2⟩
theorem fns_ok (i : Nat) (h : i < 3) : FnOk Tryd.prog (nth fns (i : Int)) := by
  match i, h with
  | 0, _ => exact FnOk.of Tryd.func55
  | 1, _ => exact FnOk.of Tryd.func56
  | 2, _ => exact FnOk.of Tryd.func57
theorem resC3 {P : Program} {fn : Func} {N n : Nat} {ρ : Env} {w : World} {t u v bt bu bv : Nat} {ty tu tv : TypeId} {vs : List Value} {x y : Value} (h : fn.results = #[.cell t ty, .cell u tu, .cell v tv]) (hp : lk ρ t = some (PB bt)) (hq : lk ρ u = some (PB bu)) (hr : lk ρ v = some (PB bv))
    (hc : Cells w bt vs) (hx : Cells w bu [x]) (hy : Cells w bv [y]) (hn : vs.length = n := by rfl) (ht : agB P ty n = true := by kernel_rfl) (hu : scB P tu = true := by kernel_rfl) (hv : scB P tv = true := by kernel_rfl) : Res P fn N ρ w (.tuple #[.agg vs.toArray, x, y]) := fun a ds ha => by
  have h1 := ha.val t _ hp
  have h2 := ha.val u _ hq
  have h3 := ha.val v _ hr
  have e1 : (loadVar ty ⟨bt, 0, none⟩).run P w = .ok (.agg vs.toArray) w := run_loadVar_ag (agB_of ht) ⟨bt, 0, none⟩ vs hn (fun j v hj => by rw [add_off, Nat.zero_add]; exact hc j v hj)
  have e2 : (loadVar tu ⟨bu, 0, none⟩).run P w = .ok x w := by simp [loadVar, run_isAgg_sc (scB_of hu), hx 0 x rfl]
  have e3 : (loadVar tv ⟨bv, 0, none⟩).run P w = .ok y w := by simp [loadVar, run_isAgg_sc (scB_of hv), hy 0 y rfl]
  simp only [results, h]
  simp at h1 h2 h3
  simp [h1, h2, h3, e1, e2, e3, asAddr]
theorem sread_cv (s : Bs) (hl : s.length ≤ 1000000) (w0 : World) (hg : Gm w0) : Cv Tryd.prog 34 [S s] (.tuple #[.agg (readC s).1.cs.toArray, .int .i64 (readC s).2.1, .int .i64 (readC s).2.2]) w0 := by
  intro w hk
  have hg := hg.keep hk
  refine calls_of_WpD (vs := [_]) Tryd.func34 ?_
  refine Wp.seq (Wp.regionL (l := [0, 1, 2]) (WO.act (hc := rfl) (he := Ef.allocL (vs := [.int .i64 0, S [], .bool false, S [], .int .i64 0, .int .i64 0, .int .i64 0]) (St.init w) (fun ba1 wa1 ka1 hsa1 => WO.act (hc := rfl) (he := Ef.allocL (vs := [.int .i64 0]) hsa1 (fun ba2 wa2 ka2 hsa2 => WO.act (hc := rfl) (he := Ef.allocL (vs := [.int .i64 0]) hsa2 (fun ba3 wa3 ka3 hsa3 => WO.done ?_))))))))
  refine Wp.seq (Wp.regionL (l := [0, 1, 2, 3]) (WO.rd (is := [0, 1]) (js := [2, 3]) (Keep.refl _) (Rn.s rfl Yv.mv (Rn.s rfl (Yv.bd (cs := rrcs s 0 ct0)) (Rn.nil))) (WO.act (hc := rfl) (he := Ef.boxL (rrcs s 0 ct0) hsa3 (fun bb1 wb1 kb1 hsb1 => WO.rd (is := [3]) (js := []) ((Keep.refl _).trans kb1) (Rn.s rfl Yv.as (Rn.nil)) (WO.done ?_))))))
  refine Wp.seq (Wp.regionL (l := [0, 1]) (WO.rd (is := [0]) (js := [1]) (Keep.refl _) (Rn.s rfl Yv.mf (Rn.nil)) (WO.defer (WO.done ?_))))
  have hrb := (hsb1.rng _ (List.mem_cons_self ..) bb1 (by simp [Ch.cells])).1
  have hb0 : w.heap.size ≤ bb1 := by
    rcases hrb with h | h
    · cases h
    · exact h
  refine Wp.seq (Wp.seq (Wp.regionL (l := [0, 1, 2, 3, 4, 5, 6, 7, 8]) (WO.rd (is := [0, 1, 2, 3, 4, 5]) (js := [6, 7, 8]) (Keep.refl _) (Rn.s rfl Yv.mv (Rn.s rfl Yv.mf1 (Rn.s rfl Yv.mv (Rn.s rfl Yv.mf1 (Rn.s rfl Yv.mv (Rn.s rfl Yv.mf1 (Rn.nil))))))) (WO.act (hc := rfl) (he := Ef.bsl (T := 1) (MtE bb1) fns hsb1 (fun bc1 wc1 kc1 hsc1 => WO.rd (is := [7, 8]) (js := []) ((Keep.refl _).trans kc1) (Rn.s rfl (Yv.len_v (e := 1) (m := 1)) (Rn.s rfl Yv.mv (Rn.nil))) (WO.done ?_)))))))
  have hst : St w [] wc1 (Ch.row (MtE bb1) 1 (some ⟨bc1, 0, none⟩) 3 fns :: ChR bb1 s 0 ct0 :: ChO ba1 ba2 ba3 ct0 0 0) := hsc1
  refine Wp.block ?_
  refine Wp.loop (α := Nat) (fun i ρ ds w' => ds = [{ target := .fn (.func 54) [PB ba1, PB ba2, PB ba3].toArray, args := #[] }] ∧ i ≤ 3 ∧ (∃ a o, Stg s i a o ∧ St w [] w' (Ch.row (MtE bb1) 1 (some ⟨bc1, 0, none⟩) 3 fns :: ChR bb1 s a o :: ChO ba1 ba2 ba3 ct0 0 0)) ∧
    Sub [(2, PB ba1), (3, PB ba2), (4, PB ba3), (5, PB bb1), (18, .slice (some ⟨bc1, 0, none⟩) 3 3), (19, .int .i64 3), (20, .int .i64 i)] ρ) (fun i => 3 - i) 0 ⟨rfl, by omega, ⟨0, ct0, ⟨rfl, rfl⟩, hst⟩, rfl, rfl, rfl, rfl, rfl, rfl, rfl, trivial⟩ ?_
  rintro i ρ ds w' ⟨rfl, hi, ⟨a, o, hstg, hst⟩, hs⟩
  refine Wp.forget _ ?_ hs
  refine Wp.seq (Wp.reads (is := [0]) (Keep.refl _) (Rn.s rfl (Yv.cmp _ rfl) (Rn.nil)) ?_)
  refine Wp.seq (Wp.cond rfl (fun h => ?_) (fun h => ?_))
  · have h := of_decide_eq_true h
    have h3 : i < 3 := by omega
    have hr := hst.rd 0
    refine Wp.skip (Wp.seq (Wp.block ?_))
    obtain ⟨g, hgd⟩ : ∃ g, g = nth fns (i : Int) := ⟨_, rfl⟩
    have hv : ((MtE bb1).cells (nth fns (i : Int)))[0]? = some (.func (.func g) #[PB bb1] #[]) := by rw [hgd]; rfl
    have hstep := step_calls bb1 s i a o h3 hl hstg w hg hb0 w' hst.keep (hst.at_ 1)
    obtain ⟨fn, hf, hb, hn⟩ := fns_ok i h3
    rw [← hgd] at hstep hf
    have ea : (#[PB bb1] : Array Value) = #[PB bb1] ++ ([] : List Value).toArray ++ #[] := by simp
    rw [ea] at hstep
    refine Wp.seq (Wp.reads (is := [0, 1, 2]) (Keep.refl _) (Rn.s rfl (Yv.ia (e := 1) hr (by omega) (by omega)) (Rn.s rfl (Yv.ld (hr.ld (i := (i : Int)) 0 (by omega) (by simp only [List.length_cons, List.length_nil]; omega) hv)) (Rn.s rfl Yv.as (Rn.nil)))) ?_)
    refine Wp.regionL (l := [0, 1]) (WO.rd (is := [0]) (js := [1]) (Keep.refl _) (Rn.s rfl Yv.mv (Rn.nil)) (WO.act (hc := rfl) (he := Ef.callb hf (Calls.mono hstep ?_) hb hn)))
    rintro e w2 (⟨a', o', hstg', rfl, hs2⟩ | ⟨why, col, hR, rfl, hs2⟩)
    · have hst2 := (hst.pick [1, 0, 2, 3, 4]).call (A := [ChR bb1 s a o]) hs2
      refine WO.done ?_
      refine Wp.reads (is := [0, 1]) (Keep.refl _) (Rn.s rfl (Yv.add (by unfold inI; omega)) (Rn.s rfl Yv.mv (Rn.nil))) ?_
      exact ⟨i + 1, ⟨rfl, h3, ⟨a', o', hstg', hst2.pick [1, 0, 2, 3, 4]⟩, rfl, rfl, rfl, rfl, rfl, rfl, rfl, trivial⟩, by omega⟩
    · have hst2 := (hst.pick [1, 2, 3, 4]).call (A := [ChR bb1 s a o]) hs2
      have hen : St w2 [ba3, ba2, ba1] w2 (ChO ba1 ba2 ba3 ct0 0 0) := St.enter (A := ChO ba1 ba2 ba3 ct0 0 0) (D := []) hst2
      show LvU _ _ _ _ _ _ _ _
      refine LvU.fn Tryd.func54 (by simp) (CallsDIn.mono (rec_stop ba1 ba2 ba3 why col ct0 0 0 w2 hen) ?_)
      rintro e u' w3 ⟨rfl, rfl, hs3⟩
      have hst3 := hst2.call (A := ChO ba1 ba2 ba3 ct0 0 0) (D := []) hs3
      refine LvU.nilR (resC3 rfl rfl rfl rfl (hst3.cells 2) (hst3.cells 1) (hst3.cells 0)) ⟨?_, hst3.keep⟩
      rw [hR]
  · have h := of_decide_eq_false h
    have h3 : i = 3 := by omega
    subst h3
    obtain ⟨a1, o1, hh, hv⟩ := hstg
    have e : readC s = (o, 0, 0) := by simp only [readC, hh, hv]
    refine Wp.exit ?_
    have hc := hst.cells 1
    refine Wp.seq (Wp.regionL (l := [0, 1, 2, 3, 4, 5, 6]) (WO.rd (is := [0, 1, 2, 3]) (js := [4, 5, 6]) (Keep.refl _) (Rn.s rfl Yv.mv (Rn.s rfl Yv.nc (Rn.s rfl (Yv.fa (off := 2)) (Rn.s rfl (Yv.lds (n := 7) (vs := o.cs) rfl (fun j v hj => hc.at_ (2 + j) (by rw [← hj, Nat.add_comm]; rfl))) (Rn.nil))))) (WO.act (hc := rfl) (he := Ef.stores hst 4 (fun wd1 hsd1 => WO.act (hc := rfl) (he := Ef.store hsd1 4 (fun wd2 hsd2 => WO.act (hc := rfl) (he := Ef.store hsd2 4 (fun wd3 hsd3 => WO.done ?_)))))))))
    refine Wp.ret ?_
    show LvU _ _ _ _ _ _ _ _
    refine LvU.fn Tryd.func54 (by simp) (CallsDIn.mono (rec_calm ba1 ba2 ba3 _) ?_)
    rintro e u' w3 ⟨rfl, rfl, rfl⟩
    refine LvU.nilR (resC3 rfl rfl rfl rfl (hsd3.cells 2) (hsd3.cells 1) (hsd3.cells 0)) ⟨?_, hsd3.keep⟩
    rw [e]
    rfl
end Go.Proofs.YtgjhbapbomdpbaaDoor.C
/- A text as a tree: tree's reader, its model, top and node. -/
set_option linter.unusedVariables false
set_option linter.unusedSimpArgs false
set_option maxRecDepth 10000
namespace Go.Proofs.YtgjhbapbomdpbaaDoor.C
open Go.RowKit Go.Proofs.YtgjhbapbomdpbaaDoor.Sh
structure Nd where
  kind : Int
  depth : Int
  key : Bs
  text : Bs
  file : Bs
  line : Int
  col : Int
  val : Int
deriving Inhabited, DecidableEq
abbrev Nd.cs (n : Nd) : List Value := [.int .i64 n.kind, .int .i64 n.depth, S n.key, S n.text, S n.file, .int .i64 n.line, .int .i64 n.col, .int .i64 n.val]
abbrev NdE : Enc Nd := ⟨8, Nd.cs, fun _ => rfl⟩
structure Ft where
  code : Int
  file : Bs
  line : Int
  col : Int
deriving Inhabited, DecidableEq
abbrev Ft.cs (f : Ft) : List Value := [.int .i64 f.code, S f.file, .int .i64 f.line, .int .i64 f.col]
abbrev ft0 : Ft := ⟨0, [], 0, 0⟩
theorem ftEq (f g : Ft) : vEqs f.cs g.cs = some (decide (f = g)) := by
  rw [vEqs_cons (vEq_int _ _ _) (vEqs_cons (vEq_S _ _) (vEqs_cons (vEq_int _ _ _) (vEqs_cons (vEq_int _ _ _) rfl)))]
  congr 1
  cases f; cases g
  simp only [Ft.mk.injEq, Bool.and_true, Bool.decide_and]
theorem ndEq (f g : Nd) : vEqs f.cs g.cs = some (decide (f = g)) := by
  rw [vEqs_cons (vEq_int _ _ _) (vEqs_cons (vEq_int _ _ _) (vEqs_cons (vEq_S _ _) (vEqs_cons (vEq_S _ _) (vEqs_cons (vEq_S _ _) (vEqs_cons (vEq_int _ _ _) (vEqs_cons (vEq_int _ _ _) (vEqs_cons (vEq_int _ _ _) rfl)))))))]
  congr 1
  cases f; cases g
  simp only [Nd.mk.injEq, Bool.and_true, Bool.decide_and]
/-- an open block -/
structure OB where
  indent : Int
  items : Bool
  node : Int
  keys : List (Bs × Int)
deriving Inhabited
abbrev BkE : Enc (OB × Nat) := ⟨4, fun x => [.int .i64 x.1.indent, .bool x.1.items, .int .i64 x.1.node, .map (some x.2)], fun _ => rfl⟩
abbrev VI : Int → Value := .int .i64
def mps (op : List (OB × Nat)) : List Chunk := op.map fun x => Ch.mp KyS VI x.2 x.1.keys
/-- a reader's cells -/
abbrev tcs (file : Bs) (A : Option Addr) (n c : Nat) (B : Option Addr) (m d : Nat) (last : Bool) (ind : Int) : List Value := [S file, .slice A n c, .slice B m d, .bool last, .int .i64 ind]
/-- all that a reader owns; the innermost block stands first in op -/
abbrev ChP (b : Nat) (file : Bs) (A : Option Addr) (c : Nat) (nodes : List Nd) (B : Option Addr) (d : Nat) (op : List (OB × Nat)) (last : Bool) (ind : Int) : List Chunk :=
  Ch.cells b 76 (tcs file A nodes.length c B op.reverse.length d last ind) :: Ch.row NdE 48 A c nodes :: Ch.row BkE 73 B d op.reverse :: mps op
theorem top_cv (b : Nat) (file : Bs) (A : Option Addr) (n c : Nat) (B : Option Addr) (d : Nat) (xs : List (OB × Nat)) (last : Bool) (ind : Int) (w0 : World) (hc : Cells w0 b (tcs file A n c B xs.length d last ind)) (hr : Rd BkE w0 B xs) (h0 : 0 < xs.length) (hl : xs.length < 4000000000000000000) :
    Cv Tryd.prog 58 [PB b] (.pointer (some ⟨pb B, pq B + ((xs.length : Int) - 1).toNat * 4, none⟩)) w0 := by
  intro w hk
  have hc := hc.keep hk
  have hr := hr.keep hk
  refine calls_of_Wp (vs := [_]) Tryd.func58 ?_
  refine Wp.seq (Wp.reads (is := [0]) (Keep.refl _) (Rn.s rfl Yv.as (Rn.nil)) ?_)
  refine Wp.seq (Wp.readsD (is := [0, 1, 2, 3, 4, 5, 6, 7, 8, 9, 10, 11]) mixed (fun _ _ _ _ _ h => h) (Keep.refl _) (Rn.s rfl Yv.mv (Rn.s rfl Yv.nc (Rn.s rfl (Yv.fa (off := 2)) (Rn.s rfl (Yv.ld (hc.at_ 2)) (Rn.s rfl Yv.mv (Rn.s rfl Yv.nc (Rn.s rfl (Yv.fa (off := 2)) (Rn.s rfl (Yv.ld (hc.at_ 2)) (Rn.s rfl (Yv.len_v (e := 73) (m := 4)) (Rn.s rfl (Yv.sub (by unfold inI; omega)) (Rn.s rfl (Yv.ia (e := 73) hr (by omega) (by omega)) (Rn.s rfl Yv.as (Rn.nil))))))))))))) ?_)
  exact Wp.ret (Fin.ret (Res.one rfl rfl) ⟨rfl, Keep.drew _⟩)
/-- a line's node -/
def nodeS (file : Bs) (m : Nat) (l : Ln) (c : Ct) : Nd :=
  ⟨if c.empty = 1 then 2 else if c.empty = 2 then 1 else 3, m, c.key, c.value, file, l.no, l.indent + c.col, if c.has then l.indent + c.val else 0⟩
theorem node_cv (b : Nat) (file : Bs) (A : Option Addr) (n c : Nat) (B : Option Addr) (m d : Nat) (last : Bool) (ind : Int) (l : Ln) (o : Ct) (w0 : World) (hc : Cells w0 b (tcs file A n c B m d last ind)) (h1 : inI (l.indent + o.col)) (h2 : inI (l.indent + o.val)) :
    Cv Tryd.prog 36 [PB b, .agg l.cs.toArray, .agg o.cs.toArray] (.agg (nodeS file m l o).cs.toArray) w0 := by
  intro w hk
  have hc := hc.keep hk
  refine calls_of_Wp (vs := [_, _, _]) Tryd.func36 ?_
  refine Wp.seq (Wp.regionL (l := [0, 1, 2]) (WO.act (hc := rfl) (he := Ef.boxL (l.cs) (St.init w) (fun ba1 wa1 ka1 hsa1 => WO.act (hc := rfl) (he := Ef.boxL (o.cs) hsa1 (fun ba2 wa2 ka2 hsa2 => WO.act (hc := rfl) (he := Ef.allocL (vs := [.int .i64 0, .int .i64 0, S [], S [], S [], .int .i64 0, .int .i64 0, .int .i64 0]) hsa2 (fun ba3 wa3 ka3 hsa3 => WO.done ?_))))))))
  have hc := hc.keep hsa3.keep
  have c4 := hsa3.cells 2
  have c5 := hsa3.cells 1
  obtain ⟨n0, hn0⟩ : ∃ n0 : Nd, n0 = ⟨3, m, o.key, o.value, file, l.no, l.indent + o.col, 0⟩ := ⟨_, rfl⟩
  refine Wp.seq (Wp.draws [22] mixed (WD.rd (is := [0, 1, 2, 3, 4, 5, 6, 7, 8, 9, 10, 11, 12, 13, 14, 15, 16, 17, 18, 19, 20]) (fun _ _ _ _ _ h => h) (Keep.drew _) (Rn.s rfl Yv.mv (Rn.s rfl Yv.nc (Rn.s rfl (Yv.fa (off := 2)) (Rn.s rfl (Yv.ld (hc.at_ 2)) (Rn.s rfl (Yv.len_v (e := 73) (m := 4)) (Rn.s rfl (Yv.fa (off := 1)) (Rn.s rfl (Yv.ld (c5.at_ 1)) (Rn.s rfl (Yv.fa (off := 3)) (Rn.s rfl (Yv.ld (c5.at_ 3)) (Rn.s rfl Yv.mv (Rn.s rfl Yv.nc (Rn.s rfl (Yv.fa (off := 0)) (Rn.s rfl (Yv.ld (hc.at_ 0)) (Rn.s rfl (Yv.fa (off := 0)) (Rn.s rfl (Yv.ld (c4.at_ 0)) (Rn.s rfl (Yv.fa (off := 1)) (Rn.s rfl (Yv.ld (c4.at_ 1)) (Rn.s rfl (Yv.fa (off := 5)) (Rn.s rfl (Yv.ld (c5.at_ 5)) (Rn.s rfl (Yv.add h1) (Rn.s rfl (Yv.bd (cs := Nd.cs ⟨3, m, o.key, o.value, file, l.no, l.indent + o.col, 0⟩)) (Rn.nil)))))))))))))))))))))) (WD.act 21 (hc := rfl) (he := Ef.allocL (vs := [.int .i64 0, .int .i64 0, S [], S [], S [], .int .i64 0, .int .i64 0, .int .i64 0]) (hsa3.quiet (Keep.drew _)) (fun bx1 wx1 kx1 hsx1 => ⟨fun _ => kx1, WD.act 22 (hc := rfl) (he := Ef.stores hsx1 0 (fun wx2 hsx2 => ⟨fun hn => (hn (by decide)).elim, WD.done ?_⟩))⟩)))))
  have hst : St w [] wx2 [Ch.cells bx1 48 n0.cs, Ch.cells ba3 48 [.int .i64 0, .int .i64 0, S [], S [], S [], .int .i64 0, .int .i64 0, .int .i64 0], Ch.cells ba2 80 o.cs, Ch.cells ba1 78 l.cs] := by rw [hn0]; exact hsx2
  have c5 := hst.cells 2
  refine Wp.seq (Wp.seq (Wp.reads (is := [0, 1]) (Keep.refl _) (Rn.s rfl (Yv.fa (off := 4)) (Rn.s rfl (Yv.ld (c5.at_ 4)) (Rn.nil))) ?_))
  obtain ⟨n1, hn1⟩ : ∃ n1 : Nd, n1 = { n0 with kind := if o.empty = 1 then 2 else if o.empty = 2 then 1 else 3 } := ⟨_, rfl⟩
  refine Wp.mid (fun ρ ds w' => ds = [] ∧ St w [] w' [Ch.cells bx1 48 n1.cs, Ch.cells ba3 48 [.int .i64 0, .int .i64 0, S [], S [], S [], .int .i64 0, .int .i64 0, .int .i64 0], Ch.cells ba2 80 o.cs, Ch.cells ba1 78 l.cs] ∧
    Sub [(4, PB ba1), (5, PB ba2), (6, PB ba3), (7, PB bx1)] ρ) ?_ ?_
  · refine Wp.block (Wp.seq (Wp.reads (is := [0, 1]) (Keep.refl _) (Rn.s rfl (Yv.cmp _ rfl) (Rn.s rfl Yv.as (Rn.nil))) ?_))
    refine Wp.cond rfl (fun h => ?_) (fun h => ?_)
    · have h := eq_of_beq h
      refine Wp.regionL (l := [0, 1]) (WO.rd (is := [0]) (js := [1]) (Keep.refl _) (Rn.s rfl (Yv.fa (off := 0)) (Rn.nil)) (WO.act (hc := rfl) (he := Ef.store hst 0 (fun wy1 hsy1 => WO.done ?_))))
      refine ⟨rfl, ?_, rfl, rfl, rfl, rfl, trivial⟩
      rw [hn1, if_pos h]
      exact hsy1
    have h := ne_of_beq_false h
    refine Wp.seq (Wp.reads (is := [0, 1]) (Keep.refl _) (Rn.s rfl (Yv.cmp _ rfl) (Rn.s rfl Yv.as (Rn.nil))) ?_)
    refine Wp.cond rfl (fun h2 => ?_) (fun h2 => ?_)
    · have h2 := eq_of_beq h2
      refine Wp.regionL (l := [0, 1]) (WO.rd (is := [0]) (js := [1]) (Keep.refl _) (Rn.s rfl (Yv.fa (off := 0)) (Rn.nil)) (WO.act (hc := rfl) (he := Ef.store hst 0 (fun wy1 hsy1 => WO.done ?_))))
      refine ⟨rfl, ?_, rfl, rfl, rfl, rfl, trivial⟩
      rw [hn1, if_neg h, if_pos h2]
      exact hsy1
    · have h2 := ne_of_beq_false h2
      refine Wp.skip ⟨rfl, ?_, rfl, rfl, rfl, rfl, trivial⟩
      rw [hn1, if_neg h, if_neg h2]
      rw [hn0] at hst ⊢
      exact hst
  rintro ρ ds w' ⟨rfl, hst, hs⟩
  refine Wp.forget _ ?_ hs
  have c4 := hst.cells 3
  have c5 := hst.cells 2
  refine Wp.seq (Wp.seq (Wp.reads (is := [0, 1]) (Keep.refl _) (Rn.s rfl (Yv.fa (off := 2)) (Rn.s rfl (Yv.ld (c5.at_ 2)) (Rn.nil))) ?_))
  have e : nodeS file m l o = { n1 with val := if o.has then l.indent + o.val else 0 } := by rw [hn1, hn0]; rfl
  refine Wp.mid (fun ρ ds w' => ds = [] ∧ St w [] w' [Ch.cells bx1 48 (nodeS file m l o).cs, Ch.cells ba3 48 [.int .i64 0, .int .i64 0, S [], S [], S [], .int .i64 0, .int .i64 0, .int .i64 0]] ∧
    Sub [(6, PB ba3), (7, PB bx1)] ρ) ?_ ?_
  · refine Wp.cond rfl (fun h => ?_) (fun h => ?_)
    · refine Wp.regionL (l := [0, 1, 2, 3, 4, 5, 6]) (WO.rd (is := [0, 1, 2, 3, 4, 5]) (js := [6]) (Keep.refl _) (Rn.s rfl (Yv.fa (off := 1)) (Rn.s rfl (Yv.ld (c4.at_ 1)) (Rn.s rfl (Yv.fa (off := 6)) (Rn.s rfl (Yv.ld (c5.at_ 6)) (Rn.s rfl (Yv.add h2) (Rn.s rfl (Yv.fa (off := 7)) (Rn.nil))))))) (WO.act (hc := rfl) (he := Ef.store hst 0 (fun wy1 hsy1 => WO.done ?_))))
      refine ⟨rfl, ?_, rfl, rfl, trivial⟩
      rw [e, if_pos h]
      exact hsy1.pick [0, 1]
    · refine Wp.skip ⟨rfl, ?_, rfl, rfl, trivial⟩
      rw [e, h]
      have hst := hst.pick [0, 1]
      rw [hn1, hn0] at hst ⊢
      exact hst
  rintro ρ ds w' ⟨rfl, hst, hs⟩
  refine Wp.forget _ ?_ hs
  have c7 := hst.cells 0
  refine Wp.seq (Wp.regionL (l := [0, 1]) (WO.rd (is := [0]) (js := [1]) (Keep.refl _) (Rn.s rfl (Yv.ldb c7) (Rn.nil)) (WO.act (hc := rfl) (he := Ef.stores hst 1 (fun wy1 hsy1 => WO.done ?_)))))
  exact Wp.ret (Fin.ret (resAgg rfl rfl (hsy1.cells 0) rfl) ⟨rfl, hsy1.keep⟩)
end Go.Proofs.YtgjhbapbomdpbaaDoor.C
/- A text as a tree: tree's enter. -/
set_option linter.unusedVariables false
set_option linter.unusedSimpArgs false
set_option maxRecDepth 10000
namespace Go.Proofs.YtgjhbapbomdpbaaDoor.Sh
open Go.RowKit
section
variable {w0 w : World} {M : List Nat} {α : Type} {E : Enc α} {T : TypeId} {A : Option Addr} {c : Nat}
theorem St.pickT {P T : List Chunk} (h : St w0 M w (P ++ T)) (is : List Nat) (hn : is.Nodup := by decide) : St w0 M w (is.filterMap (P[·]?) ++ T) := by
  have hp := (h.sub (List.sublist_append_left P T)).pick is hn
  have ht := h.sub (List.sublist_append_right P T)
  have hm : ∀ C ∈ is.filterMap (P[·]?), C ∈ P := fun C hC => by
    obtain ⟨i, _, hi⟩ := List.mem_filterMap.1 hC
    exact List.mem_of_getElem? hi
  refine ⟨h.chg, fun C hC => ?_, fun C hC => ?_, List.pairwise_append.2 ⟨hp.dis, ht.dis, fun C hC E hE => (List.pairwise_append.1 h.dis).2.2 C (hm C hC) E hE⟩⟩
  · rcases List.mem_append.1 hC with hC | hC
    · exact hp.ok C hC
    · exact ht.ok C hC
  · rcases List.mem_append.1 hC with hC | hC
    · exact hp.rng C hC
    · exact ht.rng C hC
theorem row_congr {xs ys : List α} (h1 : xs.length = ys.length) (h2 : xs.flatMap E.cells = ys.flatMap E.cells) : Ch.row E T A c xs = Ch.row E T A c ys := by
  unfold Ch.row
  simp only [h1, h2]
/-- the first elements of a row that is owned -/
theorem row_shrink {xs ys : List α} (h : (Ch.row E T A c (xs ++ ys)).ok w) : (Ch.row E T A c xs).ok w := by
  have h : w.ownsRow 0 T E.n (.slice A (xs ++ ys).length c) (xs ++ ys).length ((xs ++ ys).flatMap E.cells) := h
  show w.ownsRow 0 T E.n (.slice A xs.length c) xs.length (xs.flatMap E.cells)
  cases A with
  | none =>
    obtain ⟨h1, h2, -⟩ := ownsRow_nil_inv h
    have : xs = [] := by
      have : xs.length = 0 := by simp at h1; simpa using h1.1
      exact List.eq_nil_of_length_eq_zero this
    subst this
    subst h2
    exact World.ownsRow_nil w 0 T E.n
  | some a =>
    obtain ⟨g, cur, rfl, hg, hnc, hcm, hcs, htake⟩ := ownsRow_some_inv h
    refine ⟨length_flat xs, .inr ⟨g, c, cur, rfl, Nat.zero_le _, hg, by simp at hnc; omega, hcm, hcs, ?_⟩⟩
    have e := congrArg (List.take (xs.length * E.n)) htake
    rw [List.take_take, List.flatMap_append, ← length_flat xs, List.take_left] at e
    rw [← e]
    congr 1
    rw [length_flat, List.length_append, Nat.add_mul]
    omega
theorem St.shrink {xs ys : List α} {D : List Chunk} (h : St w0 M w (Ch.row E T A c (xs ++ ys) :: D)) : St w0 M w (Ch.row E T A c xs :: D) :=
  ⟨h.chg, fun C hC => by
    rcases List.mem_cons.1 hC with rfl | hC
    · exact row_shrink (h.at_ 0)
    · exact h.ok C (List.mem_cons_of_mem _ hC), fun C hC => by
    rcases List.mem_cons.1 hC with rfl | hC
    · exact fun bb hb => h.rng (Ch.row E T A c (xs ++ ys)) (List.mem_cons_self ..) bb hb
    · exact h.rng C (List.mem_cons_of_mem _ hC), by
    have := List.pairwise_cons.1 h.dis
    exact List.pairwise_cons.2 ⟨this.1, this.2⟩⟩
end
end Go.Proofs.YtgjhbapbomdpbaaDoor.Sh
namespace Go.Proofs.YtgjhbapbomdpbaaDoor.C
open Go.RowKit Go.Proofs.YtgjhbapbomdpbaaDoor.Sh
def Nd.kd (n : Nd) (k : Int) : Nd := ⟨k, n.depth, n.key, n.text, n.file, n.line, n.col, n.val⟩
def popS (ind : Int) : List OB → List OB
  | x :: y :: r => if ind < x.indent then popS ind (y :: r) else x :: y :: r
  | l => l
def opens (last : Bool) (ind : Int) (l : Ln) : Bool := last && decide (ind < l.indent)
def nodes1 (nodes : List Nd) (last : Bool) (ind : Int) (l : Ln) (o : Ct) : List Nd := if opens last ind l then nodes.set (nodes.length - 1) ((nodes.getD (nodes.length - 1) default).kd (if o.kind = 2 then 2 else 1)) else nodes
def stack1 (n : Nat) (st : List OB) (last : Bool) (ind : Int) (l : Ln) (o : Ct) : List OB := if opens last ind l then ⟨l.indent, o.kind == 2, (n : Int) - 1, []⟩ :: st else st
/-- a line's block: the fault, or the nodes and the open blocks -/
def enterS (nodes : List Nd) (st : List OB) (last : Bool) (ind : Int) (l : Ln) (o : Ct) : Int × List Nd × List OB :=
  match popS l.indent (stack1 nodes.length st last ind l o) with
  | [] => (40, [], [])
  | b :: r =>
    if b.indent ≠ l.indent then (40, [], [])
    else if b.items ≠ (o.kind == 2) then (41, [], [])
    else if (32 : Int) < (b :: r).length then (43, [], [])
    else if (alook o.key b.keys).isSome && !(o.kind == 2) then (42, [], [])
    else (0, nodes1 nodes last ind l o, { b with keys := aput o.key (w64 ((alook o.key b.keys).getD 0 + 1)) b.keys } :: r)
theorem nth_top {α : Type} [Inhabited α] (x : α) (r : List α) : nth (x :: r).reverse (((x :: r).reverse.length : Int) - 1) = x := by
  rw [List.reverse_cons]
  have : (((r.reverse ++ [x]).length : Int) - 1) = (r.reverse.length : Int) := by simp
  rw [this]
  exact nth_of (by simp)
def EnterPost (b : Nat) (file : Bs) (nodes : List Nd) (st : List OB) (last : Bool) (ind : Int) (l : Ln) (o : Ct) (M : List Nat) (w : World) (e : Ending) (w' : World) : Prop :=
  e = .returned (.int .i64 (enterS nodes st last ind l o).1) ∧ ((enterS nodes st last ind l o).1 ≠ 0 → St w M w' []) ∧
    ((enterS nodes st last ind l o).1 = 0 → ∃ A' c' B' d' op', op'.map (·.1) = (enterS nodes st last ind l o).2.2 ∧ St w M w' (ChP b file A' c' (enterS nodes st last ind l o).2.1 B' d' op' last ind))
theorem enter_calls {M : List Nat} (b : Nat) (file : Bs) (A : Option Addr) (c : Nat) (nodes : List Nd) (B : Option Addr) (d : Nat) (op : List (OB × Nat)) (last : Bool) (ind : Int) (l : Ln) (o : Ct) (w : World) (hst : St w M w (ChP b file A c nodes B d op last ind)) (hn : 0 < nodes.length) (hn2 : nodes.length ≤ 1000000) (hop : op ≠ []) (hop2 : op.length ≤ 1000000) :
    Calls Tryd.prog 35 #[PB b, .agg l.cs.toArray, .agg o.cs.toArray] w (EnterPost b file nodes (op.map (·.1)) last ind l o M w) := by
  refine calls_of_Wp (vs := [_, _, _]) Tryd.func35 ?_
  refine Wp.seq (Wp.regionL (l := [0, 1, 2]) (WO.act (hc := rfl) (he := Ef.boxL (l.cs) hst (fun ba1 wa1 ka1 hsa1 => WO.act (hc := rfl) (he := Ef.boxL (o.cs) hsa1 (fun ba2 wa2 ka2 hsa2 => WO.rd (is := [2]) (js := []) (((Keep.refl _).trans ka1).trans ka2) (Rn.s rfl Yv.as (Rn.nil)) (WO.done ?_)))))))
  have hst : St w M wa2 (Ch.cells ba2 80 o.cs :: Ch.cells ba1 78 l.cs :: ChP b file A c nodes B d op last ind) := hsa2
  have c5 := hst.cells 0
  have c4 := hst.cells 1
  have hc := hst.cells 2
  refine Wp.seq (Wp.reads (is := [0, 1, 2, 3]) (Keep.refl _) (Rn.s rfl (Yv.fa (off := 0)) (Rn.s rfl (Yv.ld (c5.at_ 0)) (Rn.s rfl (Yv.cmp _ rfl) (Rn.s rfl Yv.as (Rn.nil))))) ?_)
  refine Wp.seq (Wp.seq (Wp.readsD (is := [0, 1, 2, 3, 4, 5, 6, 7, 8, 9, 10, 11, 12]) mixed (fun _ _ _ _ _ h => h) (Keep.refl _) (Rn.s rfl Yv.mv (Rn.s rfl Yv.nc (Rn.s rfl (Yv.fa (off := 3)) (Rn.s rfl (Yv.ld (hc.at_ 3)) (Rn.s rfl Yv.mv (Rn.and (is := [5, 6, 7, 8, 9, 10, 11, 12]) (js := []) (t := 19) (d := 27) (hg := rfl) (ht := fun h4 => Rn.s rfl (Yv.fa (off := 1)) (Rn.s rfl (Yv.ld (c4.at_ 1)) (Rn.s rfl Yv.mv (Rn.s rfl Yv.nc (Rn.s rfl (Yv.fa (off := 4)) (Rn.s rfl (Yv.ld (hc.at_ 4)) (Rn.s rfl (Yv.cmp _ rfl) (Rn.s rfl Yv.pick_t ((Rn.e 8 rfl rfl)))))))))) (hf := fun _ => Rn.no rfl (Rn.no rfl (Rn.no rfl (Rn.no rfl (Rn.no rfl (Rn.no rfl (Rn.no rfl (Rn.s rfl Yv.pick_f (Rn.e 8 rfl rfl))))))))) (k := Rn.nil))))))) ?_))
  have hst := hst.quiet (Keep.drew _)
  refine Wp.mid (fun ρ ds w' => ds = [] ∧ ∃ A' c' B' d' op', op'.map (·.1) = stack1 nodes.length (op.map (·.1)) last ind l o ∧ op' ≠ [] ∧ op'.length ≤ 1000001 ∧ St w M w' (Ch.cells ba2 80 o.cs :: Ch.cells ba1 78 l.cs :: ChP b file A' c' (nodes1 nodes last ind l o) B' d' op' last ind) ∧
    Sub [(0, PB b), (4, PB ba1), (5, PB ba2), (7, .bool (o.kind == 2))] ρ) ?_ ?_
  · refine Wp.cond rfl (fun h => ?_) (fun h => ?_)
    · have hop1 : opens last ind l = true := h
      have e1 : stack1 nodes.length (op.map (·.1)) last ind l o = ⟨l.indent, o.kind == 2, (nodes.length : Int) - 1, []⟩ :: op.map (·.1) := by rw [stack1, if_pos hop1]
      rw [e1]
      have hc := hst.cells 2
      have hr := hst.rd 3
      refine Wp.seq (Wp.reads (is := [0, 1, 2, 3, 4, 5, 6]) (Keep.refl _) (Rn.s rfl Yv.mv (Rn.s rfl Yv.nc (Rn.s rfl (Yv.fa (off := 1)) (Rn.s rfl (Yv.ld (hc.at_ 1)) (Rn.s rfl (Yv.len_v (e := 48) (m := 8)) (Rn.s rfl (Yv.sub (by unfold inI; omega)) (Rn.s rfl Yv.as (Rn.nil)))))))) ?_)
      refine Wp.seq (Wp.regionL (l := [0, 1, 2, 3, 4, 5, 6, 7]) (WO.rd (is := [0, 1, 2, 3, 4, 5, 6]) (js := [7]) (Keep.refl _) (Rn.s rfl Yv.mv (Rn.s rfl Yv.nc (Rn.s rfl (Yv.fa (off := 1)) (Rn.s rfl (Yv.ld (hc.at_ 1)) (Rn.s rfl Yv.mv (Rn.s rfl (Yv.ia (e := 48) hr (by omega) (by omega)) (Rn.s rfl (Yv.fa (off := 0)) (Rn.nil)))))))) (WO.act (hc := rfl) (he := Ef.setFld (E := NdE) (xs := nodes) (f := 0) hst 3 ((nth nodes ((nodes.length : Int) - 1)).kd (1)) rfl rfl (by omega) (by omega) (fun wx1 hsx1 => WO.done ?_)))))
      have ej : ((nodes.length : Int) - 1).toNat = nodes.length - 1 := by omega
      obtain ⟨ns, hns⟩ : ∃ ns, ns = nodes.set ((nodes.length : Int) - 1).toNat ((nth nodes ((nodes.length : Int) - 1)).kd (1)) := ⟨_, rfl⟩
      have hnl : ns.length = nodes.length := by rw [hns, List.length_set]
      have hst : St w M wx1 (Ch.cells ba2 80 o.cs :: Ch.cells ba1 78 l.cs :: ChP b file A c ns B d op last ind) := by
        have := hsx1.pickT (P := [_, _, _, _, _]) (T := mps op) [1, 2, 3, 0, 4]
        rw [← hns] at this
        unfold ChP
        rw [hnl]
        exact this
      have hc := hst.cells 2
      have hr := hst.rd 3
      refine Wp.seq (Wp.seq (Wp.reads (is := [0]) (Keep.refl _) (Rn.s rfl Yv.mv (Rn.nil)) ?_))
      have hget : nth ns ((nodes.length : Int) - 1) = ((nth nodes ((nodes.length : Int) - 1)).kd (1)) := by
        have hj : nodes.length - 1 < nodes.length := by omega
        obtain ⟨X, hX⟩ : ∃ X, X = (nth nodes ((nodes.length : Int) - 1)).kd 1 := ⟨_, rfl⟩
        rw [← hX] at hns ⊢
        show ns.getD ((nodes.length : Int) - 1).toNat default = X
        rw [hns, ej]
        simp [hj]
      have hnt : nth nodes ((nodes.length : Int) - 1) = nodes.getD (nodes.length - 1) default := by unfold nth; rw [ej]
      refine Wp.mid (fun ρ ds w' => ds = [] ∧ St w M w' (Ch.cells ba2 80 o.cs :: Ch.cells ba1 78 l.cs :: ChP b file A c (nodes1 nodes last ind l o) B d op last ind) ∧
        Sub [(0, PB b), (4, PB ba1), (5, PB ba2), (7, .bool (o.kind == 2)), (8, .int .i64 ((nodes.length : Int) - 1))] ρ) ?_ ?_
      · refine Wp.cond rfl (fun h2 => ?_) (fun h2 => ?_)
        · have h2 := eq_of_beq h2
          refine Wp.regionL (l := [0, 1, 2, 3, 4, 5, 6, 7]) (WO.rd (is := [0, 1, 2, 3, 4, 5, 6]) (js := [7]) (Keep.refl _) (Rn.s rfl Yv.mv (Rn.s rfl Yv.nc (Rn.s rfl (Yv.fa (off := 1)) (Rn.s rfl (Yv.ld (hc.at_ 1)) (Rn.s rfl Yv.mv (Rn.s rfl (Yv.ia (e := 48) hr (by omega) (by omega)) (Rn.s rfl (Yv.fa (off := 0)) (Rn.nil)))))))) (WO.act (hc := rfl) (he := Ef.setFld (E := NdE) (xs := ns) (f := 0) hst 3 ((nth ns ((nodes.length : Int) - 1)).kd (2)) rfl rfl (by omega) (by omega) (fun wy1 hsy1 => WO.done ?_))))
          refine ⟨rfl, ?_, rfl, rfl, rfl, rfl, rfl, trivial⟩
          have e2 : nodes1 nodes last ind l o = ns.set ((nodes.length : Int) - 1).toNat ((nth ns ((nodes.length : Int) - 1)).kd (2)) := by
            rw [hget, hns, List.set_set, nodes1, if_pos hop1, if_pos h2, ej, hnt]; rfl
          have := hsy1.pickT (P := [_, _, _, _, _]) (T := mps op) [1, 2, 3, 0, 4]
          rw [← e2] at this
          unfold ChP
          have e3 : (nodes1 nodes last ind l o).length = ns.length := by rw [e2, List.length_set]
          rw [e3]
          exact this
        · have h2 := ne_of_beq_false h2
          refine Wp.skip ⟨rfl, ?_, rfl, rfl, rfl, rfl, rfl, trivial⟩
          have e2 : nodes1 nodes last ind l o = ns := by rw [hns, nodes1, if_pos hop1, if_neg h2, ej, hnt]
          rw [e2]
          exact hst
      rintro ρ ds w' ⟨rfl, hst, hs⟩
      refine Wp.forget _ ?_ hs
      have hc := hst.cells 2
      have c4 := hst.cells 1
      refine Wp.draws [12, 15] mixed (WD.rd (is := [0, 1, 2, 3, 4, 5, 6, 7, 8]) (fun _ _ _ _ _ h => h) (Keep.drew _) (Rn.s rfl Yv.mv (Rn.s rfl Yv.mv (Rn.s rfl Yv.nc (Rn.s rfl (Yv.fa (off := 2)) (Rn.s rfl (Yv.ld (hc.at_ 2)) (Rn.s rfl (Yv.fa (off := 1)) (Rn.s rfl (Yv.ld (c4.at_ 1)) (Rn.s rfl Yv.mv (Rn.s rfl Yv.mv (Rn.nil)))))))))) (WD.act 9 (hc := rfl) (he := Ef.makeMap KyS (.int .i64) (hst.quiet (Keep.drew _)) (fun bz1 wz1 kz1 hsz1 => ⟨fun _ => kz1, WD.rd (is := [10]) (fun _ _ _ _ _ h => h) ((Keep.drew _).trans kz1) (Rn.s rfl (Yv.bd (cs := BkE.cells ((⟨l.indent, o.kind == 2, (nodes.length : Int) - 1, []⟩ : OB), bz1))) (Rn.nil)) (WD.app BkE [((⟨l.indent, o.kind == 2, (nodes.length : Int) - 1, []⟩ : OB), bz1)] 11 12 rfl (fun _ => rfl) hsz1 5 (.inl (by simp only [List.length_reverse, List.length_cons, List.length_nil]; omega)) (fun bz2 Az2 cz2 wz2 hsz2 => WD.rd (is := [13, 14]) (fun _ _ _ _ _ h => h) (Keep.refl _) (Rn.s rfl Yv.nc (Rn.s rfl (Yv.fa (off := 2)) (Rn.nil))) (WD.act 15 (hc := rfl) (he := Ef.store hsz2 4 (fun wz3 hsz3 => ⟨fun hn => (hn (by decide)).elim, WD.done ?_⟩)))))⟩))))
      refine ⟨rfl, A, c, Az2, cz2, (⟨l.indent, o.kind == 2, (nodes.length : Int) - 1, []⟩, bz1) :: op, rfl, by simp, by simp only [List.length_cons]; omega, ?_, rfl, rfl, rfl, rfl, trivial⟩
      have := hsz3.pickT (P := [_, _, _, _, _, _]) (T := mps op) [3, 4, 0, 5, 1, 2]
      unfold ChP
      rw [List.reverse_cons]
      exact this
    · have hop1 : opens last ind l = false := h
      refine Wp.skip ⟨rfl, A, c, B, d, op, by rw [stack1, if_neg (by simp [hop1])], hop, by omega, ?_, rfl, rfl, rfl, rfl, trivial⟩
      rw [nodes1, if_neg (by simp [hop1])]
      exact hst
  rintro ρ ds w' ⟨rfl, A1, c1, B1, d1, op1, he1, hne1, hl1, hst, hs⟩
  refine Wp.forget _ ?_ hs
  obtain ⟨N1, hN1⟩ : ∃ N1, N1 = nodes1 nodes last ind l o := ⟨_, rfl⟩
  rw [← hN1] at hst
  refine Wp.seq (Wp.block ?_)
  refine Wp.loop (α := List (OB × Nat)) (fun q ρ ds w' => ds = [] ∧ q ≠ [] ∧ popS l.indent (q.map (·.1)) = popS l.indent (stack1 nodes.length (op.map (·.1)) last ind l o) ∧ q.length ≤ 1000001 ∧ St w M w' (Ch.cells ba2 80 o.cs :: Ch.cells ba1 78 l.cs :: ChP b file A1 c1 N1 B1 d1 q last ind) ∧
    Sub [(0, PB b), (4, PB ba1), (5, PB ba2), (7, .bool (o.kind == 2))] ρ) (fun q => q.length) op1 ⟨rfl, hne1, by rw [he1], hl1, hst, rfl, rfl, rfl, rfl, trivial⟩ ?_
  clear hst he1 hne1 hl1 hs
  rintro q ρ ds w' ⟨rfl, hq, hpop, hql, hst, hs⟩
  refine Wp.forget _ ?_ hs
  obtain ⟨x, r, rfl⟩ := List.exists_cons_of_ne_nil hq
  have hc := hst.cells 2
  have c4 := hst.cells 1
  have c5 := hst.cells 0
  have hr := hst.rd 4
  have hlr : (x :: r).reverse.length = r.length + 1 := by simp
  have hlq : (x :: r).reverse.length ≤ 1000001 := by simpa using hql
  have ht : ∀ {w2 : World}, Keep w' w2 → ∀ (f : Nat) (u : Value), (BkE.cells x)[f]? = some u → w2.cell? ⟨pb B1, pq B1 + (((x :: r).reverse.length : Int) - 1).toNat * 4 + f, none⟩ = some u := fun k f u hu =>
    k.cell (hr.ld (i := ((x :: r).reverse.length : Int) - 1) f (by omega) (by omega) (by rw [nth_top]; exact hu))
  refine Wp.seq (Wp.seq (Wp.draws [] mixed (WD.rd (is := [0, 1, 2, 3, 4, 5, 6]) (fun _ _ _ _ _ h => h) (Keep.drew _) (Rn.s rfl Yv.mv (Rn.s rfl Yv.nc (Rn.s rfl (Yv.fa (off := 2)) (Rn.s rfl (Yv.ld (hc.at_ 2)) (Rn.s rfl (Yv.len_v (e := 73) (m := 4)) (Rn.s rfl (Yv.cmp _ rfl) (Rn.s rfl Yv.mv (Rn.nil)))))))) (WD.and [7, 8, 9, 10, 11, 12, 13, 14, 15] 70 79 (hg := rfl) (ht := fun h6 qx1 => have h6 := of_decide_eq_true h6; WD.rd (is := [7, 12, 13]) (fun _ _ _ _ _ h => h) (Keep.drew _) (Rn.s rfl Yv.mv (Rn.s rfl (Yv.fa (off := 1)) (Rn.s rfl (Yv.ld (c4.at_ 1)) (Rn.nil)))) (WD.cv 8 rfl (top_cv b file A1 N1.length c1 B1 d1 (x :: r).reverse last ind _ hc hr (by omega) (by omega)) (Keep.drew _) (FnOk.of Tryd.func58) (fun wx2 kx2 => WD.rd (is := [9, 10, 11, 14, 15]) (fun _ _ _ _ _ h => h) ((Keep.drew _).trans kx2) (Rn.s rfl Yv.nc (Rn.s rfl (Yv.fa (off := 0)) (Rn.s rfl (Yv.ld (ht (Keep.refl _) 0 _ rfl)) (Rn.s rfl (Yv.cmp _ rfl) (Rn.s rfl Yv.pick_t (Rn.nil)))))) (WD.e 9 (qx1 _ ((Keep.refl _).trans kx2)))))) (hf := fun _ qx1 => WD.rd (is := [7, 8, 9, 10, 11, 12, 13, 14, 15]) (fun _ _ _ _ _ h => h) (Keep.drew _) (Rn.no rfl (Rn.no rfl (Rn.no rfl (Rn.no rfl (Rn.no rfl (Rn.no rfl (Rn.no rfl (Rn.no rfl (Rn.s rfl Yv.pick_f Rn.nil))))))))) (WD.e 9 (qx1 _ (Keep.refl _)))) (k := fun wx1 kx1 => WD.done ?_)))))
  have kx := (Keep.drew _).trans kx1
  have hst := hst.quiet kx
  have hc := hst.cells 2
  have c4 := hst.cells 1
  have c5 := hst.cells 0
  have hr := hst.rd 4
  have ht : ∀ {w2 : World}, Keep wx1 w2 → ∀ (f : Nat) (u : Value), (BkE.cells x)[f]? = some u → w2.cell? ⟨pb B1, pq B1 + (((x :: r).reverse.length : Int) - 1).toNat * 4 + f, none⟩ = some u := fun k => ht (kx.trans k)
  refine Wp.cond rfl (fun h => ?_) (fun h => ?_)
  · simp only [Bool.and_eq_true, decide_eq_true_eq] at h
    obtain ⟨h1, h2⟩ := h
    refine Wp.skip (Wp.block (Wp.draws [14] mixed (WD.rd (is := [0, 1, 2, 3, 4, 5, 6, 7, 8, 9, 10, 11, 12, 13]) (fun _ _ _ _ _ h => h) (Keep.drew _) (Rn.s rfl Yv.mv (Rn.s rfl Yv.mv (Rn.s rfl Yv.nc (Rn.s rfl (Yv.fa (off := 2)) (Rn.s rfl (Yv.ld (hc.at_ 2)) (Rn.s rfl Yv.mv (Rn.s rfl Yv.nc (Rn.s rfl (Yv.fa (off := 2)) (Rn.s rfl (Yv.ld (hc.at_ 2)) (Rn.s rfl (Yv.len_v (e := 73) (m := 4)) (Rn.s rfl (Yv.sub (by unfold inI; omega)) (Rn.s rfl (Yv.sl_t (n := 4) (e := 73) (by omega) (by have := hst.cap 4; omega)) (Rn.s rfl Yv.nc (Rn.s rfl (Yv.fa (off := 2)) (Rn.nil))))))))))))))) (WD.act 14 (hc := rfl) (he := Ef.store (hst.quiet (Keep.drew _)) 2 (fun wy1 hsy1 => ⟨fun hn => (hn (by decide)).elim, WD.done ?_⟩))))))
    have hr0 : r ≠ [] := by
      rintro rfl
      simp at h1
    refine ⟨r, ⟨rfl, hr0, ?_, by simp only [List.length_cons] at hql; omega, ?_, rfl, rfl, rfl, rfl, trivial⟩, by simp⟩
    · rw [← hpop]
      obtain ⟨y, r', rfl⟩ := List.exists_cons_of_ne_nil hr0
      simp only [List.map_cons, popS, if_pos h2]
    · have h3 := hsy1.pickT (P := [_, _, _, _, _, _]) (T := mps r) [4, 0, 1, 2, 3]
      have e1 : (x :: r).reverse = r.reverse ++ [x] := List.reverse_cons
      have e2 : (((x :: r).reverse.length : Int) - 1).toNat = r.reverse.length := by simp
      rw [e2, e1] at h3
      have h4 := h3.shrink
      exact h4.pickT (P := [_, _, _, _, _]) (T := mps r) [2, 3, 1, 4, 0]
  have h : ¬ ((1 : Int) < (x :: r).reverse.length ∧ l.indent < x.1.indent) := by
    simp only [Bool.and_eq_false_iff, decide_eq_false_iff_not] at h
    omega
  have hpe : popS l.indent (stack1 nodes.length (op.map (·.1)) last ind l o) = x.1 :: r.map (·.1) := by
    rw [← hpop]
    cases r with
    | nil => rfl
    | cons y r' =>
      simp only [List.map_cons, popS]
      rw [if_neg]
      intro h2
      exact h ⟨by simp; omega, h2⟩
  have hE : enterS nodes (op.map (·.1)) last ind l o = if x.1.indent ≠ l.indent then (40, [], []) else if x.1.items ≠ (o.kind == 2) then (41, [], []) else if (32 : Int) < (x.1 :: r.map (·.1)).length then (43, [], [])
      else if (alook o.key x.1.keys).isSome && !(o.kind == 2) then (42, [], []) else (0, N1, { x.1 with keys := aput o.key (w64 ((alook o.key x.1.keys).getD 0 + 1)) x.1.keys } :: r.map (·.1)) := by
    rw [enterS, hpe, ← hN1]
  refine Wp.exit ?_
  refine Wp.seq (Wp.regionL (l := [0, 1, 2]) (WO.rd (is := [0]) (js := [1, 2]) (Keep.refl _) (Rn.s rfl Yv.mv (Rn.nil)) (WO.cv rfl (top_cv b file A1 N1.length c1 B1 d1 (x :: r).reverse last ind _ hc hr (by omega) (by omega)) (Keep.refl _) (FnOk.of Tryd.func58) (fun wy1 ky1 => WO.rd (is := [2]) (js := []) ((Keep.refl _).trans ky1) (Rn.s rfl Yv.as (Rn.nil)) (WO.done ?_)))))
  have hst := hst.quiet ky1
  have hc := hst.cells 2
  have c4 := hst.cells 1
  have c5 := hst.cells 0
  have ht : ∀ {w2 : World}, Keep wy1 w2 → ∀ (f : Nat) (u : Value), (BkE.cells x)[f]? = some u → w2.cell? ⟨pb B1, pq B1 + (((x :: r).reverse.length : Int) - 1).toNat * 4 + f, none⟩ = some u := fun k => ht (ky1.trans k)
  refine Wp.seq (Wp.block ?_)
  refine Wp.seq (Wp.readsD (is := [0, 1, 2, 3, 4, 5, 6, 7]) mixed (fun _ _ _ _ _ h => h) (Keep.refl _) (Rn.s rfl Yv.mv (Rn.s rfl Yv.nc (Rn.s rfl (Yv.fa (off := 0)) (Rn.s rfl (Yv.ld (ht (Keep.refl _) 0 _ rfl)) (Rn.s rfl (Yv.fa (off := 1)) (Rn.s rfl (Yv.ld (c4.at_ 1)) (Rn.s rfl (Yv.cmp _ rfl) (Rn.s rfl Yv.as (Rn.nil))))))))) ?_)
  have kd := Keep.drew wy1
  have hst := hst.quiet kd
  have hc := hst.cells 2
  have c5 := hst.cells 0
  unfold EnterPost
  refine Wp.cond rfl (fun h3 => ?_) (fun h3 => ?_)
  · have h3 : x.1.indent ≠ l.indent := by simpa using h3
    rw [hE, if_pos h3]
    refine Wp.seq (Wp.reads (is := [0]) (Keep.refl _) (Rn.s rfl Yv.as (Rn.nil)) ?_)
    exact Wp.ret (Fin.ret (Res.one rfl rfl) ⟨rfl, fun _ => hst.sub (List.nil_sublist _), fun h => by cases h⟩)
  have h3 : x.1.indent = l.indent := by simpa using h3
  rw [if_neg (by simp [h3])] at hE
  refine Wp.seq (Wp.reads (is := [0, 1, 2, 3, 4, 5, 6]) (Keep.refl _) (Rn.s rfl Yv.mv (Rn.s rfl Yv.nc (Rn.s rfl (Yv.fa (off := 1)) (Rn.s rfl (Yv.ld (ht kd 1 _ rfl)) (Rn.s rfl Yv.mv (Rn.s rfl (Yv.bcm _ rfl) (Rn.s rfl Yv.as (Rn.nil)))))))) ?_)
  refine Wp.cond rfl (fun h4 => ?_) (fun h4 => ?_)
  · have h4 : x.1.items ≠ (o.kind == 2) := by simpa using h4
    rw [hE, if_pos h4]
    refine Wp.seq (Wp.reads (is := [0]) (Keep.refl _) (Rn.s rfl Yv.as (Rn.nil)) ?_)
    exact Wp.ret (Fin.ret (Res.one rfl rfl) ⟨rfl, fun _ => hst.sub (List.nil_sublist _), fun h => by cases h⟩)
  have h4 : x.1.items = (o.kind == 2) := by simpa using h4
  rw [if_neg (by simp [h4])] at hE
  refine Wp.seq (Wp.reads (is := [0, 1, 2, 3, 4, 5, 6]) (Keep.refl _) (Rn.s rfl Yv.mv (Rn.s rfl Yv.nc (Rn.s rfl (Yv.fa (off := 2)) (Rn.s rfl (Yv.ld (hc.at_ 2)) (Rn.s rfl (Yv.len_v (e := 73) (m := 4)) (Rn.s rfl (Yv.cmp _ rfl) (Rn.s rfl Yv.as (Rn.nil)))))))) ?_)
  have e5 : ((x :: r).reverse.length : Int) = (x.1 :: r.map (·.1)).length := by simp
  refine Wp.cond rfl (fun h5 => ?_) (fun h5 => ?_)
  · have h5 := of_decide_eq_true h5
    rw [e5] at h5
    rw [hE, if_pos h5]
    refine Wp.seq (Wp.reads (is := [0]) (Keep.refl _) (Rn.s rfl Yv.as (Rn.nil)) ?_)
    exact Wp.ret (Fin.ret (Res.one rfl rfl) ⟨rfl, fun _ => hst.sub (List.nil_sublist _), fun h => by cases h⟩)
  have h5 := of_decide_eq_false h5
  rw [e5] at h5
  rw [if_neg h5] at hE
  have hmp : (Ch.mp KyS VI x.2 x.1.keys).ok wy1.drew := hst.at_ 5
  refine Wp.skip (Wp.seq (Wp.seq (Wp.readsD (is := [0, 1, 2, 3, 4, 5, 6, 7, 8, 9, 10, 11]) mixed (fun _ _ _ _ _ h => h) (Keep.refl _) (Rn.s rfl Yv.mv (Rn.s rfl Yv.nc (Rn.s rfl (Yv.fa (off := 3)) (Rn.s rfl (Yv.ld (ht kd 3 _ rfl)) (Rn.s rfl (Yv.fa (off := 1)) (Rn.s rfl (Yv.ld (c5.at_ 1)) (Rn.s rfl (Yv.look2 hmp 0) (Rn.s rfl Yv.mv (Rn.s rfl Yv.ex (Rn.s rfl Yv.ex (Rn.s rfl Yv.as (Rn.s rfl Yv.as (Rn.nil))))))))))))) ?_)))
  have kd := kd.trans (Keep.drew _)
  have hst := hst.quiet (Keep.drew _)
  have c5 := hst.cells 0
  have hmp : (Ch.mp KyS VI x.2 x.1.keys).ok wy1.drew.drew := hst.at_ 5
  refine Wp.seq (Wp.reads (is := [0, 1, 2, 3, 4]) (Keep.refl _) (Rn.s rfl Yv.mv (Rn.s rfl Yv.mv (Rn.and (is := [2, 3, 4]) (js := []) (t := 129) (d := 132) (hg := rfl) (ht := fun h1 => Rn.s rfl Yv.mv (Rn.s rfl Yv.not (Rn.s rfl Yv.pick_t ((Rn.e 3 rfl rfl))))) (hf := fun _ => Rn.no rfl (Rn.no rfl (Rn.s rfl Yv.pick_f (Rn.e 3 rfl rfl)))) (k := Rn.nil)))) ?_)
  refine Wp.cond rfl (fun h6 => ?_) (fun h6 => ?_)
  · rw [hE, if_pos h6]
    refine Wp.seq (Wp.reads (is := [0]) (Keep.refl _) (Rn.s rfl Yv.as (Rn.nil)) ?_)
    exact Wp.ret (Fin.ret (Res.one rfl rfl) ⟨rfl, fun _ => hst.sub (List.nil_sublist _), fun h => by cases h⟩)
  rw [if_neg (by rw [h6]; decide)] at hE
  refine Wp.skip (Wp.seq (Wp.draws [8] mixed (WD.rd (is := [0, 1, 2, 3, 4, 5, 6, 7]) (fun _ _ _ _ _ h => h) (Keep.drew _) (Rn.s rfl Yv.mv (Rn.s rfl Yv.nc (Rn.s rfl (Yv.fa (off := 3)) (Rn.s rfl (Yv.ld (ht kd 3 _ rfl)) (Rn.s rfl (Yv.fa (off := 1)) (Rn.s rfl (Yv.ld (c5.at_ 1)) (Rn.s rfl (Yv.look hmp 0) (Rn.s rfl Yv.addw (Rn.nil))))))))) (WD.act 8 (hc := rfl) (he := Ef.mapput (hst.quiet (Keep.drew _)) 5 (fun wz1 hsz1 => ⟨fun hn => (hn (by decide)).elim, WD.done ?_⟩))))))
  refine Wp.seq (Wp.reads (is := [0]) (Keep.refl _) (Rn.s rfl Yv.as (Rn.nil)) ?_)
  rw [hE]
  refine Wp.ret (Fin.ret (Res.one rfl rfl) ⟨rfl, fun h => absurd rfl h, fun _ => ⟨A1, c1, B1, d1, ({ x.1 with keys := aput o.key (w64 ((alook o.key x.1.keys).getD 0 + 1)) x.1.keys }, x.2) :: r, rfl, ?_⟩⟩)
  have h7 := hsz1.pickT (P := [_, _, _, _, _, _]) (T := mps r) [3, 4, 5, 0]
  have e8 : (({ x.1 with keys := aput o.key (w64 ((alook o.key x.1.keys).getD 0 + 1)) x.1.keys }, x.2) :: r : List (OB × Nat)).reverse.length = (x :: r).reverse.length := by simp
  have e7 : Ch.row BkE 73 B1 d1 (x :: r).reverse = Ch.row BkE 73 B1 d1 (({ x.1 with keys := aput o.key (w64 ((alook o.key x.1.keys).getD 0 + 1)) x.1.keys }, x.2) :: r).reverse := row_congr e8.symm (by simp)
  unfold ChP
  rw [e8, ← e7]
  exact h7
end Go.Proofs.YtgjhbapbomdpbaaDoor.C
/- A text as a tree: tree.Parse. -/
set_option linter.unusedVariables false
set_option linter.unusedSimpArgs false
set_option maxRecDepth 10000
namespace Go.Proofs.YtgjhbapbomdpbaaDoor.C
open Go.RowKit Go.Proofs.YtgjhbapbomdpbaaDoor.Sh
/-! ### bounds -/
theorem indexByte_bd : ∀ (l : Bs) (c : UInt8), -1 ≤ Lib.indexByte l c ∧ Lib.indexByte l c ≤ l.length
  | [], c => by simp [Lib.indexByte]
  | b :: l, c => by
    have := indexByte_bd l c
    unfold Lib.indexByte
    simp only [List.length_cons]
    split
    · omega
    · split <;> omega
structure LnOk (l : Ln) : Prop where
  text : l.text.length ≤ 65536
  i0 : -1 ≤ l.indent
  i1 : l.indent ≤ 65536
theorem lineOf_ok {n : Nat} {l : Bs} {x : Ln} (h : lineOf n l = some x) (hl : l.length ≤ 65536) : LnOk x := by
  unfold lineOf at h
  simp only at h
  split at h
  · cases h
  · injection h with h
    subst h
    have hb := indexByte_bd l (nth (Lib.trimB l 32) 0)
    have ht := trimB_le l 32
    exact ⟨by simp only; omega, hb.1, by simp only; omega⟩
theorem linesR_ok : ∀ (xs : List (Nat × Bs)) (acc : List Ln), (∀ x ∈ xs, x.2.length ≤ 65536) → (∀ l ∈ acc, LnOk l) → (∀ l ∈ (linesR xs acc).ls, LnOk l) ∧ (linesR xs acc).ls.length ≤ acc.length + xs.length
  | [], acc, _, h => by simp only [linesR]; exact ⟨h, by simp⟩
  | (n, l) :: xs, acc, hx, h => by
    have hl := hx (n, l) (by simp)
    have hxs : ∀ x ∈ xs, x.2.length ≤ 65536 := fun x hm => hx x (List.mem_cons_of_mem _ hm)
    simp only [linesR]
    split
    · simp
    split
    · simp
    · cases hlo : lineOf n l with
      | none =>
        have := linesR_ok xs acc hxs h
        simp only [List.length_cons]
        exact ⟨this.1, by omega⟩
      | some x =>
        have := linesR_ok xs (acc ++ [x]) hxs (by
          intro y hm
          rcases List.mem_append.1 hm with hm | hm
          · exact h y hm
          · obtain rfl := List.mem_singleton.1 hm
            exact lineOf_ok hlo hl)
        simp only [List.length_append, List.length_cons, List.length_nil] at this ⊢
        exact ⟨this.1, by omega⟩
theorem linesS_ok (s : Bs) : (∀ l ∈ (linesS s).ls, LnOk l) ∧ (linesS s).ls.length ≤ 65536 := by
  unfold linesS
  split
  · simp
  · rename_i h
    have := linesR_ok (rawFrom 1 s) [] (by
      intro x hx
      obtain ⟨k, hk⟩ := List.mem_iff_getElem?.1 hx
      have := (raw_line_le s k x hk).1
      omega) (by simp)
    have hl := raw_len _ 1 s (Nat.le_refl _)
    simp only [List.length_nil] at this
    exact ⟨this.1, by omega⟩
structure CtOk (n : Nat) (o : Ct) : Prop where
  c0 : 0 ≤ o.col
  c1 : o.col ≤ 1
  v0 : 0 ≤ o.val
  v1 : o.val ≤ n + 1
def OcOk (n : Nat) : Oc → Prop
  | .ok a o => 0 ≤ a ∧ a ≤ n ∧ CtOk n o
  | .err _ col => 0 ≤ col ∧ col ≤ n + 2
theorem tailS_ok (s : Bs) (n : Nat) (key : Bs) (h : n ≤ s.length) : OcOk s.length (tailS s n key) := by
  unfold tailS
  split
  · exact ⟨by omega, by omega⟩
  split
  · exact ⟨by omega, by omega⟩
  · rename_i h1 h2
    exact ⟨by omega, by omega, ⟨by simp, by simp, by simp, by simp only; omega⟩⟩
theorem headS_ok (s : Bs) : OcOk s.length (headS s) := by
  have hq := quoteR_bd s
  have hn := namedN_le s 0 (by omega)
  cases hh : headS s with
  | ok a o =>
    have hb := headS_bd hh
    refine ⟨hb.1, hb.2, ?_⟩
    unfold headS at hh
    split at hh
    · injection hh with h1 h2
      subst h2
      exact ⟨by simp, by simp, by simp, by simp only; omega⟩
    split at hh
    · split at hh
      · split at hh
        · cases hh
        · have := tailS_ok s (quoteR s).2.1.toNat (quoteR s).1 (by omega)
          rw [hh] at this
          exact this.2.2
      · cases hh
    · split at hh
      · have := tailS_ok s (namedN s 0) (s.take (namedN s 0)) hn.2
        rw [hh] at this
        exact this.2.2
      · cases hh
  | err why col =>
    unfold headS at hh
    split at hh
    · cases hh
    split at hh
    · split at hh
      · split at hh
        · injection hh with h1 h2
          subst h2
          exact ⟨by omega, by omega⟩
        · have := tailS_ok s (quoteR s).2.1.toNat (quoteR s).1 (by omega)
          rw [hh] at this
          exact this
      · injection hh with h1 h2
        subst h2
        exact ⟨by omega, by omega⟩
    · split at hh
      · have := tailS_ok s (namedN s 0) (s.take (namedN s 0)) hn.2
        rw [hh] at this
        exact this
      · injection hh with h1 h2
        subst h2
        exact ⟨by omega, by omega⟩
theorem valueS_ok (s : Bs) (a : Nat) (o : Ct) (ha : a ≤ s.length) (ho : CtOk s.length o) : OcOk s.length (valueS s a o) := by
  have hq := quoteR_bd (s.drop a)
  simp only [List.length_drop] at hq
  have hg := gapN_le s (a + (quoteR (s.drop a)).2.1.toNat) (by omega)
  obtain ⟨h0, h1, h2, h3⟩ := ho
  unfold valueS
  split
  · exact ⟨by omega, by omega, h0, h1, h2, h3⟩
  split
  · refine ⟨by omega, by omega, ?_⟩
    unfold bareS
    simp only
    split
    · exact ⟨h0, h1, by simp only; omega, by simp only; omega⟩
    split
    · exact ⟨h0, h1, by simp only; omega, by simp only; omega⟩
    · exact ⟨h0, h1, by simp only; omega, by simp only; omega⟩
  split
  · split
    · exact ⟨by omega, by omega⟩
    · exact ⟨by omega, by omega, h0, h1, by simp only; omega, by simp only; omega⟩
  · exact ⟨by omega, by omega⟩
theorem readC_ok (s : Bs) : CtOk s.length (readC s).1 ∧ 0 ≤ (readC s).2.1 ∧ (readC s).2.1 ≤ s.length + 2 := by
  have h0 : CtOk s.length ct0 := ⟨by simp, by simp, by simp, by simp only; omega⟩
  have hh := headS_ok s
  unfold readC
  cases h1 : headS s with
  | err why col =>
    rw [h1] at hh
    exact ⟨h0, hh.1, hh.2⟩
  | ok a o =>
    rw [h1] at hh
    obtain ⟨q1, q2, q3⟩ := hh
    have hg := gapN_le s a.toNat (by omega)
    have hv := valueS_ok s (gapN s a.toNat) o hg.2 q3
    simp only
    cases h2 : valueS s (gapN s a.toNat) o with
    | err why col =>
      rw [h2] at hv
      exact ⟨h0, hv.1, hv.2⟩
    | ok a' o' =>
      rw [h2] at hv
      exact ⟨hv.2.2, by simp, by simp only; omega⟩
/-! ### the tree -/
def goS (file : Bs) : List Ln → List Nd → List OB → Bool → Int → List Nd × Ft
  | [], nodes, _, _, _ => (nodes, ft0)
  | l :: ls, nodes, st, last, ind =>
    if (readC l.text).2.2 ≠ 0 then ([], ⟨(readC l.text).2.2, file, l.no, l.indent + (readC l.text).2.1⟩)
    else if (enterS nodes st last ind l (readC l.text).1).1 ≠ 0 then ([], ⟨(enterS nodes st last ind l (readC l.text).1).1, file, l.no, l.indent + 1⟩)
    else goS file ls ((enterS nodes st last ind l (readC l.text).1).2.1 ++ [nodeS file (enterS nodes st last ind l (readC l.text).1).2.2.length l (readC l.text).1]) (enterS nodes st last ind l (readC l.text).1).2.2 (!(readC l.text).1.has) l.indent
abbrev nd0 (file : Bs) : Nd := ⟨1, 0, [], [], file, 0, 0, 0⟩
abbrev ob0 : OB := ⟨0, false, 0, []⟩
def parseS (file s : Bs) : List Nd × Ft :=
  if (linesS s).e ≠ 0 then ([], ⟨(linesS s).e, file, (linesS s).no, (linesS s).col⟩) else goS file (linesS s).ls [nd0 file] [ob0] false 0
theorem resTA {P : Program} {fn : Func} {N n : Nat} {ρ : Env} {w : World} {t u b : Nat} {ty : TypeId} {vs : List Value} {x : Value} (h : fn.results = #[.tmp u, .cell t ty]) (hx : lk ρ u = some x) (hp : lk ρ t = some (PB b)) (hc : Cells w b vs) (hn : vs.length = n := by rfl) (ht : agB P ty n = true := by kernel_rfl) : Res P fn N ρ w (.tuple #[x, .agg vs.toArray]) := fun a ds ha => by
  have h1 := ha.val t _ hp
  have h3 := ha.val u _ hx
  have h2 : (loadVar ty ⟨b, 0, none⟩).run P w = .ok (.agg vs.toArray) w := run_loadVar_ag (agB_of ht) ⟨b, 0, none⟩ vs hn (fun j v hj => by rw [add_off, Nat.zero_add]; exact hc j v hj)
  simp only [results, h]
  simp at h1 h3
  simp [h1, h2, h3, asAddr]
def ParsePost (file s : Bs) (w : World) (e : Ending) (w' : World) : Prop := ∃ A c, e = .returned (.tuple #[.slice A (parseS file s).1.length c, .agg (parseS file s).2.cs.toArray]) ∧ St w [] w' [Ch.row NdE 48 A c (parseS file s).1]
theorem popS_len (ind : Int) : ∀ st : List OB, (popS ind st).length ≤ st.length
  | [] => by simp [popS]
  | [x] => by simp [popS]
  | x :: y :: r => by
    rw [popS]
    split
    · have := popS_len ind (y :: r)
      simp only [List.length_cons] at this ⊢
      omega
    · exact Nat.le_refl _
theorem enterS_len {nodes : List Nd} {st : List OB} {last : Bool} {ind : Int} {l : Ln} {o : Ct} {N2 : List Nd} {S2 : List OB} (h : enterS nodes st last ind l o = (0, N2, S2)) : N2.length = nodes.length ∧ 0 < S2.length ∧ S2.length ≤ st.length + 1 := by
  have hp := popS_len l.indent (stack1 nodes.length st last ind l o)
  have hs : (stack1 nodes.length st last ind l o).length ≤ st.length + 1 := by
    unfold stack1
    split <;> simp
  unfold enterS at h
  split at h
  · cases h
  rename_i b r hb
  rw [hb] at hp
  split at h
  · cases h
  split at h
  · cases h
  split at h
  · cases h
  split at h
  · cases h
  · injection h with _ h
    injection h with h1 h2
    subst h1 h2
    simp only [List.length_cons] at hp ⊢
    refine ⟨?_, by omega, by omega⟩
    unfold nodes1
    split <;> simp
theorem parse_calls (file s : Bs) (w0 : World) (hg : Gm w0) (w : World) (hk : Keep w0 w) : Calls Tryd.prog 21 #[S file, S s] w (ParsePost file s w) := by
  have hg := hg.keep hk
  refine calls_of_Wp (vs := [_, _]) Tryd.func21 ?_
  refine Wp.seq (Wp.regionL (l := [0, 1]) (WO.rd (is := [0]) (js := [1]) (Keep.refl _) (Rn.s rfl Yv.as (Rn.nil)) (WO.act (hc := rfl) (he := Ef.allocL (vs := [.int .i64 0, S [], .int .i64 0, .int .i64 0]) (St.init w) (fun ba1 wa1 ka1 hsa1 => WO.done ?_)))))
  have hga := hg.keep ka1
  refine Wp.seq (Wp.regionL (l := [0, 1, 2, 3, 4, 5, 6, 7, 8, 9, 10]) (WO.rd (is := [0]) (js := [1, 2, 3, 4, 5, 6, 7, 8, 9, 10]) (Keep.refl _) (Rn.s rfl Yv.mv (Rn.nil)) (WO.act (hc := rfl) (he := Ef.callv Tryd.func33 (Calls.mono (lines_calls s _ hga _ (Keep.refl _)) ?_)))))
  rintro e w1 ⟨AL, cL, rfl, hsl⟩
  have hst := hsa1.call0 hsl
  obtain ⟨R, hR⟩ : ∃ R, R = linesS s := ⟨_, rfl⟩
  obtain ⟨hlo, hll⟩ := linesS_ok s
  rw [← hR] at hst hlo hll
  rw [← hR]
  refine WO.rd (is := [2, 3, 4, 5, 6, 7, 8, 9, 10]) (js := []) (Keep.refl _) (Rn.s rfl Yv.mv (Rn.s rfl Yv.ex (Rn.s rfl Yv.ex (Rn.s rfl Yv.ex (Rn.s rfl Yv.ex (Rn.s rfl Yv.as (Rn.s rfl Yv.as (Rn.s rfl Yv.as (Rn.s rfl Yv.as (Rn.nil)))))))))) (WO.done ?_)
  refine Wp.seq (Wp.seq (Wp.reads (is := [0, 1]) (Keep.refl _) (Rn.s rfl Yv.mv (Rn.s rfl (Yv.cmp _ rfl) (Rn.nil))) ?_))
  unfold ParsePost
  refine Wp.cond rfl (fun h => ?_) (fun h => ?_)
  · have h : R.e ≠ 0 := by simpa using h
    have e : parseS file s = ([], ⟨R.e, file, R.no, R.col⟩) := by rw [parseS, ← hR, if_pos h]
    rw [e]
    refine Wp.seq (Wp.regionL (l := [0, 1, 2, 3, 4, 5, 6]) (WO.rd (is := [0, 1, 2, 3, 4, 5]) (js := [6]) (Keep.refl _) (Rn.s rfl Yv.mv (Rn.s rfl Yv.mv (Rn.s rfl Yv.mv (Rn.s rfl Yv.mv (Rn.s rfl (Yv.bd (cs := Ft.cs ⟨R.e, file, R.no, R.col⟩)) (Rn.s rfl Yv.as (Rn.nil))))))) (WO.act (hc := rfl) (he := Ef.stores hst 1 (fun wb1 hsb1 => WO.done ?_)))))
    exact Wp.ret (Fin.ret (resTA rfl rfl rfl (hsb1.cells 0)) ⟨none, 0, rfl, (hsb1.sub (List.nil_sublist _)).nilrow _ _⟩)
  have h : R.e = 0 := by simpa using h
  have e : parseS file s = goS file R.ls [nd0 file] [ob0] false 0 := by rw [parseS, ← hR, if_neg (by simp [h])]
  rw [e]
  obtain ⟨G, hG⟩ : ∃ G, G = goS file R.ls [nd0 file] [ob0] false 0 := ⟨_, rfl⟩
  rw [← hG]
  refine Wp.skip (Wp.seq (Wp.regionL (l := [0, 1, 2, 3, 4, 5, 6, 7, 8, 9]) (WO.rd (is := [0, 1, 2]) (js := [3, 4, 5, 6, 7, 8, 9]) (Keep.refl _) (Rn.s rfl Yv.mv (Rn.s rfl Yv.mv (Rn.s rfl (Yv.bd (cs := Nd.cs (nd0 file))) (Rn.nil)))) (WO.act (hc := rfl) (he := Ef.bsl (T := 48) NdE [nd0 file] hst (fun bb1 wb1 kb1 hsb1 => WO.act (hc := rfl) (he := Ef.makeMap KyS (.int .i64) hsb1 (fun bb2 wb2 kb2 hsb2 => WO.rd (is := [5]) (js := [6, 7, 8, 9]) (((Keep.refl _).trans kb1).trans kb2) (Rn.s rfl (Yv.bd (cs := BkE.cells ((ob0, bb2) : OB × Nat))) (Rn.nil)) (WO.act (hc := rfl) (he := Ef.bsl (T := 73) BkE [((ob0, bb2) : OB × Nat)] hsb2 (fun bb3 wb3 kb3 hsb3 => WO.rd (is := [7]) (js := [8, 9]) ((((Keep.refl _).trans kb1).trans kb2).trans kb3) (Rn.s rfl (Yv.bd (cs := tcs file (some ⟨bb1, 0, none⟩) 1 1 (some ⟨bb3, 0, none⟩) 1 1 false 0)) (Rn.nil)) (WO.act (hc := rfl) (he := Ef.boxL (tcs file (some ⟨bb1, 0, none⟩) 1 1 (some ⟨bb3, 0, none⟩) 1 1 false 0) hsb3 (fun bb4 wb4 kb4 hsb4 => WO.rd (is := [9]) (js := []) (((((Keep.refl _).trans kb1).trans kb2).trans kb3).trans kb4) (Rn.s rfl Yv.as (Rn.nil)) (WO.done ?_)))))))))))))))
  have hst : St w [] wb4 (Ch.row LnE 78 AL cL R.ls :: Ch.cells ba1 27 ft0.cs :: ChP bb4 file (some ⟨bb1, 0, none⟩) 1 [nd0 file] (some ⟨bb3, 0, none⟩) 1 [(ob0, bb2)] false 0) := hsb4.pick [4, 5, 0, 3, 1, 2]
  refine Wp.seq (Wp.seq (Wp.reads (is := [0, 1, 2]) (Keep.refl _) (Rn.s rfl Yv.mv (Rn.s rfl (Yv.len_v (e := 78) (m := 3)) (Rn.s rfl Yv.mv (Rn.nil)))) ?_))
  refine Wp.block ?_
  refine Wp.loop (α := Nat) (fun i ρ ds w' => ds = [] ∧ i ≤ R.ls.length ∧ (∃ A c nodes B d op last ind, goS file (R.ls.drop i) nodes (op.map (·.1)) last ind = G ∧ nodes.length = i + 1 ∧ op ≠ [] ∧ op.length ≤ i + 1 ∧
      St w [] w' (Ch.row LnE 78 AL cL R.ls :: Ch.cells ba1 27 ft0.cs :: ChP bb4 file A c nodes B d op last ind)) ∧
    Sub [(0, S file), (5, PB ba1), (10, PB bb4), (39, .slice AL R.ls.length cL), (40, .int .i64 R.ls.length), (41, .int .i64 i)] ρ) (fun i => R.ls.length - i) 0
    ⟨rfl, Nat.zero_le _, ⟨_, _, _, _, _, [(ob0, bb2)], _, _, hG.symm, rfl, by simp, by simp, hst⟩, rfl, rfl, rfl, rfl, rfl, rfl, trivial⟩ ?_
  rintro i ρ ds w' ⟨rfl, hi, ⟨A, c, nodes, B, d, op, last, ind, hgo, hnl, hop, hol, hst⟩, hs⟩
  refine Wp.forget _ ?_ hs
  refine Wp.seq (Wp.reads (is := [0]) (Keep.refl _) (Rn.s rfl (Yv.cmp _ rfl) (Rn.nil)) ?_)
  refine Wp.seq (Wp.cond rfl (fun h1 => ?_) (fun h1 => ?_))
  · have h1 := of_decide_eq_true h1
    have hil : i < R.ls.length := by omega
    have hget : R.ls[i]? = some R.ls[i] := List.getElem?_eq_getElem hil
    obtain ⟨l, hl⟩ : ∃ l, l = R.ls[i] := ⟨_, rfl⟩
    rw [← hl] at hget
    have hnth : nth R.ls (i : Int) = l := nth_of hget
    obtain ⟨lt, li0, li1⟩ := hlo l (List.mem_of_getElem? hget)
    rw [List.drop_eq_getElem_cons hil, ← hl, goS] at hgo
    obtain ⟨⟨rc0, rc1, rv0, rv1⟩, rl0, rl1⟩ := readC_ok l.text
    obtain ⟨o, col, er, hRd⟩ : ∃ o col er, readC l.text = (o, col, er) := ⟨_, _, _, rfl⟩
    rw [hRd] at hgo rc0 rc1 rv0 rv1 rl0 rl1
    simp only at hgo rc0 rc1 rv0 rv1 rl0 rl1
    have hr := hst.rd 0
    refine Wp.skip (Wp.seq (Wp.block ?_))
    refine Wp.seq (Wp.regionL (l := [0, 1, 2, 3]) (WO.rd (is := [0, 1]) (js := [2, 3]) (Keep.refl _) (Rn.s rfl (Yv.ia (e := 78) hr (by omega) (by omega)) (Rn.s rfl (Yv.ldel hr rfl rfl (by omega) (by omega)) (Rn.nil))) (WO.act (hc := rfl) (he := Ef.allocL (vs := [.int .i64 0, .int .i64 0, S []]) hst (fun bx1 wx1 kx1 hsx1 => WO.act (hc := rfl) (he := Ef.stores hsx1 0 (fun wx2 hsx2 => WO.done ?_)))))))
    rw [hnth] at hsx2
    have hst : St w [] wx2 (Ch.cells bx1 78 l.cs :: Ch.row LnE 78 AL cL R.ls :: Ch.cells ba1 27 ft0.cs :: ChP bb4 file A c nodes B d op last ind) := hsx2
    have c12 := hst.cells 0
    have hgx := hg.keep hst.keep
    have hrd := sread_cv l.text (by omega) wx2 hgx
    rw [hRd] at hrd
    have hrd : Cv Tryd.prog 34 [S l.text] (.tuple #[.agg o.cs.toArray, .int .i64 col, .int .i64 er]) wx2 := hrd
    refine Wp.seq (Wp.regionL (l := [0, 1, 2, 3, 4, 5, 6, 7, 8, 9, 10]) (WO.rd (is := [0, 1]) (js := [2, 3, 4, 5, 6, 7, 8, 9, 10]) (Keep.refl _) (Rn.s rfl (Yv.fa (off := 2)) (Rn.s rfl (Yv.ld (c12.at_ 2)) (Rn.nil))) (WO.cv rfl hrd (Keep.refl _) (FnOk.of Tryd.func34) (fun wy1 ky1 => WO.rd (is := [3, 4, 5, 6]) (js := [7, 8, 9, 10]) ((Keep.refl _).trans ky1) (Rn.s rfl Yv.mv (Rn.s rfl Yv.ex (Rn.s rfl Yv.ex (Rn.s rfl Yv.ex (Rn.nil))))) (WO.act (hc := rfl) (he := Ef.allocL (vs := [.int .i64 0, S [], .bool false, S [], .int .i64 0, .int .i64 0, .int .i64 0]) (hst.quiet ky1) (fun by2 wy2 ky2 hsy2 => WO.act (hc := rfl) (he := Ef.stores hsy2 0 (fun wy3 hsy3 => WO.rd (is := [9, 10]) (js := []) (Keep.refl _) (Rn.s rfl Yv.as (Rn.s rfl Yv.as (Rn.nil))) (WO.done ?_))))))))))
    have hst : St w [] wy3 (Ch.cells by2 80 o.cs :: Ch.cells bx1 78 l.cs :: Ch.row LnE 78 AL cL R.ls :: Ch.cells ba1 27 ft0.cs :: ChP bb4 file A c nodes B d op last ind) := hsy3
    have c12 := hst.cells 1
    have c13 := hst.cells 0
    refine Wp.seq (Wp.seq (Wp.reads (is := [0, 1]) (Keep.refl _) (Rn.s rfl Yv.mv (Rn.s rfl (Yv.cmp _ rfl) (Rn.nil))) ?_))
    by_cases h2 : er = 0
    · subst h2
      simp only [ne_eq, not_true, if_false] at hgo
      refine Wp.cond_t rfl ?_
      have hsw := hst.perm (List.perm_append_comm (l₁ := [_, _, _, _]) (l₂ := ChP bb4 file A c nodes B d op last ind))
      have hen := St.enter (A := ChP bb4 file A c nodes B d op last ind) hsw
      refine Wp.regionL (l := [0, 1, 2, 3, 4, 5]) (WO.rd (is := [0, 1, 2]) (js := [3, 4, 5]) (Keep.refl _) (Rn.s rfl Yv.mv (Rn.s rfl (Yv.ldb c12) (Rn.s rfl (Yv.ldb c13) (Rn.nil)))) (WO.act (hc := rfl) (he := Ef.callv Tryd.func35 (Calls.mono (enter_calls bb4 file A c nodes B d op last ind l o wy3 hen (by omega) (by omega) hop (by omega)) ?_))))
      rintro e3 w3 ⟨rfl, hEne, hEeq⟩
      refine WO.rd (is := [4, 5]) (js := []) (Keep.refl _) (Rn.s rfl Yv.as (Rn.s rfl Yv.as (Rn.nil))) (WO.done ?_)
      refine Wp.seq (Wp.seq (Wp.reads (is := [0, 1]) (Keep.refl _) (Rn.s rfl Yv.mv (Rn.s rfl (Yv.cmp _ rfl) (Rn.nil))) ?_))
      by_cases h3 : (enterS nodes (op.map (·.1)) last ind l o).1 = 0
      · obtain ⟨A2, c2, B2, d2, op2, hop2, hst2⟩ := hEeq h3
        have hst := (hsw.call (A := ChP bb4 file A c nodes B d op last ind) hst2).perm (List.perm_append_comm (l₂ := [_, _, _, _]))
        obtain ⟨E1, N2, S2, hE⟩ : ∃ E1 N2 S2, enterS nodes (op.map (·.1)) last ind l o = (E1, N2, S2) := ⟨_, _, _, rfl⟩
        rw [hE] at hgo h3 hop2 hst ⊢
        simp only at h3 hop2
        subst h3
        simp only [ne_eq, not_true, if_false] at hgo
        have hen2 := enterS_len hE
        simp only [List.length_map] at hen2
        have hop2l : op2.length = S2.length := by rw [← hop2]; simp
        have hst : St w [] w3 (Ch.cells by2 80 o.cs :: Ch.cells bx1 78 l.cs :: Ch.row LnE 78 AL cL R.ls :: Ch.cells ba1 27 ft0.cs :: ChP bb4 file A2 c2 N2 B2 d2 op2 last ind) := hst
        refine Wp.cond_f rfl (Wp.skip ?_)
        have c13 := hst.cells 0
        have c12 := hst.cells 1
        have c10 := hst.cells 4
        refine Wp.seq (Wp.draws [10, 13] mixed (WD.rd (is := [0, 1, 2, 3, 4, 5, 6, 7]) (fun _ _ _ _ _ h => h) (Keep.drew _) (Rn.s rfl Yv.mv (Rn.s rfl Yv.mv (Rn.s rfl Yv.nc (Rn.s rfl (Yv.fa (off := 1)) (Rn.s rfl (Yv.ld (c10.at_ 1)) (Rn.s rfl Yv.mv (Rn.s rfl (Yv.ldb c12) (Rn.s rfl (Yv.ldb c13) (Rn.nil))))))))) (WD.cv 8 rfl (node_cv bb4 file A2 N2.length c2 B2 op2.reverse.length d2 last ind l o _ c10 ⟨by omega, by omega⟩ ⟨by omega, by omega⟩) (Keep.drew _) (FnOk.of Tryd.func36) (fun wu1 ku1 => WD.app NdE [nodeS file op2.reverse.length l o] 9 10 rfl (fun _ => rfl) (hst.quiet ((Keep.drew _).trans ku1)) 5 (.inl (by simp only [List.length_cons, List.length_nil]; omega)) (fun bu2 Au2 cu2 wu2 hsu2 => WD.rd (is := [11, 12]) (fun _ _ _ _ _ h => h) (Keep.refl _) (Rn.s rfl Yv.nc (Rn.s rfl (Yv.fa (off := 1)) (Rn.nil))) (WD.act 13 (hc := rfl) (he := Ef.store hsu2 5 (fun wu3 hsu3 => ⟨fun hn => (hn (by decide)).elim, WD.done ?_⟩))))))))
        have e4 : op2.reverse.length = S2.length := by rw [List.length_reverse, hop2l]
        have hst : St w [] wu3 (Ch.cells by2 80 o.cs :: Ch.cells bx1 78 l.cs :: Ch.row LnE 78 AL cL R.ls :: Ch.cells ba1 27 ft0.cs :: ChP bb4 file Au2 cu2 (N2 ++ [nodeS file S2.length l o]) B2 d2 op2 last ind) := by
          have := hsu3.pickT (P := [_, _, _, _, _, _, _]) (T := mps op2) [2, 3, 4, 5, 0, 1, 6]
          rw [← e4]
          exact this
        have hst := hst.quiet (Keep.drew _)
        have c13 := hst.cells 0
        have c12 := hst.cells 1
        have ld3 : ∀ {W : World} {D : List Chunk}, St w [] W D → (∃ i, D[i]? = some (Ch.cells by2 80 o.cs)) → W.cell? ⟨by2, 0 + 2, none⟩ = some (.bool o.has) := fun h ⟨i, hi⟩ => (h.cells i hi).at_ 2
        have ld6 : ∀ {W : World} {D : List Chunk}, St w [] W D → (∃ i, D[i]? = some (Ch.cells bx1 78 l.cs)) → W.cell? ⟨bx1, 0 + 1, none⟩ = some (.int .i64 l.indent) := fun h ⟨i, hi⟩ => (h.cells i hi).at_ 1
        refine Wp.draws [3, 6, 9, 12] mixed (WD.rd (is := [0, 1, 2, 5]) (fun _ _ _ _ _ h => h) (Keep.drew _) (Rn.s rfl Yv.mv (Rn.s rfl Yv.mv (Rn.s rfl (Yv.fa (off := 2)) (Rn.s rfl (Yv.fa (off := 1)) (Rn.nil))))) (WD.act2 3 6 (hci := rfl) (hcj := rfl) (hi := (Ef.rd (Yv.ld (ld3 (by assumption) (by first | exact ⟨0, rfl⟩ | exact ⟨1, rfl⟩ | exact ⟨2, rfl⟩))) ⟨fun hn => (hn (by decide)).elim, WD.rd (is := [4, 7, 8]) (fun _ _ _ _ _ h => h) (Keep.refl _) (Rn.s rfl Yv.not (Rn.s rfl Yv.nc (Rn.s rfl (Yv.fa (off := 3)) (Rn.nil)))) (WD.act2 6 9 (hci := rfl) (hcj := rfl) (hi := (Ef.rd (Yv.ld (ld6 (by assumption) (by first | exact ⟨0, rfl⟩ | exact ⟨1, rfl⟩ | exact ⟨2, rfl⟩))) ⟨fun hn => (hn (by decide)).elim, WD.act 9 (hc := rfl) (he := (Ef.store (vs := tcs file Au2 (N2 ++ [nodeS file S2.length l o]).length cu2 B2 op2.reverse.length d2 last ind) hst 4 (fun wv3 hsv3 => ⟨fun hn => (hn (by decide)).elim, WD.rd (is := [10, 11]) (fun _ _ _ _ _ h => h) (Keep.refl _) (Rn.s rfl Yv.nc (Rn.s rfl (Yv.fa (off := 4)) (Rn.nil))) (WD.act 12 (hc := rfl) (he := (Ef.store (vs := tcs file Au2 (N2 ++ [nodeS file S2.length l o]).length cu2 B2 op2.reverse.length d2 (!o.has) ind) hsv3 0 (fun wv4 hsv4 => ⟨fun hn => (hn (by decide)).elim, WD.done ?_⟩))))⟩)))⟩)) (hj := (Ef.store (vs := tcs file Au2 (N2 ++ [nodeS file S2.length l o]).length cu2 B2 op2.reverse.length d2 last ind) hst 4 (fun wv5 hsv5 => ⟨fun hn => (hn (by decide)).elim, WD.act 6 (hc := rfl) (he := (Ef.rd (Yv.ld (ld6 (by assumption) (by first | exact ⟨0, rfl⟩ | exact ⟨1, rfl⟩ | exact ⟨2, rfl⟩))) ⟨fun hn => (hn (by decide)).elim, WD.rd (is := [10, 11]) (fun _ _ _ _ _ h => h) (Keep.refl _) (Rn.s rfl Yv.nc (Rn.s rfl (Yv.fa (off := 4)) (Rn.nil))) (WD.act 12 (hc := rfl) (he := (Ef.store (vs := tcs file Au2 (N2 ++ [nodeS file S2.length l o]).length cu2 B2 op2.reverse.length d2 (!o.has) ind) hsv5 0 (fun wv7 hsv7 => ⟨fun hn => (hn (by decide)).elim, WD.done ?_⟩))))⟩))⟩))))⟩)) (hj := (Ef.rd (Yv.ld (ld6 (by assumption) (by first | exact ⟨0, rfl⟩ | exact ⟨1, rfl⟩ | exact ⟨2, rfl⟩))) ⟨fun hn => (hn (by decide)).elim, WD.act 3 (hc := rfl) (he := (Ef.rd (Yv.ld (ld3 (by assumption) (by first | exact ⟨0, rfl⟩ | exact ⟨1, rfl⟩ | exact ⟨2, rfl⟩))) ⟨fun hn => (hn (by decide)).elim, WD.rd (is := [4, 7, 8]) (fun _ _ _ _ _ h => h) (Keep.refl _) (Rn.s rfl Yv.not (Rn.s rfl Yv.nc (Rn.s rfl (Yv.fa (off := 3)) (Rn.nil)))) (WD.act 9 (hc := rfl) (he := (Ef.store (vs := tcs file Au2 (N2 ++ [nodeS file S2.length l o]).length cu2 B2 op2.reverse.length d2 last ind) hst 4 (fun wv10 hsv10 => ⟨fun hn => (hn (by decide)).elim, WD.rd (is := [10, 11]) (fun _ _ _ _ _ h => h) (Keep.refl _) (Rn.s rfl Yv.nc (Rn.s rfl (Yv.fa (off := 4)) (Rn.nil))) (WD.act 12 (hc := rfl) (he := (Ef.store (vs := tcs file Au2 (N2 ++ [nodeS file S2.length l o]).length cu2 B2 op2.reverse.length d2 (!o.has) ind) hsv10 0 (fun wv11 hsv11 => ⟨fun hn => (hn (by decide)).elim, WD.done ?_⟩))))⟩))))⟩))⟩))))
        all_goals
          refine Wp.reads (is := [0, 1]) (Keep.refl _) (Rn.s rfl (Yv.add (by unfold inI; omega)) (Rn.s rfl Yv.mv (Rn.nil))) ?_
          refine ⟨i + 1, ⟨rfl, hil, ⟨Au2, cu2, N2 ++ [nodeS file S2.length l o], B2, d2, op2, !o.has, l.indent, ?_, ?_, ?_, ?_, St.pickT (P := [_, _, _, _, _]) (T := _ :: _ :: mps op2) (by assumption) [3, 4, 0]⟩, rfl, rfl, rfl, rfl, rfl, rfl, trivial⟩, by omega⟩
          · rw [← hgo, hop2]
          · simp only [List.length_append, List.length_cons, List.length_nil]; omega
          · intro e5; rw [e5] at hop2l; simp at hop2l; omega
          · omega
      · have hst2 := hEne h3
        have hst := hsw.call (A := ChP bb4 file A c nodes B d op last ind) hst2
        obtain ⟨E1, N2, S2, hE⟩ : ∃ E1 N2 S2, enterS nodes (op.map (·.1)) last ind l o = (E1, N2, S2) := ⟨_, _, _, rfl⟩
        rw [hE] at hgo h3 ⊢
        simp only at h3
        have hst : St w [] w3 [Ch.cells by2 80 o.cs, Ch.cells bx1 78 l.cs, Ch.row LnE 78 AL cL R.ls, Ch.cells ba1 27 ft0.cs] := hst
        have c12 := hst.cells 1
        simp only [ne_eq, h3, not_false_eq_true, if_true] at hgo
        refine Wp.cond_t ?_ ?_
        · have : (E1 != 0) = true := by simpa using h3
          exact congrArg (fun b => some (Value.bool b)) this
        refine Wp.seq (Wp.draws [10] mixed (WD.rd (is := [0, 1, 2, 3, 4, 5, 6, 7, 8, 9]) (fun _ _ _ _ _ h => h) (Keep.drew _) (Rn.s rfl Yv.mv (Rn.s rfl Yv.mv (Rn.s rfl (Yv.fa (off := 0)) (Rn.s rfl (Yv.ld (c12.at_ 0)) (Rn.s rfl (Yv.fa (off := 1)) (Rn.s rfl (Yv.ld (c12.at_ 1)) (Rn.s rfl Yv.mv (Rn.s rfl (Yv.add ⟨by omega, by omega⟩) (Rn.s rfl (Yv.bd (cs := Ft.cs ⟨E1, file, l.no, l.indent + 1⟩)) (Rn.s rfl Yv.as (Rn.nil))))))))))) (WD.act 10 (hc := rfl) (he := Ef.stores (hst.quiet (Keep.drew _)) 3 (fun wz1 hsz1 => ⟨fun hn => (hn (by decide)).elim, WD.done ?_⟩)))))
        refine Wp.ret (Fin.ret (resTA rfl rfl rfl (hsz1.cells 0)) ⟨none, 0, ?_, ?_⟩)
        · rw [← hgo]; rfl
        · rw [← hgo]; exact (hsz1.sub (List.nil_sublist _)).nilrow _ _
    · have e2 : (er == 0) = false := by simpa using h2
      rw [if_pos h2] at hgo
      refine Wp.cond_f ?_ (Wp.skip ?_)
      · exact congrArg (fun b => some (Value.bool b)) e2
      refine Wp.seq (Wp.seq (Wp.reads (is := [0, 1]) (Keep.refl _) (Rn.s rfl Yv.mv (Rn.s rfl (Yv.cmp _ rfl) (Rn.nil))) ?_))
      refine Wp.cond_t ?_ ?_
      · have : (er != 0) = true := by simpa using h2
        exact congrArg (fun b => some (Value.bool b)) this
      refine Wp.seq (Wp.draws [10] mixed (WD.rd (is := [0, 1, 2, 3, 4, 5, 6, 7, 8, 9]) (fun _ _ _ _ _ h => h) (Keep.drew _) (Rn.s rfl Yv.mv (Rn.s rfl Yv.mv (Rn.s rfl (Yv.fa (off := 0)) (Rn.s rfl (Yv.ld (c12.at_ 0)) (Rn.s rfl (Yv.fa (off := 1)) (Rn.s rfl (Yv.ld (c12.at_ 1)) (Rn.s rfl Yv.mv (Rn.s rfl (Yv.add ⟨by omega, by omega⟩) (Rn.s rfl (Yv.bd (cs := Ft.cs ⟨er, file, l.no, l.indent + col⟩)) (Rn.s rfl Yv.as (Rn.nil))))))))))) (WD.act 10 (hc := rfl) (he := Ef.stores (hst.quiet (Keep.drew _)) 3 (fun wz1 hsz1 => ⟨fun hn => (hn (by decide)).elim, WD.done ?_⟩)))))
      refine Wp.ret (Fin.ret (resTA rfl rfl rfl (hsz1.cells 0)) ⟨none, 0, ?_, ?_⟩)
      · rw [← hgo]; rfl
      · rw [← hgo]; exact (hsz1.sub (List.nil_sublist _)).nilrow _ _
  · have h1 := of_decide_eq_false h1
    rw [List.drop_eq_nil_of_le (by omega), goS] at hgo
    have c10 := hst.cells 2
    refine Wp.exit ?_
    refine Wp.seq (Wp.regionL (l := [0, 1, 2, 3, 4, 5, 6]) (WO.rd (is := [0, 1, 2, 3, 4, 5]) (js := [6]) (Keep.refl _) (Rn.s rfl Yv.mv (Rn.s rfl Yv.nc (Rn.s rfl (Yv.fa (off := 1)) (Rn.s rfl (Yv.ld (c10.at_ 1)) (Rn.s rfl (Yv.bd (cs := Ft.cs ft0)) (Rn.s rfl Yv.as (Rn.nil))))))) (WO.act (hc := rfl) (he := Ef.stores hst 1 (fun wz1 hsz1 => WO.done ?_)))))
    refine Wp.ret (Fin.ret (resTA rfl rfl rfl (hsz1.cells 0)) ⟨A, c, ?_, ?_⟩)
    · rw [← hgo]; rfl
    · rw [← hgo]
      exact (hsz1.pickT (P := [_, _, _, _]) (T := _ :: mps op) [3]).sub (.cons_cons _ (List.nil_sublist _))
end Go.Proofs.YtgjhbapbomdpbaaDoor.C
/- Is a list of nodes a tree?  tree.fits and tree.Is. -/
set_option linter.unusedVariables false
set_option linter.unusedSimpArgs false
set_option maxRecDepth 10000
namespace Go.Proofs.YtgjhbapbomdpbaaDoor.C
open Go.RowKit Go.Proofs.YtgjhbapbomdpbaaDoor.Sh
theorem Yv.min {P : Program} {w : World} {ts : Array TypeId} {x y : Operand} {a b : Int} (m : Int) (h : (if b < a then b else a) = m) : Yv P w (.call { callee := .builtin .min, args := #[x, y], argTypes := ts }) [.int .i64 a, .int .i64 b] (.int .i64 m) :=
  Yv.mk2 (x := x) (y := y) (by simp) rfl fun o e w' hop hx hy _ => by
    subst h
    simp only [execOp, hop, resolve, invoke, builtin, Sem.run_bind, Sem.run_pure, Result.andThen_ok, List.map_toArray, List.map_cons, List.map_nil, hx, hy]
    simp [Builtin.min_, Builtin.min2]
def fitsB (n a : Nd) : Bool :=
  ((((((n.kind == 1 || n.kind == 2) || n.kind == 3) && decide (1 ≤ n.depth)) && decide (n.depth ≤ 32)) && (decide (n.depth ≤ a.depth) || (n.depth == a.depth + 1 && a.kind != 3))) && (n.text == [] || n.kind == 3))
theorem fits_cv (n a : Nd) (w0 : World) (h : inI (a.depth + 1)) : Cv Tryd.prog 45 [.agg n.cs.toArray, .agg a.cs.toArray] (.bool (fitsB n a)) w0 := by
  intro w hk
  refine calls_of_Wp (vs := [_, _]) Tryd.func45 ?_
  refine Wp.seq (Wp.regionL (l := [0, 1, 2]) (WO.act (hc := rfl) (he := Ef.boxL (n.cs) (St.init w) (fun ba1 wa1 ka1 hsa1 => WO.act (hc := rfl) (he := Ef.boxL (a.cs) hsa1 (fun ba2 wa2 ka2 hsa2 => WO.rd (is := [2]) (js := []) (((Keep.refl _).trans ka1).trans ka2) (Rn.s rfl Yv.as (Rn.nil)) (WO.done ?_)))))))
  have c3 := hsa2.cells 0
  have c2 := hsa2.cells 1
  refine Wp.seq (Wp.reads (is := [0, 1, 2, 3, 4, 5, 6, 7, 8, 9, 10, 11]) (Keep.refl _) (Rn.s rfl (Yv.fa (off := 1)) (Rn.s rfl (Yv.ld (c2.at_ 1)) (Rn.s rfl (Yv.fa (off := 1)) (Rn.s rfl (Yv.ld (c3.at_ 1)) (Rn.s rfl (Yv.add h) (Rn.s rfl (Yv.cmp _ rfl) (Rn.s rfl Yv.mv (Rn.and (is := [7, 8, 9, 10]) (js := [11]) (t := 13) (d := 17) (hg := rfl) (ht := fun h6 => have h6 := eq_of_beq h6; Rn.s rfl (Yv.fa (off := 0)) (Rn.s rfl (Yv.ld (c3.at_ 0)) (Rn.s rfl (Yv.cmp _ rfl) (Rn.s rfl Yv.pick_t ((Rn.e 4 rfl rfl)))))) (hf := fun _ => Rn.no rfl (Rn.no rfl (Rn.no rfl (Rn.s rfl Yv.pick_f (Rn.e 4 rfl rfl))))) (k := Rn.s rfl Yv.as (Rn.nil)))))))))) ?_)
  refine Wp.seq (Wp.reads (is := [0, 1, 2, 3, 4, 5, 6, 7, 8, 9, 10, 11, 12, 13]) (Keep.refl _) (Rn.s rfl (Yv.fa (off := 0)) (Rn.s rfl (Yv.ld (c2.at_ 0)) (Rn.s rfl (Yv.cmp _ rfl) (Rn.s rfl Yv.mv (Rn.or (is := [4, 5, 6, 7]) (js := [8, 9, 10, 11, 12, 13]) (t := 21) (d := 25) (hg := rfl) (hf := fun h3 => have h3 := ne_of_beq_false h3; Rn.s rfl (Yv.fa (off := 0)) (Rn.s rfl (Yv.ld (c2.at_ 0)) (Rn.s rfl (Yv.cmp _ rfl) (Rn.s rfl Yv.pick_f ((Rn.e 4 rfl rfl)))))) (ht := fun _ => Rn.no rfl (Rn.no rfl (Rn.no rfl (Rn.s rfl Yv.pick_t (Rn.e 4 rfl rfl))))) (k := Rn.s rfl Yv.mv (Rn.or (is := [9, 10, 11, 12]) (js := [13]) (t := 26) (d := 30) (hg := rfl) (hf := fun h8 => Rn.s rfl (Yv.fa (off := 0)) (Rn.s rfl (Yv.ld (c2.at_ 0)) (Rn.s rfl (Yv.cmp _ rfl) (Rn.s rfl Yv.pick_f ((Rn.e 4 rfl rfl)))))) (ht := fun _ => Rn.no rfl (Rn.no rfl (Rn.no rfl (Rn.s rfl Yv.pick_t (Rn.e 4 rfl rfl))))) (k := Rn.s rfl Yv.as (Rn.nil))))))))) ?_)
  refine Wp.seq (Wp.reads (is := [0, 1, 2, 3, 4, 5, 6, 7, 8, 9, 10, 11, 12, 13, 14, 15, 16, 17, 18, 19, 20, 21, 22, 23, 24, 25, 26, 27, 28, 29, 30, 31]) (Keep.refl _) (Rn.s rfl Yv.mv (Rn.s rfl Yv.mv (Rn.and (is := [2, 3, 4, 5]) (js := [6, 7, 8, 9, 10, 11, 12, 13, 14, 15, 16, 17, 18, 19, 20, 21, 22, 23, 24, 25, 26, 27, 28, 29, 30, 31]) (t := 32) (d := 36) (hg := rfl) (ht := fun h1 => Rn.s rfl (Yv.fa (off := 1)) (Rn.s rfl (Yv.ld (c2.at_ 1)) (Rn.s rfl (Yv.cmp _ rfl) (Rn.s rfl Yv.pick_t ((Rn.e 4 rfl rfl)))))) (hf := fun _ => Rn.no rfl (Rn.no rfl (Rn.no rfl (Rn.s rfl Yv.pick_f (Rn.e 4 rfl rfl))))) (k := Rn.s rfl Yv.mv (Rn.and (is := [7, 8, 9, 10]) (js := [11, 12, 13, 14, 15, 16, 17, 18, 19, 20, 21, 22, 23, 24, 25, 26, 27, 28, 29, 30, 31]) (t := 37) (d := 41) (hg := rfl) (ht := fun h6 => Rn.s rfl (Yv.fa (off := 1)) (Rn.s rfl (Yv.ld (c2.at_ 1)) (Rn.s rfl (Yv.cmp _ rfl) (Rn.s rfl Yv.pick_t ((Rn.e 4 rfl rfl)))))) (hf := fun _ => Rn.no rfl (Rn.no rfl (Rn.no rfl (Rn.s rfl Yv.pick_f (Rn.e 4 rfl rfl))))) (k := Rn.s rfl Yv.mv (Rn.and (is := [12, 13, 14, 15, 16, 17, 18, 19, 20]) (js := [21, 22, 23, 24, 25, 26, 27, 28, 29, 30, 31]) (t := 42) (d := 51) (hg := rfl) (ht := fun h11 => Rn.s rfl (Yv.fa (off := 1)) (Rn.s rfl (Yv.ld (c2.at_ 1)) (Rn.s rfl (Yv.fa (off := 1)) (Rn.s rfl (Yv.ld (c3.at_ 1)) (Rn.s rfl (Yv.cmp _ rfl) (Rn.s rfl Yv.mv (Rn.or (is := [18, 19]) (js := [20]) (t := 48) (d := 50) (hg := rfl) (hf := fun h17 => have h17 := of_decide_eq_false h17; Rn.s rfl Yv.mv (Rn.s rfl Yv.pick_f ((Rn.e 2 rfl rfl)))) (ht := fun _ => Rn.no rfl (Rn.s rfl Yv.pick_t (Rn.e 2 rfl rfl))) (k := Rn.s rfl Yv.pick_t ((Rn.e 8 rfl rfl)))))))))) (hf := fun _ => Rn.no rfl (Rn.no rfl (Rn.no rfl (Rn.no rfl (Rn.no rfl (Rn.no rfl (Rn.no rfl (Rn.no rfl (Rn.s rfl Yv.pick_f (Rn.e 9 rfl rfl)))))))))) (k := Rn.s rfl Yv.mv (Rn.and (is := [22, 23, 24, 25, 26, 27, 28, 29, 30]) (js := [31]) (t := 52) (d := 61) (hg := rfl) (ht := fun h21 => Rn.s rfl (Yv.fa (off := 3)) (Rn.s rfl (Yv.ld (c2.at_ 3)) (Rn.s rfl (Yv.scm _ rfl) (Rn.s rfl Yv.mv (Rn.or (is := [26, 27, 28, 29]) (js := [30]) (t := 56) (d := 60) (hg := rfl) (hf := fun h25 => Rn.s rfl (Yv.fa (off := 0)) (Rn.s rfl (Yv.ld (c2.at_ 0)) (Rn.s rfl (Yv.cmp _ rfl) (Rn.s rfl Yv.pick_f ((Rn.e 4 rfl rfl)))))) (ht := fun _ => Rn.no rfl (Rn.no rfl (Rn.no rfl (Rn.s rfl Yv.pick_t (Rn.e 4 rfl rfl))))) (k := Rn.s rfl Yv.pick_t ((Rn.e 6 rfl rfl)))))))) (hf := fun _ => Rn.no rfl (Rn.no rfl (Rn.no rfl (Rn.no rfl (Rn.no rfl (Rn.no rfl (Rn.no rfl (Rn.no rfl (Rn.s rfl Yv.pick_f (Rn.e 9 rfl rfl)))))))))) (k := Rn.s rfl Yv.as (Rn.nil))))))))))) ?_)
  refine Wp.ret (Fin.ret (Res.one rfl rfl) ⟨?_, hsa2.keep⟩)
  rfl

def isGo (t : List Nd) : List Nd → Nd → Int → List OB → Bool
  | [], _, _, _ => true
  | n :: r, a, i, st =>
    if fitsB n a = false then false
    else match st.drop (st.length - n.depth.toNat) with
      | [] => false
      | b :: st' =>
        if (nth t b.node).kind = 2 then (if n.key ≠ [] then false else isGo t r n (i + 1) (⟨0, false, i, []⟩ :: b :: st'))
        else if ((alook n.key b.keys).isSome || decide ((64 : Int) < n.key.length)) = true then false
        else isGo t r n (i + 1) (⟨0, false, i, []⟩ :: { b with keys := aput n.key (w64 ((alook n.key b.keys).getD 0 + 1)) b.keys } :: st')
def rootOk (a : Nd) : Bool := !((((a.kind != 1) || (a.depth != 0)) || (a.key != [])) || (a.text != []))
def isS (t : List Nd) : Bool :=
  match t with
  | [] => false
  | a :: r => if (16384 : Int) < (a :: r : List Nd).length then false else if rootOk a = false then false else isGo (a :: r) r a 1 [⟨0, false, 0, []⟩]
theorem orf {a b : Bool} (h : (a || b) = false) : a = false := (Bool.or_eq_false_iff.1 h).1
theorem lenp {α : Type} {t : List α} {b : Bool} (h : (((t.length : Int) == 0) || b) = false) : (0 : Int) < t.length := by
  have := ne_of_beq_false (orf h)
  omega
theorem is_cv (A : Option Addr) (c : Nat) (t : List Nd) (w0 : World) (hr : Rd NdE w0 A t) : Cv Tryd.prog 27 [.slice A t.length c] (.bool (isS t)) w0 := by
  intro w hk
  have hr := hr.keep hk
  refine calls_of_Wp (vs := [_]) Tryd.func27 ?_
  refine Wp.seq (Wp.reads (is := [0]) (Keep.refl _) (Rn.s rfl Yv.as (Rn.nil)) ?_)
  refine Wp.seq (Wp.seq (Wp.reads (is := [0, 1, 2, 3, 4, 5, 6, 7, 8, 9, 10, 11, 12, 13, 14, 15, 16, 17, 18, 19, 20, 21, 22, 23, 24, 25, 26, 27, 28, 29, 30, 31, 32, 33, 34, 35]) (Keep.refl _) (Rn.s rfl Yv.mv (Rn.s rfl (Yv.len_v (e := 48) (m := 8)) (Rn.s rfl (Yv.cmp _ rfl) (Rn.s rfl Yv.mv (Rn.or (is := [4, 5, 6, 7]) (js := [8, 9, 10, 11, 12, 13, 14, 15, 16, 17, 18, 19, 20, 21, 22, 23, 24, 25, 26, 27, 28, 29, 30, 31, 32, 33, 34, 35]) (t := 12) (d := 16) (hg := rfl) (hf := fun h3 => have h3 := ne_of_beq_false h3; Rn.s rfl Yv.mv (Rn.s rfl (Yv.len_v (e := 48) (m := 8)) (Rn.s rfl (Yv.cmp _ rfl) (Rn.s rfl Yv.pick_f ((Rn.e 4 rfl rfl)))))) (ht := fun _ => Rn.no rfl (Rn.no rfl (Rn.no rfl (Rn.s rfl Yv.pick_t (Rn.e 4 rfl rfl))))) (k := Rn.s rfl Yv.mv (Rn.or (is := [9, 10, 11, 12, 13, 14]) (js := [15, 16, 17, 18, 19, 20, 21, 22, 23, 24, 25, 26, 27, 28, 29, 30, 31, 32, 33, 34, 35]) (t := 17) (d := 23) (hg := rfl) (hf := fun h8 => Rn.s rfl Yv.mv (Rn.s rfl (Yv.ia (e := 48) hr (j := 0) (by omega) (lenp h8)) (Rn.s rfl (Yv.fa (off := 0)) (Rn.s rfl (Yv.ld (hr.ld (i := 0) 0 (by omega) (lenp h8))) (Rn.s rfl (Yv.cmp _ rfl) (Rn.s rfl Yv.pick_f ((Rn.e 6 rfl rfl)))))))) (ht := fun _ => Rn.no rfl (Rn.no rfl (Rn.no rfl (Rn.no rfl (Rn.no rfl (Rn.s rfl Yv.pick_t (Rn.e 6 rfl rfl))))))) (k := Rn.s rfl Yv.mv (Rn.or (is := [16, 17, 18, 19, 20, 21]) (js := [22, 23, 24, 25, 26, 27, 28, 29, 30, 31, 32, 33, 34, 35]) (t := 24) (d := 30) (hg := rfl) (hf := fun h15 => Rn.s rfl Yv.mv (Rn.s rfl (Yv.ia (e := 48) hr (j := 0) (by omega) (lenp (orf h15))) (Rn.s rfl (Yv.fa (off := 1)) (Rn.s rfl (Yv.ld (hr.ld (i := 0) 1 (by omega) (lenp (orf h15)))) (Rn.s rfl (Yv.cmp _ rfl) (Rn.s rfl Yv.pick_f ((Rn.e 6 rfl rfl)))))))) (ht := fun _ => Rn.no rfl (Rn.no rfl (Rn.no rfl (Rn.no rfl (Rn.no rfl (Rn.s rfl Yv.pick_t (Rn.e 6 rfl rfl))))))) (k := Rn.s rfl Yv.mv (Rn.or (is := [23, 24, 25, 26, 27, 28]) (js := [29, 30, 31, 32, 33, 34, 35]) (t := 31) (d := 37) (hg := rfl) (hf := fun h22 => Rn.s rfl Yv.mv (Rn.s rfl (Yv.ia (e := 48) hr (j := 0) (by omega) (lenp (orf (orf h22)))) (Rn.s rfl (Yv.fa (off := 2)) (Rn.s rfl (Yv.ld (hr.ld (i := 0) 2 (by omega) (lenp (orf (orf h22))))) (Rn.s rfl (Yv.scm _ rfl) (Rn.s rfl Yv.pick_f ((Rn.e 6 rfl rfl)))))))) (ht := fun _ => Rn.no rfl (Rn.no rfl (Rn.no rfl (Rn.no rfl (Rn.no rfl (Rn.s rfl Yv.pick_t (Rn.e 6 rfl rfl))))))) (k := Rn.s rfl Yv.mv (Rn.or (is := [30, 31, 32, 33, 34, 35]) (js := []) (t := 38) (d := 44) (hg := rfl) (hf := fun h29 => Rn.s rfl Yv.mv (Rn.s rfl (Yv.ia (e := 48) hr (j := 0) (by omega) (lenp (orf (orf (orf h29))))) (Rn.s rfl (Yv.fa (off := 3)) (Rn.s rfl (Yv.ld (hr.ld (i := 0) 3 (by omega) (lenp (orf (orf (orf h29)))))) (Rn.s rfl (Yv.scm _ rfl) (Rn.s rfl Yv.pick_f ((Rn.e 6 rfl rfl)))))))) (ht := fun _ => Rn.no rfl (Rn.no rfl (Rn.no rfl (Rn.no rfl (Rn.no rfl (Rn.s rfl Yv.pick_t (Rn.e 6 rfl rfl))))))) (k := Rn.nil)))))))))))))) ?_))
  have hhead : ((((((((t.length : Int) == 0) || decide ((16384 : Int) < t.length)) || ((nth t 0).kind != 1)) || ((nth t 0).depth != 0)) || ((nth t 0).key != [])) || ((nth t 0).text != [])) = true → isS t = false) ∧
      ((((((((t.length : Int) == 0) || decide ((16384 : Int) < t.length)) || ((nth t 0).kind != 1)) || ((nth t 0).depth != 0)) || ((nth t 0).key != [])) || ((nth t 0).text != [])) = false → ∃ a r, t = a :: r ∧ t.length ≤ 16384 ∧ a.depth = 0 ∧ isS t = isGo t r a 1 [⟨0, false, 0, []⟩]) := by
    cases t with
    | nil => exact ⟨fun _ => rfl, fun h => by simp at h⟩
    | cons a r =>
      have e0 : nth (a :: r) 0 = a := rfl
      rw [e0]
      constructor
      · intro h
        unfold isS rootOk
        simp only
        split
        · rfl
        · rename_i h1
          rw [if_pos]
          have : (((a :: r : List Nd).length : Int) == 0) = false := by simp; omega
          rw [this, decide_eq_false h1] at h
          simp only [Bool.false_or] at h
          rw [h]; rfl
      · intro h
        simp only [Bool.or_eq_false_iff] at h
        obtain ⟨⟨⟨⟨⟨h0, h1⟩, h2⟩, h3⟩, h4⟩, h5⟩ := h
        have h1 := of_decide_eq_false h1
        refine ⟨a, r, rfl, by omega, by simpa using h3, ?_⟩
        unfold isS rootOk
        simp only
        rw [if_neg h1, if_neg]
        simp [h2, h3, h4, h5]
  refine Wp.cond rfl (fun h => ?_) (fun h => ?_)  -- t44
  · refine Wp.seq (Wp.reads (is := [0]) (Keep.refl _) (Rn.s rfl Yv.as (Rn.nil)) ?_)
    exact Wp.ret (Fin.ret (Res.one rfl rfl) ⟨by rw [hhead.1 h], Keep.refl _⟩)
  obtain ⟨a0, r0, ht, htl, hd0, hG⟩ := hhead.2 h
  clear h hhead
  obtain ⟨G, hGe⟩ : ∃ G, G = isS t := ⟨_, rfl⟩
  rw [← hGe]
  rw [← hGe] at hG
  refine Wp.skip (Wp.seq (Wp.regionL (l := [0, 1, 2, 3]) (WO.act (hc := rfl) (he := Ef.makeMap KyS (.int .i64) (St.init w) (fun ba1 wa1 ka1 hsa1 => WO.rd (is := [1]) (js := [2, 3]) ((Keep.refl _).trans ka1) (Rn.s rfl (Yv.bd (cs := BkE.cells ((⟨0, false, 0, []⟩ : OB), ba1))) (Rn.nil)) (WO.act (hc := rfl) (he := Ef.bsl (T := 73) BkE [((⟨0, false, 0, []⟩ : OB), ba1)] hsa1 (fun ba2 wa2 ka2 hsa2 => WO.rd (is := [3]) (js := []) (((Keep.refl _).trans ka1).trans ka2) (Rn.s rfl Yv.as (Rn.nil)) (WO.done ?_)))))))))
  refine Wp.seq (Wp.seq (Wp.reads (is := [0]) (Keep.refl _) (Rn.s rfl Yv.as (Rn.nil)) ?_))
  refine Wp.block ?_
  refine Wp.loop (α := Nat) (fun i ρ ds w' => ds = [] ∧ 1 ≤ i ∧ i ≤ t.length ∧ (∃ B d op, isGo t (t.drop i) (nth t ((i : Int) - 1)) i (op.map (·.1)) = G ∧ (op.length : Int) = (nth t ((i : Int) - 1)).depth + 1 ∧ 0 ≤ (nth t ((i : Int) - 1)).depth ∧ (nth t ((i : Int) - 1)).depth ≤ 32 ∧
      (∀ x ∈ op, 0 ≤ x.1.node ∧ x.1.node < (t.length : Int)) ∧ St w [] w' (Ch.row BkE 73 B d op.reverse :: mps op) ∧
    Sub [(0, .slice A t.length c), (3, .slice B op.reverse.length d), (4, .int .i64 i)] ρ)) (fun i => t.length - i) 1
    ⟨rfl, Nat.le_refl _, by rw [ht]; simp, ⟨some ⟨ba2, 0, none⟩, 1, [(⟨0, false, 0, []⟩, ba1)], ?_, ?_, ?_, ?_, ?_, hsa2, rfl, rfl, rfl, trivial⟩⟩ ?_
  · rw [hG, ht]; rfl
  · rw [ht]; show (1 : Int) = a0.depth + 1; omega
  · rw [ht]; show (0 : Int) ≤ a0.depth; omega
  · rw [ht]; show a0.depth ≤ 32; omega
  · intro x hx
    simp only [List.mem_singleton] at hx
    subst hx
    rw [ht]; simp
  rintro i ρ ds w' ⟨rfl, hi1, hi, ⟨B, d, op, hgo, hol, hd1, hd2, hno, hst, hs⟩⟩
  refine Wp.forget _ ?_ hs
  have hr0 := hr
  have hr := hr.keep hst.keep
  refine Wp.seq (Wp.seq (Wp.reads (is := [0, 1, 2, 3]) (Keep.refl _) (Rn.s rfl Yv.mv (Rn.s rfl Yv.mv (Rn.s rfl (Yv.len_v (e := 48) (m := 8)) (Rn.s rfl (Yv.cmp _ rfl) (Rn.nil))))) ?_))
  refine Wp.cond rfl (fun h => ?_) (fun h => ?_)
  · have h := of_decide_eq_true h
    have hil : i < t.length := by omega
    refine Wp.skip (Wp.seq (Wp.block ?_))
    obtain ⟨n, hn⟩ : ∃ n, n = nth t (i : Int) := ⟨_, rfl⟩
    obtain ⟨a, ha⟩ : ∃ a, a = nth t ((i : Int) - 1) := ⟨_, rfl⟩
    rw [← ha] at hgo hol hd1 hd2
    have hlen : ((i : Int)) < t.length := by omega
    refine Wp.seq (Wp.regionL (l := [0, 1, 2, 3, 4, 5]) (WO.rd (is := [0, 1, 2, 3]) (js := [4, 5]) (Keep.refl _) (Rn.s rfl Yv.mv (Rn.s rfl Yv.mv (Rn.s rfl (Yv.ia (e := 48) hr (by omega) (by omega)) (Rn.s rfl (Yv.ldel hr rfl rfl (by omega) (by omega)) (Rn.nil))))) (WO.act (hc := rfl) (he := Ef.allocL (vs := [.int .i64 0, .int .i64 0, S [], S [], S [], .int .i64 0, .int .i64 0, .int .i64 0]) hst (fun bx1 wx1 kx1 hsx1 => WO.act (hc := rfl) (he := Ef.stores hsx1 0 (fun wx2 hsx2 => WO.done ?_)))))))
    rw [← hn] at hsx2
    have hst : St w [] wx2 (Ch.cells bx1 48 n.cs :: Ch.row BkE 73 B d op.reverse :: mps op) := hsx2
    have hr := (hr.keep (Keep.refl _))
    have hr : Rd NdE wx2 A t := hr0.keep hst.keep
    have c5 := hst.cells 0
    have hf : Cv Tryd.prog 45 [.agg n.cs.toArray, .agg (nth t ((i : Int) - 1)).cs.toArray] (.bool (fitsB n a)) wx2 := by rw [← ha]; exact fits_cv n a wx2 ⟨by omega, by omega⟩
    refine Wp.seq (Wp.seq (Wp.draws [] mixed (WD.rd (is := [0, 1, 2, 3, 4, 5]) (fun _ _ _ _ _ h => h) (Keep.drew _) (Rn.s rfl (Yv.ldb c5) (Rn.s rfl Yv.mv (Rn.s rfl Yv.mv (Rn.s rfl (Yv.sub (by unfold inI; omega)) (Rn.s rfl (Yv.ia (e := 48) hr (by omega) (by omega)) (Rn.s rfl (Yv.ldel hr rfl rfl (by omega) (by omega)) (Rn.nil))))))) (WD.cv 6 rfl hf (Keep.drew _) (FnOk.of Tryd.func45) (fun wy1 ky1 => WD.rd (is := [7]) (fun _ _ _ _ _ h => h) ((Keep.drew _).trans ky1) (Rn.s rfl Yv.not (Rn.nil)) (WD.done ?_))))))
    have hst := hst.quiet ((Keep.drew _).trans ky1)
    rw [List.drop_eq_getElem_cons hil, isGo] at hgo
    have hnt : t[i] = n := by rw [hn, nth_nat]; simp [hil]
    rw [hnt] at hgo
    refine Wp.cond rfl (fun h2 => ?_) (fun h2 => ?_)
    · have h2 : fitsB n a = false := by simpa using h2
      rw [if_pos h2] at hgo
      refine Wp.seq (Wp.reads (is := [0]) (Keep.refl _) (Rn.s rfl Yv.as (Rn.nil)) ?_)
      exact Wp.ret (Fin.ret (Res.one rfl rfl) ⟨by rw [← hgo], hst.keep⟩)
    have h2 : fitsB n a = true := by simpa using h2
    rw [if_neg (by simp [h2])] at hgo
    have hfd : 1 ≤ n.depth ∧ n.depth ≤ 32 ∧ n.depth ≤ op.length := by
      have h3 := h2
      unfold fitsB at h3
      simp only [Bool.and_eq_true, Bool.or_eq_true, decide_eq_true_eq, beq_iff_eq] at h3
      omega
    refine Wp.skip ?_
    obtain ⟨j, hj⟩ : ∃ j, j = op.length - n.depth.toNat := ⟨_, rfl⟩
    have hdl : op.drop j = op.drop (op.length - n.depth.toNat) := by rw [hj]
    obtain ⟨⟨b, kb⟩, rb, hb⟩ : ∃ x r, op.drop j = x :: r := by
      refine List.exists_cons_of_ne_nil ?_
      intro h3
      have := congrArg List.length h3
      simp only [List.length_drop, List.length_nil] at this
      omega
    have hlb : (((⟨b, kb⟩ :: rb : List (OB × Nat))).length : Int) = n.depth := by
      rw [← hb]; simp only [List.length_drop]; omega
    have hmem : ∀ x ∈ (⟨b, kb⟩ :: rb : List (OB × Nat)), x ∈ op := fun x hx => List.mem_of_mem_drop (i := j) (by rw [hb]; exact hx)
    rw [List.length_map, ← List.map_drop, ← hdl, hb] at hgo
    simp only [List.map_cons] at hgo
    have c5 := hst.cells 0
    refine Wp.seq (Wp.regionL (l := [0, 1, 2, 3, 4, 5, 6, 7]) (WO.rd (is := [0, 1, 2, 3, 4, 5, 6, 7]) (js := []) (Keep.refl _) (Rn.s rfl Yv.mv (Rn.s rfl (Yv.fa (off := 1)) (Rn.s rfl (Yv.ld (c5.at_ 1)) (Rn.s rfl Yv.mv (Rn.s rfl (Yv.len_v (e := 73) (m := 4)) (Rn.s rfl (Yv.min n.depth (by rw [List.length_reverse, if_neg (by omega)])) (Rn.s rfl (Yv.sl_t (n := 4) (e := 73) (by omega) (by have := hst.cap 1; rw [List.length_reverse] at this; omega)) (Rn.s rfl Yv.as (Rn.nil))))))))) (WO.done ?_)))
    have hlr : (((⟨b, kb⟩ :: rb : List (OB × Nat))).reverse.length : Int) = n.depth := by rw [List.length_reverse]; exact hlb
    have hst : St w [] wy1 (Ch.cells bx1 48 n.cs :: Ch.row BkE 73 B d (⟨b, kb⟩ :: rb : List (OB × Nat)).reverse :: mps (⟨b, kb⟩ :: rb)) := by
      have e1 : op.reverse = (op.drop j).reverse ++ (op.take j).reverse := by rw [← List.reverse_append, List.take_append_drop]
      rw [e1, hb] at hst
      have h3 := (hst.pickT (P := [_, _]) (T := mps op) [1, 0]).shrink
      refine (h3.pickT (P := [_, _]) (T := mps op) [1, 0]).sub (.cons_cons _ (.cons_cons _ ?_))
      rw [← hb]
      exact (List.drop_sublist j op).map _
    have e2 : n.depth.toNat = (⟨b, kb⟩ :: rb : List (OB × Nat)).reverse.length := by omega
    rw [e2]
    have c5 := hst.cells 0
    have hrb := hst.rd 1
    refine Wp.seq (Wp.regionL (l := [0, 1, 2, 3, 4, 5, 6, 7]) (WO.rd (is := [0, 1, 2, 3, 4, 5]) (js := [6, 7]) (Keep.refl _) (Rn.s rfl Yv.mv (Rn.s rfl (Yv.fa (off := 1)) (Rn.s rfl (Yv.ld (c5.at_ 1)) (Rn.s rfl (Yv.sub (by unfold inI; omega)) (Rn.s rfl (Yv.ia (e := 73) hrb (by omega) (by omega)) (Rn.s rfl (Yv.ldel hrb rfl rfl (by omega) (by omega)) (Rn.nil))))))) (WO.act (hc := rfl) (he := Ef.allocL (vs := [.int .i64 0, .bool false, .int .i64 0, .map none]) hst (fun bu1 wu1 ku1 hsu1 => WO.act (hc := rfl) (he := Ef.stores hsu1 0 (fun wu2 hsu2 => WO.done ?_)))))))
    have e3 : nth (⟨b, kb⟩ :: rb : List (OB × Nat)).reverse (n.depth - 1) = ⟨b, kb⟩ := by rw [← hlr]; exact nth_top _ _
    rw [e3] at hsu2
    have hst : St w [] wu2 (Ch.cells bu1 73 [.int .i64 b.indent, .bool b.items, .int .i64 b.node, .map (some kb)] :: Ch.cells bx1 48 n.cs :: Ch.row BkE 73 B d (⟨b, kb⟩ :: rb : List (OB × Nat)).reverse :: mps (⟨b, kb⟩ :: rb)) := hsu2
    have c6 := hst.cells 0
    have c5 := hst.cells 1
    have hr : Rd NdE wu2 A t := hr0.keep hst.keep
    have hbn := hno _ (hmem _ (List.mem_cons_self ..))
    simp only at hbn
    refine Wp.seq (Wp.seq (Wp.reads (is := [0, 1, 2, 3, 4, 5, 6]) (Keep.refl _) (Rn.s rfl Yv.mv (Rn.s rfl (Yv.fa (off := 2)) (Rn.s rfl (Yv.ld (c6.at_ 2)) (Rn.s rfl (Yv.ia (e := 48) hr (by omega) (by omega)) (Rn.s rfl (Yv.fa (off := 0)) (Rn.s rfl (Yv.ld (hr.ld 0 (by omega) (by omega))) (Rn.s rfl (Yv.cmp _ rfl) (Rn.nil)))))))) ?_))
    have e8 : (⟨b, kb⟩ :: rb : List (OB × Nat)).reverse.length = rb.length + 1 := by simp
    rw [e8]
    refine Wp.mid (fun ρ ds w3 => ds = [] ∧ ∃ b' : OB, b'.node = b.node ∧ isGo t (t.drop (i + 1)) n ((i : Int) + 1) (⟨0, false, i, []⟩ :: b' :: rb.map (·.1)) = G ∧
        St w [] w3 (Ch.row BkE 73 B d (⟨b', kb⟩ :: rb : List (OB × Nat)).reverse :: mps (⟨b', kb⟩ :: rb)) ∧
        Sub [(0, .slice A t.length c), (3, .slice B (rb.length + 1) d), (4, .int .i64 i)] ρ) ?_ ?_
    case refine_1 =>
      refine Wp.cond rfl (fun h4 => ?_) (fun h4 => ?_)
      · have h4 := eq_of_beq h4
        rw [if_pos h4] at hgo
        refine Wp.seq (Wp.reads (is := [0, 1, 2]) (Keep.refl _) (Rn.s rfl (Yv.fa (off := 2)) (Rn.s rfl (Yv.ld (c5.at_ 2)) (Rn.s rfl (Yv.scm _ rfl) (Rn.nil)))) ?_)
        refine Wp.cond rfl (fun h5 => ?_) (fun h5 => ?_)
        · have h5 : n.key ≠ [] := by simpa using h5
          rw [if_pos h5] at hgo
          refine Wp.seq (Wp.reads (is := [0]) (Keep.refl _) (Rn.s rfl Yv.as (Rn.nil)) ?_)
          exact Wp.ret (Fin.ret (Res.one rfl rfl) ⟨by rw [← hgo], hst.keep⟩)
        have h5 : n.key = [] := by simpa using h5
        rw [if_neg (by simp [h5])] at hgo
        exact Wp.skip ⟨rfl, b, rfl, hgo, hst.sub (.cons _ (.cons _ (List.Sublist.refl _))), rfl, rfl, rfl, trivial⟩
      have h4 := ne_of_beq_false h4
      have hmp : (Ch.mp KyS VI kb b.keys).ok wu2 := hst.at_ 3
      rw [if_neg h4] at hgo
      refine Wp.seq (Wp.seq (Wp.regionL (l := [0, 1, 2, 3, 4, 5, 6, 7, 8, 9]) (WO.rd (is := [0, 1, 2, 3, 4, 5, 6, 7, 8, 9]) (js := []) (Keep.refl _) (Rn.s rfl (Yv.fa (off := 3)) (Rn.s rfl (Yv.ld (c6.at_ 3)) (Rn.s rfl (Yv.fa (off := 2)) (Rn.s rfl (Yv.ld (c5.at_ 2)) (Rn.s rfl (Yv.look2 hmp 0) (Rn.s rfl Yv.mv (Rn.s rfl Yv.ex (Rn.s rfl Yv.ex (Rn.s rfl Yv.as (Rn.s rfl Yv.as (Rn.nil))))))))))) (WO.done ?_))))
      refine Wp.seq (Wp.reads (is := [0, 1, 2, 3, 4, 5, 6]) (Keep.refl _) (Rn.s rfl Yv.mv (Rn.s rfl Yv.mv (Rn.or (is := [2, 3, 4, 5, 6]) (js := []) (t := 98) (d := 103) (hg := rfl) (hf := fun h1 => Rn.s rfl (Yv.fa (off := 2)) (Rn.s rfl (Yv.ld (c5.at_ 2)) (Rn.s rfl Yv.len_s (Rn.s rfl (Yv.cmp _ rfl) (Rn.s rfl Yv.pick_f ((Rn.e 5 rfl rfl))))))) (ht := fun _ => Rn.no rfl (Rn.no rfl (Rn.no rfl (Rn.no rfl (Rn.s rfl Yv.pick_t (Rn.e 5 rfl rfl)))))) (k := Rn.nil)))) ?_)
      refine Wp.cond rfl (fun h5 => ?_) (fun h5 => ?_)
      · rw [if_pos h5] at hgo
        refine Wp.seq (Wp.reads (is := [0]) (Keep.refl _) (Rn.s rfl Yv.as (Rn.nil)) ?_)
        exact Wp.ret (Fin.ret (Res.one rfl rfl) ⟨by rw [← hgo], hst.keep⟩)
      rw [if_neg (by rw [h5]; decide)] at hgo
      refine Wp.skip ?_
      refine Wp.regionL (l := [0, 1, 2, 3, 4, 5, 6]) (WO.rd (is := [0, 1, 2, 3, 4, 5]) (js := [6]) (Keep.refl _) (Rn.s rfl (Yv.fa (off := 3)) (Rn.s rfl (Yv.ld (c6.at_ 3)) (Rn.s rfl (Yv.fa (off := 2)) (Rn.s rfl (Yv.ld (c5.at_ 2)) (Rn.s rfl (Yv.look hmp 0) (Rn.s rfl Yv.addw (Rn.nil))))))) (WO.act (hc := rfl) (he := Ef.mapput hst 3 (fun wq1 hsq1 => WO.done ?_))))
      refine ⟨rfl, { b with keys := aput n.key (w64 ((alook n.key b.keys).getD 0 + 1)) b.keys }, rfl, hgo, ?_, rfl, rfl, rfl, trivial⟩
      have e7 : Ch.row BkE 73 B d (⟨b, kb⟩ :: rb : List (OB × Nat)).reverse = Ch.row BkE 73 B d (({ b with keys := aput n.key (w64 ((alook n.key b.keys).getD 0 + 1)) b.keys }, kb) :: rb : List (OB × Nat)).reverse := row_congr (by simp) (by simp)
      rw [← e7]
      exact hsq1.pickT (P := [_, _, _, _]) (T := mps rb) [3, 0]
    rintro ρ ds w3 ⟨rfl, b', hbn', hgo, hst, hs⟩
    refine Wp.forget _ ?_ hs
    have e9 : (⟨b', kb⟩ :: rb : List (OB × Nat)).reverse.length = rb.length + 1 := by simp
    rw [← e9]
    have hrl : rb.length ≤ 32 := by simp only [List.length_cons] at hlb; omega
    refine Wp.regionL (l := [0, 1, 2, 3, 4, 5, 6]) (WO.rd (is := [0, 1]) (js := [2, 3, 4, 5, 6]) (Keep.refl _) (Rn.s rfl Yv.mv (Rn.s rfl Yv.mv (Rn.nil))) (WO.act (hc := rfl) (he := Ef.makeMap KyS (.int .i64) hst (fun bv1 wv1 kv1 hsv1 => WO.rd (is := [3]) (js := [4, 5, 6]) ((Keep.refl _).trans kv1) (Rn.s rfl (Yv.bd (cs := BkE.cells ((⟨0, false, i, []⟩ : OB), bv1))) (Rn.nil)) (WO.app BkE [((⟨0, false, i, []⟩ : OB), bv1)] rfl (fun _ => rfl) hsv1 1 (.inl (by simp only [List.length_reverse, List.length_cons, List.length_nil]; omega)) (fun bv2 Av2 cv2 wv2 hsv2 => WO.rd (is := [6]) (js := []) (Keep.refl _) (Rn.s rfl Yv.as (Rn.nil)) (WO.done ?_)))))))
    refine Wp.reads (is := [0, 1, 2]) (Keep.refl _) (Rn.s rfl Yv.mv (Rn.s rfl (Yv.add (by unfold inI; omega)) (Rn.s rfl Yv.as (Rn.nil)))) ?_
    refine ⟨i + 1, ⟨rfl, by omega, hil, ⟨Av2, cv2, (⟨0, false, i, []⟩, bv1) :: ⟨b', kb⟩ :: rb, ?_, ?_, ?_, ?_, ?_, ?_, rfl, by rw [List.reverse_cons (a := ((⟨0, false, (i : Int), []⟩, bv1) : OB × Nat))]; rfl, rfl, trivial⟩⟩, by omega⟩
    all_goals try (
      have e10 : ((i + 1 : Nat) : Int) - 1 = i := by omega
      rw [e10, ← hn])
    · exact hgo
    · simp only [List.length_cons] at hlb ⊢
      omega
    · omega
    · omega
    · intro x hx
      rcases List.mem_cons.1 hx with h9 | h9
      · subst h9; simp only; omega
      rcases List.mem_cons.1 h9 with h9 | h9
      · subst h9; simp only [hbn']; exact hbn
      · exact hno x (hmem x (List.mem_cons_of_mem _ h9))
    · have h9 := hsv2.pickT (P := [_, _, _]) (T := mps rb) [0, 1, 2]
      rw [List.reverse_cons (a := ((⟨0, false, (i : Int), []⟩, bv1) : OB × Nat))]
      exact h9
  have h := of_decide_eq_false h
  rw [List.drop_eq_nil_of_le (by omega), isGo] at hgo
  refine Wp.exit ?_
  refine Wp.seq (Wp.reads (is := [0]) (Keep.refl _) (Rn.s rfl Yv.as (Rn.nil)) ?_)
  exact Wp.ret (Fin.ret (Res.one rfl rfl) ⟨by rw [← hgo], hst.keep⟩)
end Go.Proofs.YtgjhbapbomdpbaaDoor.C
