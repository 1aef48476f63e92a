/- What a line says: scalar.Read. -/
import Derived.Test.YtgjhbapbomdpbaaDoorB5
set_option linter.unusedVariables false
set_option linter.unusedSimpArgs false
set_option maxRecDepth 10000
namespace Go.Proofs.YtgjhbapbomdpbaaDoor.C
open Go.RowKit Go.Proofs.YtgjhbapbomdpbaaDoor.Sh
abbrev ChO (bo bc be : Nat) (o : Ct) (col e : Int) : List Chunk := [Ch.cells be 25 [.int .i64 e], Ch.cells bc 3 [.int .i64 col], Ch.cells bo 80 o.cs]
/-- the deferred closure, where nothing has panicked -/
theorem rec_calm (bo bc be : Nat) (w : World) : CallsDIn (Fr none) 0 Tryd.prog 54 [PB bo, PB bc, PB be].toArray .returning w fun e u' w' => e = .returned (.tuple #[]) ∧ u' = .returning ∧ w' = w := by
  refine callsD_of_WpU Tryd.func54 ?_
  refine WpU.seq (WpU.region (WSO.rec_none rfl (WSO.rd rfl Yv.as (WSO.done ?_))))
  refine WpU.plain ?_
  refine Wp.seq (Wp.reads (is := [0, 1]) (Keep.refl _) (Rn.s rfl Yv.mv (Rn.s rfl Yv.ifn_nn (Rn.nil))) ?_)
  refine Wp.cond_f rfl (Wp.skip ?_)
  exact ⟨rfl, Fin.normal (Res.none rfl) ⟨rfl, rfl, rfl⟩⟩
/-- the deferred closure, where reading has given up -/
theorem rec_stop (bo bc be : Nat) (why col : Int) (o : Ct) (c0 e0 : Int) (w : World) (hs : St w [be, bc, bo] w (ChO bo bc be o c0 e0)) :
    CallsDIn (Fr none) 0 Tryd.prog 54 [PB bo, PB bc, PB be].toArray (.panicking [{ v := stopV why col, recovered := false }]) w fun e u' w' => e = .returned (.tuple #[]) ∧ u' = .panicking [{ v := stopV why col, recovered := true }] ∧ St w [be, bc, bo] w' (ChO bo bc be ct0 col why) := by
  refine callsD_of_WpU Tryd.func54 ?_
  refine WpU.seq (WpU.region (WSO.rec_some rfl (WSO.rd rfl Yv.as (WSO.done ?_))))
  refine WpU.plain ?_
  refine Wp.seq (Wp.reads (is := [0, 1]) (Keep.refl _) (Rn.s rfl Yv.mv (Rn.s rfl Yv.ifn_ne (Rn.nil))) ?_)
  refine Wp.cond_t rfl ?_
  refine Wp.seq (Wp.regionL (l := [0, 1, 2, 3, 4, 5, 6, 7]) (WO.rd (is := [0, 1, 2, 3, 4]) (js := [5, 6, 7]) (Keep.refl _) (Rn.s rfl Yv.mv (Rn.s rfl Yv.ta_t (Rn.s rfl Yv.mv (Rn.s rfl Yv.ex (Rn.s rfl Yv.ex (Rn.nil)))))) (WO.act (hc := rfl) (he := Ef.allocL (vs := [.int .i64 0, .int .i64 0]) hs (fun b w1 k1 hs1 => WO.act (hc := rfl) (he := Ef.stores hs1 0 (fun w2 hs2 => WO.rd (is := [7]) (js := []) (Keep.refl _) (Rn.s rfl Yv.as (Rn.nil)) (WO.done ?_))))))))
  refine Wp.seq (Wp.seq (Wp.reads (is := [0, 1]) (Keep.refl _) (Rn.s rfl Yv.mv (Rn.s rfl Yv.not (Rn.nil))) ?_))
  refine Wp.cond_f rfl (Wp.skip ?_)
  have hs2 : St w [be, bc, bo] w2 (Ch.cells b 119 [.int .i64 why, .int .i64 col] :: ChO bo bc be o c0 e0) := hs2
  have c4 := hs2.cells 0
  have hs2 := hs2.quiet (Keep.drew _)
  have ld1 : ∀ {W : World} {D : List Chunk}, St w [be, bc, bo] W D → (∃ i, D[i]? = some (Ch.cells b 119 [.int .i64 why, .int .i64 col])) → W.cell? ⟨b, 0 + 1, none⟩ = some (.int .i64 col) ∧ W.cell? ⟨b, 0 + 0, none⟩ = some (.int .i64 why) :=
    fun h ⟨i, hi⟩ => ⟨(h.cells i hi).at_ 1, (h.cells i hi).at_ 0⟩
  refine Wp.draws [2, 4, 5, 6, 7] mixed (WD.rd (is := [0, 1, 3]) (fun _ _ _ _ _ h => h) (Keep.drew _) (Rn.s rfl (Yv.bd (cs := Ct.cs ct0)) (Rn.s rfl (Yv.fa (off := 1)) (Rn.s rfl (Yv.fa (off := 0)) (Rn.nil)))) (WD.act3 2 4 5 (hci := rfl) (hcj := rfl) (hck := rfl) (hi := (Ef.rd (Yv.ld (ld1 (by assumption) (by first | exact ⟨0, rfl⟩ | exact ⟨1, rfl⟩ | exact ⟨2, rfl⟩ | exact ⟨3, rfl⟩)).1) ⟨fun hn => (hn (by decide)).elim, WD.act2 4 5 (hci := rfl) (hcj := rfl) (hi := (Ef.rd (Yv.ld (ld1 (by assumption) (by first | exact ⟨0, rfl⟩ | exact ⟨1, rfl⟩ | exact ⟨2, rfl⟩ | exact ⟨3, rfl⟩)).2) ⟨fun hn => (hn (by decide)).elim, WD.act 5 (hc := rfl) (he := (Ef.stores hs2 3 (fun wx3 hsx3 => ⟨fun hn => (hn (by decide)).elim, WD.act 6 (hc := rfl) (he := (Ef.store hsx3 3 (fun wx4 hsx4 => ⟨fun hn => (hn (by decide)).elim, WD.act 7 (hc := rfl) (he := (Ef.store hsx4 3 (fun wx5 hsx5 => ⟨fun hn => (hn (by decide)).elim, WD.done ?_⟩)))⟩)))⟩)))⟩)) (hj := (Ef.stores hs2 3 (fun wx6 hsx6 => ⟨fun hn => (hn (by decide)).elim, WD.act2 4 6 (hci := rfl) (hcj := rfl) (hi := (Ef.rd (Yv.ld (ld1 (by assumption) (by first | exact ⟨0, rfl⟩ | exact ⟨1, rfl⟩ | exact ⟨2, rfl⟩ | exact ⟨3, rfl⟩)).2) ⟨fun hn => (hn (by decide)).elim, WD.act 6 (hc := rfl) (he := (Ef.store hsx6 3 (fun wx8 hsx8 => ⟨fun hn => (hn (by decide)).elim, WD.act 7 (hc := rfl) (he := (Ef.store hsx8 3 (fun wx9 hsx9 => ⟨fun hn => (hn (by decide)).elim, WD.done ?_⟩)))⟩)))⟩)) (hj := (Ef.store hsx6 3 (fun wx10 hsx10 => ⟨fun hn => (hn (by decide)).elim, WD.act 4 (hc := rfl) (he := (Ef.rd (Yv.ld (ld1 (by assumption) (by first | exact ⟨0, rfl⟩ | exact ⟨1, rfl⟩ | exact ⟨2, rfl⟩ | exact ⟨3, rfl⟩)).2) ⟨fun hn => (hn (by decide)).elim, WD.act 7 (hc := rfl) (he := (Ef.store hsx10 3 (fun wx12 hsx12 => ⟨fun hn => (hn (by decide)).elim, WD.done ?_⟩)))⟩))⟩)))⟩)))⟩)) (hj := (Ef.rd (Yv.ld (ld1 (by assumption) (by first | exact ⟨0, rfl⟩ | exact ⟨1, rfl⟩ | exact ⟨2, rfl⟩ | exact ⟨3, rfl⟩)).2) ⟨fun hn => (hn (by decide)).elim, WD.act2 2 5 (hci := rfl) (hcj := rfl) (hi := (Ef.rd (Yv.ld (ld1 (by assumption) (by first | exact ⟨0, rfl⟩ | exact ⟨1, rfl⟩ | exact ⟨2, rfl⟩ | exact ⟨3, rfl⟩)).1) ⟨fun hn => (hn (by decide)).elim, WD.act 5 (hc := rfl) (he := (Ef.stores hs2 3 (fun wx15 hsx15 => ⟨fun hn => (hn (by decide)).elim, WD.act 6 (hc := rfl) (he := (Ef.store hsx15 3 (fun wx16 hsx16 => ⟨fun hn => (hn (by decide)).elim, WD.act 7 (hc := rfl) (he := (Ef.store hsx16 3 (fun wx17 hsx17 => ⟨fun hn => (hn (by decide)).elim, WD.done ?_⟩)))⟩)))⟩)))⟩)) (hj := (Ef.stores hs2 3 (fun wx18 hsx18 => ⟨fun hn => (hn (by decide)).elim, WD.act 2 (hc := rfl) (he := (Ef.rd (Yv.ld (ld1 (by assumption) (by first | exact ⟨0, rfl⟩ | exact ⟨1, rfl⟩ | exact ⟨2, rfl⟩ | exact ⟨3, rfl⟩)).1) ⟨fun hn => (hn (by decide)).elim, WD.act 6 (hc := rfl) (he := (Ef.store hsx18 3 (fun wx20 hsx20 => ⟨fun hn => (hn (by decide)).elim, WD.act 7 (hc := rfl) (he := (Ef.store hsx20 3 (fun wx21 hsx21 => ⟨fun hn => (hn (by decide)).elim, WD.done ?_⟩)))⟩)))⟩))⟩)))⟩)) (hk := (Ef.stores hs2 3 (fun wx22 hsx22 => ⟨fun hn => (hn (by decide)).elim, WD.act2 2 4 (hci := rfl) (hcj := rfl) (hi := (Ef.rd (Yv.ld (ld1 (by assumption) (by first | exact ⟨0, rfl⟩ | exact ⟨1, rfl⟩ | exact ⟨2, rfl⟩ | exact ⟨3, rfl⟩)).1) ⟨fun hn => (hn (by decide)).elim, WD.act2 4 6 (hci := rfl) (hcj := rfl) (hi := (Ef.rd (Yv.ld (ld1 (by assumption) (by first | exact ⟨0, rfl⟩ | exact ⟨1, rfl⟩ | exact ⟨2, rfl⟩ | exact ⟨3, rfl⟩)).2) ⟨fun hn => (hn (by decide)).elim, WD.act 6 (hc := rfl) (he := (Ef.store hsx22 3 (fun wx25 hsx25 => ⟨fun hn => (hn (by decide)).elim, WD.act 7 (hc := rfl) (he := (Ef.store hsx25 3 (fun wx26 hsx26 => ⟨fun hn => (hn (by decide)).elim, WD.done ?_⟩)))⟩)))⟩)) (hj := (Ef.store hsx22 3 (fun wx27 hsx27 => ⟨fun hn => (hn (by decide)).elim, WD.act 4 (hc := rfl) (he := (Ef.rd (Yv.ld (ld1 (by assumption) (by first | exact ⟨0, rfl⟩ | exact ⟨1, rfl⟩ | exact ⟨2, rfl⟩ | exact ⟨3, rfl⟩)).2) ⟨fun hn => (hn (by decide)).elim, WD.act 7 (hc := rfl) (he := (Ef.store hsx27 3 (fun wx29 hsx29 => ⟨fun hn => (hn (by decide)).elim, WD.done ?_⟩)))⟩))⟩)))⟩)) (hj := (Ef.rd (Yv.ld (ld1 (by assumption) (by first | exact ⟨0, rfl⟩ | exact ⟨1, rfl⟩ | exact ⟨2, rfl⟩ | exact ⟨3, rfl⟩)).2) ⟨fun hn => (hn (by decide)).elim, WD.act 2 (hc := rfl) (he := (Ef.rd (Yv.ld (ld1 (by assumption) (by first | exact ⟨0, rfl⟩ | exact ⟨1, rfl⟩ | exact ⟨2, rfl⟩ | exact ⟨3, rfl⟩)).1) ⟨fun hn => (hn (by decide)).elim, WD.act 6 (hc := rfl) (he := (Ef.store hsx22 3 (fun wx32 hsx32 => ⟨fun hn => (hn (by decide)).elim, WD.act 7 (hc := rfl) (he := (Ef.store hsx32 3 (fun wx33 hsx33 => ⟨fun hn => (hn (by decide)).elim, WD.done ?_⟩)))⟩)))⟩))⟩))⟩)))))
  all_goals exact ⟨rfl, Fin.normal (Res.none rfl) ⟨rfl, rfl, St.pick (by assumption) [0, 1, 2]⟩⟩
/-! ### Read -/
theorem tailS_bd {s : Bs} {n : Nat} {key : Bs} {a : Int} {o : Ct} (h : tailS s n key = .ok a o) : 0 ≤ a ∧ a ≤ s.length := by
  unfold tailS at h
  split at h
  · cases h
  · split at h
    · cases h
    · injection h with h
      omega
theorem headS_bd {s : Bs} {a : Int} {o : Ct} (h : headS s = .ok a o) : 0 ≤ a ∧ a ≤ s.length := by
  unfold headS at h
  split at h
  · rename_i hs
    injection h with h
    have : 1 ≤ s.length := by
      rcases hs with rfl | hs
      · simp
      · cases s with
        | nil => simp [Lib.hasPrefix, List.isPrefixOf] at hs
        | cons => simp
    omega
  · split at h
    · split at h
      · split at h
        · cases h
        · exact tailS_bd h
      · cases h
    · split at h
      · exact tailS_bd h
      · cases h
/-- what scalar.Read hands back -/
def readC (s : Bs) : Ct × Int × Int :=
  match headS s with
  | .err why col => (ct0, col, why)
  | .ok a o => match valueS s (gapN s a.toNat) o with
    | .err why col => (ct0, col, why)
    | .ok _ o' => (o', 0, 0)
abbrev MtE (b : Nat) : Enc FuncId := ⟨1, fun f => [.func (.func f) #[PB b] #[]], fun _ => rfl⟩
abbrev fns : List FuncId := [55, 56, 57]
/-- how far reading is, and with what -/
def Stg (s : Bs) (i : Nat) (a : Int) (o : Ct) : Prop :=
  match i with
  | 0 => a = 0 ∧ o = ct0
  | 1 => headS s = .ok a o
  | 2 => ∃ a1, headS s = .ok a1 o ∧ a = (gapN s a1.toNat : Nat)
  | _ => ∃ a1 o1, headS s = .ok a1 o1 ∧ valueS s (gapN s a1.toNat) o1 = .ok a o
/-- one of the three steps -/
theorem step_calls (b : Nat) (s : Bs) (i : Nat) (a : Int) (o : Ct) (hi : i < 3) (hl : s.length ≤ 1000000) (hst : Stg s i a o) (w0 : World) (hg0 : Gm w0) (hb0 : w0.heap.size ≤ b) (w : World) (hk0 : Keep w0 w) (hok : (ChR b s a o).ok w) :
    Calls Tryd.prog (nth fns (i : Int)) #[PB b] w fun e w' => (∃ a' o', Stg s (i + 1) a' o' ∧ e = .returned (.tuple #[]) ∧ St w [b] w' [ChR b s a' o']) ∨ (∃ why col, readC s = (ct0, col, why) ∧ e = .panicked [{ v := stopV why col, recovered := false }] ∧ St w [b] w' []) := by
  match i, hi, hst with
  | 0, _, hst =>
    obtain ⟨rfl, rfl⟩ := hst
    refine (head_calls b s ct0 hl w hok).mono fun e w' hp => ?_
    cases hh : headS s with
    | ok a' o' =>
      rw [hh] at hp
      exact .inl ⟨a', o', hh, hp.1, hp.2⟩
    | err why col =>
      rw [hh] at hp
      exact .inr ⟨why, col, by simp only [readC, hh], hp.1, hp.2⟩
  | 1, _, hst =>
    have hbd := headS_bd hst
    have e : a = ((a.toNat : Nat) : Int) := by omega
    rw [e] at hok
    refine (gap_cu b s a.toNat o hl (by omega) w hok).mono fun e w' hp => ?_
    exact .inl ⟨_, o, ⟨a, hst, rfl⟩, hp.1, hp.2⟩
  | 2, _, hst =>
    obtain ⟨a1, hh, rfl⟩ := hst
    have hbd := headS_bd hh
    have hgl := gapN_le s a1.toNat (by omega)
    refine (value_calls b s (gapN s a1.toNat) o hl hgl.2 w0 hg0 hb0 w hk0 hok).mono fun e w' hp => ?_
    cases hv : valueS s (gapN s a1.toNat) o with
    | ok a' o' =>
      rw [hv] at hp
      exact .inl ⟨a', o', ⟨a1, o, hh, hv⟩, hp.1, hp.2⟩
    | err why col =>
      rw [hv] at hp
      exact .inr ⟨why, col, by simp only [readC, hh, hv], hp.1, hp.2⟩
theorem fns_ok (i : Nat) (h : i < 3) : FnOk Tryd.prog (nth fns (i : Int)) := by
  match i, h with
  | 0, _ => exact FnOk.of Tryd.func55
  | 1, _ => exact FnOk.of Tryd.func56
  | 2, _ => exact FnOk.of Tryd.func57
theorem resC3 {P : Program} {fn : Func} {N n : Nat} {ρ : Env} {w : World} {t u v bt bu bv : Nat} {ty tu tv : TypeId} {vs : List Value} {x y : Value} (h : fn.results = #[.cell t ty, .cell u tu, .cell v tv]) (hp : lk ρ t = some (PB bt)) (hq : lk ρ u = some (PB bu)) (hr : lk ρ v = some (PB bv))
    (hc : Cells w bt vs) (hx : Cells w bu [x]) (hy : Cells w bv [y]) (hn : vs.length = n := by rfl) (ht : agB P ty n = true := by kernel_rfl) (hu : scB P tu = true := by kernel_rfl) (hv : scB P tv = true := by kernel_rfl) : Res P fn N ρ w (.tuple #[.agg vs.toArray, x, y]) := fun a ds ha => by
  have h1 := ha.val t _ hp
  have h2 := ha.val u _ hq
  have h3 := ha.val v _ hr
  have e1 : (loadVar ty ⟨bt, 0, none⟩).run P w = .ok (.agg vs.toArray) w := run_loadVar_ag (agB_of ht) ⟨bt, 0, none⟩ vs hn (fun j v hj => by rw [add_off, Nat.zero_add]; exact hc j v hj)
  have e2 : (loadVar tu ⟨bu, 0, none⟩).run P w = .ok x w := by simp [loadVar, run_isAgg_sc (scB_of hu), hx 0 x rfl]
  have e3 : (loadVar tv ⟨bv, 0, none⟩).run P w = .ok y w := by simp [loadVar, run_isAgg_sc (scB_of hv), hy 0 y rfl]
  simp only [results, h]
  simp at h1 h2 h3
  simp [h1, h2, h3, e1, e2, e3, asAddr]
theorem sread_cv (s : Bs) (hl : s.length ≤ 1000000) (w0 : World) (hg : Gm w0) : Cv Tryd.prog 34 [S s] (.tuple #[.agg (readC s).1.cs.toArray, .int .i64 (readC s).2.1, .int .i64 (readC s).2.2]) w0 := by
  intro w hk
  have hg := hg.keep hk
  refine calls_of_WpD (vs := [_]) Tryd.func34 ?_
  refine Wp.seq (Wp.regionL (l := [0, 1, 2]) (WO.act (hc := rfl) (he := Ef.allocL (vs := [.int .i64 0, S [], .bool false, S [], .int .i64 0, .int .i64 0, .int .i64 0]) (St.init w) (fun ba1 wa1 ka1 hsa1 => WO.act (hc := rfl) (he := Ef.allocL (vs := [.int .i64 0]) hsa1 (fun ba2 wa2 ka2 hsa2 => WO.act (hc := rfl) (he := Ef.allocL (vs := [.int .i64 0]) hsa2 (fun ba3 wa3 ka3 hsa3 => WO.done ?_))))))))
  refine Wp.seq (Wp.regionL (l := [0, 1, 2, 3]) (WO.rd (is := [0, 1]) (js := [2, 3]) (Keep.refl _) (Rn.s rfl Yv.mv (Rn.s rfl (Yv.bd (cs := rrcs s 0 ct0)) (Rn.nil))) (WO.act (hc := rfl) (he := Ef.boxL (rrcs s 0 ct0) hsa3 (fun bb1 wb1 kb1 hsb1 => WO.rd (is := [3]) (js := []) ((Keep.refl _).trans kb1) (Rn.s rfl Yv.as (Rn.nil)) (WO.done ?_))))))
  refine Wp.seq (Wp.regionL (l := [0, 1]) (WO.rd (is := [0]) (js := [1]) (Keep.refl _) (Rn.s rfl Yv.mf (Rn.nil)) (WO.defer (WO.done ?_))))
  have hrb := (hsb1.rng _ (List.mem_cons_self ..) bb1 (by simp [Ch.cells])).1
  have hb0 : w.heap.size ≤ bb1 := by
    rcases hrb with h | h
    · cases h
    · exact h
  refine Wp.seq (Wp.seq (Wp.regionL (l := [0, 1, 2, 3, 4, 5, 6, 7, 8]) (WO.rd (is := [0, 1, 2, 3, 4, 5]) (js := [6, 7, 8]) (Keep.refl _) (Rn.s rfl Yv.mv (Rn.s rfl Yv.mf1 (Rn.s rfl Yv.mv (Rn.s rfl Yv.mf1 (Rn.s rfl Yv.mv (Rn.s rfl Yv.mf1 (Rn.nil))))))) (WO.act (hc := rfl) (he := Ef.bsl (T := 1) (MtE bb1) fns hsb1 (fun bc1 wc1 kc1 hsc1 => WO.rd (is := [7, 8]) (js := []) ((Keep.refl _).trans kc1) (Rn.s rfl (Yv.len_v (e := 1) (m := 1)) (Rn.s rfl Yv.mv (Rn.nil))) (WO.done ?_)))))))
  have hst : St w [] wc1 (Ch.row (MtE bb1) 1 (some ⟨bc1, 0, none⟩) 3 fns :: ChR bb1 s 0 ct0 :: ChO ba1 ba2 ba3 ct0 0 0) := hsc1
  refine Wp.block ?_
  refine Wp.loop (α := Nat) (fun i ρ ds w' => ds = [{ target := .fn (.func 54) [PB ba1, PB ba2, PB ba3].toArray, args := #[] }] ∧ i ≤ 3 ∧ (∃ a o, Stg s i a o ∧ St w [] w' (Ch.row (MtE bb1) 1 (some ⟨bc1, 0, none⟩) 3 fns :: ChR bb1 s a o :: ChO ba1 ba2 ba3 ct0 0 0)) ∧
    Sub [(2, PB ba1), (3, PB ba2), (4, PB ba3), (5, PB bb1), (18, .slice (some ⟨bc1, 0, none⟩) 3 3), (19, .int .i64 3), (20, .int .i64 i)] ρ) (fun i => 3 - i) 0 ⟨rfl, by omega, ⟨0, ct0, ⟨rfl, rfl⟩, hst⟩, rfl, rfl, rfl, rfl, rfl, rfl, rfl, trivial⟩ ?_
  rintro i ρ ds w' ⟨rfl, hi, ⟨a, o, hstg, hst⟩, hs⟩
  refine Wp.forget _ ?_ hs
  refine Wp.seq (Wp.reads (is := [0]) (Keep.refl _) (Rn.s rfl (Yv.cmp _ rfl) (Rn.nil)) ?_)
  refine Wp.seq (Wp.cond rfl (fun h => ?_) (fun h => ?_))
  · have h := of_decide_eq_true h
    have h3 : i < 3 := by omega
    have hr := hst.rd 0
    refine Wp.skip (Wp.seq (Wp.block ?_))
    obtain ⟨g, hgd⟩ : ∃ g, g = nth fns (i : Int) := ⟨_, rfl⟩
    have hv : ((MtE bb1).cells (nth fns (i : Int)))[0]? = some (.func (.func g) #[PB bb1] #[]) := by rw [hgd]; rfl
    have hstep := step_calls bb1 s i a o h3 hl hstg w hg hb0 w' hst.keep (hst.at_ 1)
    obtain ⟨fn, hf, hb, hn⟩ := fns_ok i h3
    rw [← hgd] at hstep hf
    have ea : (#[PB bb1] : Array Value) = #[PB bb1] ++ ([] : List Value).toArray ++ #[] := by simp
    rw [ea] at hstep
    refine Wp.seq (Wp.reads (is := [0, 1, 2]) (Keep.refl _) (Rn.s rfl (Yv.ia (e := 1) hr (by omega) (by omega)) (Rn.s rfl (Yv.ld (hr.ld (i := (i : Int)) 0 (by omega) (by simp only [List.length_cons, List.length_nil]; omega) hv)) (Rn.s rfl Yv.as (Rn.nil)))) ?_)
    refine Wp.regionL (l := [0, 1]) (WO.rd (is := [0]) (js := [1]) (Keep.refl _) (Rn.s rfl Yv.mv (Rn.nil)) (WO.act (hc := rfl) (he := Ef.callb hf (Calls.mono hstep ?_) hb hn)))
    rintro e w2 (⟨a', o', hstg', rfl, hs2⟩ | ⟨why, col, hR, rfl, hs2⟩)
    · have hst2 := (hst.pick [1, 0, 2, 3, 4]).call (A := [ChR bb1 s a o]) hs2
      refine WO.done ?_
      refine Wp.reads (is := [0, 1]) (Keep.refl _) (Rn.s rfl (Yv.add (by unfold inI; omega)) (Rn.s rfl Yv.mv (Rn.nil))) ?_
      exact ⟨i + 1, ⟨rfl, h3, ⟨a', o', hstg', hst2.pick [1, 0, 2, 3, 4]⟩, rfl, rfl, rfl, rfl, rfl, rfl, rfl, trivial⟩, by omega⟩
    · have hst2 := (hst.pick [1, 2, 3, 4]).call (A := [ChR bb1 s a o]) hs2
      have hen : St w2 [ba3, ba2, ba1] w2 (ChO ba1 ba2 ba3 ct0 0 0) := St.enter (A := ChO ba1 ba2 ba3 ct0 0 0) (D := []) hst2
      show LvU _ _ _ _ _ _ _ _
      refine LvU.fn Tryd.func54 (by simp) (CallsDIn.mono (rec_stop ba1 ba2 ba3 why col ct0 0 0 w2 hen) ?_)
      rintro e u' w3 ⟨rfl, rfl, hs3⟩
      have hst3 := hst2.call (A := ChO ba1 ba2 ba3 ct0 0 0) (D := []) hs3
      refine LvU.nilR (resC3 rfl rfl rfl rfl (hst3.cells 2) (hst3.cells 1) (hst3.cells 0)) ⟨?_, hst3.keep⟩
      rw [hR]
  · have h := of_decide_eq_false h
    have h3 : i = 3 := by omega
    subst h3
    obtain ⟨a1, o1, hh, hv⟩ := hstg
    have e : readC s = (o, 0, 0) := by simp only [readC, hh, hv]
    refine Wp.exit ?_
    have hc := hst.cells 1
    refine Wp.seq (Wp.regionL (l := [0, 1, 2, 3, 4, 5, 6]) (WO.rd (is := [0, 1, 2, 3]) (js := [4, 5, 6]) (Keep.refl _) (Rn.s rfl Yv.mv (Rn.s rfl Yv.nc (Rn.s rfl (Yv.fa (off := 2)) (Rn.s rfl (Yv.lds (n := 7) (vs := o.cs) rfl (fun j v hj => hc.at_ (2 + j) (by rw [← hj, Nat.add_comm]; rfl))) (Rn.nil))))) (WO.act (hc := rfl) (he := Ef.stores hst 4 (fun wd1 hsd1 => WO.act (hc := rfl) (he := Ef.store hsd1 4 (fun wd2 hsd2 => WO.act (hc := rfl) (he := Ef.store hsd2 4 (fun wd3 hsd3 => WO.done ?_)))))))))
    refine Wp.ret ?_
    show LvU _ _ _ _ _ _ _ _
    refine LvU.fn Tryd.func54 (by simp) (CallsDIn.mono (rec_calm ba1 ba2 ba3 _) ?_)
    rintro e u' w3 ⟨rfl, rfl, rfl⟩
    refine LvU.nilR (resC3 rfl rfl rfl rfl (hsd3.cells 2) (hsd3.cells 1) (hsd3.cells 0)) ⟨?_, hsd3.keep⟩
    rw [e]
    rfl
end Go.Proofs.YtgjhbapbomdpbaaDoor.C
