/- Instances, needs and variables as they lie in memory; graph's small functions: at, of, means, Get, all. -/
import Derived.Test.YthbehiflmcljcaaDoorGl
set_option linter.unusedVariables false
set_option linter.unusedSimpArgs false
set_option maxRecDepth 10000
namespace Go.Proofs.YthbehiflmcljcaaDoor.C
open Go.RowKit Go.Proofs.YthbehiflmcljcaaDoor.Sh
/-- a slice: where it lies, its room, what it holds -/
abbrev Sn (α : Type) := Option Addr × Nat × List α
abbrev sv {α : Type} (x : Sn α) : Value := .slice x.1 x.2.2.length x.2.1
structure Ft where
  code : Int
  file : Bs
  line : Int
  col : Int
deriving Inhabited, DecidableEq
abbrev Ft.cs (f : Ft) : List Value := [.int .i64 f.code, S f.file, .int .i64 f.line, .int .i64 f.col]
abbrev ft0 : Ft := ⟨0, [], 0, 0⟩
structure Va where
  name : Bs
  value : Bs
deriving Inhabited, DecidableEq
abbrev VaE : Enc Va := ⟨2, fun x => [S x.name, S x.value], fun _ => rfl⟩
structure Ne where
  text : Bs
  at_ : Ft
deriving Inhabited, DecidableEq
abbrev NeE : Enc Ne := ⟨5, fun x => S x.text :: x.at_.cs, fun _ => rfl⟩
structure Sp where
  kind : Int
  text : Bs
deriving Inhabited, DecidableEq
abbrev SpE : Enc Sp := ⟨2, fun x => [.int .i64 x.kind, S x.text], fun _ => rfl⟩
structure Ru where
  code : Sn Sp
  whn : Int
deriving Inhabited
abbrev RuE : Enc Ru := ⟨2, fun x => [sv x.code, .int .i64 x.whn], fun _ => rfl⟩
structure Ist where
  name : Bs
  job : Int
  pick : Sn Va
  vars : Sn Va
  run : Bs
  needs : Sn Ne
  stage : Int
  whn : Int
  allow : Bool
  weight : Int
  rules : Sn Ru
  has : Bool
  at_ : Ft
deriving Inhabited
abbrev IsE : Enc Ist := ⟨16, fun x => [S x.name, .int .i64 x.job, sv x.pick, sv x.vars, S x.run, sv x.needs, .int .i64 x.stage, .int .i64 x.whn, .bool x.allow, .int .i64 x.weight, sv x.rules, .bool x.has, .int .i64 x.at_.code, S x.at_.file, .int .i64 x.at_.line, .int .i64 x.at_.col], fun _ => rfl⟩
/-- what graph reads of instances -/
structure IsB (w : World) (A : Option Addr) (is : List Ist) : Prop where
  rd : Rd IsE w A is
  vars : ∀ x ∈ is, Rd VaE w x.vars.1 x.vars.2.2
  needs : ∀ x ∈ is, Rd NeE w x.needs.1 x.needs.2.2
theorem IsB.keep {w w' : World} {A : Option Addr} {is : List Ist} (h : IsB w A is) (k : Keep w w') : IsB w' A is := ⟨h.rd.keep k, fun x hx => (h.vars x hx).keep k, fun x hx => (h.needs x hx).keep k⟩
/-! ### at -/
theorem at_cv (e : Int) (f : Ft) (w0 : World) : Cv Tryd.prog 41 [.int .i64 e, .agg f.cs.toArray] (.agg { f with code := e }.cs.toArray) w0 := by
  intro w hk
  refine calls_of_Wp (vs := [_, _]) Tryd.func41 ?_
  refine Wp.seq (Wp.regionL (l := [0, 1]) (WO.act (hc := rfl) (he := Ef.boxL (f.cs) (St.init w) (fun ba1 wa1 ka1 hsa1 => WO.act (hc := rfl) (he := Ef.allocL (vs := ft0.cs) hsa1 (fun ba2 wa2 ka2 hsa2 => WO.done ?_))))))
  refine Wp.seq (Wp.regionL (l := [0, 1, 2]) (WO.rd (is := [0, 1]) (js := [2]) (Keep.refl _) (Rn.s rfl Yv.mv (Rn.s rfl (Yv.fa (off := 0)) (Rn.nil))) (WO.act (hc := rfl) (he := Ef.store hsa2 1 (fun wb1 hsb1 => WO.done ?_)))))
  have c0 := hsb1.cells 0
  refine Wp.seq (Wp.regionL (l := [0, 1]) (WO.rd (is := [0]) (js := [1]) (Keep.refl _) (Rn.s rfl (Yv.ldb c0) (Rn.nil)) (WO.act (hc := rfl) (he := Ef.stores hsb1 1 (fun wc1 hsc1 => WO.done ?_)))))
  refine Wp.ret (Fin.ret (resAgg rfl (hp := rfl) (hsc1.cells 0)) ⟨rfl, hsc1.keep⟩)
/-! ### variables -/
def getV : List Va → Bs → Bs × Bool
  | [], _ => ([], false)
  | v :: vs, n => if v.name = n then (v.value, true) else getV vs n
theorem getV_drop {vs : List Va} {k : Nat} (hk : k < vs.length) (n : Bs) : getV (vs.drop k) n = if (nth vs (k : Int)).name = n then ((nth vs (k : Int)).value, true) else getV (vs.drop (k + 1)) n := by
  rw [List.drop_eq_getElem_cons hk, nth_getElem hk, getV]
theorem get_cv (A : Option Addr) (c : Nat) (vs : List Va) (n : Bs) (w0 : World) (hr : Rd VaE w0 A vs) (hl : vs.length ≤ 9223372036854775807) : Cv Tryd.prog 60 [.slice A vs.length c, S n] (.tuple #[S (getV vs n).1, .bool (getV vs n).2]) w0 := by
  intro w hk
  have hr := hr.keep hk
  refine calls_of_Wp (vs := [_, _]) Tryd.func60 ?_
  refine Wp.seq (Wp.reads (is := [0, 1]) (Keep.refl _) (Rn.s rfl Yv.as (Rn.s rfl Yv.as (Rn.nil))) ?_)
  refine Wp.seq (Wp.seq (Wp.reads (is := [0, 1, 2]) (Keep.refl _) (Rn.s rfl Yv.mv (Rn.s rfl (Yv.len_v (e := 51) (m := 2)) (Rn.s rfl Yv.mv (Rn.nil)))) ?_))
  refine Wp.block ?_
  refine Wp.loop (α := Nat) (fun k ρ ds w' => ds = [] ∧ Keep w w' ∧ k ≤ vs.length ∧ getV vs n = getV (vs.drop k) n ∧ Sub [(1, S n), (8, .slice A vs.length c), (9, .int .i64 (vs.length : Int)), (10, .int .i64 (k : Int))] ρ) (fun k => vs.length - k) 0
    ⟨rfl, Keep.refl _, by omega, rfl, rfl, rfl, rfl, rfl, trivial⟩ ?_
  rintro k ρ ds w1 ⟨rfl, hk1, hkl, hg, hs⟩
  refine Wp.forget _ ?_ hs
  clear hs ρ
  have hr1 := hr.keep hk1
  refine Wp.seq (Wp.reads (is := [0]) (Keep.refl _) (Rn.s rfl (Yv.cmp _ rfl) (Rn.nil)) ?_)
  refine Wp.seq (Wp.cond rfl (fun hlt => ?_) (fun hlt => ?_))
  · have hlt : k < vs.length := by have := of_decide_eq_true hlt; omega
    rw [getV_drop hlt] at hg
    refine Wp.skip ?_
    refine Wp.seq (Wp.block ?_)
    refine Wp.seq (Wp.regionL (l := [0, 1, 2, 3]) (WO.rd (is := [0, 1]) (js := [2, 3]) (Keep.refl _) (Rn.s rfl (Yv.ia (e := 51) hr1 (by omega) (by omega)) (Rn.s rfl (Yv.ldel hr1 rfl rfl (by omega) (by omega)) (Rn.nil))) (WO.act (hc := rfl) (he := Ef.allocL (vs := [S [], S []]) (St.init w1) (fun ba1 wa1 ka1 hsa1 => WO.act (hc := rfl) (he := Ef.stores hsa1 0 (fun wa2 hsa2 => WO.done ?_)))))))
    have c0 := hsa2.cells 0
    refine Wp.seq (Wp.reads (is := [0, 1, 2, 3]) (Keep.refl _) (Rn.s rfl (Yv.fa (off := 0)) (Rn.s rfl (Yv.ld (c0.at_ 0)) (Rn.s rfl Yv.mv (Rn.s rfl (Yv.scm _ rfl) (Rn.nil))))) ?_)
    refine Wp.cond rfl (fun h => ?_) (fun h => ?_)
    · have h : (nth vs (k : Int)).name = n := by simpa using h
      rw [if_pos h] at hg
      refine Wp.seq (Wp.reads (is := [0, 1, 2, 3]) (Keep.refl _) (Rn.s rfl (Yv.fa (off := 1)) (Rn.s rfl (Yv.ld (c0.at_ 1)) (Rn.s rfl Yv.as (Rn.s rfl Yv.as (Rn.nil))))) ?_)
      refine Wp.ret (Fin.ret (Res.two rfl rfl rfl) ⟨?_, hk1.trans hsa2.keep⟩)
      rw [hg]
    · have h : (nth vs (k : Int)).name ≠ n := by simpa using h
      rw [if_neg h] at hg
      refine Wp.skip ?_
      refine Wp.reads (is := [0, 1]) (Keep.refl _) (Rn.s rfl (Yv.add (by unfold inI; omega)) (Rn.s rfl Yv.mv (Rn.nil))) ?_
      exact ⟨k + 1, ⟨rfl, hk1.trans hsa2.keep, by omega, hg, rfl, rfl, rfl, rfl, trivial⟩, by omega⟩
  · have hlt : k = vs.length := by have := of_decide_eq_false hlt; omega
    subst hlt
    rw [List.drop_length] at hg
    refine Wp.exit ?_
    refine Wp.seq (Wp.reads (is := [0, 1]) (Keep.refl _) (Rn.s rfl Yv.as (Rn.s rfl Yv.as (Rn.nil))) ?_)
    refine Wp.ret (Fin.ret (Res.two rfl rfl rfl) ⟨?_, hk1⟩)
    rw [hg]
    rfl
/-! ### what a need means -/
def ofB (job name : Bs) : Bool := (name == job) || decide ((job ++ [91]).length ≤ name.length ∧ name.take (job ++ [91]).length = job ++ [91])
def okV (vs : List Va) (p : Va) : Bool := (getV vs p.name).2 && ((getV vs p.name).1 == p.value)
def meansB (job : Bs) (ps : List Va) (x : Ist) : Bool := ofB job x.name && ps.all (okV x.vars.2.2)
abbrev nds (job : Bs) (ps : Sn Va) : List Value := [S job, sv ps]
theorem of_cv (job : Bs) (ps : Sn Va) (x : Ist) (hj : job.length ≤ 1000) (w0 : World) : Cv Tryd.prog 48 [.agg (nds job ps).toArray, .agg (IsE.cells x).toArray] (.bool (ofB job x.name)) w0 := by
  intro w hk
  refine calls_of_Wp (vs := [_, _]) Tryd.func48 ?_
  refine Wp.seq (Wp.regionL (l := [0, 1, 2]) (WO.box rfl (fun ba1 wa1 ka1 ga1 ca1 => WO.box rfl (fun ba2 wa2 ka2 ga2 ca2 => WO.rd (is := [2]) (js := []) (((Keep.refl _).trans ka1).trans ka2) (Rn.s rfl Yv.as (Rn.nil)) (WO.done ?_)))))
  have c1 : Cells wa2 ba1 (nds job ps) := ca1.keep ka2
  have c2 : Cells wa2 ba2 (IsE.cells x) := ca2
  refine Wp.seq (Wp.regionL (l := [0, 1, 2, 3, 4, 5, 6, 7, 8, 9, 10, 11, 12, 13]) (WO.rd (is := [0, 1, 2, 3, 4, 5]) (js := [6, 7, 8, 9, 10, 11, 12, 13]) (Keep.refl _) (Rn.s rfl (Yv.fa (off := 0)) (Rn.s rfl (Yv.ld (c2.at_ 0)) (Rn.s rfl (Yv.fa (off := 0)) (Rn.s rfl (Yv.ld (c1.at_ 0)) (Rn.s rfl (Yv.scm _ rfl) (Rn.s rfl Yv.mv (Rn.nil))))))) (WO.or (js := [13]) 10 17 (hg := rfl) (hf := fun h5 qb1 => WO.rd (is := [6, 7, 8, 9, 10]) (js := [11, 12, 13]) (Keep.refl _) (Rn.s rfl (Yv.fa (off := 0)) (Rn.s rfl (Yv.ld (c2.at_ 0)) (Rn.s rfl (Yv.fa (off := 0)) (Rn.s rfl (Yv.ld (c1.at_ 0)) (Rn.s rfl (Yv.cat (by simp only [List.length_cons, List.length_nil]; omega)) (Rn.nil)))))) (WO.cv rfl (hasPrefix_cv x.name (job ++ [91]) wa2) (Keep.refl _) (FnOk.of Tryd.func59) (fun wb2 kb2 => WO.rd (is := [12]) (js := [13]) ((Keep.refl _).trans kb2) (Rn.s rfl Yv.pick_f (Rn.nil)) (WO.e 7 (qb1 _ ((Keep.refl _).trans kb2)))))) (ht := fun _ qb1 => WO.rd (is := [6, 7, 8, 9, 10, 11, 12]) (js := [13]) (Keep.refl _) (Rn.no rfl (Rn.no rfl (Rn.no rfl (Rn.no rfl (Rn.no rfl (Rn.no rfl (Rn.s rfl Yv.pick_t Rn.nil))))))) (WO.e 7 (qb1 _ (Keep.refl _)))) (k := fun wb1 kb1 => WO.rd (is := [13]) (js := []) ((Keep.refl _).trans kb1) (Rn.s rfl Yv.as (Rn.nil)) (WO.done ?_)))))
  exact Wp.ret (Fin.ret (Res.one rfl rfl) ⟨rfl, (ka1.trans ka2).trans kb1⟩)
theorem means_cv (job : Bs) (ps : Sn Va) (x : Ist) (hj : job.length ≤ 1000) (w0 : World) (hr : Rd VaE w0 ps.1 ps.2.2) (hx : Rd VaE w0 x.vars.1 x.vars.2.2) (hpl : ps.2.2.length ≤ 9223372036854775807) (hxl : x.vars.2.2.length ≤ 9223372036854775807) :
    Cv Tryd.prog 49 [.agg (nds job ps).toArray, .agg (IsE.cells x).toArray] (.bool (meansB job ps.2.2 x)) w0 := by
  intro w hk
  have hr := hr.keep hk
  have hx := hx.keep hk
  refine calls_of_Wp (vs := [_, _]) Tryd.func49 ?_
  refine Wp.seq (Wp.regionL (l := [0, 1, 2]) (WO.box rfl (fun ba1 wa1 ka1 ga1 ca1 => WO.box rfl (fun ba2 wa2 ka2 ga2 ca2 => WO.rd (is := [2]) (js := []) (((Keep.refl _).trans ka1).trans ka2) (Rn.s rfl Yv.as (Rn.nil)) (WO.done ?_)))))
  have c1 : Cells wa2 ba1 (nds job ps) := ca1.keep ka2
  have c2 : Cells wa2 ba2 (IsE.cells x) := ca2
  refine Wp.seq (Wp.regionL (l := [0, 1, 2, 3]) (WO.rd (is := [0, 1]) (js := [2, 3]) (Keep.refl _) (Rn.s rfl (Yv.ldb c1) (Rn.s rfl (Yv.ldb c2) (Rn.nil))) (WO.cv rfl (of_cv job ps x hj wa2) (Keep.refl _) (FnOk.of Tryd.func48) (fun wb1 kb1 => WO.rd (is := [3]) (js := []) ((Keep.refl _).trans kb1) (Rn.s rfl Yv.as (Rn.nil)) (WO.done ?_)))))
  have k02 := (ka1.trans ka2).trans kb1
  have c1 := c1.keep kb1
  have c2 := c2.keep kb1
  have hr := hr.keep k02
  have hx := hx.keep k02
  refine Wp.seq (Wp.seq (Wp.reads (is := [0, 1, 2, 3]) (Keep.refl _) (Rn.s rfl (Yv.fa (off := 1)) (Rn.s rfl (Yv.ld (c1.at_ 1)) (Rn.s rfl (Yv.len_v (e := 51) (m := 2)) (Rn.s rfl Yv.mv (Rn.nil))))) ?_))
  refine Wp.block ?_
  refine Wp.loop (α := Nat) (fun k ρ ds w' => ds = [] ∧ Keep wb1 w' ∧ k ≤ ps.2.2.length ∧ Sub [(2, PB ba1), (3, PB ba2), (5, .bool (ofB job x.name && (ps.2.2.take k).all (okV x.vars.2.2))), (14, sv ps), (15, .int .i64 (ps.2.2.length : Int)), (16, .int .i64 (k : Int))] ρ) (fun k => ps.2.2.length - k) 0
    ⟨rfl, Keep.refl _, by omega, rfl, rfl, by simp; rfl, rfl, rfl, rfl, trivial⟩ ?_
  rintro k ρ ds w1 ⟨rfl, hk1, hkl, hs⟩
  refine Wp.forget _ ?_ hs
  clear hs ρ
  have hr1 := hr.keep hk1
  refine Wp.seq (Wp.reads (is := [0]) (Keep.refl _) (Rn.s rfl (Yv.cmp _ rfl) (Rn.nil)) ?_)
  refine Wp.seq (Wp.cond rfl (fun hlt => ?_) (fun hlt => ?_))
  · have hlt : k < ps.2.2.length := by have := of_decide_eq_true hlt; omega
    refine Wp.skip ?_
    refine Wp.seq (Wp.block ?_)
    refine Wp.seq (Wp.regionL (l := [0, 1, 2, 3]) (WO.rd (is := [0, 1]) (js := [2, 3]) (Keep.refl _) (Rn.s rfl (Yv.ia (e := 51) hr1 (by omega) (by omega)) (Rn.s rfl (Yv.ldel hr1 rfl rfl (by omega) (by omega)) (Rn.nil))) (WO.act (hc := rfl) (he := Ef.allocL (vs := [S [], S []]) (St.init w1) (fun bd1 wd1 kd1 hsd1 => WO.act (hc := rfl) (he := Ef.stores hsd1 0 (fun wd2 hsd2 => WO.done ?_)))))))
    have kd := hsd2.keep
    have c3 := hsd2.cells 0
    have c2' := (c2.keep hk1).keep kd
    have hx' := (hx.keep hk1).keep kd
    refine Wp.seq (Wp.regionL (l := [0, 1, 2, 3, 4, 5, 6, 7, 8, 9]) (WO.rd (is := [0, 1, 2, 3]) (js := [4, 5, 6, 7, 8, 9]) (Keep.refl _) (Rn.s rfl (Yv.fa (off := 3)) (Rn.s rfl (Yv.ld (c2'.at_ 3)) (Rn.s rfl (Yv.fa (off := 0)) (Rn.s rfl (Yv.ld (c3.at_ 0)) (Rn.nil))))) (WO.cv rfl (get_cv x.vars.1 x.vars.2.1 x.vars.2.2 (nth ps.2.2 (k : Int)).name wd2 hx' hxl) (Keep.refl _) (FnOk.of Tryd.func60) (fun we1 ke1 => WO.rd (is := [5, 6, 7, 8, 9]) (js := []) ((Keep.refl _).trans ke1) (Rn.s rfl Yv.mv (Rn.s rfl Yv.ex (Rn.s rfl Yv.ex (Rn.s rfl Yv.as (Rn.s rfl Yv.as (Rn.nil)))))) (WO.done ?_)))))
    have c3 := c3.keep ke1
    refine Wp.reads (is := [0, 1, 2, 3, 4, 5, 6, 7, 8, 9, 10]) (Keep.refl _) (Rn.s rfl Yv.mv (Rn.s rfl Yv.mv (Rn.and (is := [2, 3]) (js := [4, 5, 6, 7, 8, 9, 10]) (t := 29) (d := 31) (hg := rfl) (ht := fun h1 => Rn.s rfl Yv.mv (Rn.s rfl Yv.pick_t ((Rn.e 2 rfl rfl)))) (hf := fun _ => Rn.no rfl (Rn.s rfl Yv.pick_f (Rn.e 2 rfl rfl))) (k := Rn.s rfl Yv.mv (Rn.and (is := [5, 6, 7, 8, 9]) (js := [10]) (t := 32) (d := 37) (hg := rfl) (ht := fun h4 => Rn.s rfl Yv.mv (Rn.s rfl (Yv.fa (off := 1)) (Rn.s rfl (Yv.ld (c3.at_ 1)) (Rn.s rfl (Yv.scm _ rfl) (Rn.s rfl Yv.pick_t ((Rn.e 5 rfl rfl))))))) (hf := fun _ => Rn.no rfl (Rn.no rfl (Rn.no rfl (Rn.no rfl (Rn.s rfl Yv.pick_f (Rn.e 5 rfl rfl)))))) (k := Rn.s rfl Yv.as (Rn.nil))))))) ?_
    refine Wp.reads (is := [0, 1]) (Keep.refl _) (Rn.s rfl (Yv.add (by unfold inI; omega)) (Rn.s rfl Yv.mv (Rn.nil))) ?_
    refine ⟨k + 1, ⟨rfl, (hk1.trans kd).trans ke1, by omega, rfl, rfl, ?_, rfl, rfl, rfl, trivial⟩, by omega⟩
    have e : (ps.2.2.take (k + 1)).all (okV x.vars.2.2) = ((ps.2.2.take k).all (okV x.vars.2.2) && okV x.vars.2.2 (nth ps.2.2 (k : Int))) := by
      rw [List.take_add_one, List.getElem?_eq_getElem hlt, List.all_append, nth_getElem hlt]
      simp
    rw [e, ← Bool.and_assoc]
    show some _ = _
    congr 2
    unfold okV
    rw [Bool.and_assoc]
  · have hlt : k = ps.2.2.length := by have := of_decide_eq_false hlt; omega
    subst hlt
    refine Wp.exit ?_
    refine Wp.seq (Wp.reads (is := [0, 1]) (Keep.refl _) (Rn.s rfl Yv.mv (Rn.s rfl Yv.as (Rn.nil))) ?_)
    refine Wp.ret (Fin.ret (Res.one rfl rfl) ⟨?_, k02.trans hk1⟩)
    rw [List.take_length]
    rfl
theorem stage_cv (x y : Ist) (b : Nat) (w0 : World) (hc : Cells w0 b (IsE.cells y)) : Cv Tryd.prog 39 [.agg (IsE.cells x).toArray, PB b] (.bool (decide (x.stage < y.stage))) w0 := by
  intro w hk
  have hc := hc.keep hk
  refine calls_of_Wp (vs := [_, _]) Tryd.func39 ?_
  refine Wp.seq (Wp.regionL (l := [0, 1]) (WO.box rfl (fun ba1 wa1 ka1 ga1 ca1 => WO.rd (is := [1]) (js := []) ((Keep.refl _).trans ka1) (Rn.s rfl Yv.as (Rn.nil)) (WO.done ?_))))
  have c1 : Cells wa1 ba1 (IsE.cells x) := ca1
  have c2 := hc.keep ka1
  refine Wp.seq (Wp.reads (is := [0, 1, 2, 3, 4, 5]) (Keep.refl _) (Rn.s rfl (Yv.fa (off := 6)) (Rn.s rfl (Yv.ld (c1.at_ 6)) (Rn.s rfl (Yv.fa (off := 6)) (Rn.s rfl (Yv.ld (c2.at_ 6)) (Rn.s rfl (Yv.cmp _ rfl) (Rn.s rfl Yv.as (Rn.nil))))))) ?_)
  exact Wp.ret (Fin.ret (Res.one rfl rfl) ⟨rfl, ka1⟩)
/-! ### all of which something holds -/
def PredC (g : FuncId) (first caps : List Value) (is : List Ist) (p : Nat → Bool) (w : World) : Prop := FnOk Tryd.prog g ∧ ∀ i : Nat, i < is.length → Cv Tryd.prog g (first ++ [.agg (IsE.cells (nth is (i : Int))).toArray] ++ caps) (.bool (p i)) w
def allK (k : Nat) (p : Nat → Bool) : Is := castN ((List.range k).filter p)
theorem allK_succ (k : Nat) (p : Nat → Bool) : allK (k + 1) p = allK k p ++ (if p k = true then [(k : Int)] else []) := by
  unfold allK castN
  rw [List.range_succ, List.filter_append, List.map_append]
  congr 1
  by_cases h : p k = true <;> simp [h]
theorem allK_len (k : Nat) (p : Nat → Bool) : (allK k p).length ≤ k := by
  unfold allK castN
  rw [List.length_map]
  exact Nat.le_trans (List.length_filter_le _ _) (by simp)
abbrev zIs : List Value := [S [], .int .i64 0, .slice none 0 0, .slice none 0 0, S [], .slice none 0 0, .int .i64 0, .int .i64 0, .bool false, .int .i64 0, .slice none 0 0, .bool false, .int .i64 0, S [], .int .i64 0, .int .i64 0]
theorem all_cx (A : Option Addr) (c : Nat) (is : List Ist) (g : FuncId) (first caps : List Value) (p : Nat → Bool) (w : World) (hr : Rd IsE w A is) (hl : is.length ≤ 17592186044415) (hp : PredC g first caps is p w) :
    Cx Tryd.prog 38 [.slice A is.length c, .func (.func g) first.toArray caps.toArray] [] (fun v D => ∃ L cl, v = .slice L (allK is.length p).length cl ∧ D = [Ch.row InE 3 L cl (allK is.length p)]) w := by
  obtain ⟨⟨fn, hf, hfb, hfn⟩, hp⟩ := hp
  refine calls_of_Wp (vs := [_, _]) Tryd.func38 ?_
  refine Wp.seq (Wp.reads (is := [0]) (Keep.refl _) (Rn.s rfl Yv.as (Rn.nil)) ?_)
  refine Wp.seq (Wp.reads (is := [0]) (Keep.refl _) (Rn.s rfl Yv.as (Rn.nil)) ?_)
  refine Wp.seq (Wp.seq (Wp.reads (is := [0, 1, 2]) (Keep.refl _) (Rn.s rfl Yv.mv (Rn.s rfl (Yv.len_v (e := 46) (m := 16)) (Rn.s rfl Yv.mv (Rn.nil)))) ?_))
  refine Wp.block ?_
  refine Wp.loop (α := Nat) (fun k ρ ds w' => ds = [] ∧ k ≤ is.length ∧ ∃ L cl, St w [] w' [Ch.row InE 3 L cl (allK k p)] ∧ Sub [(0, .slice A is.length c), (1, .func (.func g) first.toArray caps.toArray), (5, .slice L (allK k p).length cl), (8, .slice A is.length c), (9, .int .i64 (is.length : Int)), (10, .int .i64 (k : Int))] ρ) (fun k => is.length - k) 0
    ⟨rfl, by omega, none, 0, (St.init w).nilrow InE 3, rfl, rfl, rfl, rfl, rfl, rfl, trivial⟩ ?_
  rintro k ρ ds w1 ⟨rfl, hk, L, cl, hst, hs⟩
  refine Wp.forget _ ?_ hs
  clear hs ρ
  have hr1 := hr.keep hst.keep
  refine Wp.seq (Wp.reads (is := [0]) (Keep.refl _) (Rn.s rfl (Yv.cmp _ rfl) (Rn.nil)) ?_)
  refine Wp.seq (Wp.cond rfl (fun hlt => ?_) (fun hlt => ?_))
  · have hlt : k < is.length := by have := of_decide_eq_true hlt; omega
    have hkl := allK_len k p
    refine Wp.skip ?_
    refine Wp.seq (Wp.block ?_)
    refine Wp.seq (Wp.regionL (l := [0, 1, 2, 3, 4, 5]) (WO.rd (is := [0, 1, 2]) (js := [3, 4, 5]) (Keep.refl _) (Rn.s rfl Yv.mv (Rn.s rfl (Yv.ia (e := 46) hr1 (by omega) (by omega)) (Rn.s rfl (Yv.ldel hr1 rfl rfl (by omega) (by omega)) (Rn.nil)))) (WO.act (hc := rfl) (he := Ef.allocL (vs := zIs) hst (fun ba1 wa1 ka1 hsa1 => WO.rd (is := [4]) (js := [5]) ((Keep.refl _).trans ka1) (Rn.s rfl Yv.as (Rn.nil)) (WO.act (hc := rfl) (he := Ef.stores hsa1 0 (fun wa2 hsa2 => WO.done ?_))))))))
    have hsa2 : St w [] wa2 [Ch.cells ba1 46 (IsE.cells (nth is (k : Int))), Ch.row InE 3 L cl (allK k p)] := hsa2
    have c0 : Cells wa2 ba1 (IsE.cells (nth is (k : Int))) := hsa2.cells 0
    refine Wp.seq (Wp.regionL (l := [0, 1, 2]) (WO.rd (is := [0, 1]) (js := [2]) (Keep.refl _) (Rn.s rfl Yv.mv (Rn.s rfl (Yv.ldb c0) (Rn.nil))) (WO.act (hc := rfl) (he := Ef.callb hf ?_ hfb hfn))))
    have e : first.toArray ++ #[Value.agg (IsE.cells (nth is (k : Int))).toArray] ++ caps.toArray = (first ++ [Value.agg (IsE.cells (nth is (k : Int))).toArray] ++ caps).toArray := by simp
    rw [e]
    refine Calls.mono (hp k hlt wa2 hsa2.keep) ?_
    rintro e w3 ⟨rfl, k3⟩
    refine WO.done ?_
    have hst3 := hsa2.quiet k3
    have hsucc := allK_succ k p
    refine Wp.mid (fun ρ ds w' => ds = [] ∧ ∃ L cl, St w [] w' [Ch.row InE 3 L cl (allK (k + 1) p)] ∧ Sub [(0, .slice A is.length c), (1, .func (.func g) first.toArray caps.toArray), (5, .slice L (allK (k + 1) p).length cl), (8, .slice A is.length c), (9, .int .i64 (is.length : Int)), (10, .int .i64 (k : Int))] ρ) ?_ ?_
    · refine Wp.cond rfl (fun hc => ?_) (fun hc => ?_)
      · rw [if_pos hc] at hsucc
        refine Wp.regionL (l := [0, 1, 2, 3, 4]) (WO.rd (is := [0, 1]) (js := [2, 3, 4]) (Keep.refl _) (Rn.s rfl Yv.mv (Rn.s rfl Yv.mv (Rn.nil))) (WO.app InE [(k : Int)] rfl (fun _ => rfl) (hst3.pick [1]) 0 (fitInt (by simp only [List.length_cons, List.length_nil]; omega)) (fun bb1 Ab1 cb1 wb1 hsb1 => WO.rd (is := [4]) (js := []) (Keep.refl _) (Rn.s rfl Yv.as (Rn.nil)) (WO.done ?_))))
        rw [← hsucc] at hsb1 ⊢
        exact ⟨rfl, Ab1, cb1, hsb1, rfl, rfl, rfl, rfl, rfl, rfl, trivial⟩
      · rw [if_neg (by rw [hc]; exact Bool.false_ne_true), List.append_nil] at hsucc
        refine Wp.skip ?_
        rw [hsucc]
        exact ⟨rfl, L, cl, hst3.pick [1], rfl, rfl, rfl, rfl, rfl, rfl, trivial⟩
    · rintro ρ ds w4 ⟨rfl, L2, c2, hst4, hs⟩
      refine Wp.forget _ ?_ hs
      refine Wp.reads (is := [0, 1]) (Keep.refl _) (Rn.s rfl (Yv.add (by unfold inI; omega)) (Rn.s rfl Yv.mv (Rn.nil))) ?_
      exact ⟨k + 1, ⟨rfl, by omega, L2, c2, hst4, rfl, rfl, rfl, rfl, rfl, rfl, trivial⟩, by omega⟩
  · have hlt : k = is.length := by have := of_decide_eq_false hlt; omega
    subst hlt
    refine Wp.exit ?_
    refine Wp.seq (Wp.reads (is := [0, 1]) (Keep.refl _) (Rn.s rfl Yv.mv (Rn.s rfl Yv.as (Rn.nil))) ?_)
    exact Wp.ret (Fin.ret (Res.one rfl rfl) ⟨_, _, rfl, ⟨L, cl, rfl, rfl⟩, hst⟩)
end Go.Proofs.YthbehiflmcljcaaDoor.C
