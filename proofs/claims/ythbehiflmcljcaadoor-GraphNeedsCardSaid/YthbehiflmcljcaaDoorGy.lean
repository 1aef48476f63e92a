/- Instances copied. -/
import Derived.Test.YthbehiflmcljcaaDoorGs
set_option linter.unusedVariables false
set_option linter.unusedSimpArgs false
set_option maxRecDepth 10000
namespace Go.Proofs.YthbehiflmcljcaaDoor.C
open Go.RowKit Go.Proofs.YthbehiflmcljcaaDoor.Sh
theorem fitVaN {n : Nat} (h : n ≤ 4398046511104) : Fits Tryd.prog 51 n := .inr ⟨4398046511104, by kernel_rfl, h⟩
theorem fitNe {n : Nat} (h : n ≤ 2513169434916) : Fits Tryd.prog 53 n := .inr ⟨2513169434916, by kernel_rfl, h⟩
theorem fitSp {n : Nat} (h : n ≤ 5864062014805) : Fits Tryd.prog 156 n := .inr ⟨5864062014805, by kernel_rfl, h⟩
theorem fitRu {n : Nat} (h : n ≤ 4398046511104) : Fits Tryd.prog 89 n := .inr ⟨4398046511104, by kernel_rfl, h⟩
theorem fitIs {n : Nat} (h : n ≤ 651562446089) : Fits Tryd.prog 46 n := .inr ⟨651562446089, by kernel_rfl, h⟩
theorem copyV_cx (A : Option Addr) (c : Nat) (t : List Va) (w : World) (hr : Rd VaE w A t) (hc : A = none → c = 0) (hl : t.length ≤ 4398046511104) : Cx Tryd.prog 34 [.slice A t.length c] [] (fun v D => ∃ B d, v = .slice B t.length d ∧ D = [Ch.row VaE 51 B d t]) w := by
  refine calls_of_Wp (vs := [_]) Tryd.func34 ?_
  refine Wp.seq (Wp.reads (is := [0]) (Keep.refl _) (Rn.s rfl Yv.as (Rn.nil)) ?_)
  refine Wp.seq (Wp.regionL (l := [0, 1, 2, 3]) (WO.act (hc := rfl) (he := Ef.bsl (T := 51) VaE ([] : List Va) (St.init w) (fun b w1 k1 hs1 => WO.rd (is := [1]) (js := [2, 3]) (Keep.refl _) (Rn.s rfl Yv.mv (Rn.nil)) (WO.act (he := Ef.append hs1 0 (hr.keep k1) hc (fitVaN (by simp only [List.length_nil]; omega)) (fun A' c' w' hs' => WO.rd (is := [3]) (js := []) (Keep.refl _) (Rn.s rfl Yv.as (Rn.nil)) (WO.done ?_))))))))
  exact Wp.ret (Fin.ret (Res.one rfl rfl) ⟨_, _, rfl, ⟨A', c', rfl, rfl⟩, hs'⟩)
theorem copyNe_cx (A : Option Addr) (c : Nat) (t : List Ne) (w : World) (hr : Rd NeE w A t) (hc : A = none → c = 0) (hl : t.length ≤ 2513169434916) : Cx Tryd.prog 35 [.slice A t.length c] [] (fun v D => ∃ B d, v = .slice B t.length d ∧ D = [Ch.row NeE 53 B d t]) w := by
  refine calls_of_Wp (vs := [_]) Tryd.func35 ?_
  refine Wp.seq (Wp.reads (is := [0]) (Keep.refl _) (Rn.s rfl Yv.as (Rn.nil)) ?_)
  refine Wp.seq (Wp.regionL (l := [0, 1, 2, 3]) (WO.act (hc := rfl) (he := Ef.bsl (T := 53) NeE ([] : List Ne) (St.init w) (fun b w1 k1 hs1 => WO.rd (is := [1]) (js := [2, 3]) (Keep.refl _) (Rn.s rfl Yv.mv (Rn.nil)) (WO.act (he := Ef.append hs1 0 (hr.keep k1) hc (fitNe (by simp only [List.length_nil]; omega)) (fun A' c' w' hs' => WO.rd (is := [3]) (js := []) (Keep.refl _) (Rn.s rfl Yv.as (Rn.nil)) (WO.done ?_))))))))
  exact Wp.ret (Fin.ret (Res.one rfl rfl) ⟨_, _, rfl, ⟨A', c', rfl, rfl⟩, hs'⟩)
theorem copySp_cx (A : Option Addr) (c : Nat) (t : List Sp) (w : World) (hr : Rd SpE w A t) (hc : A = none → c = 0) (hl : t.length ≤ 5864062014805) : Cx Tryd.prog 46 [.slice A t.length c] [] (fun v D => ∃ B d, v = .slice B t.length d ∧ D = [Ch.row SpE 156 B d t]) w := by
  refine calls_of_Wp (vs := [_]) Tryd.func46 ?_
  refine Wp.seq (Wp.reads (is := [0]) (Keep.refl _) (Rn.s rfl Yv.as (Rn.nil)) ?_)
  refine Wp.seq (Wp.regionL (l := [0, 1, 2, 3]) (WO.act (hc := rfl) (he := Ef.bsl (T := 156) SpE ([] : List Sp) (St.init w) (fun b w1 k1 hs1 => WO.rd (is := [1]) (js := [2, 3]) (Keep.refl _) (Rn.s rfl Yv.mv (Rn.nil)) (WO.act (he := Ef.append hs1 0 (hr.keep k1) hc (fitSp (by simp only [List.length_nil]; omega)) (fun A' c' w' hs' => WO.rd (is := [3]) (js := []) (Keep.refl _) (Rn.s rfl Yv.as (Rn.nil)) (WO.done ?_))))))))
  exact Wp.ret (Fin.ret (Res.one rfl rfl) ⟨_, _, rfl, ⟨A', c', rfl, rfl⟩, hs'⟩)
/-- a slice that comes in: no room without a place, so many at most -/
def SnOk {α : Type} (x : Sn α) (m : Nat) : Prop := (x.1 = none → x.2.1 = 0) ∧ x.2.2.length ≤ m
abbrev RuC (r : Ru) : Chunk := Ch.row SpE 156 r.code.1 r.code.2.1 r.code.2.2
abbrev rd' (r : Ru) : List Sp × Int := (r.code.2.2, r.whn)
theorem copyRu_cx (A : Option Addr) (c : Nat) (t : List Ru) (w : World) (hr : Rd RuE w A t) (hst : ∀ r ∈ t, Rd SpE w r.code.1 r.code.2.2) (hok : ∀ r ∈ t, SnOk r.code 5864062014805) (hl : t.length ≤ 4398046511103) :
    Cx Tryd.prog 36 [.slice A t.length c] [] (fun v D => ∃ B d t', t'.map rd' = t.map rd' ∧ v = .slice B t'.length d ∧ D = Ch.row RuE 89 B d t' :: t'.map RuC) w := by
  refine calls_of_Wp (vs := [_]) Tryd.func36 ?_
  refine Wp.seq (Wp.reads (is := [0]) (Keep.refl _) (Rn.s rfl Yv.as (Rn.nil)) ?_)
  refine Wp.seq (Wp.reads (is := [0]) (Keep.refl _) (Rn.s rfl Yv.as (Rn.nil)) ?_)
  refine Wp.seq (Wp.seq (Wp.reads (is := [0]) (Keep.refl _) (Rn.s rfl Yv.as (Rn.nil)) ?_))
  refine Wp.block ?_
  refine Wp.loop (α := Nat) (fun k ρ ds w' => ds = [] ∧ k ≤ t.length ∧ ∃ B d t', t'.map rd' = (t.take k).map rd' ∧ St w [] w' (Ch.row RuE 89 B d t' :: t'.map RuC) ∧ Sub [(0, .slice A t.length c), (3, .slice B t'.length d), (4, .int .i64 (k : Int))] ρ) (fun k => t.length - k) 0
    ⟨rfl, by omega, none, 0, [], rfl, (St.init w).nilrow RuE 89, rfl, rfl, rfl, trivial⟩ ?_
  rintro k ρ ds w1 ⟨rfl, hk, B, d, t', hpl, hs1, hs⟩
  refine Wp.forget _ ?_ hs
  clear hs ρ
  have htl : t'.length = k := by
    have := congrArg List.length hpl
    simp only [List.length_map, List.length_take] at this
    omega
  refine Wp.seq (Wp.seq (Wp.reads (is := [0, 1, 2, 3]) (Keep.refl _) (Rn.s rfl Yv.mv (Rn.s rfl Yv.mv (Rn.s rfl (Yv.len_v (e := 89) (m := 2)) (Rn.s rfl (Yv.cmp _ rfl) (Rn.nil))))) ?_))
  refine Wp.cond rfl (fun hlt => ?_) (fun hlt => ?_)
  · have hlt : k < t.length := by have := of_decide_eq_true hlt; omega
    have hm := nth_mem' hlt
    have hr1 := hr.keep hs1.keep
    have hsp := (hst _ hm).keep hs1.keep
    obtain ⟨hcp, hsl⟩ := hok _ hm
    refine Wp.skip (Wp.seq (Wp.block ?_))
    refine Wp.draws [14] mixed (WD.rd (is := [0, 1, 2, 3, 4, 5]) (fun _ _ _ _ _ h => h) (Keep.drew _) (Rn.s rfl Yv.mv (Rn.s rfl Yv.mv (Rn.s rfl Yv.mv (Rn.s rfl (Yv.ia (e := 89) hr1 (by omega) (by omega)) (Rn.s rfl (Yv.fa (off := 0)) (Rn.s rfl (Yv.ld (hr1.ld 0 (by omega) (by omega))) (Rn.nil))))))) ?_)
    refine WD.rd (is := [7, 8, 9, 10, 11]) (fun _ _ _ _ _ h => h) (Keep.drew _) (Rn.s rfl Yv.mv (Rn.s rfl Yv.mv (Rn.s rfl (Yv.ia (e := 89) hr1 (by omega) (by omega)) (Rn.s rfl (Yv.fa (off := 1)) (Rn.s rfl (Yv.ld (hr1.ld 1 (by omega) (by omega))) (Rn.nil)))))) ?_
    refine WD.act 6 (hc := rfl) (he := Ef.callv (caps := #[]) Tryd.func46 (Calls.mono (copySp_cx (nth t (k : Int)).code.1 (nth t (k : Int)).code.2.1 (nth t (k : Int)).code.2.2 w1.drew (hsp.keep (Keep.drew _)) hcp hsl) ?_))
    rintro e w2 ⟨v, D, rfl, ⟨B2, d2, rfl, rfl⟩, hk2⟩
    refine ⟨fun _ => hk2.keep, ?_⟩
    have hs2 := (hs1.quiet (Keep.drew _)).call0 hk2
    refine WD.rd (is := [12]) (fun _ _ _ _ _ h => h) (Keep.refl _) (Rn.s rfl (Yv.bd (cs := RuE.cells ⟨(B2, d2, (nth t (k : Int)).code.2.2), (nth t (k : Int)).whn⟩)) (Rn.nil)) ?_
    have hs2 : St w [] w2 (Ch.row SpE 156 B2 d2 (nth t (k : Int)).code.2.2 :: Ch.row RuE 89 B d t' :: t'.map RuC) := hs2
    refine WD.app RuE [(⟨(B2, d2, (nth t (k : Int)).code.2.2), (nth t (k : Int)).whn⟩ : Ru)] 13 14 rfl (fun _ => rfl) hs2 1 (fitRu (by simp only [List.length_cons, List.length_nil]; omega)) (fun b4 A4 c4 w4 hs4 => ?_)
    refine WD.rd (is := [15]) (fun _ _ _ _ _ h => h) (Keep.refl _) (Rn.s rfl Yv.as (Rn.nil)) (WD.done ?_)
    refine Wp.reads (is := [0, 1, 2]) (Keep.refl _) (Rn.s rfl Yv.mv (Rn.s rfl (Yv.add (by unfold inI; omega)) (Rn.s rfl Yv.as (Rn.nil)))) ?_
    have hst4 : St w [] w4 (Ch.row RuE 89 A4 c4 (t' ++ [⟨(B2, d2, (nth t (k : Int)).code.2.2), (nth t (k : Int)).whn⟩]) :: (t' ++ [(⟨(B2, d2, (nth t (k : Int)).code.2.2), (nth t (k : Int)).whn⟩ : Ru)]).map RuC) := by
      rw [List.map_append]
      have hs5 : St w [] w4 (Ch.row RuE 89 A4 c4 (t' ++ [⟨(B2, d2, (nth t (k : Int)).code.2.2), (nth t (k : Int)).whn⟩]) :: ([Ch.row SpE 156 B2 d2 (nth t (k : Int)).code.2.2] ++ t'.map RuC)) := hs4
      exact hs5.perm (List.Perm.cons _ List.perm_append_comm)
    refine ⟨k + 1, ⟨rfl, by omega, A4, c4, _, ?_, hst4, rfl, rfl, rfl, trivial⟩, by omega⟩
    rw [List.take_add_one, List.getElem?_eq_getElem hlt, List.map_append, List.map_append, hpl]
    congr 1
    rw [nth_getElem hlt]
    rfl
  · have hlt : k = t.length := by have := of_decide_eq_false hlt; omega
    refine Wp.exit ?_
    refine Wp.seq (Wp.reads (is := [0, 1]) (Keep.refl _) (Rn.s rfl Yv.mv (Rn.s rfl Yv.as (Rn.nil))) ?_)
    refine Wp.ret (Fin.ret (Res.one rfl rfl) ⟨_, _, rfl, ⟨B, d, t', ?_, rfl, rfl⟩, hs1⟩)
    rw [hpl, hlt, List.take_length]
/-! ### instances -/
/-- what an instance's slices hold -/
structure InAt (w : World) (x : Ist) : Prop where
  pick : Rd VaE w x.pick.1 x.pick.2.2
  vars : Rd VaE w x.vars.1 x.vars.2.2
  needs : Rd NeE w x.needs.1 x.needs.2.2
  rules : Rd RuE w x.rules.1 x.rules.2.2
  steps : ∀ r ∈ x.rules.2.2, Rd SpE w r.code.1 r.code.2.2
theorem InAt.keep {w w' : World} {x : Ist} (h : InAt w x) (k : Keep w w') : InAt w' x := ⟨h.pick.keep k, h.vars.keep k, h.needs.keep k, h.rules.keep k, fun r hr => (h.steps r hr).keep k⟩
structure InOk (x : Ist) : Prop where
  pick : SnOk x.pick 4398046511104
  vars : SnOk x.vars 4398046511104
  needs : SnOk x.needs 2513169434916
  rules : SnOk x.rules 4398046511103
  steps : ∀ r ∈ x.rules.2.2, SnOk r.code 5864062014805
structure IsAt (w : World) (A : Option Addr) (is : List Ist) : Prop where
  rd : Rd IsE w A is
  each : ∀ x ∈ is, InAt w x
theorem IsAt.keep {w w' : World} {A : Option Addr} {is : List Ist} (h : IsAt w A is) (k : Keep w w') : IsAt w' A is := ⟨h.rd.keep k, fun x hx => (h.each x hx).keep k⟩
theorem IsAt.b {w : World} {A : Option Addr} {is : List Ist} (h : IsAt w A is) : IsB w A is := ⟨h.rd, fun x hx => (h.each x hx).vars, fun x hx => (h.each x hx).needs⟩
/-- the rows behind an instance that is owned -/
def inC (x : Ist) : List Chunk := [Ch.row VaE 51 x.pick.1 x.pick.2.1 x.pick.2.2, Ch.row VaE 51 x.vars.1 x.vars.2.1 x.vars.2.2, Ch.row NeE 53 x.needs.1 x.needs.2.1 x.needs.2.2, Ch.row RuE 89 x.rules.1 x.rules.2.1 x.rules.2.2] ++ x.rules.2.2.map RuC
theorem inC_at {w0 w : World} {M : List Nat} {D : List Chunk} (h : St w0 M w D) {x : Ist} (hx : ∀ C ∈ inC x, C ∈ D) : InAt w x :=
  ⟨row_rd (h.ok (Ch.row VaE 51 x.pick.1 x.pick.2.1 x.pick.2.2) (hx _ (by simp [inC]))), row_rd (h.ok (Ch.row VaE 51 x.vars.1 x.vars.2.1 x.vars.2.2) (hx _ (by simp [inC]))), row_rd (h.ok (Ch.row NeE 53 x.needs.1 x.needs.2.1 x.needs.2.2) (hx _ (by simp [inC]))), row_rd (h.ok (Ch.row RuE 89 x.rules.1 x.rules.2.1 x.rules.2.2) (hx _ (by simp [inC]))), fun r hr => row_rd (h.ok (RuC r) (hx _ (List.mem_append.2 (.inr (List.mem_map.2 ⟨r, hr, rfl⟩)))))⟩
/-- what an instance says, wherever it lies -/
def datI (x : Ist) : Ist := { x with pick := (none, 0, x.pick.2.2), vars := (none, 0, x.vars.2.2), needs := (none, 0, x.needs.2.2), rules := (none, 0, x.rules.2.2.map fun r => ⟨(none, 0, r.code.2.2), r.whn⟩) }
theorem copyIs_cx (A : Option Addr) (c : Nat) (is : List Ist) (w : World) (h : IsAt w A is) (hok : ∀ x ∈ is, InOk x) (hl : is.length ≤ 651562446088) :
    Cx Tryd.prog 22 [.slice A is.length c] [] (fun v D => ∃ O co is', is'.map datI = is.map datI ∧ v = .slice O is'.length co ∧ D = Ch.row IsE 46 O co is' :: is'.flatMap inC) w := by
  refine calls_of_Wp (vs := [_]) Tryd.func22 ?_
  refine Wp.seq (Wp.reads (is := [0]) (Keep.refl _) (Rn.s rfl Yv.as (Rn.nil)) ?_)
  refine Wp.seq (Wp.reads (is := [0]) (Keep.refl _) (Rn.s rfl Yv.as (Rn.nil)) ?_)
  refine Wp.seq (Wp.seq (Wp.reads (is := [0]) (Keep.refl _) (Rn.s rfl Yv.as (Rn.nil)) ?_))
  refine Wp.block ?_
  refine Wp.loop (α := Nat) (fun k ρ ds w' => ds = [] ∧ k ≤ is.length ∧ ∃ O co is', is'.map datI = (is.take k).map datI ∧ St w [] w' (Ch.row IsE 46 O co is' :: is'.flatMap inC) ∧ Sub [(0, .slice A is.length c), (3, .slice O is'.length co), (4, .int .i64 (k : Int))] ρ) (fun k => is.length - k) 0
    ⟨rfl, by omega, none, 0, [], rfl, (St.init w).nilrow IsE 46, rfl, rfl, rfl, trivial⟩ ?_
  rintro k ρ ds w1 ⟨rfl, hk, O, co, is', hpl, hst, hs⟩
  refine Wp.forget _ ?_ hs
  clear hs ρ
  have htl : is'.length = k := by
    have := congrArg List.length hpl
    simp only [List.length_map, List.length_take] at this
    omega
  refine Wp.seq (Wp.seq (Wp.reads (is := [0, 1, 2, 3]) (Keep.refl _) (Rn.s rfl Yv.mv (Rn.s rfl Yv.mv (Rn.s rfl (Yv.len_v (e := 46) (m := 16)) (Rn.s rfl (Yv.cmp _ rfl) (Rn.nil))))) ?_))
  refine Wp.cond rfl (fun hlt => ?_) (fun hlt => ?_)
  · have hlt : k < is.length := by have := of_decide_eq_true hlt; omega
    have hm := nth_mem' hlt
    have hr1 := h.rd.keep hst.keep
    have hx := h.each _ hm
    have ho := hok _ hm
    refine Wp.skip (Wp.seq (Wp.block ?_))
    refine Wp.seq (Wp.regionL (l := [0, 1, 2, 3, 4, 5]) (WO.rd (is := [0, 1, 2, 3]) (js := [4, 5]) (Keep.refl _) (Rn.s rfl Yv.mv (Rn.s rfl Yv.mv (Rn.s rfl (Yv.ia (e := 46) hr1 (by omega) (by omega)) (Rn.s rfl (Yv.ldel hr1 rfl rfl (by omega) (by omega)) (Rn.nil))))) (WO.act (hc := rfl) (he := Ef.allocL (vs := zIs) hst (fun ba1 wa1 ka1 hsa1 => WO.act (hc := rfl) (he := Ef.stores hsa1 0 (fun wa2 hsa2 => WO.done ?_)))))))
    obtain ⟨x, hxe⟩ : ∃ x, nth is (k : Int) = x := ⟨_, rfl⟩
    rw [hxe] at hx ho
    have hst : St w [] wa2 (Ch.cells ba1 46 (IsE.cells x) :: Ch.row IsE 46 O co is' :: is'.flatMap inC) := by
      rw [← hxe]; exact hsa2
    clear hsa1 hsa2 hr1
    -- the picks
    have c5 := hst.cells 0
    refine Wp.seq (Wp.regionL (l := [0, 1, 2, 3, 4]) (WO.rd (is := [0, 1]) (js := [2, 3, 4]) (Keep.refl _) (Rn.s rfl (Yv.fa (off := 2)) (Rn.s rfl (Yv.ld (c5.at_ 2)) (Rn.nil))) (WO.act (hc := rfl) (he := Ef.cx (caps := []) (A := []) (copyV_cx x.pick.1 x.pick.2.1 x.pick.2.2 wa2 (hx.pick.keep hst.keep) ho.pick.1 ho.pick.2) hst (FnOk.of Tryd.func34) ?_))))
    rintro v D w2 ⟨B1, d1, rfl, rfl⟩ hs2
    refine WO.rd (is := [3]) (js := [4]) (Keep.refl _) (Rn.s rfl (Yv.fa (off := 2)) (Rn.nil)) (WO.act (hc := rfl) (he := Ef.store hs2 1 (fun w3 hs3 => WO.done ?_)))
    have hst : St w [] w3 (Ch.cells ba1 46 (IsE.cells { x with pick := (B1, d1, x.pick.2.2) }) :: Ch.row VaE 51 B1 d1 x.pick.2.2 :: Ch.row IsE 46 O co is' :: is'.flatMap inC) := hs3
    clear hs2 hs3
    have c5 := hst.cells 0
    refine Wp.seq (Wp.regionL (l := [0, 1, 2, 3, 4]) (WO.rd (is := [0, 1]) (js := [2, 3, 4]) (Keep.refl _) (Rn.s rfl (Yv.fa (off := 3)) (Rn.s rfl (Yv.ld (c5.at_ 3)) (Rn.nil))) (WO.act (hc := rfl) (he := Ef.cx (caps := []) (A := []) (copyV_cx x.vars.1 x.vars.2.1 x.vars.2.2 w3 (hx.vars.keep hst.keep) ho.vars.1 ho.vars.2) hst (FnOk.of Tryd.func34) ?_))))
    rintro v D w4 ⟨B2, d2, rfl, rfl⟩ hs2
    refine WO.rd (is := [3]) (js := [4]) (Keep.refl _) (Rn.s rfl (Yv.fa (off := 3)) (Rn.nil)) (WO.act (hc := rfl) (he := Ef.store hs2 1 (fun w5 hs3 => WO.done ?_)))
    have hst : St w [] w5 (Ch.cells ba1 46 (IsE.cells { x with pick := (B1, d1, x.pick.2.2), vars := (B2, d2, x.vars.2.2) }) :: Ch.row VaE 51 B2 d2 x.vars.2.2 :: Ch.row VaE 51 B1 d1 x.pick.2.2 :: Ch.row IsE 46 O co is' :: is'.flatMap inC) := hs3
    clear hs2 hs3
    have c5 := hst.cells 0
    refine Wp.seq (Wp.regionL (l := [0, 1, 2, 3, 4]) (WO.rd (is := [0, 1]) (js := [2, 3, 4]) (Keep.refl _) (Rn.s rfl (Yv.fa (off := 5)) (Rn.s rfl (Yv.ld (c5.at_ 5)) (Rn.nil))) (WO.act (hc := rfl) (he := Ef.cx (caps := []) (A := []) (copyNe_cx x.needs.1 x.needs.2.1 x.needs.2.2 w5 (hx.needs.keep hst.keep) ho.needs.1 ho.needs.2) hst (FnOk.of Tryd.func35) ?_))))
    rintro v D w6 ⟨B3, d3, rfl, rfl⟩ hs2
    refine WO.rd (is := [3]) (js := [4]) (Keep.refl _) (Rn.s rfl (Yv.fa (off := 5)) (Rn.nil)) (WO.act (hc := rfl) (he := Ef.store hs2 1 (fun w7 hs3 => WO.done ?_)))
    have hst : St w [] w7 (Ch.cells ba1 46 (IsE.cells { x with pick := (B1, d1, x.pick.2.2), vars := (B2, d2, x.vars.2.2), needs := (B3, d3, x.needs.2.2) }) :: Ch.row NeE 53 B3 d3 x.needs.2.2 :: Ch.row VaE 51 B2 d2 x.vars.2.2 :: Ch.row VaE 51 B1 d1 x.pick.2.2 :: Ch.row IsE 46 O co is' :: is'.flatMap inC) := hs3
    clear hs2 hs3
    have c5 := hst.cells 0
    refine Wp.seq (Wp.regionL (l := [0, 1, 2, 3, 4]) (WO.rd (is := [0, 1]) (js := [2, 3, 4]) (Keep.refl _) (Rn.s rfl (Yv.fa (off := 10)) (Rn.s rfl (Yv.ld (c5.at_ 10)) (Rn.nil))) (WO.act (hc := rfl) (he := Ef.cx (caps := []) (A := []) (copyRu_cx x.rules.1 x.rules.2.1 x.rules.2.2 w7 (hx.rules.keep hst.keep) (fun r hr => (hx.steps r hr).keep hst.keep) ho.steps ho.rules.2) hst (FnOk.of Tryd.func36) ?_))))
    rintro v D w8 ⟨B4, d4, t4, ht4, rfl, rfl⟩ hs2
    have hs2 : St w [] w8 (Ch.row RuE 89 B4 d4 t4 :: (t4.map RuC ++ (Ch.cells ba1 46 (IsE.cells { x with pick := (B1, d1, x.pick.2.2), vars := (B2, d2, x.vars.2.2), needs := (B3, d3, x.needs.2.2) }) :: Ch.row NeE 53 B3 d3 x.needs.2.2 :: Ch.row VaE 51 B2 d2 x.vars.2.2 :: Ch.row VaE 51 B1 d1 x.pick.2.2 :: Ch.row IsE 46 O co is' :: is'.flatMap inC))) := hs2
    have hs2 : St w [] w8 (Ch.cells ba1 46 (IsE.cells { x with pick := (B1, d1, x.pick.2.2), vars := (B2, d2, x.vars.2.2), needs := (B3, d3, x.needs.2.2) }) :: Ch.row IsE 46 O co is' :: ([Ch.row VaE 51 B1 d1 x.pick.2.2, Ch.row VaE 51 B2 d2 x.vars.2.2, Ch.row NeE 53 B3 d3 x.needs.2.2, Ch.row RuE 89 B4 d4 t4] ++ t4.map RuC ++ is'.flatMap inC)) := by
      refine hs2.perm ?_
      have p1 := (List.perm_append_comm (l₁ := t4.map RuC) (l₂ := [Ch.cells ba1 46 (IsE.cells { x with pick := (B1, d1, x.pick.2.2), vars := (B2, d2, x.vars.2.2), needs := (B3, d3, x.needs.2.2) }), Ch.row NeE 53 B3 d3 x.needs.2.2, Ch.row VaE 51 B2 d2 x.vars.2.2, Ch.row VaE 51 B1 d1 x.pick.2.2, Ch.row IsE 46 O co is'])).append_right (is'.flatMap inC)
      have p2 := p1.cons (Ch.row RuE 89 B4 d4 t4)
      simp only [List.append_assoc, List.cons_append, List.nil_append] at p2 ⊢
      refine p2.trans ?_
      refine (List.Perm.swap _ _ _).trans (List.Perm.cons _ ?_)
      generalize t4.map RuC ++ is'.flatMap inC = T
      generalize Ch.row RuE 89 B4 d4 t4 = a
      generalize Ch.row NeE 53 B3 d3 x.needs.2.2 = b
      generalize Ch.row VaE 51 B2 d2 x.vars.2.2 = d
      generalize Ch.row VaE 51 B1 d1 x.pick.2.2 = e
      generalize Ch.row IsE 46 O co is' = f
      have q1 : (a :: b :: d :: e :: f :: T).Perm (f :: a :: b :: d :: e :: T) := (List.perm_middle (l₁ := [a, b, d, e]) (a := f) (l₂ := T))
      refine q1.trans (List.Perm.cons _ ?_)
      have q2 : (a :: b :: d :: e :: T).Perm (e :: a :: b :: d :: T) := (List.perm_middle (l₁ := [a, b, d]) (a := e) (l₂ := T))
      refine q2.trans (List.Perm.cons _ ?_)
      have q3 : (a :: b :: d :: T).Perm (d :: a :: b :: T) := (List.perm_middle (l₁ := [a, b]) (a := d) (l₂ := T))
      refine q3.trans (List.Perm.cons _ ?_)
      exact List.Perm.swap _ _ _
    refine WO.rd (is := [3]) (js := [4]) (Keep.refl _) (Rn.s rfl (Yv.fa (off := 10)) (Rn.nil)) (WO.act (hc := rfl) (he := Ef.store hs2 0 (fun w9 hs3 => WO.done ?_)))
    obtain ⟨x', hx'⟩ : ∃ x' : Ist, x' = { x with pick := (B1, d1, x.pick.2.2), vars := (B2, d2, x.vars.2.2), needs := (B3, d3, x.needs.2.2), rules := (B4, d4, t4) } := ⟨_, rfl⟩
    have hst : St w [] w9 ([Ch.cells ba1 46 (IsE.cells x'), Ch.row IsE 46 O co is'] ++ (inC x' ++ is'.flatMap inC)) := by
      rw [hx']; exact hs3
    clear hs2 hs3
    have c5 := hst.cells 0
    refine Wp.regionL (l := [0, 1, 2, 3, 4]) (WO.rd (is := [0, 1]) (js := [2, 3, 4]) (Keep.refl _) (Rn.s rfl Yv.mv (Rn.s rfl (Yv.ldb c5) (Rn.nil))) (WO.app IsE [x'] rfl (fun _ => rfl) hst 1 (fitIs (by simp only [List.length_cons, List.length_nil]; omega)) (fun be1 Ae1 ce1 we1 hse1 => WO.rd (is := [4]) (js := []) (Keep.refl _) (Rn.s rfl Yv.as (Rn.nil)) (WO.done ?_))))
    refine Wp.reads (is := [0, 1, 2]) (Keep.refl _) (Rn.s rfl Yv.mv (Rn.s rfl (Yv.add (by unfold inI; omega)) (Rn.s rfl Yv.as (Rn.nil)))) ?_
    have hst2 : St w [] we1 (Ch.row IsE 46 Ae1 ce1 (is' ++ [x']) :: (is' ++ [x']).flatMap inC) := by
      have h1 : St w [] we1 (Ch.row IsE 46 Ae1 ce1 (is' ++ [x']) :: Ch.cells ba1 46 (IsE.cells x') :: (inC x' ++ is'.flatMap inC)) := hse1
      have h2 := h1.sub (List.Sublist.cons_cons _ (List.Sublist.cons _ (List.Sublist.refl _)))
      rw [List.flatMap_append]
      refine h2.perm (List.Perm.cons _ ?_)
      have e : [x'].flatMap inC = inC x' := by simp
      rw [e]
      exact List.perm_append_comm
    refine ⟨k + 1, ⟨rfl, by omega, Ae1, ce1, _, ?_, hst2, rfl, rfl, rfl, trivial⟩, by omega⟩
    rw [List.take_add_one, List.getElem?_eq_getElem hlt, List.map_append, List.map_append, hpl]
    have e1 : is[k] = x := by rw [← hxe, nth_getElem hlt]
    have e2 : datI x' = datI x := by
      rw [hx']
      unfold datI
      have e3 : t4.map (fun r => (⟨(none, 0, r.code.2.2), r.whn⟩ : Ru)) = x.rules.2.2.map (fun r => ⟨(none, 0, r.code.2.2), r.whn⟩) := by
        have := congrArg (List.map (fun q : List Sp × Int => (⟨(none, 0, q.1), q.2⟩ : Ru))) ht4
        rw [List.map_map, List.map_map] at this
        exact this
      simp only [e3]
    simp [e1, e2]
  · have hlt : k = is.length := by have := of_decide_eq_false hlt; omega
    refine Wp.exit ?_
    refine Wp.seq (Wp.reads (is := [0, 1]) (Keep.refl _) (Rn.s rfl Yv.mv (Rn.s rfl Yv.as (Rn.nil))) ?_)
    refine Wp.ret (Fin.ret (Res.one rfl rfl) ⟨_, _, rfl, ⟨O, co, is', ?_, rfl, rfl⟩, hst⟩)
    rw [hpl, hlt, List.take_length]
end Go.Proofs.YthbehiflmcljcaaDoor.C
