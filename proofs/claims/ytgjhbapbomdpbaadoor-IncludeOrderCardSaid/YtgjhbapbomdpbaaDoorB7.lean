/- A text as a tree: tree's reader, its model, top and node. -/
import Derived.Test.YtgjhbapbomdpbaaDoorB6
set_option linter.unusedVariables false
set_option linter.unusedSimpArgs false
set_option maxRecDepth 10000
namespace Go.Proofs.YtgjhbapbomdpbaaDoor.C
open Go.RowKit Go.Proofs.YtgjhbapbomdpbaaDoor.Sh
structure Nd where
  kind : Int
  depth : Int
  key : Bs
  text : Bs
  file : Bs
  line : Int
  col : Int
  val : Int
deriving Inhabited, DecidableEq
abbrev Nd.cs (n : Nd) : List Value := [.int .i64 n.kind, .int .i64 n.depth, S n.key, S n.text, S n.file, .int .i64 n.line, .int .i64 n.col, .int .i64 n.val]
abbrev NdE : Enc Nd := ⟨8, Nd.cs, fun _ => rfl⟩
structure Ft where
  code : Int
  file : Bs
  line : Int
  col : Int
deriving Inhabited, DecidableEq
abbrev Ft.cs (f : Ft) : List Value := [.int .i64 f.code, S f.file, .int .i64 f.line, .int .i64 f.col]
abbrev ft0 : Ft := ⟨0, [], 0, 0⟩
theorem ftEq (f g : Ft) : vEqs f.cs g.cs = some (decide (f = g)) := by
  rw [vEqs_cons (vEq_int _ _ _) (vEqs_cons (vEq_S _ _) (vEqs_cons (vEq_int _ _ _) (vEqs_cons (vEq_int _ _ _) rfl)))]
  congr 1
  cases f; cases g
  simp only [Ft.mk.injEq, Bool.and_true, Bool.decide_and]
theorem ndEq (f g : Nd) : vEqs f.cs g.cs = some (decide (f = g)) := by
  rw [vEqs_cons (vEq_int _ _ _) (vEqs_cons (vEq_int _ _ _) (vEqs_cons (vEq_S _ _) (vEqs_cons (vEq_S _ _) (vEqs_cons (vEq_S _ _) (vEqs_cons (vEq_int _ _ _) (vEqs_cons (vEq_int _ _ _) (vEqs_cons (vEq_int _ _ _) rfl)))))))]
  congr 1
  cases f; cases g
  simp only [Nd.mk.injEq, Bool.and_true, Bool.decide_and]
/-- an open block -/
structure OB where
  indent : Int
  items : Bool
  node : Int
  keys : List (Bs × Int)
deriving Inhabited
abbrev BkE : Enc (OB × Nat) := ⟨4, fun x => [.int .i64 x.1.indent, .bool x.1.items, .int .i64 x.1.node, .map (some x.2)], fun _ => rfl⟩
abbrev VI : Int → Value := .int .i64
def mps (op : List (OB × Nat)) : List Chunk := op.map fun x => Ch.mp KyS VI x.2 x.1.keys
/-- a reader's cells -/
abbrev tcs (file : Bs) (A : Option Addr) (n c : Nat) (B : Option Addr) (m d : Nat) (last : Bool) (ind : Int) : List Value := [S file, .slice A n c, .slice B m d, .bool last, .int .i64 ind]
/-- all that a reader owns; the innermost block stands first in op -/
abbrev ChP (b : Nat) (file : Bs) (A : Option Addr) (c : Nat) (nodes : List Nd) (B : Option Addr) (d : Nat) (op : List (OB × Nat)) (last : Bool) (ind : Int) : List Chunk :=
  Ch.cells b 76 (tcs file A nodes.length c B op.reverse.length d last ind) :: Ch.row NdE 48 A c nodes :: Ch.row BkE 73 B d op.reverse :: mps op
theorem top_cv (b : Nat) (file : Bs) (A : Option Addr) (n c : Nat) (B : Option Addr) (d : Nat) (xs : List (OB × Nat)) (last : Bool) (ind : Int) (w0 : World) (hc : Cells w0 b (tcs file A n c B xs.length d last ind)) (hr : Rd BkE w0 B xs) (h0 : 0 < xs.length) (hl : xs.length < 4000000000000000000) :
    Cv Tryd.prog 58 [PB b] (.pointer (some ⟨pb B, pq B + ((xs.length : Int) - 1).toNat * 4, none⟩)) w0 := by
  intro w hk
  have hc := hc.keep hk
  have hr := hr.keep hk
  refine calls_of_Wp (vs := [_]) Tryd.func58 ?_
  refine Wp.seq (Wp.reads (is := [0]) (Keep.refl _) (Rn.s rfl Yv.as (Rn.nil)) ?_)
  refine Wp.seq (Wp.readsD (is := [0, 1, 2, 3, 4, 5, 6, 7, 8, 9, 10, 11]) mixed (fun _ _ _ _ _ h => h) (Keep.refl _) (Rn.s rfl Yv.mv (Rn.s rfl Yv.nc (Rn.s rfl (Yv.fa (off := 2)) (Rn.s rfl (Yv.ld (hc.at_ 2)) (Rn.s rfl Yv.mv (Rn.s rfl Yv.nc (Rn.s rfl (Yv.fa (off := 2)) (Rn.s rfl (Yv.ld (hc.at_ 2)) (Rn.s rfl (Yv.len_v (e := 73) (m := 4)) (Rn.s rfl (Yv.sub (by unfold inI; omega)) (Rn.s rfl (Yv.ia (e := 73) hr (by omega) (by omega)) (Rn.s rfl Yv.as (Rn.nil))))))))))))) ?_)
  exact Wp.ret (Fin.ret (Res.one rfl rfl) ⟨rfl, Keep.drew _⟩)
/-- a line's node -/
def nodeS (file : Bs) (m : Nat) (l : Ln) (c : Ct) : Nd :=
  ⟨if c.empty = 1 then 2 else if c.empty = 2 then 1 else 3, m, c.key, c.value, file, l.no, l.indent + c.col, if c.has then l.indent + c.val else 0⟩
theorem node_cv (b : Nat) (file : Bs) (A : Option Addr) (n c : Nat) (B : Option Addr) (m d : Nat) (last : Bool) (ind : Int) (l : Ln) (o : Ct) (w0 : World) (hc : Cells w0 b (tcs file A n c B m d last ind)) (h1 : inI (l.indent + o.col)) (h2 : inI (l.indent + o.val)) :
    Cv Tryd.prog 36 [PB b, .agg l.cs.toArray, .agg o.cs.toArray] (.agg (nodeS file m l o).cs.toArray) w0 := by
  intro w hk
  have hc := hc.keep hk
  refine calls_of_Wp (vs := [_, _, _]) Tryd.func36 ?_
  refine Wp.seq (Wp.regionL (l := [0, 1, 2]) (WO.act (hc := rfl) (he := Ef.boxL (l.cs) (St.init w) (fun ba1 wa1 ka1 hsa1 => WO.act (hc := rfl) (he := Ef.boxL (o.cs) hsa1 (fun ba2 wa2 ka2 hsa2 => WO.act (hc := rfl) (he := Ef.allocL (vs := [.int .i64 0, .int .i64 0, S [], S [], S [], .int .i64 0, .int .i64 0, .int .i64 0]) hsa2 (fun ba3 wa3 ka3 hsa3 => WO.done ?_))))))))
  have hc := hc.keep hsa3.keep
  have c4 := hsa3.cells 2
  have c5 := hsa3.cells 1
  obtain ⟨n0, hn0⟩ : ∃ n0 : Nd, n0 = ⟨3, m, o.key, o.value, file, l.no, l.indent + o.col, 0⟩ := ⟨_, rfl⟩
  refine Wp.seq (Wp.draws [22] mixed (WD.rd (is := [0, 1, 2, 3, 4, 5, 6, 7, 8, 9, 10, 11, 12, 13, 14, 15, 16, 17, 18, 19, 20]) (fun _ _ _ _ _ h => h) (Keep.drew _) (Rn.s rfl Yv.mv (Rn.s rfl Yv.nc (Rn.s rfl (Yv.fa (off := 2)) (Rn.s rfl (Yv.ld (hc.at_ 2)) (Rn.s rfl (Yv.len_v (e := 73) (m := 4)) (Rn.s rfl (Yv.fa (off := 1)) (Rn.s rfl (Yv.ld (c5.at_ 1)) (Rn.s rfl (Yv.fa (off := 3)) (Rn.s rfl (Yv.ld (c5.at_ 3)) (Rn.s rfl Yv.mv (Rn.s rfl Yv.nc (Rn.s rfl (Yv.fa (off := 0)) (Rn.s rfl (Yv.ld (hc.at_ 0)) (Rn.s rfl (Yv.fa (off := 0)) (Rn.s rfl (Yv.ld (c4.at_ 0)) (Rn.s rfl (Yv.fa (off := 1)) (Rn.s rfl (Yv.ld (c4.at_ 1)) (Rn.s rfl (Yv.fa (off := 5)) (Rn.s rfl (Yv.ld (c5.at_ 5)) (Rn.s rfl (Yv.add h1) (Rn.s rfl (Yv.bd (cs := Nd.cs ⟨3, m, o.key, o.value, file, l.no, l.indent + o.col, 0⟩)) (Rn.nil)))))))))))))))))))))) (WD.act 21 (hc := rfl) (he := Ef.allocL (vs := [.int .i64 0, .int .i64 0, S [], S [], S [], .int .i64 0, .int .i64 0, .int .i64 0]) (hsa3.quiet (Keep.drew _)) (fun bx1 wx1 kx1 hsx1 => ⟨fun _ => kx1, WD.act 22 (hc := rfl) (he := Ef.stores hsx1 0 (fun wx2 hsx2 => ⟨fun hn => (hn (by decide)).elim, WD.done ?_⟩))⟩)))))
  have hst : St w [] wx2 [Ch.cells bx1 48 n0.cs, Ch.cells ba3 48 [.int .i64 0, .int .i64 0, S [], S [], S [], .int .i64 0, .int .i64 0, .int .i64 0], Ch.cells ba2 80 o.cs, Ch.cells ba1 78 l.cs] := by rw [hn0]; exact hsx2
  have c5 := hst.cells 2
  refine Wp.seq (Wp.seq (Wp.reads (is := [0, 1]) (Keep.refl _) (Rn.s rfl (Yv.fa (off := 4)) (Rn.s rfl (Yv.ld (c5.at_ 4)) (Rn.nil))) ?_))
  obtain ⟨n1, hn1⟩ : ∃ n1 : Nd, n1 = { n0 with kind := if o.empty = 1 then 2 else if o.empty = 2 then 1 else 3 } := ⟨_, rfl⟩
  refine Wp.mid (fun ρ ds w' => ds = [] ∧ St w [] w' [Ch.cells bx1 48 n1.cs, Ch.cells ba3 48 [.int .i64 0, .int .i64 0, S [], S [], S [], .int .i64 0, .int .i64 0, .int .i64 0], Ch.cells ba2 80 o.cs, Ch.cells ba1 78 l.cs] ∧
    Sub [(4, PB ba1), (5, PB ba2), (6, PB ba3), (7, PB bx1)] ρ) ?_ ?_
  · refine Wp.block (Wp.seq (Wp.reads (is := [0, 1]) (Keep.refl _) (Rn.s rfl (Yv.cmp _ rfl) (Rn.s rfl Yv.as (Rn.nil))) ?_))
    refine Wp.cond rfl (fun h => ?_) (fun h => ?_)
    · have h := eq_of_beq h
      refine Wp.regionL (l := [0, 1]) (WO.rd (is := [0]) (js := [1]) (Keep.refl _) (Rn.s rfl (Yv.fa (off := 0)) (Rn.nil)) (WO.act (hc := rfl) (he := Ef.store hst 0 (fun wy1 hsy1 => WO.done ?_))))
      refine ⟨rfl, ?_, rfl, rfl, rfl, rfl, trivial⟩
      rw [hn1, if_pos h]
      exact hsy1
    have h := ne_of_beq_false h
    refine Wp.seq (Wp.reads (is := [0, 1]) (Keep.refl _) (Rn.s rfl (Yv.cmp _ rfl) (Rn.s rfl Yv.as (Rn.nil))) ?_)
    refine Wp.cond rfl (fun h2 => ?_) (fun h2 => ?_)
    · have h2 := eq_of_beq h2
      refine Wp.regionL (l := [0, 1]) (WO.rd (is := [0]) (js := [1]) (Keep.refl _) (Rn.s rfl (Yv.fa (off := 0)) (Rn.nil)) (WO.act (hc := rfl) (he := Ef.store hst 0 (fun wy1 hsy1 => WO.done ?_))))
      refine ⟨rfl, ?_, rfl, rfl, rfl, rfl, trivial⟩
      rw [hn1, if_neg h, if_pos h2]
      exact hsy1
    · have h2 := ne_of_beq_false h2
      refine Wp.skip ⟨rfl, ?_, rfl, rfl, rfl, rfl, trivial⟩
      rw [hn1, if_neg h, if_neg h2]
      rw [hn0] at hst ⊢
      exact hst
  rintro ρ ds w' ⟨rfl, hst, hs⟩
  refine Wp.forget _ ?_ hs
  have c4 := hst.cells 3
  have c5 := hst.cells 2
  refine Wp.seq (Wp.seq (Wp.reads (is := [0, 1]) (Keep.refl _) (Rn.s rfl (Yv.fa (off := 2)) (Rn.s rfl (Yv.ld (c5.at_ 2)) (Rn.nil))) ?_))
  have e : nodeS file m l o = { n1 with val := if o.has then l.indent + o.val else 0 } := by rw [hn1, hn0]; rfl
  refine Wp.mid (fun ρ ds w' => ds = [] ∧ St w [] w' [Ch.cells bx1 48 (nodeS file m l o).cs, Ch.cells ba3 48 [.int .i64 0, .int .i64 0, S [], S [], S [], .int .i64 0, .int .i64 0, .int .i64 0]] ∧
    Sub [(6, PB ba3), (7, PB bx1)] ρ) ?_ ?_
  · refine Wp.cond rfl (fun h => ?_) (fun h => ?_)
    · refine Wp.regionL (l := [0, 1, 2, 3, 4, 5, 6]) (WO.rd (is := [0, 1, 2, 3, 4, 5]) (js := [6]) (Keep.refl _) (Rn.s rfl (Yv.fa (off := 1)) (Rn.s rfl (Yv.ld (c4.at_ 1)) (Rn.s rfl (Yv.fa (off := 6)) (Rn.s rfl (Yv.ld (c5.at_ 6)) (Rn.s rfl (Yv.add h2) (Rn.s rfl (Yv.fa (off := 7)) (Rn.nil))))))) (WO.act (hc := rfl) (he := Ef.store hst 0 (fun wy1 hsy1 => WO.done ?_))))
      refine ⟨rfl, ?_, rfl, rfl, trivial⟩
      rw [e, if_pos h]
      exact hsy1.pick [0, 1]
    · refine Wp.skip ⟨rfl, ?_, rfl, rfl, trivial⟩
      rw [e, h]
      have hst := hst.pick [0, 1]
      rw [hn1, hn0] at hst ⊢
      exact hst
  rintro ρ ds w' ⟨rfl, hst, hs⟩
  refine Wp.forget _ ?_ hs
  have c7 := hst.cells 0
  refine Wp.seq (Wp.regionL (l := [0, 1]) (WO.rd (is := [0]) (js := [1]) (Keep.refl _) (Rn.s rfl (Yv.ldb c7) (Rn.nil)) (WO.act (hc := rfl) (he := Ef.stores hst 1 (fun wy1 hsy1 => WO.done ?_)))))
  exact Wp.ret (Fin.ret (resAgg rfl rfl (hsy1.cells 0) rfl) ⟨rfl, hsy1.keep⟩)
end Go.Proofs.YtgjhbapbomdpbaaDoor.C
