/- A text as a tree: tree's enter. -/
import Derived.Test.YtgjhbapbomdpbaaDoorB7
set_option linter.unusedVariables false
set_option linter.unusedSimpArgs false
set_option maxRecDepth 10000
namespace Go.Proofs.YtgjhbapbomdpbaaDoor.Sh
open Go.RowKit
section
variable {w0 w : World} {M : List Nat} {α : Type} {E : Enc α} {T : TypeId} {A : Option Addr} {c : Nat}
theorem St.pickT {P T : List Chunk} (h : St w0 M w (P ++ T)) (is : List Nat) (hn : is.Nodup := by decide) : St w0 M w (is.filterMap (P[·]?) ++ T) := by
  have hp := (h.sub (List.sublist_append_left P T)).pick is hn
  have ht := h.sub (List.sublist_append_right P T)
  have hm : ∀ C ∈ is.filterMap (P[·]?), C ∈ P := fun C hC => by
    obtain ⟨i, _, hi⟩ := List.mem_filterMap.1 hC
    exact List.mem_of_getElem? hi
  refine ⟨h.chg, fun C hC => ?_, fun C hC => ?_, List.pairwise_append.2 ⟨hp.dis, ht.dis, fun C hC E hE => (List.pairwise_append.1 h.dis).2.2 C (hm C hC) E hE⟩⟩
  · rcases List.mem_append.1 hC with hC | hC
    · exact hp.ok C hC
    · exact ht.ok C hC
  · rcases List.mem_append.1 hC with hC | hC
    · exact hp.rng C hC
    · exact ht.rng C hC
theorem row_congr {xs ys : List α} (h1 : xs.length = ys.length) (h2 : xs.flatMap E.cells = ys.flatMap E.cells) : Ch.row E T A c xs = Ch.row E T A c ys := by
  unfold Ch.row
  simp only [h1, h2]
/-- the first elements of a row that is owned -/
theorem row_shrink {xs ys : List α} (h : (Ch.row E T A c (xs ++ ys)).ok w) : (Ch.row E T A c xs).ok w := by
  have h : w.ownsRow 0 T E.n (.slice A (xs ++ ys).length c) (xs ++ ys).length ((xs ++ ys).flatMap E.cells) := h
  show w.ownsRow 0 T E.n (.slice A xs.length c) xs.length (xs.flatMap E.cells)
  cases A with
  | none =>
    obtain ⟨h1, h2, -⟩ := ownsRow_nil_inv h
    have : xs = [] := by
      have : xs.length = 0 := by simp at h1; simpa using h1.1
      exact List.eq_nil_of_length_eq_zero this
    subst this
    subst h2
    exact World.ownsRow_nil w 0 T E.n
  | some a =>
    obtain ⟨g, cur, rfl, hg, hnc, hcm, hcs, htake⟩ := ownsRow_some_inv h
    refine ⟨length_flat xs, .inr ⟨g, c, cur, rfl, Nat.zero_le _, hg, by simp at hnc; omega, hcm, hcs, ?_⟩⟩
    have e := congrArg (List.take (xs.length * E.n)) htake
    rw [List.take_take, List.flatMap_append, ← length_flat xs, List.take_left] at e
    rw [← e]
    congr 1
    rw [length_flat, List.length_append, Nat.add_mul]
    omega
theorem St.shrink {xs ys : List α} {D : List Chunk} (h : St w0 M w (Ch.row E T A c (xs ++ ys) :: D)) : St w0 M w (Ch.row E T A c xs :: D) :=
  ⟨h.chg, fun C hC => by
    rcases List.mem_cons.1 hC with rfl | hC
    · exact row_shrink (h.at_ 0)
    · exact h.ok C (List.mem_cons_of_mem _ hC), fun C hC => by
    rcases List.mem_cons.1 hC with rfl | hC
    · exact fun bb hb => h.rng (Ch.row E T A c (xs ++ ys)) (List.mem_cons_self ..) bb hb
    · exact h.rng C (List.mem_cons_of_mem _ hC), by
    have := List.pairwise_cons.1 h.dis
    exact List.pairwise_cons.2 ⟨this.1, this.2⟩⟩
end
end Go.Proofs.YtgjhbapbomdpbaaDoor.Sh
namespace Go.Proofs.YtgjhbapbomdpbaaDoor.C
open Go.RowKit Go.Proofs.YtgjhbapbomdpbaaDoor.Sh
def Nd.kd (n : Nd) (k : Int) : Nd := ⟨k, n.depth, n.key, n.text, n.file, n.line, n.col, n.val⟩
def popS (ind : Int) : List OB → List OB
  | x :: y :: r => if ind < x.indent then popS ind (y :: r) else x :: y :: r
  | l => l
def opens (last : Bool) (ind : Int) (l : Ln) : Bool := last && decide (ind < l.indent)
def nodes1 (nodes : List Nd) (last : Bool) (ind : Int) (l : Ln) (o : Ct) : List Nd := if opens last ind l then nodes.set (nodes.length - 1) ((nodes.getD (nodes.length - 1) default).kd (if o.kind = 2 then 2 else 1)) else nodes
def stack1 (n : Nat) (st : List OB) (last : Bool) (ind : Int) (l : Ln) (o : Ct) : List OB := if opens last ind l then ⟨l.indent, o.kind == 2, (n : Int) - 1, []⟩ :: st else st
/-- a line's block: the fault, or the nodes and the open blocks -/
def enterS (nodes : List Nd) (st : List OB) (last : Bool) (ind : Int) (l : Ln) (o : Ct) : Int × List Nd × List OB :=
  match popS l.indent (stack1 nodes.length st last ind l o) with
  | [] => (40, [], [])
  | b :: r =>
    if b.indent ≠ l.indent then (40, [], [])
    else if b.items ≠ (o.kind == 2) then (41, [], [])
    else if (32 : Int) < (b :: r).length then (43, [], [])
    else if (alook o.key b.keys).isSome && !(o.kind == 2) then (42, [], [])
    else (0, nodes1 nodes last ind l o, { b with keys := aput o.key (w64 ((alook o.key b.keys).getD 0 + 1)) b.keys } :: r)
theorem nth_top {α : Type} [Inhabited α] (x : α) (r : List α) : nth (x :: r).reverse (((x :: r).reverse.length : Int) - 1) = x := by
  rw [List.reverse_cons]
  have : (((r.reverse ++ [x]).length : Int) - 1) = (r.reverse.length : Int) := by simp
  rw [this]
  exact nth_of (by simp)
def EnterPost (b : Nat) (file : Bs) (nodes : List Nd) (st : List OB) (last : Bool) (ind : Int) (l : Ln) (o : Ct) (M : List Nat) (w : World) (e : Ending) (w' : World) : Prop :=
  e = .returned (.int .i64 (enterS nodes st last ind l o).1) ∧ ((enterS nodes st last ind l o).1 ≠ 0 → St w M w' []) ∧
    ((enterS nodes st last ind l o).1 = 0 → ∃ A' c' B' d' op', op'.map (·.1) = (enterS nodes st last ind l o).2.2 ∧ St w M w' (ChP b file A' c' (enterS nodes st last ind l o).2.1 B' d' op' last ind))
theorem enter_calls {M : List Nat} (b : Nat) (file : Bs) (A : Option Addr) (c : Nat) (nodes : List Nd) (B : Option Addr) (d : Nat) (op : List (OB × Nat)) (last : Bool) (ind : Int) (l : Ln) (o : Ct) (w : World) (hst : St w M w (ChP b file A c nodes B d op last ind)) (hn : 0 < nodes.length) (hn2 : nodes.length ≤ 1000000) (hop : op ≠ []) (hop2 : op.length ≤ 1000000) :
    Calls Tryd.prog 35 #[PB b, .agg l.cs.toArray, .agg o.cs.toArray] w (EnterPost b file nodes (op.map (·.1)) last ind l o M w) := by
  refine calls_of_Wp (vs := [_, _, _]) Tryd.func35 ?_
  refine Wp.seq (Wp.regionL (l := [0, 1, 2]) (WO.act (hc := rfl) (he := Ef.boxL (l.cs) hst (fun ba1 wa1 ka1 hsa1 => WO.act (hc := rfl) (he := Ef.boxL (o.cs) hsa1 (fun ba2 wa2 ka2 hsa2 => WO.rd (is := [2]) (js := []) (((Keep.refl _).trans ka1).trans ka2) (Rn.s rfl Yv.as (Rn.nil)) (WO.done ?_)))))))
  have hst : St w M wa2 (Ch.cells ba2 80 o.cs :: Ch.cells ba1 78 l.cs :: ChP b file A c nodes B d op last ind) := hsa2
  have c5 := hst.cells 0
  have c4 := hst.cells 1
  have hc := hst.cells 2
  refine Wp.seq (Wp.reads (is := [0, 1, 2, 3]) (Keep.refl _) (Rn.s rfl (Yv.fa (off := 0)) (Rn.s rfl (Yv.ld (c5.at_ 0)) (Rn.s rfl (Yv.cmp _ rfl) (Rn.s rfl Yv.as (Rn.nil))))) ?_)
  refine Wp.seq (Wp.seq (Wp.readsD (is := [0, 1, 2, 3, 4, 5, 6, 7, 8, 9, 10, 11, 12]) mixed (fun _ _ _ _ _ h => h) (Keep.refl _) (Rn.s rfl Yv.mv (Rn.s rfl Yv.nc (Rn.s rfl (Yv.fa (off := 3)) (Rn.s rfl (Yv.ld (hc.at_ 3)) (Rn.s rfl Yv.mv (Rn.and (is := [5, 6, 7, 8, 9, 10, 11, 12]) (js := []) (t := 19) (d := 27) (hg := rfl) (ht := fun h4 => Rn.s rfl (Yv.fa (off := 1)) (Rn.s rfl (Yv.ld (c4.at_ 1)) (Rn.s rfl Yv.mv (Rn.s rfl Yv.nc (Rn.s rfl (Yv.fa (off := 4)) (Rn.s rfl (Yv.ld (hc.at_ 4)) (Rn.s rfl (Yv.cmp _ rfl) (Rn.s rfl Yv.pick_t ((Rn.e 8 rfl rfl)))))))))) (hf := fun _ => Rn.no rfl (Rn.no rfl (Rn.no rfl (Rn.no rfl (Rn.no rfl (Rn.no rfl (Rn.no rfl (Rn.s rfl Yv.pick_f (Rn.e 8 rfl rfl))))))))) (k := Rn.nil))))))) ?_))
  have hst := hst.quiet (Keep.drew _)
  refine Wp.mid (fun ρ ds w' => ds = [] ∧ ∃ A' c' B' d' op', op'.map (·.1) = stack1 nodes.length (op.map (·.1)) last ind l o ∧ op' ≠ [] ∧ op'.length ≤ 1000001 ∧ St w M w' (Ch.cells ba2 80 o.cs :: Ch.cells ba1 78 l.cs :: ChP b file A' c' (nodes1 nodes last ind l o) B' d' op' last ind) ∧
    Sub [(0, PB b), (4, PB ba1), (5, PB ba2), (7, .bool (o.kind == 2))] ρ) ?_ ?_
  · refine Wp.cond rfl (fun h => ?_) (fun h => ?_)
    · have hop1 : opens last ind l = true := h
      have e1 : stack1 nodes.length (op.map (·.1)) last ind l o = ⟨l.indent, o.kind == 2, (nodes.length : Int) - 1, []⟩ :: op.map (·.1) := by rw [stack1, if_pos hop1]
      rw [e1]
      have hc := hst.cells 2
      have hr := hst.rd 3
      refine Wp.seq (Wp.reads (is := [0, 1, 2, 3, 4, 5, 6]) (Keep.refl _) (Rn.s rfl Yv.mv (Rn.s rfl Yv.nc (Rn.s rfl (Yv.fa (off := 1)) (Rn.s rfl (Yv.ld (hc.at_ 1)) (Rn.s rfl (Yv.len_v (e := 48) (m := 8)) (Rn.s rfl (Yv.sub (by unfold inI; omega)) (Rn.s rfl Yv.as (Rn.nil)))))))) ?_)
      refine Wp.seq (Wp.regionL (l := [0, 1, 2, 3, 4, 5, 6, 7]) (WO.rd (is := [0, 1, 2, 3, 4, 5, 6]) (js := [7]) (Keep.refl _) (Rn.s rfl Yv.mv (Rn.s rfl Yv.nc (Rn.s rfl (Yv.fa (off := 1)) (Rn.s rfl (Yv.ld (hc.at_ 1)) (Rn.s rfl Yv.mv (Rn.s rfl (Yv.ia (e := 48) hr (by omega) (by omega)) (Rn.s rfl (Yv.fa (off := 0)) (Rn.nil)))))))) (WO.act (hc := rfl) (he := Ef.setFld (E := NdE) (xs := nodes) (f := 0) hst 3 ((nth nodes ((nodes.length : Int) - 1)).kd (1)) rfl rfl (by omega) (by omega) (fun wx1 hsx1 => WO.done ?_)))))
      have ej : ((nodes.length : Int) - 1).toNat = nodes.length - 1 := by omega
      obtain ⟨ns, hns⟩ : ∃ ns, ns = nodes.set ((nodes.length : Int) - 1).toNat ((nth nodes ((nodes.length : Int) - 1)).kd (1)) := ⟨_, rfl⟩
      have hnl : ns.length = nodes.length := by rw [hns, List.length_set]
      have hst : St w M wx1 (Ch.cells ba2 80 o.cs :: Ch.cells ba1 78 l.cs :: ChP b file A c ns B d op last ind) := by
        have := hsx1.pickT (P := [_, _, _, _, _]) (T := mps op) [1, 2, 3, 0, 4]
        rw [← hns] at this
        unfold ChP
        rw [hnl]
        exact this
      have hc := hst.cells 2
      have hr := hst.rd 3
      refine Wp.seq (Wp.seq (Wp.reads (is := [0]) (Keep.refl _) (Rn.s rfl Yv.mv (Rn.nil)) ?_))
      have hget : nth ns ((nodes.length : Int) - 1) = ((nth nodes ((nodes.length : Int) - 1)).kd (1)) := by
        have hj : nodes.length - 1 < nodes.length := by omega
        obtain ⟨X, hX⟩ : ∃ X, X = (nth nodes ((nodes.length : Int) - 1)).kd 1 := ⟨_, rfl⟩
        rw [← hX] at hns ⊢
        show ns.getD ((nodes.length : Int) - 1).toNat default = X
        rw [hns, ej]
        simp [hj]
      have hnt : nth nodes ((nodes.length : Int) - 1) = nodes.getD (nodes.length - 1) default := by unfold nth; rw [ej]
      refine Wp.mid (fun ρ ds w' => ds = [] ∧ St w M w' (Ch.cells ba2 80 o.cs :: Ch.cells ba1 78 l.cs :: ChP b file A c (nodes1 nodes last ind l o) B d op last ind) ∧
        Sub [(0, PB b), (4, PB ba1), (5, PB ba2), (7, .bool (o.kind == 2)), (8, .int .i64 ((nodes.length : Int) - 1))] ρ) ?_ ?_
      · refine Wp.cond rfl (fun h2 => ?_) (fun h2 => ?_)
        · have h2 := eq_of_beq h2
          refine Wp.regionL (l := [0, 1, 2, 3, 4, 5, 6, 7]) (WO.rd (is := [0, 1, 2, 3, 4, 5, 6]) (js := [7]) (Keep.refl _) (Rn.s rfl Yv.mv (Rn.s rfl Yv.nc (Rn.s rfl (Yv.fa (off := 1)) (Rn.s rfl (Yv.ld (hc.at_ 1)) (Rn.s rfl Yv.mv (Rn.s rfl (Yv.ia (e := 48) hr (by omega) (by omega)) (Rn.s rfl (Yv.fa (off := 0)) (Rn.nil)))))))) (WO.act (hc := rfl) (he := Ef.setFld (E := NdE) (xs := ns) (f := 0) hst 3 ((nth ns ((nodes.length : Int) - 1)).kd (2)) rfl rfl (by omega) (by omega) (fun wy1 hsy1 => WO.done ?_))))
          refine ⟨rfl, ?_, rfl, rfl, rfl, rfl, rfl, trivial⟩
          have e2 : nodes1 nodes last ind l o = ns.set ((nodes.length : Int) - 1).toNat ((nth ns ((nodes.length : Int) - 1)).kd (2)) := by
            rw [hget, hns, List.set_set, nodes1, if_pos hop1, if_pos h2, ej, hnt]; rfl
          have := hsy1.pickT (P := [_, _, _, _, _]) (T := mps op) [1, 2, 3, 0, 4]
          rw [← e2] at this
          unfold ChP
          have e3 : (nodes1 nodes last ind l o).length = ns.length := by rw [e2, List.length_set]
          rw [e3]
          exact this
        · have h2 := ne_of_beq_false h2
          refine Wp.skip ⟨rfl, ?_, rfl, rfl, rfl, rfl, rfl, trivial⟩
          have e2 : nodes1 nodes last ind l o = ns := by rw [hns, nodes1, if_pos hop1, if_neg h2, ej, hnt]
          rw [e2]
          exact hst
      rintro ρ ds w' ⟨rfl, hst, hs⟩
      refine Wp.forget _ ?_ hs
      have hc := hst.cells 2
      have c4 := hst.cells 1
      refine Wp.draws [12, 15] mixed (WD.rd (is := [0, 1, 2, 3, 4, 5, 6, 7, 8]) (fun _ _ _ _ _ h => h) (Keep.drew _) (Rn.s rfl Yv.mv (Rn.s rfl Yv.mv (Rn.s rfl Yv.nc (Rn.s rfl (Yv.fa (off := 2)) (Rn.s rfl (Yv.ld (hc.at_ 2)) (Rn.s rfl (Yv.fa (off := 1)) (Rn.s rfl (Yv.ld (c4.at_ 1)) (Rn.s rfl Yv.mv (Rn.s rfl Yv.mv (Rn.nil)))))))))) (WD.act 9 (hc := rfl) (he := Ef.makeMap KyS (.int .i64) (hst.quiet (Keep.drew _)) (fun bz1 wz1 kz1 hsz1 => ⟨fun _ => kz1, WD.rd (is := [10]) (fun _ _ _ _ _ h => h) ((Keep.drew _).trans kz1) (Rn.s rfl (Yv.bd (cs := BkE.cells ((⟨l.indent, o.kind == 2, (nodes.length : Int) - 1, []⟩ : OB), bz1))) (Rn.nil)) (WD.app BkE [((⟨l.indent, o.kind == 2, (nodes.length : Int) - 1, []⟩ : OB), bz1)] 11 12 rfl (fun _ => rfl) hsz1 5 (.inl (by simp only [List.length_reverse, List.length_cons, List.length_nil]; omega)) (fun bz2 Az2 cz2 wz2 hsz2 => WD.rd (is := [13, 14]) (fun _ _ _ _ _ h => h) (Keep.refl _) (Rn.s rfl Yv.nc (Rn.s rfl (Yv.fa (off := 2)) (Rn.nil))) (WD.act 15 (hc := rfl) (he := Ef.store hsz2 4 (fun wz3 hsz3 => ⟨fun hn => (hn (by decide)).elim, WD.done ?_⟩)))))⟩))))
      refine ⟨rfl, A, c, Az2, cz2, (⟨l.indent, o.kind == 2, (nodes.length : Int) - 1, []⟩, bz1) :: op, rfl, by simp, by simp only [List.length_cons]; omega, ?_, rfl, rfl, rfl, rfl, trivial⟩
      have := hsz3.pickT (P := [_, _, _, _, _, _]) (T := mps op) [3, 4, 0, 5, 1, 2]
      unfold ChP
      rw [List.reverse_cons]
      exact this
    · have hop1 : opens last ind l = false := h
      refine Wp.skip ⟨rfl, A, c, B, d, op, by rw [stack1, if_neg (by simp [hop1])], hop, by omega, ?_, rfl, rfl, rfl, rfl, trivial⟩
      rw [nodes1, if_neg (by simp [hop1])]
      exact hst
  rintro ρ ds w' ⟨rfl, A1, c1, B1, d1, op1, he1, hne1, hl1, hst, hs⟩
  refine Wp.forget _ ?_ hs
  obtain ⟨N1, hN1⟩ : ∃ N1, N1 = nodes1 nodes last ind l o := ⟨_, rfl⟩
  rw [← hN1] at hst
  refine Wp.seq (Wp.block ?_)
  refine Wp.loop (α := List (OB × Nat)) (fun q ρ ds w' => ds = [] ∧ q ≠ [] ∧ popS l.indent (q.map (·.1)) = popS l.indent (stack1 nodes.length (op.map (·.1)) last ind l o) ∧ q.length ≤ 1000001 ∧ St w M w' (Ch.cells ba2 80 o.cs :: Ch.cells ba1 78 l.cs :: ChP b file A1 c1 N1 B1 d1 q last ind) ∧
    Sub [(0, PB b), (4, PB ba1), (5, PB ba2), (7, .bool (o.kind == 2))] ρ) (fun q => q.length) op1 ⟨rfl, hne1, by rw [he1], hl1, hst, rfl, rfl, rfl, rfl, trivial⟩ ?_
  clear hst he1 hne1 hl1 hs
  rintro q ρ ds w' ⟨rfl, hq, hpop, hql, hst, hs⟩
  refine Wp.forget _ ?_ hs
  obtain ⟨x, r, rfl⟩ := List.exists_cons_of_ne_nil hq
  have hc := hst.cells 2
  have c4 := hst.cells 1
  have c5 := hst.cells 0
  have hr := hst.rd 4
  have hlr : (x :: r).reverse.length = r.length + 1 := by simp
  have hlq : (x :: r).reverse.length ≤ 1000001 := by simpa using hql
  have ht : ∀ {w2 : World}, Keep w' w2 → ∀ (f : Nat) (u : Value), (BkE.cells x)[f]? = some u → w2.cell? ⟨pb B1, pq B1 + (((x :: r).reverse.length : Int) - 1).toNat * 4 + f, none⟩ = some u := fun k f u hu =>
    k.cell (hr.ld (i := ((x :: r).reverse.length : Int) - 1) f (by omega) (by omega) (by rw [nth_top]; exact hu))
  refine Wp.seq (Wp.seq (Wp.draws [] mixed (WD.rd (is := [0, 1, 2, 3, 4, 5, 6]) (fun _ _ _ _ _ h => h) (Keep.drew _) (Rn.s rfl Yv.mv (Rn.s rfl Yv.nc (Rn.s rfl (Yv.fa (off := 2)) (Rn.s rfl (Yv.ld (hc.at_ 2)) (Rn.s rfl (Yv.len_v (e := 73) (m := 4)) (Rn.s rfl (Yv.cmp _ rfl) (Rn.s rfl Yv.mv (Rn.nil)))))))) (WD.and [7, 8, 9, 10, 11, 12, 13, 14, 15] 70 79 (hg := rfl) (ht := fun h6 qx1 => have h6 := of_decide_eq_true h6; WD.rd (is := [7, 12, 13]) (fun _ _ _ _ _ h => h) (Keep.drew _) (Rn.s rfl Yv.mv (Rn.s rfl (Yv.fa (off := 1)) (Rn.s rfl (Yv.ld (c4.at_ 1)) (Rn.nil)))) (WD.cv 8 rfl (top_cv b file A1 N1.length c1 B1 d1 (x :: r).reverse last ind _ hc hr (by omega) (by omega)) (Keep.drew _) (FnOk.of Tryd.func58) (fun wx2 kx2 => WD.rd (is := [9, 10, 11, 14, 15]) (fun _ _ _ _ _ h => h) ((Keep.drew _).trans kx2) (Rn.s rfl Yv.nc (Rn.s rfl (Yv.fa (off := 0)) (Rn.s rfl (Yv.ld (ht (Keep.refl _) 0 _ rfl)) (Rn.s rfl (Yv.cmp _ rfl) (Rn.s rfl Yv.pick_t (Rn.nil)))))) (WD.e 9 (qx1 _ ((Keep.refl _).trans kx2)))))) (hf := fun _ qx1 => WD.rd (is := [7, 8, 9, 10, 11, 12, 13, 14, 15]) (fun _ _ _ _ _ h => h) (Keep.drew _) (Rn.no rfl (Rn.no rfl (Rn.no rfl (Rn.no rfl (Rn.no rfl (Rn.no rfl (Rn.no rfl (Rn.no rfl (Rn.s rfl Yv.pick_f Rn.nil))))))))) (WD.e 9 (qx1 _ (Keep.refl _)))) (k := fun wx1 kx1 => WD.done ?_)))))
  have kx := (Keep.drew _).trans kx1
  have hst := hst.quiet kx
  have hc := hst.cells 2
  have c4 := hst.cells 1
  have c5 := hst.cells 0
  have hr := hst.rd 4
  have ht : ∀ {w2 : World}, Keep wx1 w2 → ∀ (f : Nat) (u : Value), (BkE.cells x)[f]? = some u → w2.cell? ⟨pb B1, pq B1 + (((x :: r).reverse.length : Int) - 1).toNat * 4 + f, none⟩ = some u := fun k => ht (kx.trans k)
  refine Wp.cond rfl (fun h => ?_) (fun h => ?_)
  · simp only [Bool.and_eq_true, decide_eq_true_eq] at h
    obtain ⟨h1, h2⟩ := h
    refine Wp.skip (Wp.block (Wp.draws [14] mixed (WD.rd (is := [0, 1, 2, 3, 4, 5, 6, 7, 8, 9, 10, 11, 12, 13]) (fun _ _ _ _ _ h => h) (Keep.drew _) (Rn.s rfl Yv.mv (Rn.s rfl Yv.mv (Rn.s rfl Yv.nc (Rn.s rfl (Yv.fa (off := 2)) (Rn.s rfl (Yv.ld (hc.at_ 2)) (Rn.s rfl Yv.mv (Rn.s rfl Yv.nc (Rn.s rfl (Yv.fa (off := 2)) (Rn.s rfl (Yv.ld (hc.at_ 2)) (Rn.s rfl (Yv.len_v (e := 73) (m := 4)) (Rn.s rfl (Yv.sub (by unfold inI; omega)) (Rn.s rfl (Yv.sl_t (n := 4) (e := 73) (by omega) (by have := hst.cap 4; omega)) (Rn.s rfl Yv.nc (Rn.s rfl (Yv.fa (off := 2)) (Rn.nil))))))))))))))) (WD.act 14 (hc := rfl) (he := Ef.store (hst.quiet (Keep.drew _)) 2 (fun wy1 hsy1 => ⟨fun hn => (hn (by decide)).elim, WD.done ?_⟩))))))
    have hr0 : r ≠ [] := by
      rintro rfl
      simp at h1
    refine ⟨r, ⟨rfl, hr0, ?_, by simp only [List.length_cons] at hql; omega, ?_, rfl, rfl, rfl, rfl, trivial⟩, by simp⟩
    · rw [← hpop]
      obtain ⟨y, r', rfl⟩ := List.exists_cons_of_ne_nil hr0
      simp only [List.map_cons, popS, if_pos h2]
    · have h3 := hsy1.pickT (P := [_, _, _, _, _, _]) (T := mps r) [4, 0, 1, 2, 3]
      have e1 : (x :: r).reverse = r.reverse ++ [x] := List.reverse_cons
      have e2 : (((x :: r).reverse.length : Int) - 1).toNat = r.reverse.length := by simp
      rw [e2, e1] at h3
      have h4 := h3.shrink
      exact h4.pickT (P := [_, _, _, _, _]) (T := mps r) [2, 3, 1, 4, 0]
  have h : ¬ ((1 : Int) < (x :: r).reverse.length ∧ l.indent < x.1.indent) := by
    simp only [Bool.and_eq_false_iff, decide_eq_false_iff_not] at h
    omega
  have hpe : popS l.indent (stack1 nodes.length (op.map (·.1)) last ind l o) = x.1 :: r.map (·.1) := by
    rw [← hpop]
    cases r with
    | nil => rfl
    | cons y r' =>
      simp only [List.map_cons, popS]
      rw [if_neg]
      intro h2
      exact h ⟨by simp; omega, h2⟩
  have hE : enterS nodes (op.map (·.1)) last ind l o = if x.1.indent ≠ l.indent then (40, [], []) else if x.1.items ≠ (o.kind == 2) then (41, [], []) else if (32 : Int) < (x.1 :: r.map (·.1)).length then (43, [], [])
      else if (alook o.key x.1.keys).isSome && !(o.kind == 2) then (42, [], []) else (0, N1, { x.1 with keys := aput o.key (w64 ((alook o.key x.1.keys).getD 0 + 1)) x.1.keys } :: r.map (·.1)) := by
    rw [enterS, hpe, ← hN1]
  refine Wp.exit ?_
  refine Wp.seq (Wp.regionL (l := [0, 1, 2]) (WO.rd (is := [0]) (js := [1, 2]) (Keep.refl _) (Rn.s rfl Yv.mv (Rn.nil)) (WO.cv rfl (top_cv b file A1 N1.length c1 B1 d1 (x :: r).reverse last ind _ hc hr (by omega) (by omega)) (Keep.refl _) (FnOk.of Tryd.func58) (fun wy1 ky1 => WO.rd (is := [2]) (js := []) ((Keep.refl _).trans ky1) (Rn.s rfl Yv.as (Rn.nil)) (WO.done ?_)))))
  have hst := hst.quiet ky1
  have hc := hst.cells 2
  have c4 := hst.cells 1
  have c5 := hst.cells 0
  have ht : ∀ {w2 : World}, Keep wy1 w2 → ∀ (f : Nat) (u : Value), (BkE.cells x)[f]? = some u → w2.cell? ⟨pb B1, pq B1 + (((x :: r).reverse.length : Int) - 1).toNat * 4 + f, none⟩ = some u := fun k => ht (ky1.trans k)
  refine Wp.seq (Wp.block ?_)
  refine Wp.seq (Wp.readsD (is := [0, 1, 2, 3, 4, 5, 6, 7]) mixed (fun _ _ _ _ _ h => h) (Keep.refl _) (Rn.s rfl Yv.mv (Rn.s rfl Yv.nc (Rn.s rfl (Yv.fa (off := 0)) (Rn.s rfl (Yv.ld (ht (Keep.refl _) 0 _ rfl)) (Rn.s rfl (Yv.fa (off := 1)) (Rn.s rfl (Yv.ld (c4.at_ 1)) (Rn.s rfl (Yv.cmp _ rfl) (Rn.s rfl Yv.as (Rn.nil))))))))) ?_)
  have kd := Keep.drew wy1
  have hst := hst.quiet kd
  have hc := hst.cells 2
  have c5 := hst.cells 0
  unfold EnterPost
  refine Wp.cond rfl (fun h3 => ?_) (fun h3 => ?_)
  · have h3 : x.1.indent ≠ l.indent := by simpa using h3
    rw [hE, if_pos h3]
    refine Wp.seq (Wp.reads (is := [0]) (Keep.refl _) (Rn.s rfl Yv.as (Rn.nil)) ?_)
    exact Wp.ret (Fin.ret (Res.one rfl rfl) ⟨rfl, fun _ => hst.sub (List.nil_sublist _), fun h => by cases h⟩)
  have h3 : x.1.indent = l.indent := by simpa using h3
  rw [if_neg (by simp [h3])] at hE
  refine Wp.seq (Wp.reads (is := [0, 1, 2, 3, 4, 5, 6]) (Keep.refl _) (Rn.s rfl Yv.mv (Rn.s rfl Yv.nc (Rn.s rfl (Yv.fa (off := 1)) (Rn.s rfl (Yv.ld (ht kd 1 _ rfl)) (Rn.s rfl Yv.mv (Rn.s rfl (Yv.bcm _ rfl) (Rn.s rfl Yv.as (Rn.nil)))))))) ?_)
  refine Wp.cond rfl (fun h4 => ?_) (fun h4 => ?_)
  · have h4 : x.1.items ≠ (o.kind == 2) := by simpa using h4
    rw [hE, if_pos h4]
    refine Wp.seq (Wp.reads (is := [0]) (Keep.refl _) (Rn.s rfl Yv.as (Rn.nil)) ?_)
    exact Wp.ret (Fin.ret (Res.one rfl rfl) ⟨rfl, fun _ => hst.sub (List.nil_sublist _), fun h => by cases h⟩)
  have h4 : x.1.items = (o.kind == 2) := by simpa using h4
  rw [if_neg (by simp [h4])] at hE
  refine Wp.seq (Wp.reads (is := [0, 1, 2, 3, 4, 5, 6]) (Keep.refl _) (Rn.s rfl Yv.mv (Rn.s rfl Yv.nc (Rn.s rfl (Yv.fa (off := 2)) (Rn.s rfl (Yv.ld (hc.at_ 2)) (Rn.s rfl (Yv.len_v (e := 73) (m := 4)) (Rn.s rfl (Yv.cmp _ rfl) (Rn.s rfl Yv.as (Rn.nil)))))))) ?_)
  have e5 : ((x :: r).reverse.length : Int) = (x.1 :: r.map (·.1)).length := by simp
  refine Wp.cond rfl (fun h5 => ?_) (fun h5 => ?_)
  · have h5 := of_decide_eq_true h5
    rw [e5] at h5
    rw [hE, if_pos h5]
    refine Wp.seq (Wp.reads (is := [0]) (Keep.refl _) (Rn.s rfl Yv.as (Rn.nil)) ?_)
    exact Wp.ret (Fin.ret (Res.one rfl rfl) ⟨rfl, fun _ => hst.sub (List.nil_sublist _), fun h => by cases h⟩)
  have h5 := of_decide_eq_false h5
  rw [e5] at h5
  rw [if_neg h5] at hE
  have hmp : (Ch.mp KyS VI x.2 x.1.keys).ok wy1.drew := hst.at_ 5
  refine Wp.skip (Wp.seq (Wp.seq (Wp.readsD (is := [0, 1, 2, 3, 4, 5, 6, 7, 8, 9, 10, 11]) mixed (fun _ _ _ _ _ h => h) (Keep.refl _) (Rn.s rfl Yv.mv (Rn.s rfl Yv.nc (Rn.s rfl (Yv.fa (off := 3)) (Rn.s rfl (Yv.ld (ht kd 3 _ rfl)) (Rn.s rfl (Yv.fa (off := 1)) (Rn.s rfl (Yv.ld (c5.at_ 1)) (Rn.s rfl (Yv.look2 hmp 0) (Rn.s rfl Yv.mv (Rn.s rfl Yv.ex (Rn.s rfl Yv.ex (Rn.s rfl Yv.as (Rn.s rfl Yv.as (Rn.nil))))))))))))) ?_)))
  have kd := kd.trans (Keep.drew _)
  have hst := hst.quiet (Keep.drew _)
  have c5 := hst.cells 0
  have hmp : (Ch.mp KyS VI x.2 x.1.keys).ok wy1.drew.drew := hst.at_ 5
  refine Wp.seq (Wp.reads (is := [0, 1, 2, 3, 4]) (Keep.refl _) (Rn.s rfl Yv.mv (Rn.s rfl Yv.mv (Rn.and (is := [2, 3, 4]) (js := []) (t := 129) (d := 132) (hg := rfl) (ht := fun h1 => Rn.s rfl Yv.mv (Rn.s rfl Yv.not (Rn.s rfl Yv.pick_t ((Rn.e 3 rfl rfl))))) (hf := fun _ => Rn.no rfl (Rn.no rfl (Rn.s rfl Yv.pick_f (Rn.e 3 rfl rfl)))) (k := Rn.nil)))) ?_)
  refine Wp.cond rfl (fun h6 => ?_) (fun h6 => ?_)
  · rw [hE, if_pos h6]
    refine Wp.seq (Wp.reads (is := [0]) (Keep.refl _) (Rn.s rfl Yv.as (Rn.nil)) ?_)
    exact Wp.ret (Fin.ret (Res.one rfl rfl) ⟨rfl, fun _ => hst.sub (List.nil_sublist _), fun h => by cases h⟩)
  rw [if_neg (by rw [h6]; decide)] at hE
  refine Wp.skip (Wp.seq (Wp.draws [8] mixed (WD.rd (is := [0, 1, 2, 3, 4, 5, 6, 7]) (fun _ _ _ _ _ h => h) (Keep.drew _) (Rn.s rfl Yv.mv (Rn.s rfl Yv.nc (Rn.s rfl (Yv.fa (off := 3)) (Rn.s rfl (Yv.ld (ht kd 3 _ rfl)) (Rn.s rfl (Yv.fa (off := 1)) (Rn.s rfl (Yv.ld (c5.at_ 1)) (Rn.s rfl (Yv.look hmp 0) (Rn.s rfl Yv.addw (Rn.nil))))))))) (WD.act 8 (hc := rfl) (he := Ef.mapput (hst.quiet (Keep.drew _)) 5 (fun wz1 hsz1 => ⟨fun hn => (hn (by decide)).elim, WD.done ?_⟩))))))
  refine Wp.seq (Wp.reads (is := [0]) (Keep.refl _) (Rn.s rfl Yv.as (Rn.nil)) ?_)
  rw [hE]
  refine Wp.ret (Fin.ret (Res.one rfl rfl) ⟨rfl, fun h => absurd rfl h, fun _ => ⟨A1, c1, B1, d1, ({ x.1 with keys := aput o.key (w64 ((alook o.key x.1.keys).getD 0 + 1)) x.1.keys }, x.2) :: r, rfl, ?_⟩⟩)
  have h7 := hsz1.pickT (P := [_, _, _, _, _, _]) (T := mps r) [3, 4, 5, 0]
  have e8 : (({ x.1 with keys := aput o.key (w64 ((alook o.key x.1.keys).getD 0 + 1)) x.1.keys }, x.2) :: r : List (OB × Nat)).reverse.length = (x :: r).reverse.length := by simp
  have e7 : Ch.row BkE 73 B1 d1 (x :: r).reverse = Ch.row BkE 73 B1 d1 (({ x.1 with keys := aput o.key (w64 ((alook o.key x.1.keys).getD 0 + 1)) x.1.keys }, x.2) :: r).reverse := row_congr e8.symm (by simp)
  unfold ChP
  rw [e8, ← e7]
  exact h7
end Go.Proofs.YtgjhbapbomdpbaaDoor.C
