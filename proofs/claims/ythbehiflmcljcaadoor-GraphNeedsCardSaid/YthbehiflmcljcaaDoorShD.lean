/- A walk over the model's code with a small environment (generic: over any program). Part D: memory: who owns which blocks; slices that are read; boxes, variables, stores. -/
import Derived.Test.YthbehiflmcljcaaDoorShC
import Derived.Laws.AppendOwn
import Derived.Laws.OwnMore
set_option linter.unusedVariables false
set_option linter.unusedSimpArgs false
namespace Go.Proofs.YthbehiflmcljcaaDoor.Sh
open Go.RowKit

/-! ### 1. Blocks -/
/-- outside of the blocks M the world is as it was -/
structure Chg (M : List Nat) (w w' : World) : Prop where
  os : w'.os = w.os
  tape : w'.tape = w.tape
  output : w'.output = w.output
  size : w.heap.size ≤ w'.heap.size
  block : ∀ b, b < w.heap.size → b ∉ M → w'.heap[b]? = w.heap[b]?
theorem Chg.refl (M : List Nat) (w : World) : Chg M w w := ⟨rfl, rfl, rfl, Nat.le_refl _, fun _ _ _ => rfl⟩
theorem Chg.of_keep {w w' : World} (M : List Nat) (h : Keep w w') : Chg M w w' := ⟨h.os, h.tape, h.output, h.size, fun b hb _ => h.block b hb⟩
theorem Chg.keep {w w' : World} (h : Chg [] w w') : Keep w w' := ⟨h.os, h.tape, h.output, h.size, fun b hb => h.block b hb (by simp)⟩
theorem Chg.trans {M M' : List Nat} {a b c : World} (h : Chg M a b) (k : Chg M' b c) (hM : ∀ x ∈ M', x ∈ M ∨ a.heap.size ≤ x) : Chg M a c :=
  ⟨k.os.trans h.os, k.tape.trans h.tape, k.output.trans h.output, Nat.le_trans h.size k.size, fun x hx hn =>
    (k.block x (Nat.lt_of_lt_of_le hx h.size) (fun hm => by rcases hM x hm with h' | h'; exact hn h'; omega)).trans (h.block x hx hn)⟩
theorem Chg.of_grownBy {w w' : World} {row : Option Nat} (h : w.grownBy w' row) : Chg row.toList w w' := ⟨h.os, h.tape, h.output, h.size, fun b hb hn => h.block b hb (fun e => hn (by rw [← e]; simp))⟩

/-- a piece of memory: its blocks, and what is known of them -/
structure Chunk where
  bs : List Nat
  ok : World → Prop
  loc : ∀ w w', (∀ b ∈ bs, w'.heap[b]? = w.heap[b]?) → ok w → ok w'
structure St (w0 : World) (M : List Nat) (w : World) (D : List Chunk) : Prop where
  chg : Chg M w0 w
  ok : ∀ C ∈ D, C.ok w
  rng : ∀ C ∈ D, ∀ b ∈ C.bs, (b ∈ M ∨ w0.heap.size ≤ b) ∧ b < w.heap.size
  dis : D.Pairwise fun C E => ∀ b ∈ C.bs, b ∉ E.bs
section
variable {w0 w w' : World} {M : List Nat} {C C' : Chunk} {D D' : List Chunk}
theorem St.init (w : World) : St w [] w [] := ⟨.refl _ _, by simp, by simp, .nil⟩
theorem St.keep (h : St w0 [] w D) : Keep w0 w := h.chg.keep
theorem St.at_ (h : St w0 M w D) (i : Nat) (hC : D[i]? = some C := by rfl) : C.ok w := h.ok C (List.mem_of_getElem? hC)
theorem St.quiet (h : St w0 M w D) (k : Keep w w') : St w0 M w' D :=
  ⟨h.chg.trans (Chg.of_keep [] k) (by simp), fun C hC => C.loc w w' (fun b hb => k.block b (h.rng C hC b hb).2) (h.ok C hC),
    fun C hC b hb => ⟨(h.rng C hC b hb).1, Nat.lt_of_lt_of_le (h.rng C hC b hb).2 k.size⟩, h.dis⟩
theorem St.sub (h : St w0 M w D) (hs : D'.Sublist D) : St w0 M w D' := ⟨h.chg, fun C hC => h.ok C (hs.subset hC), fun C hC => h.rng C (hs.subset hC), h.dis.sublist hs⟩
theorem St.drop (h : St w0 M w (C :: D)) : St w0 M w D := h.sub (List.sublist_cons_self C D)
theorem St.perm (h : St w0 M w D) (hp : D.Perm D') : St w0 M w D' :=
  ⟨h.chg, fun C hC => h.ok C (hp.mem_iff.2 hC), fun C hC => h.rng C (hp.mem_iff.2 hC), (hp.pairwise_iff (fun h b hb hb' => h b hb' hb)).1 h.dis⟩
theorem perm_pull : ∀ {D : List Chunk} (i : Nat), D[i]? = some C → D.Perm (C :: D.eraseIdx i)
  | [], i, h => by simp at h
  | x :: xs, 0, h => by simp at h; subst h; exact .refl _
  | x :: xs, i + 1, h => ((perm_pull i (by simpa using h)).cons x).trans (.swap _ _ _)
theorem St.pull (h : St w0 M w D) (i : Nat) (hC : D[i]? = some C := by rfl) : St w0 M w (C :: D.eraseIdx i) := h.perm (perm_pull i hC)
/-- new blocks -/
theorem St.new (h : St w0 M w D) (k : Keep w w') (hC : C.ok w') (hb : ∀ b ∈ C.bs, w.heap.size ≤ b ∧ b < w'.heap.size) : St w0 M w' (C :: D) := by
  have h' := h.quiet k
  refine ⟨h'.chg, fun E hE => ?_, fun E hE => ?_, ?_⟩
  · rcases List.mem_cons.1 hE with rfl | hE
    · exact hC
    · exact h'.ok E hE
  · rcases List.mem_cons.1 hE with rfl | hE
    · exact fun b hm => ⟨.inr (Nat.le_trans h.chg.size (hb b hm).1), (hb b hm).2⟩
    · exact h'.rng E hE
  · refine List.Pairwise.cons (fun E hE b hm hm' => ?_) h'.dis
    have := (h.rng E hE b hm').2
    have := (hb b hm).1
    omega
/-- what owns chunks is called: the frame -/
theorem St.call {A : List Chunk} (h : St w0 M w (A ++ D)) (k : St w (A.flatMap (·.bs)) w' D') : St w0 M w' (D' ++ D) := by
  have hdis := List.pairwise_append.1 h.dis
  have hA : ∀ b ∈ A.flatMap (·.bs), (b ∈ M ∨ w0.heap.size ≤ b) := fun b hb => by
    obtain ⟨C, hC, hb⟩ := List.mem_flatMap.1 hb
    exact (h.rng C (List.mem_append_left _ hC) b hb).1
  have hD : ∀ E ∈ D, ∀ b ∈ E.bs, b ∉ A.flatMap (·.bs) := fun E hE b hb hm => by
    obtain ⟨C, hC, hb'⟩ := List.mem_flatMap.1 hm
    exact hdis.2.2 C hC E hE b hb' hb
  refine ⟨h.chg.trans k.chg hA, fun E hE => ?_, fun E hE b hb => ?_, List.pairwise_append.2 ⟨k.dis, hdis.2.1, fun C hC E hE b hb hb' => ?_⟩⟩
  · rcases List.mem_append.1 hE with hE | hE
    · exact k.ok E hE
    · exact E.loc w w' (fun b hb => k.chg.block b (h.rng E (List.mem_append_right _ hE) b hb).2 (hD E hE b hb)) (h.ok E (List.mem_append_right _ hE))
  · rcases List.mem_append.1 hE with hE | hE
    · obtain ⟨h1, h2⟩ := k.rng E hE b hb
      refine ⟨?_, h2⟩
      rcases h1 with h1 | h1
      · exact hA b h1
      · exact .inr (Nat.le_trans h.chg.size h1)
    · obtain ⟨h1, h2⟩ := h.rng E (List.mem_append_right _ hE) b hb
      exact ⟨h1, Nat.lt_of_lt_of_le h2 k.chg.size⟩
  · rcases (k.rng C hC b hb).1 with h1 | h1
    · exact hD E hE b hb' h1
    · have := (h.rng E (List.mem_append_right _ hE) b hb').2
      omega
theorem St.call0 (h : St w0 M w D) (k : St w [] w' D') : St w0 M w' (D' ++ D) := St.call (A := []) h k
/-- some chunks are handed in: the callee begins with them -/
theorem St.enter {A : List Chunk} (h : St w0 M w (A ++ D)) : St w (A.flatMap (·.bs)) w A := by
  have hdis := List.pairwise_append.1 h.dis
  refine ⟨.refl _ _, fun C hC => h.ok C (List.mem_append_left _ hC), fun C hC b hb => ⟨.inl (List.mem_flatMap.2 ⟨C, hC, hb⟩), (h.rng C (List.mem_append_left _ hC) b hb).2⟩, hdis.1⟩
/-- the first chunk is turned in place (new blocks may join it) -/
theorem St.upd (h : St w0 M w (C :: D)) (k : Chg C.bs w w') (hC : C'.ok w') (hb : ∀ b ∈ C'.bs, (b ∈ C.bs ∨ w.heap.size ≤ b) ∧ b < w'.heap.size) : St w0 M w' (C' :: D) := by
  have h1 : St w ([C].flatMap (·.bs)) w' [C'] := ⟨by simpa using k, by simpa using hC, by simpa using hb, .cons (by simp) .nil⟩
  exact St.call (A := [C]) h h1
end

/-! ### 2. Cells of one block -/
def Ch.cells (b : Nat) (T : TypeId) (vs : List Value) : Chunk :=
  ⟨[b], fun w => w.heap[b]? = some (.cells vs.toArray T (0, 0)), fun w w' h hk => (h b (by simp)).trans hk⟩
theorem cells_cell {w : World} {b : Nat} {T : TypeId} {vs : List Value} (h : (Ch.cells b T vs).ok w) (j : Nat) (v : Value) (hv : vs[j]? = some v := by rfl) : w.cell? ⟨b, j, none⟩ = some v := by
  have h' : w.heap[b]? = some (.cells vs.toArray T (0, 0)) := h
  simp [World.cell?, h', hv]
theorem cells_frozen {w : World} {b : Nat} {T : TypeId} {vs : List Value} (h : (Ch.cells b T vs).ok w) (j : Nat) : w.frozen? ⟨b, j, none⟩ = false := by
  have h' : w.heap[b]? = some (.cells vs.toArray T (0, 0)) := h
  simp [World.frozen?, h']
section
variable {w0 w w' : World} {M : List Nat} {C : Chunk} {D D' : List Chunk}
theorem St.cell (h : St w0 M w D) (i : Nat) {b : Nat} {T : TypeId} {vs : List Value} (j : Nat) {v : Value} (hC : D[i]? = some (Ch.cells b T vs) := by rfl) (hv : vs[j]? = some v := by rfl) : w.cell? ⟨b, j, none⟩ = some v :=
  cells_cell (h.at_ i hC) j v hv
theorem St.allocCells (h : St w0 M w D) (T : TypeId) (vs : List Value) : St w0 M (w.alloc (.cells vs.toArray T)) (Ch.cells w.heap.size T vs :: D) :=
  h.new (Keep.alloc _ _) (heap_alloc_new w _) (fun b hb => by simp [Ch.cells] at hb; subst hb; simp)
end
/-- storing cell after cell into one block -/
theorem run_storeCells_one {P : Program} {T : TypeId} {b : Nat} (us : List Value) (h1 : ∀ u ∈ us, u.oneCell' = true) : ∀ (i q : Nat) (vs : List Value) (w : World), w.heap[b]? = some (.cells vs.toArray T (0, 0)) → q + i + us.length ≤ vs.length →
    ∃ w', (storeCells ⟨b, q, none⟩ us i).run P w = .ok () w' ∧ w'.heap[b]? = some (.cells (vs.take (q + i) ++ us ++ vs.drop (q + i + us.length)).toArray T (0, 0)) ∧ Chg [b] w w' ∧ w'.heap.size = w.heap.size := by
  induction us with
  | nil => intro i q vs w h hl; exact ⟨w, rfl, by simpa using h, .refl _ _, rfl⟩
  | cons u us ih =>
    intro i q vs w h hl
    simp only [List.length_cons] at hl
    have hc : w.cell? ⟨b, q + i, none⟩ = some (vs[q + i]'(by omega)) := by
      simp [World.cell?, h, List.getElem?_eq_getElem (show q + i < vs.length by omega)]
    have hf : w.frozen? ⟨b, q + i, none⟩ = false := by simp [World.frozen?, h]
    have hset : (w.setCell ⟨b, q + i, none⟩ u).heap[b]? = some (.cells (vs.set (q + i) u).toArray T (0, 0)) := by
      simp [World.setCell, Array.getElem?_modify, h]
    obtain ⟨w', hr, hh, hk, hs⟩ := ih (fun x hx => h1 x (List.mem_cons_of_mem _ hx)) (i + 1) q (vs.set (q + i) u) (w.setCell ⟨b, q + i, none⟩ u) hset (by simp; omega)
    refine ⟨w', ?_, ?_, ?_, by rw [hs]; simp⟩
    · simp only [storeCells, Sem.run_bind, add_off, run_store P w _ u _ (h1 u (by simp)), hc, hf]
      simpa [add_off] using hr
    · rw [hh]
      congr 3
      have e1 : (vs.set (q + i) u).take (q + (i + 1)) = vs.take (q + i) ++ [u] := by
        rw [List.set_eq_take_append_cons_drop, if_pos (by omega), show q + (i + 1) = q + i + 1 by omega, List.append_cons]
        exact List.take_left' (by simp; omega)
      have e2 : (vs.set (q + i) u).drop (q + (i + 1) + us.length) = vs.drop (q + i + (us.length + 1)) := by
        rw [show q + (i + 1) + us.length = q + i + (us.length + 1) by omega, List.drop_set, if_pos (by omega)]
      rw [e1, e2]
      simp
    · refine Chg.trans (b := w.setCell ⟨b, q + i, none⟩ u) (M' := [b]) ⟨rfl, rfl, rfl, by simp, fun x hx hn => Below.heap_setCell _ _ _ _ (by simpa using hn)⟩ hk (by simp)

/-! ### 3. Slices whose elements are read -/
structure Enc (α : Type) where
  n : Nat
  cells : α → List Value
  len : ∀ x, (cells x).length = n
def pb (A : Option Addr) : Nat := match A with | some a => a.block | none => 0
def pq (A : Option Addr) : Nat := match A with | some a => a.off | none => 0
/-- from A on the list xs is to be read -/
structure Rd {α : Type} (E : Enc α) (w : World) (A : Option Addr) (xs : List α) : Prop where
  adr : 0 < xs.length → A = some ⟨pb A, pq A, none⟩
  cell : ∀ j x, xs[j]? = some x → ∀ k u, (E.cells x)[k]? = some u → w.cell? ⟨pb A, pq A + j * E.n + k, none⟩ = some u
section
variable {α : Type} {E : Enc α} {w w' : World} {A : Option Addr} {xs : List α}
theorem Rd.keep (h : Rd E w A xs) (k : Keep w w') : Rd E w' A xs := ⟨h.adr, fun j x hx i u hu => k.cell (h.cell j x hx i u hu)⟩
theorem Rd.ld [Inhabited α] (h : Rd E w A xs) {i : Int} (f : Nat) {u : Value} (h0 : 0 ≤ i) (h1 : i < xs.length) (hu : (E.cells (nth xs i))[f]? = some u := by rfl) :
    w.cell? ⟨pb A, pq A + i.toNat * E.n + f, none⟩ = some u := h.cell _ _ (nth_get h0 h1) f u hu
/-- the address of an element -/
theorem Yv.ia {P : Program} {w1 : World} {t e : TypeId} {m c : Nat} {x y : Operand} {j : Int} {kd : IntKind} (h : Rd E w A xs) (h0 : 0 ≤ j) (h1 : j < xs.length) (hm : m = xs.length := by rfl) (ht : slB P t e E.n = true := by kernel_rfl) :
    Yv P w1 (.indexAddr t x y) [(.slice A m c), (.int kd j)] (.pointer (some ⟨pb A, pq A + j.toNat * E.n, none⟩)) :=
  Yv.mk2 (x := x) (y := y) (by simp) rfl fun o e w' hop hx hy _ => by
    subst hm
    rw [h.adr (by omega)] at hx ⊢
    simp [execOp, hop, hx, hy, Instr.indexAt, asIntOf, run_underlying (slB_of ht).1, h0, h1, run_size (slB_of ht).2, add_off, pb, pq]
end

/-! ### 4. Operations that make or write -/
section
variable {r : Option Nat} {P : Program} {N : Nat} {ρ : Env} {ds : List Deferred} {w0 w : World} {M : List Nat} {D : List Chunk} {K : Env → World → Prop} {Q : Post} {dst : Option Nat}
theorem Ef.box {t : TypeId} {x : Operand} {v : Value} (h : St w0 M w D) (k : ∀ b w', Keep w w' → St w0 M w' (Ch.cells b t v.cells.toList :: D) → K (putE ρ dst (.pointer (some ⟨b, 0, none⟩))) w') : Ef r P N dst (.box t x) [v] ρ ds w K Q :=
  Ef.of_run (v := .pointer (some ⟨w.heap.size, 0, none⟩)) (w' := w.alloc (.cells v.cells.toList.toArray t)) (by simp)
    (fun o e ho hv => by
      have hx : e x = v := by simpa [Op.operands] using hv
      simp [execOp, ho, hx, Instr.box, newVar, newRow]) (k _ _ (Keep.alloc _ _) (h.allocCells t _))
theorem Ef.alloc {t : TypeId} {z : Value} (hz : (P.info? t).map (·.zero) = some (some z)) (h : St w0 M w D) (k : ∀ b w', Keep w w' → St w0 M w' (Ch.cells b t z.cells.toList :: D) → K (putE ρ dst (.pointer (some ⟨b, 0, none⟩))) w') : Ef r P N dst (.alloc t) [] ρ ds w K Q := by
  obtain ⟨i, hi, hz'⟩ := Option.map_eq_some_iff.1 hz
  exact Ef.of_run (v := .pointer (some ⟨w.heap.size, 0, none⟩)) (w' := w.alloc (.cells z.cells.toList.toArray t)) (by simp)
    (fun o e ho hv => by simp [execOp, ho, Instr.alloc, zeroValue, typeInfo, hi, hz', newVar, newRow]) (k _ _ (Keep.alloc _ _) (h.allocCells t _))
/-- a store of one cell into the i-th chunk -/
theorem Ef.store {t T : TypeId} {x y : Operand} {b q : Nat} {vs : List Value} {v : Value} (h : St w0 M w D) (i : Nat) (k : ∀ w', St w0 M w' (Ch.cells b T (vs.set q v) :: D.eraseIdx i) → K (putE ρ dst undef) w')
    (hC : D[i]? = some (Ch.cells b T vs) := by rfl) (hq : Nat.blt q vs.length = true := by rfl) (h1 : v.oneCell' = true := by rfl) (hv : v.cells = #[v] := by rfl) (hs : sizeB P t 1 = true := by kernel_rfl) : Ef r P N dst (.store t x y) [.pointer (some ⟨b, q, none⟩), v] ρ ds w K Q := by
  have hp := h.pull i hC
  have hb : w.heap[b]? = some (.cells vs.toArray T (0, 0)) := h.at_ i hC
  have hq : q < vs.length := by simpa using hq
  obtain ⟨w', hr, hh, hk, hsz⟩ := run_storeCells_one (P := P) [v] (by simpa using h1) 0 q vs w hb (by simp; omega)
  refine Ef.of_skip (w' := w') (by simp) (fun o e ho he => ?_) (k w' (hp.upd hk ?_ ?_))
  · have h2 : e x = .pointer (some ⟨b, q, none⟩) ∧ e y = v := by simpa [Op.operands] using he
    simp [execOp, ho, h2.1, h2.2, Instr.storeAt, Instr.sureAddr, storeVar, hv, run_size (sizeB_of hs), hr]
  · show w'.heap[b]? = some _
    rw [hh]
    congr 3
    simp [List.set_eq_take_append_cons_drop, hq]
  · intro x hx
    simp [Ch.cells] at hx
    subst hx
    exact ⟨.inl (by simp [Ch.cells]), by rw [hsz]; exact (Array.getElem?_eq_some_iff.1 hb).1⟩
/-- a store of a whole struct into the i-th chunk -/
theorem Ef.stores {t T : TypeId} {x y : Operand} {b q n : Nat} {vs us : List Value} (h : St w0 M w D) (i : Nat) (k : ∀ w', St w0 M w' (Ch.cells b T (vs.take q ++ us ++ vs.drop (q + n)) :: D.eraseIdx i) → K (putE ρ dst undef) w')
    (hC : D[i]? = some (Ch.cells b T vs) := by rfl) (hn : us.length = n := by rfl) (hq : Nat.ble (q + n) vs.length = true := by rfl) (h1 : us.all (·.oneCell') = true := by rfl) (ht : agB P t n = true := by kernel_rfl) : Ef r P N dst (.store t x y) [.pointer (some ⟨b, q, none⟩), .agg us.toArray] ρ ds w K Q := by
  have hp := h.pull i hC
  have hb : w.heap[b]? = some (.cells vs.toArray T (0, 0)) := h.at_ i hC
  have hq := Nat.le_of_ble_eq_true hq
  subst hn
  obtain ⟨w', hr, hh, hk, hsz⟩ := run_storeCells_one (P := P) us (by simpa using h1) 0 q vs w hb (by simpa using hq)
  refine Ef.of_skip (w' := w') (by simp) (fun o e ho he => ?_) (k w' (hp.upd hk ?_ ?_))
  · have h2 : e x = .pointer (some ⟨b, q, none⟩) ∧ e y = .agg us.toArray := by simpa [Op.operands] using he
    simp [execOp, ho, h2.1, h2.2, Instr.storeAt, Instr.sureAddr, storeVar, Value.cells, run_size (agB_of ht).2, hr]
  · show w'.heap[b]? = some _
    rw [hh]
    simp
  · intro x hx
    simp [Ch.cells] at hx
    subst hx
    exact ⟨.inl (by simp [Ch.cells]), by rw [hsz]; exact (Array.getElem?_eq_some_iff.1 hb).1⟩
end
end Go.Proofs.YthbehiflmcljcaaDoor.Sh
