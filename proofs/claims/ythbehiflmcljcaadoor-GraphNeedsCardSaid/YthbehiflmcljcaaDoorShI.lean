/- A walk over the model's code with a small environment (generic: over any program). Part I: structs built, lists written out, cuts of lists, elements written, structs held against one another. -/
import Derived.Test.YthbehiflmcljcaaDoorShH
import Derived.Laws.StructEq
set_option linter.unusedVariables false
set_option linter.unusedSimpArgs false
namespace Go.Proofs.YthbehiflmcljcaaDoor.Sh
open Go.RowKit

/-! ### 1. build -/
def placesB (P : Program) : List Field → Option (List (Nat × Nat))
  | [] => some []
  | f :: fs => match P.info? f.type with
    | some i => match placesB P fs with
      | some l => some ((f.offset, i.size) :: l)
      | none => none
    | none => none
def bldB (P : Program) (t : TypeId) (parts : List (Nat × Value)) : Option (Array Value) :=
  match P.info? t with
  | some i => match i.zero with
    | some z => match P.underlying t with
      | some (.struct fs) => match placesB P fs.toList with
        | some pl => Instr.fill (fun i => pl[i]?) z.cells parts
        | none => none
      | some (.array _ e) => match P.info? e with
        | some ie => Instr.fill (fun i => some (i * ie.size, ie.size)) z.cells parts
        | none => none
      | _ => none
    | none => none
  | none => none
theorem run_places {P : Program} {w : World} : ∀ (fs : List Field) (pl : List (Nat × Nat)), placesB P fs = some pl → (fs.mapM (fun f => (Prod.mk f.offset <$> sizeOf f.type : Sem (Nat × Nat)))).run P w = .ok pl w
  | [], pl, h => by simp [placesB] at h; subst h; simp
  | f :: fs, pl, h => by
    simp only [placesB] at h
    cases hi : P.info? f.type with
    | none => rw [hi] at h; cases h
    | some i =>
      rw [hi] at h
      cases hl : placesB P fs with
      | none => rw [hl] at h; cases h
      | some l =>
        rw [hl] at h
        simp only [Option.some.injEq] at h
        subst h
        have := run_places (w := w) fs l hl
        have hs : (sizeOf f.type).run P w = .ok i.size w := run_size (by simp [hi]) w
        simp [List.mapM_cons, hs, this]
theorem run_bld {P : Program} {w : World} {t : TypeId} {parts : Array (Nat × Value)} {cs : Array Value} (h : bldB P t parts.toList = some cs) : (Instr.build t parts).run P w = .ok (.agg cs) w := by
  unfold bldB at h
  cases hi : P.info? t with
  | none => rw [hi] at h; cases h
  | some i =>
    rw [hi] at h
    cases hz : i.zero with
    | none => simp only [hz] at h; cases h
    | some z =>
      simp only [hz] at h
      cases hu : P.underlying t with
      | none => rw [hu] at h; cases h
      | some d =>
        rw [hu] at h
        cases d with
        | struct fs =>
          simp only at h
          cases hp : placesB P fs.toList with
          | none => rw [hp] at h; cases h
          | some pl =>
            rw [hp] at h
            simp only at h
            have h1 := run_places (w := w) fs.toList pl hp
            have h2 : (fs.mapM (fun f => (Prod.mk f.offset <$> sizeOf f.type : Sem (Nat × Nat)))).run P w = .ok pl.toArray w := by
              rw [Array.mapM_eq_mapM_toList]
              simp [h1]
            simp [Instr.build, zeroValue, typeInfo, hi, hz, run_underlying hu, h2, h]
        | array m e =>
          simp only at h
          cases he : P.info? e with
          | none => rw [he] at h; cases h
          | some ie =>
            rw [he] at h
            simp only at h
            simp [Instr.build, zeroValue, typeInfo, sizeOf, hi, hz, he, run_underlying hu, h]
        | _ => cases h
theorem Yv.bd {P : Program} {w : World} {t : TypeId} {parts : Array (Nat × Operand)} {vs : List Value} {cs : List Value} (h : bldB P t ((parts.toList.map (·.1)).zip vs) = some cs.toArray := by kernel_rfl) : Yv P w (.build t parts) vs (.agg cs.toArray) :=
  ⟨by simp, fun o e hop hv w' _ => by
    have h1 : (parts.map fun (i, x) => (i, e x)).toList = (parts.toList.map (·.1)).zip vs := by
      rw [← hv]
      simp only [Op.operands, Array.toList_map]
      generalize parts.toList = l
      induction l with
      | nil => rfl
      | cons p l ih => simp [ih]
    rw [← h1] at h
    have := run_bld (w := w') h
    simp [execOp, hop, this]⟩

/-! ### 2. a list written out -/
def bslB (P : Program) (T : TypeId) (len n : Nat) (parts : List (Nat × Value)) : Option (Array Value) :=
  match P.info? T with
  | some i => match i.zero with
    | some z => if Nat.beq i.size n && Nat.ble (len * n) 16777216 then Instr.fill (fun i => some (i * n, n)) ((Array.range (len * n)).map (z.cells[· % z.cells.size]!)) parts else none
    | none => none
  | none => none
theorem run_bsl {P : Program} {w : World} {t T : TypeId} {len n : Nat} {parts : Array (Nat × Value)} {cs : Array Value} (ht : slB P t T n = true) (h : bslB P T len n parts.toList = some cs) :
    (Instr.buildSlice t len parts).run P w = .ok (.slice (some ⟨w.heap.size, 0, none⟩) len len) (w.alloc (.cells cs T)) := by
  unfold bslB at h
  cases hi : P.info? T with
  | none => rw [hi] at h; cases h
  | some i =>
    rw [hi] at h
    cases hz : i.zero with
    | none => simp only [hz] at h; cases h
    | some z =>
      simp only [hz] at h
      split at h
      · rename_i hc
        simp only [Bool.and_eq_true] at hc
        obtain ⟨hc1, hc2⟩ := hc
        have hc1 := Nat.eq_of_beq_eq_true hc1
        have hc2 := Nat.le_of_ble_eq_true hc2
        subst hc1
        have hgt : ¬ (len * i.size > 2 ^ 24) := by omega
        by_cases h0 : len * i.size = 0
        · have e : (Array.range (len * i.size)).map (z.cells[· % z.cells.size]!) = (Array.range (len * i.size)).map ((#[] : Array Value)[· % (#[] : Array Value).size]!) := by rw [h0]; simp
          rw [e] at h
          simp [Instr.buildSlice, run_underlying (slB_of ht).1, run_size (slB_of ht).2, hgt, h0]
          rw [h0] at h
          simp at h
          simp [h, newRow]
        · simp [Instr.buildSlice, run_underlying (slB_of ht).1, run_size (slB_of ht).2, hgt, h0, zeroValue, typeInfo, hi, hz, h, newRow]
      · cases h
section
variable {α : Type} {E : Enc α} {r : Option Nat} {P : Program} {N : Nat} {ρ : Env} {ds : List Deferred} {w w0 : World} {M : List Nat} {D : List Chunk} {K : Env → World → Prop} {Q : Post} {dst : Option Nat}
theorem flat_len_own {xs : List α} {b : Nat} {T : TypeId} {cs : Array Value} (hcs : cs.toList = xs.flatMap E.cells) (hm : xs.length ≤ maxLen) (hb : w.heap[b]? = some (.cells cs T (0, 0))) : w.ownsRow 0 T E.n (.slice (some ⟨b, 0, none⟩) xs.length xs.length) xs.length (xs.flatMap E.cells) := by
  refine ⟨length_flat xs, .inr ⟨b, xs.length, cs, rfl, Nat.zero_le _, hb, Nat.le_refl _, hm, ?_, ?_⟩⟩
  · rw [← Array.length_toList, hcs, length_flat]
  · rw [hcs, ← length_flat, List.take_length]
theorem Ef.bsl {t T : TypeId} {len : Nat} {parts : Array (Nat × Operand)} {vs : List Value} (E : Enc α) (xs : List α) (h : St w0 M w D) (k : ∀ b w', Keep w w' → St w0 M w' (Ch.row E T (some ⟨b, 0, none⟩) xs.length xs :: D) → K (putE ρ dst (.slice (some ⟨b, 0, none⟩) xs.length xs.length)) w')
    (ht : slB P t T E.n = true := by kernel_rfl) (hb : bslB P T len E.n ((parts.toList.map (·.1)).zip vs) = some (xs.flatMap E.cells).toArray := by kernel_rfl) (hl : xs.length = len := by rfl) (hm : xs.length ≤ maxLen := by first | decide | (simp only [List.length_cons, List.length_nil, maxLen]; omega)) :
    Ef r P N dst (.buildSlice t len parts) vs ρ ds w K Q := by
  subst hl
  refine Ef.of_run (v := .slice (some ⟨w.heap.size, 0, none⟩) xs.length xs.length) (w' := w.alloc (.cells (xs.flatMap E.cells).toArray T)) (by simp) (fun o e hop hv => ?_) (k _ _ (Keep.alloc _ _) (h.new (Keep.alloc _ _) ?_ ?_))
  · have h1 : (parts.map fun (i, x) => (i, e x)).toList = (parts.toList.map (·.1)).zip vs := by
      rw [← hv]
      simp only [Op.operands, Array.toList_map]
      generalize parts.toList = l
      induction l with
      | nil => rfl
      | cons p l ih => simp [ih]
    rw [← h1] at hb
    have := run_bsl (w := w) ht hb
    simp [execOp, hop, this]
  · exact flat_len_own (by simp) hm (heap_alloc_new w _)
  · intro b hb
    simp [Ch.row] at hb
    subst hb
    simp
end

/-! ### 3. cuts of lists -/
def cutA (A : Option Addr) (c l n : Nat) : Option Addr := if c = l then A else A.map (·.add (l * n))
theorem cutA_zero (A : Option Addr) (c n : Nat) : cutA A c 0 n = A := by
  unfold cutA
  split
  · rfl
  · cases A with
    | none => rfl
    | some a => simp [Addr.add]
section
variable {α : Type} {E : Enc α} {P : Program} {w : World} {A : Option Addr} {xs : List α}
theorem Rd.cut {c l h : Nat} (hr : Rd E w A xs) (hc : xs.length ≤ c) (hh : h ≤ xs.length) : Rd E w (cutA A c l E.n) ((xs.take h).drop l) := by
  by_cases hlt : l < h
  · have hA := hr.adr (by omega)
    have e : cutA A c l E.n = some ⟨pb A, pq A + l * E.n, none⟩ := by
      unfold cutA
      rw [if_neg (by omega), hA]
      simp [add_off, pb, pq]
    rw [e]
    refine ⟨fun _ => rfl, fun j x hj k u hu => ?_⟩
    rw [List.getElem?_drop, List.getElem?_take] at hj
    split at hj
    · have := hr.cell _ _ hj k u hu
      show w.cell? ⟨pb A, pq A + l * E.n + j * E.n + k, none⟩ = some u
      rw [show pq A + l * E.n + j * E.n + k = pq A + (l + j) * E.n + k by rw [Nat.add_mul]; omega]
      exact this
    · cases hj
  · have : (xs.take h).drop l = [] := List.drop_eq_nil_of_le (by simp; omega)
    rw [this]
    exact ⟨by simp, by simp⟩
theorem Yv.sl_ft {t e : TypeId} {n : Nat} {x y z : Operand} {m c k : Nat} {a b : Int} {k1 k2 : IntKind} (h0 : 0 ≤ a) (h1 : a ≤ b) (h2 : b ≤ c) (hk : k = b.toNat - a.toNat := by rfl) (ht : slB P t e n = true := by kernel_rfl) :
    Yv P w (.slice t x (some y) (some z) none) [(.slice A m c), (.int k1 a), (.int k2 b)] (.slice (cutA A c a.toNat n) k (c - a.toNat)) :=
  Yv.mk3 (x := x) (y := y) (z := z) (by simp) rfl fun o e w' hop hx hy hz _ => by
    subst hk
    have h3 : (a.toNat : Int) ≤ b := by omega
    have h4 : (0 : Int) ≤ b := by omega
    have h5 : max b 0 = b := by omega
    simp [execOp, hop, hx, hy, hz, Instr.sliceAt, Instr.slice, Instr.sliceBounds, Instr.sliceBound, asIntOf, run_underlying (slB_of ht).1, run_size (slB_of ht).2, h0, h1, h2, h4, h5, cutA]
theorem Yv.sl_f {t e : TypeId} {n : Nat} {x y : Operand} {m c k : Nat} {a : Int} {k1 : IntKind} (h0 : 0 ≤ a) (h1 : a ≤ m) (hk : k = m - a.toNat := by rfl) (ht : slB P t e n = true := by kernel_rfl) :
    Yv P w (.slice t x (some y) none none) [(.slice A m c), (.int k1 a)] (.slice (cutA A c a.toNat n) k (c - a.toNat)) :=
  Yv.mk2 (x := x) (y := y) (by simp) rfl fun o e w' hop hx hy _ => by
    subst hk
    simp [execOp, hop, hx, hy, Instr.sliceAt, Instr.slice, Instr.sliceBounds, Instr.sliceBound, asIntOf, run_underlying (slB_of ht).1, run_size (slB_of ht).2, h0, h1, cutA]
theorem Yv.sl_t {t e : TypeId} {n : Nat} {x z : Operand} {m c k : Nat} {b : Int} {k2 : IntKind} (h1 : 0 ≤ b) (h2 : b ≤ c) (hk : k = b.toNat := by rfl) (ht : slB P t e n = true := by kernel_rfl) :
    Yv P w (.slice t x none (some z) none) [(.slice A m c), (.int k2 b)] (.slice A k c) :=
  Yv.mk2 (x := x) (y := z) (by simp) rfl fun o e w' hop hx hz _ => by
    subst hk
    have := cutA_zero A c n
    unfold cutA at this
    simp [execOp, hop, hx, hz, Instr.sliceAt, Instr.slice, Instr.sliceBounds, Instr.sliceBound, asIntOf, run_underlying (slB_of ht).1, run_size (slB_of ht).2, h1, h2]
    simpa using this
/-- a whole element -/
theorem Yv.ldel [Inhabited α] {t : TypeId} {x : Operand} {b q : Nat} {i : Int} (hr : Rd E w A xs) (hb : b = pb A) (hq : q = pq A + i.toNat * E.n) (h0 : 0 ≤ i) (h1 : i < xs.length) (ht : agB P t E.n = true := by kernel_rfl) :
    Yv P w (.load t x) [(.pointer (some ⟨b, q, none⟩))] (.agg (E.cells (nth xs i)).toArray) := by
  subst hb hq
  exact Yv.lds (E.len _) (fun j v hj => hr.cell _ _ (nth_get h0 h1) j v hj) ht
end
/-! ### 4. elements written -/
theorem take_flat {α : Type} {E : Enc α} (xs : List α) (j : Nat) : (xs.flatMap E.cells).take (j * E.n) = (xs.take j).flatMap E.cells := by
  induction xs generalizing j with
  | nil => simp
  | cons x xs ih =>
    cases j with
    | zero => simp
    | succ j =>
      simp only [List.flatMap_cons, List.take_succ_cons]
      rw [List.take_append, E.len, show (j + 1) * E.n - E.n = j * E.n by rw [Nat.add_mul]; omega, ih]
      rw [List.take_of_length_le (by rw [E.len, Nat.add_mul]; omega)]
theorem drop_flat {α : Type} {E : Enc α} (xs : List α) (j : Nat) : (xs.flatMap E.cells).drop (j * E.n) = (xs.drop j).flatMap E.cells := by
  induction xs generalizing j with
  | nil => simp
  | cons x xs ih =>
    cases j with
    | zero => simp
    | succ j =>
      simp only [List.flatMap_cons, List.drop_succ_cons]
      rw [List.drop_append, E.len, show (j + 1) * E.n - E.n = j * E.n by rw [Nat.add_mul]; omega, ih]
      rw [List.drop_eq_nil_of_le (by rw [E.len, Nat.add_mul]; omega)]
      simp
section
variable {α : Type} {E : Enc α} {r : Option Nat} {P : Program} {N : Nat} {ρ : Env} {ds : List Deferred} {w w0 : World} {M : List Nat} {D : List Chunk} {K : Env → World → Prop} {Q : Post} {dst : Option Nat} {A : Option Addr} {T : TypeId} {c : Nat} {xs : List α}
/-- some cells of one element are written -/
theorem run_setRow {us : List Value} {j f : Nat} {x x' : α} (ho : w.ownsRow 0 T E.n (.slice A xs.length c) xs.length (xs.flatMap E.cells)) (hx : xs[j]? = some x) (hc : E.cells x' = (E.cells x).take f ++ us ++ (E.cells x).drop (f + us.length)) (hf : f + us.length ≤ E.n) (h1 : us.all (·.oneCell') = true) :
    ∃ w', (storeCells ⟨pb A, pq A + j * E.n + f, none⟩ us 0).run P w = .ok () w' ∧ w'.ownsRow 0 T E.n (.slice A (xs.set j x').length c) (xs.set j x').length ((xs.set j x').flatMap E.cells) ∧ w.grownBy w' (A.map (·.block)) ∧ w'.heap.size = w.heap.size := by
  have hlt : j < xs.length := (List.getElem?_eq_some_iff.1 hx).1
  cases A with
  | none => obtain ⟨h2, -, -⟩ := ownsRow_nil_inv ho; omega
  | some a =>
    obtain ⟨g, cur, rfl, hg, hnc, hcm, hcs, htake⟩ := ownsRow_some_inv ho
    simp only [pb, pq, Nat.zero_add]
    have hjn : j * E.n + E.n ≤ xs.length * E.n := by rw [← Nat.succ_mul]; exact Nat.mul_le_mul_right _ hlt
    have hcn : xs.length * E.n ≤ c * E.n := Nat.mul_le_mul_right _ hnc
    have hr := run_storeCells_at P g (j * E.n + f) T us 0 cur w hg (by omega) (by simpa using h1)
    simp only [Nat.add_zero] at hr
    refine ⟨_, hr, ⟨by rw [length_flat], .inr ⟨g, c, _, rfl, Nat.zero_le _, setRow_heap w g cur _ T _ hg, by simpa using hnc, hcm, ?_, ?_⟩⟩, ⟨rfl, rfl, rfl, by simp, fun k _ hk => setRow_other w g k _ (fun e => hk (by simp [e]))⟩, by simp⟩
    · simp only [List.size_toArray, List.length_append, List.length_take, List.length_drop, Array.length_toList]
      omega
    · have e1 : cur.toList = xs.flatMap E.cells ++ cur.toList.drop (xs.length * E.n) := by rw [← htake, List.take_append_drop]
      have hxs : xs.flatMap E.cells = (xs.take j).flatMap E.cells ++ E.cells x ++ (xs.drop (j + 1)).flatMap E.cells := by
        conv => lhs; rw [← List.take_append_drop j xs, List.flatMap_append, List.drop_eq_getElem_cons hlt]
        have : xs[j] = x := (List.getElem?_eq_some_iff.1 hx).2
        rw [this]
        simp
      have hset : (xs.set j x').flatMap E.cells = (xs.take j).flatMap E.cells ++ E.cells x' ++ (xs.drop (j + 1)).flatMap E.cells := by
        rw [List.set_eq_take_append_cons_drop, if_pos hlt]
        simp
      have l1 : ((xs.take j).flatMap E.cells).length = j * E.n := by rw [length_flat, List.length_take, Nat.min_eq_left (Nat.le_of_lt hlt)]
      have l2 : (E.cells x).length = E.n := E.len x
      have l3 : (E.cells x').length = E.n := E.len x'
      rw [hset, hc]
      have t1 : cur.toList.take (j * E.n + f) = (xs.take j).flatMap E.cells ++ (E.cells x).take f := by
        rw [e1, hxs]
        simp only [List.append_assoc]
        rw [List.take_append, l1, List.take_of_length_le (by omega), show j * E.n + f - j * E.n = f by omega, List.take_append_of_le_length (by omega)]
      have t2 : cur.toList.drop (j * E.n + f + us.length) = (E.cells x).drop (f + us.length) ++ ((xs.drop (j + 1)).flatMap E.cells ++ cur.toList.drop (xs.length * E.n)) := by
        conv => lhs; rw [e1, hxs]
        simp only [List.append_assoc]
        rw [List.drop_append, l1, List.drop_eq_nil_of_le (by omega), show j * E.n + f + us.length - j * E.n = f + us.length by omega, List.drop_append_of_le_length (by omega)]
        simp
      simp only [t1, t2]
      have hlen : (xs.set j x').length * E.n = ((xs.take j).flatMap E.cells ++ ((E.cells x).take f ++ us ++ (E.cells x).drop (f + us.length)) ++ (xs.drop (j + 1)).flatMap E.cells).length := by
        rw [← hc, ← hset, length_flat]
      rw [hlen]
      have : (xs.take j).flatMap E.cells ++ (E.cells x).take f ++ us ++ ((E.cells x).drop (f + us.length) ++ ((xs.drop (j + 1)).flatMap E.cells ++ cur.toList.drop (xs.length * E.n))) = ((xs.take j).flatMap E.cells ++ ((E.cells x).take f ++ us ++ (E.cells x).drop (f + us.length)) ++ (xs.drop (j + 1)).flatMap E.cells) ++ cur.toList.drop (xs.length * E.n) := by simp
      simp only [this]
      exact List.take_left
/-- a whole element is written -/
theorem Ef.setEl [Inhabited α] {t : TypeId} {x y : Operand} {b q : Nat} {j : Int} (h : St w0 M w D) (i : Nat) (x' : α) (hb : b = pb A) (hq : q = pq A + j.toNat * E.n) (h0 : 0 ≤ j) (h1 : j < xs.length) (k : ∀ w', St w0 M w' (Ch.row E T A c (xs.set j.toNat x') :: D.eraseIdx i) → K (putE ρ dst undef) w')
    (hC : D[i]? = some (Ch.row E T A c xs) := by rfl) (hone : ∀ z, (E.cells z).all (·.oneCell') = true := by exact fun _ => rfl) (ht : agB P t E.n = true := by kernel_rfl) :
    Ef r P N dst (.store t x y) [.pointer (some ⟨b, q, none⟩), .agg (E.cells x').toArray] ρ ds w K Q := by
  subst hb hq
  have hp := h.pull i hC
  obtain ⟨w', hr, ho, hg, hs⟩ := run_setRow (P := P) (us := E.cells x') (f := 0) (x' := x') (hp.at_ 0) (nth_get h0 h1) (by rw [E.len, List.drop_eq_nil_of_le (by rw [E.len]; omega)]; simp) (by rw [E.len]; omega) (hone _)
  refine Ef.of_skip (w' := w') (by simp) (fun o e ho he => ?_) (k w' (hp.row_upd ho (.inl ⟨rfl, rfl, hg, hs⟩)))
  have h2 : e x = .pointer (some ⟨pb A, pq A + j.toNat * E.n, none⟩) ∧ e y = .agg (E.cells x').toArray := by simpa [Op.operands] using he
  simp only [Nat.add_zero] at hr
  simp [execOp, ho, h2.1, h2.2, Instr.storeAt, Instr.sureAddr, storeVar, Value.cells, run_size (agB_of ht).2, E.len, hr]
/-- one cell of an element is written -/
theorem Ef.setFld [Inhabited α] {t : TypeId} {x y : Operand} {b q f : Nat} {j : Int} {v : Value} (h : St w0 M w D) (i : Nat) (x' : α) (hb : b = pb A) (hq : q = pq A + j.toNat * E.n + f) (h0 : 0 ≤ j) (h1 : j < xs.length) (k : ∀ w', St w0 M w' (Ch.row E T A c (xs.set j.toNat x') :: D.eraseIdx i) → K (putE ρ dst undef) w')
    (hx : E.cells x' = (E.cells (nth xs j)).take f ++ [v] ++ (E.cells (nth xs j)).drop (f + 1) := by rfl)
    (hC : D[i]? = some (Ch.row E T A c xs) := by rfl) (hf : Nat.blt f E.n = true := by rfl) (hone : v.oneCell' = true := by rfl) (hv : v.cells = #[v] := by rfl) (ht : sizeB P t 1 = true := by kernel_rfl) :
    Ef r P N dst (.store t x y) [.pointer (some ⟨b, q, none⟩), v] ρ ds w K Q := by
  subst hb hq
  have hp := h.pull i hC
  obtain ⟨w', hr, ho, hg, hs⟩ := run_setRow (P := P) (us := [v]) (f := f) (hp.at_ 0) (nth_get h0 h1) hx (by have := Nat.le_of_ble_eq_true hf; simpa using this) (by simpa using hone)
  refine Ef.of_skip (w' := w') (by simp) (fun o e ho he => ?_) (k w' (hp.row_upd ho (.inl ⟨rfl, rfl, hg, hs⟩)))
  have h2 : e x = .pointer (some ⟨pb A, pq A + j.toNat * E.n + f, none⟩) ∧ e y = v := by simpa [Op.operands] using he
  simp [execOp, ho, h2.1, h2.2, Instr.storeAt, Instr.sureAddr, storeVar, hv, run_size (sizeB_of ht), hr]
end

/-! ### 5. structs held against one another -/
/-- all fields are numbers, texts or truth values, one cell each -/
def flatF (P : Program) : List Field → Nat → Bool
  | [], _ => true
  | f :: fs, n => Nat.beq f.offset n && (f.name != "_") && (match P.underlying f.type with | some (.int _) | some .string | some .bool => true | _ => false) && (match P.info? f.type with | some i => Nat.beq i.size 1 | none => false) && flatF P fs (n + 1)
def flatB (P : Program) (t : TypeId) : Bool := match P.underlying t with
  | some (.struct fs) => flatF P fs.toList 0 && !(P.stoodInHeld t) && !(P.eqGuardType P.depth t)
  | _ => false
theorem flatB_of {P : Program} {t : TypeId} (h : flatB P t = true) : P.underlying t = some (.struct (P.fieldsOf t)) ∧ flatF P (P.fieldsOf t).toList 0 = true ∧ P.stoodInHeld t = false ∧ P.eqGuardType P.depth t = false := by
  unfold flatB at h
  unfold Program.fieldsOf
  cases hu : P.underlying t with
  | none => rw [hu] at h; cases h
  | some d =>
    rw [hu] at h
    cases d with
    | struct fs =>
      simp only [Bool.and_eq_true, Bool.not_eq_true'] at h
      exact ⟨rfl, h.1.1, h.1.2, h.2⟩
    | _ => cases h
def vEq : Value → Value → Option Bool
  | .int k a, .int k' b => if k = k' then some (a == b) else none
  | .string a, .string b => some (a.toList == b.toList)
  | .bool a, .bool b => some (a == b)
  | _, _ => none
/-- the cells of two flat structs are of the same kinds, one by one -/
def vEqs : List Value → List Value → Option Bool
  | [], [] => some true
  | x :: xs, y :: ys => match vEq x y with
    | some true => vEqs xs ys
    | some false => match vEqs xs ys with
      | some _ => some false
      | none => none
    | none => none
  | _, _ => none
theorem vEq_int (k : IntKind) (a b : Int) : vEq (.int k a) (.int k b) = some (decide (a = b)) := by simp only [vEq, if_true]; congr 1
theorem vEq_S (a b : Bs) : vEq (S a) (S b) = some (decide (a = b)) := by
  show some (ByteArray.toList ⟨⟨a⟩⟩ == ByteArray.toList ⟨⟨b⟩⟩) = _
  rw [toList_mk, toList_mk]
  by_cases h : a = b <;> simp [h]
theorem vEq_bool (a b : Bool) : vEq (.bool a) (.bool b) = some (decide (a = b)) := by
  cases a <;> cases b <;> rfl
theorem vEqs_cons {x y : Value} {xs ys : List Value} {b c : Bool} (h : vEq x y = some b) (k : vEqs xs ys = some c) : vEqs (x :: xs) (y :: ys) = some (b && c) := by
  simp only [vEqs, h, k]
  cases b <;> rfl
def kindOk : TypeDesc → Value → Bool
  | .int _, .int _ _ => true
  | .string, .string _ => true
  | .bool, .bool _ => true
  | _, _ => false
theorem run_vEq {P : Program} {w : World} {d : Nat} {t : TypeId} {x y : Value} {b : Bool} {d' : TypeDesc} (hu : P.underlying t = some d') (hk : kindOk d' x = true) (h : vEq x y = some b) : (Op.equalIn (d + 1) t x y).run P w = .ok b w := by
  cases x with
  | int k a =>
    cases d' with
    | int k2 =>
      cases y with
      | int k' c =>
        simp only [vEq] at h
        split at h
        · rename_i he; subst he
          injection h with h; subst h
          rw [run_equalIn_int _ _ _ _ _ _ _ hu]
        · cases h
      | _ => simp [vEq] at h
    | _ => simp [kindOk] at hk
  | string a =>
    cases d' with
    | string =>
      cases y with
      | string c =>
        simp only [vEq, Option.some.injEq] at h
        subst h
        rw [run_equalIn_string _ _ _ _ _ hu]
      | _ => simp [vEq] at h
    | _ => simp [kindOk] at hk
  | bool a =>
    cases d' with
    | bool =>
      cases y with
      | bool c =>
        simp only [vEq, Option.some.injEq] at h
        subst h
        rw [run_equalIn_bool' _ _ _ _ _ hu]
      | _ => simp [vEq] at h
    | _ => simp [kindOk] at hk
  | _ => simp [vEq] at h
def kindsOk (P : Program) : List Field → List Value → Bool
  | [], [] => true
  | f :: fs, v :: vs => (match P.underlying f.type with | some d => kindOk d v | none => false) && kindsOk P fs vs
  | _, _ => false
theorem run_part {P : Program} {w : World} {t : TypeId} {cs : Array Value} {n : Nat} {v : Value} (hs : (P.info? t).map (·.size) = some 1) (hsc : Sc P t) (hv : cs[n]? = some v) : (part t cs n).run P w = .ok v w := by
  have h1 := run_isAgg_sc hsc w
  have h2 := run_size hs w
  simp [part, h1, h2, hv]
theorem run_eqF {P : Program} {w : World} {d : Nat} : ∀ (fs : List Field) (us vs : List Value) (n : Nat) (xs ys : Array Value) (b : Bool), flatF P fs n = true → kindsOk P fs us = true → vEqs us vs = some b → (∀ j v, us[j]? = some v → xs[n + j]? = some v) → (∀ j v, vs[j]? = some v → ys[n + j]? = some v) →
    (Op.eqFields (d + 1) xs ys fs).run P w = .ok b w
  | [], [], [], n, xs, ys, b, _, _, h, _, _ => by simp [vEqs] at h; subst h; simp [Op.eqFields]
  | [], [], _ :: _, _, _, _, _, _, _, h, _, _ => by simp [vEqs] at h
  | [], _ :: _, _, _, _, _, _, _, h, _, _, _ => by simp [kindsOk] at h
  | _ :: _, [], _, _, _, _, _, _, h, _, _, _ => by simp [kindsOk] at h
  | _ :: _, _ :: _, [], _, _, _, _, _, _, h, _, _ => by simp [vEqs] at h
  | f :: fs, u :: us, v :: vs, n, xs, ys, b, hf, hk, h, hx, hy => by
    simp only [flatF, Bool.and_eq_true] at hf
    obtain ⟨⟨⟨⟨h1, h2⟩, h3⟩, h4⟩, h5⟩ := hf
    simp only [kindsOk, Bool.and_eq_true] at hk
    obtain ⟨hk1, hk2⟩ := hk
    cases hu : P.underlying f.type with
    | none => rw [hu] at hk1; cases hk1
    | some d' =>
      rw [hu] at hk1 h3
      have hsz : (P.info? f.type).map (·.size) = some 1 := by
        cases hi : P.info? f.type with
        | none => rw [hi] at h4; cases h4
        | some i => rw [hi] at h4; simpa using h4
      have hsc : Sc P f.type := ⟨d', hu, by cases d' <;> simp_all⟩
      have hoff : f.offset = n := Nat.eq_of_beq_eq_true h1
      have px := run_part (w := w) hsz hsc (cs := xs) (n := n) (hx 0 u rfl)
      have py := run_part (w := w) hsz hsc (cs := ys) (n := n) (hy 0 v rfl)
      have hne : f.name ≠ "_" := by simpa using h2
      simp only [vEqs] at h
      cases hve : vEq u v with
      | none => rw [hve] at h; cases h
      | some c =>
        rw [hve] at h
        have he := run_vEq (d := d) (w := w) hu hk1 hve
        simp only [Op.eqFields, hne, hoff, Sem.run_bind, px, py, he, Result.andThen_ok]
        cases c with
        | false =>
          simp only at h
          cases hr : vEqs us vs with
          | none => rw [hr] at h; cases h
          | some b' => rw [hr] at h; injection h with h; subst h; simp [px, py, he, hne]
        | true =>
          simp only at h
          have ih := run_eqF (d := d) (w := w) fs us vs (n + 1) xs ys b h5 hk2 h (fun j z hz => by rw [show n + 1 + j = n + (j + 1) by omega]; exact hx (j + 1) z (by simpa using hz)) (fun j z hz => by rw [show n + 1 + j = n + (j + 1) by omega]; exact hy (j + 1) z (by simpa using hz))
          simp [px, py, he, ih, hne]
def flatK (P : Program) (t : TypeId) (us : List Value) : Bool := kindsOk P (P.fieldsOf t).toList us
theorem run_flat {P : Program} {w : World} {t : TypeId} {us vs : List Value} {b : Bool} (ht : flatB P t = true) (hk : flatK P t us = true) (h : vEqs us vs = some b) : (Op.equalIn 10000 t (.agg us.toArray) (.agg vs.toArray)).run P w = .ok b w := by
  obtain ⟨h1, h2, h3, h4⟩ := flatB_of ht
  rw [show (10000 : Nat) = 9998 + 1 + 1 from rfl, run_equalIn_struct _ _ _ _ _ h1 h3]
  exact run_eqF _ us vs 0 _ _ b h2 hk h (fun j v hj => by simpa using hj) (fun j v hj => by simpa using hj)
theorem Yv.eqs {P : Program} {w : World} {t u : TypeId} {x y : Operand} {us vs : List Value} {b : Bool} (h : vEqs us vs = some b) (ht : flatB P t = true := by kernel_rfl) (hk : flatK P t us = true := by kernel_rfl) : Yv P w (.binOp .eql t x y u) [(.agg us.toArray), (.agg vs.toArray)] (.bool b) :=
  Yv.mk2 (x := x) (y := y) (by simp) rfl fun o e w' hop hx hy _ => by
    have h4 := (flatB_of ht).2.2.2
    simp [execOp, hop, hx, hy, run_eqGuard_agg w' _ _ _ _ _ _ h4, run_eql_struct, run_flat ht hk h]
theorem Yv.nes {P : Program} {w : World} {t u : TypeId} {x y : Operand} {us vs : List Value} {b : Bool} (h : vEqs us vs = some b) (ht : flatB P t = true := by kernel_rfl) (hk : flatK P t us = true := by kernel_rfl) : Yv P w (.binOp .neq t x y u) [(.agg us.toArray), (.agg vs.toArray)] (.bool (!b)) :=
  Yv.mk2 (x := x) (y := y) (by simp) rfl fun o e w' hop hx hy _ => by
    have h4 := (flatB_of ht).2.2.2
    simp [execOp, hop, hx, hy, run_eqGuard_agg w' _ _ _ _ _ _ h4, run_neq_struct, run_flat ht hk h]
end Go.Proofs.YthbehiflmcljcaaDoor.Sh
