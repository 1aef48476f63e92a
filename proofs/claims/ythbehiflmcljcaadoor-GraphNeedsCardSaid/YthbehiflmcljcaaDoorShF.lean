/- A walk over the model's code with a small environment (generic: over any program). Part F: rows that are owned: append, lists written out, cuts, elements written. -/
import Derived.Test.YthbehiflmcljcaaDoorShE
set_option linter.unusedVariables false
set_option linter.unusedSimpArgs false
namespace Go.Proofs.YthbehiflmcljcaaDoor.Sh
open Go.RowKit

/-! ### 1. append, with what is told of the block -/
def rowB (P : Program) (t e : TypeId) (n : Nat) : Bool :=
  slB P t e n && (match P.info? e with | some i => (match i.zero with | some z => Nat.beq z.cells.size n | none => false) && Nat.ble i.bytes 32768 | none => false) && Nat.blt 0 n
theorem rowB_of {P : Program} {t e : TypeId} {n : Nat} (h : rowB P t e n = true) : P.underlying t = some (.slice e) ∧ 0 < n ∧ ∃ i z, P.info? e = some i ∧ i.zero = some z ∧ i.size = n ∧ z.cells.size = n ∧ i.bytes ≤ 32768 := by
  unfold rowB at h
  simp only [Bool.and_eq_true] at h
  obtain ⟨⟨h1, h2⟩, h3⟩ := h
  obtain ⟨h4, h5⟩ := slB_of h1
  obtain ⟨i, hi, hn⟩ := Option.map_eq_some_iff.1 h5
  rw [hi] at h2
  simp only [Bool.and_eq_true] at h2
  cases hz : i.zero with
  | none => rw [hz] at h2; simp at h2
  | some z =>
    rw [hz] at h2
    exact ⟨h4, by simpa using h3, i, z, hi, hz, hn, by simpa using h2.1, by simpa using h2.2⟩
theorem ownsRow_nil_inv {w : World} {e : TypeId} {size c n : Nat} {xs : List Value} (h : w.ownsRow 0 e size (.slice none n c) n xs) : n = 0 ∧ c = 0 ∧ xs = [] := by
  rcases h.2 with ⟨h1, rfl⟩ | ⟨g, cap, cur, h1, _⟩
  · injection h1 with _ _ h2
    exact ⟨rfl, h2, List.eq_nil_of_length_eq_zero (by simpa using h.1)⟩
  · simp at h1
theorem ownsRow_some_inv {w : World} {e : TypeId} {size c n : Nat} {a : Addr} {xs : List Value} (h : w.ownsRow 0 e size (.slice (some a) n c) n xs) : ∃ g cur, a = ⟨g, 0, none⟩ ∧ w.heap[g]? = some (.cells cur e (0, 0)) ∧ n ≤ c ∧ c ≤ maxLen ∧ cur.size = c * size ∧ cur.toList.take (n * size) = xs := by
  rcases h.2 with ⟨h1, rfl⟩ | ⟨g, cap, cur, h1, _, h2, h3, h4, h5, h6⟩
  · simp at h1
  · injection h1 with h7 h8 h9
    injection h7 with h7
    subst h9
    exact ⟨g, cur, h7, h2, h3, h4, h5, h6⟩
/-- so many elements may stand in one row: at most 2^32 of them, or 2^47 bytes of them -/
def limB (P : Program) (T : TypeId) (lim : Nat) : Bool := match P.info? T with
  | some i => decide (1 ≤ i.bytes) && decide (lim * i.bytes ≤ 140737488355328)
  | none => false
def Fits (P : Program) (T : TypeId) (n : Nat) : Prop := n ≤ 4294967296 ∨ ∃ lim, limB P T lim = true ∧ n ≤ lim
theorem Fits.le {P : Program} {T : TypeId} {n : Nat} {i : TypeInfo} (hi : P.info? T = some i) (hby : i.bytes ≤ 32768) (h : Fits P T n) : n * i.bytes ≤ 140737488355328 ∧ n ≤ 140737488355328 := by
  rcases h with h | ⟨lim, h1, h2⟩
  · exact ⟨Nat.le_trans (Nat.mul_le_mul h hby) (by decide), by omega⟩
  · simp only [limB, hi, Bool.and_eq_true, decide_eq_true_eq] at h1
    have h3 := Nat.le_trans (Nat.mul_le_mul_right i.bytes h2) h1.2
    exact ⟨h3, Nat.le_trans (by have := Nat.mul_le_mul_left n h1.1; omega) h3⟩
theorem run_app {P : Program} {w : World} {t e ty : TypeId} {size n m c d : Nat} {A B : Option Addr} {xs news : List Value} (ht : rowB P t e size = true) (hown : w.ownsRow 0 e size (.slice A n c) n xs)
    (hl : news.length = m * size) (hB : B = none → m = 0 ∧ d = 0) (hnews : ∀ b, B = some b → ∀ j u, news[j]? = some u → w.cell? (b.add j) = some u) (h1 : ∀ u ∈ news, u.oneCell' = true) (hnm0 : Fits P e (n + m)) :
    ∃ A' c' w', (Builtin.append_ #[t, t] ty #[.slice A n c, .slice B m d]).run P w = .ok (.slice A' (n + m) c') w' ∧ w'.ownsRow 0 e size (.slice A' (n + m) c') (n + m) (xs ++ news) ∧
      ((A' = A ∧ c' = c ∧ w.grownBy w' (A.map (·.block)) ∧ w'.heap.size = w.heap.size) ∨ (A' = some ⟨w.heap.size, 0, none⟩ ∧ w'.heap.size = w.heap.size + 1 ∧ Keep w w')) := by
  obtain ⟨hu, h0, i, z, hi, hz, rfl, hzs, hby⟩ := rowB_of ht
  cases B with
  | none =>
    obtain ⟨rfl, rfl⟩ := hB rfl
    have hn : news = [] := List.eq_nil_of_length_eq_zero (by simpa using hl)
    subst hn
    refine ⟨A, c, w, ?_, by simpa using hown, .inl ⟨rfl, rfl, ⟨rfl, rfl, rfl, Nat.le_refl _, fun _ _ _ => rfl⟩, rfl⟩⟩
    exact run_append_owned_none w 0 t ty e i i.size hu hi _ n xs hown
  | some b =>
    have hb' : (n + m) * i.bytes ≤ 140737488355328 := (hnm0.le hi hby).1
    have hnm : n + m ≤ 140737488355328 := (hnm0.le hi hby).2
    have hlen : (xs ++ news).length = (n + m) * i.size := by rw [List.length_append, hown.1, hl, Nat.add_mul]
    have grown : ∀ (old : Nat),
        (w.drew.alloc (.cells (xs.toArray ++ news.toArray ++ Builtin.zeroCells z.cells (grownCap w (n + m) old e - (n + m))) e)).ownsRow 0 e i.size
          (.slice (some ⟨w.heap.size, 0, none⟩) (n + m) (grownCap w (n + m) old e)) (n + m) (xs ++ news) := by
      intro old
      have hge := grownCap_ge w (n + m) old e
      have hcm : grownCap w (n + m) old e ≤ maxLen := grownCap_le_maxLen w (n + m) old e (by simp only [maxLen]; omega)
      refine ⟨hlen, .inr ⟨w.heap.size, _, _, rfl, Nat.zero_le _, heap_alloc_new w.drew _, hge, hcm, ?_, ?_⟩⟩
      · simp only [Array.size_append, List.size_toArray, size_zeroCells, hzs, hown.1, hl, ← Nat.add_mul]
        congr 1
        omega
      · simp only [Array.toList_append, List.append_assoc]
        rw [← List.append_assoc, ← hlen]
        exact List.take_left
    have kk : ∀ o, Keep w (w.drew.alloc o) := fun o => (Keep.drew w).trans (Keep.alloc _ _)
    cases A with
    | none =>
      obtain ⟨rfl, rfl, rfl⟩ := ownsRow_nil_inv hown
      by_cases hm : m = 0
      · subst hm
        have hn : news = [] := List.eq_nil_of_length_eq_zero (by simpa using hl)
        subst hn
        refine ⟨none, 0, w, ?_, World.ownsRow_nil w 0 e i.size, .inl ⟨rfl, rfl, ⟨rfl, rfl, rfl, Nat.le_refl _, fun _ _ _ => rfl⟩, rfl⟩⟩
        simp [Builtin.append_, run_underlying hu, sizeOf, typeInfo, hi, Builtin.lenOf, Builtin.firstCells, loadCells, loadCellsFrom]
      · have hr := run_append_nil (P := P) w t ty e i z hu hi hz b m d news hl (hnews b rfl) (by omega) (by omega) (by have := hb'; simp only [Nat.zero_add] at this; omega)
        have hgr := grown 0
        simp only [Nat.zero_add, List.nil_append, Array.empty_append] at hgr ⊢
        exact ⟨_, _, _, hr, hgr, .inr ⟨rfl, by simp, kk _⟩⟩
    | some a =>
      obtain ⟨g, cur, rfl, hg, hnc, hcm, hcs, htake⟩ := ownsRow_some_inv hown
      by_cases hroom : n + m ≤ c
      · have hfit : n * i.size + news.length ≤ cur.size := by rw [hl, hcs, ← Nat.add_mul]; exact Nat.mul_le_mul_right _ hroom
        have hr := run_append_room (P := P) w t ty e i hu hi g n c cur hg b m d news hl (hnews b rfl) h1 hroom hfit
        refine ⟨_, _, _, hr, ⟨hlen, .inr ⟨g, c, _, rfl, Nat.zero_le _, setRow_heap w g cur _ e _ hg, hroom, hcm, ?_, ?_⟩⟩, .inl ⟨rfl, rfl, ⟨rfl, rfl, rfl, by simp, fun k _ hk => setRow_other w g k _ (fun e => hk (by simp [e]))⟩, by simp⟩⟩
        · simp only [List.size_toArray, List.length_append, List.length_take, List.length_drop, Array.length_toList]
          omega
        · rw [htake, ← hlen]
          exact List.take_left
      · have holds : ∀ j u, xs[j]? = some u → w.cell? ((⟨g, 0, none⟩ : Addr).add j) = some u := hown.cells (g := g) rfl
        have hr := run_append_grow (P := P) w t ty e i z hu hi hz ⟨g, 0, none⟩ n c xs hown.1 holds b m d news hl (hnews b rfl) (by omega) (by omega) (growslice_fits (by omega) hb')
        exact ⟨_, _, _, hr, grown c, .inr ⟨rfl, by simp, kk _⟩⟩

/-! ### 2. Rows -/
section
variable {α : Type}
def Ch.row (E : Enc α) (T : TypeId) (A : Option Addr) (c : Nat) (xs : List α) : Chunk :=
  ⟨(A.map (·.block)).toList, fun w => w.ownsRow 0 T E.n (.slice A xs.length c) xs.length (xs.flatMap E.cells), fun w w' h hk => by
    refine ⟨hk.1, ?_⟩
    rcases hk.2 with h1 | ⟨g, cap, cur, h1, h2, h3, h4⟩
    · exact .inl h1
    · refine .inr ⟨g, cap, cur, h1, h2, ?_, h4⟩
      injection h1 with h5
      subst h5
      rw [h g (by simp)]
      exact h3⟩
variable {E : Enc α} {T : TypeId} {A : Option Addr} {c : Nat} {xs : List α} {w : World}
theorem length_flat (xs : List α) : (xs.flatMap E.cells).length = xs.length * E.n := by
  induction xs with
  | nil => simp
  | cons x xs ih => simp [ih, E.len, Nat.add_mul]; omega
theorem flat_get (xs : List α) : ∀ (j k : Nat) (x : α) (u : Value), xs[j]? = some x → (E.cells x)[k]? = some u → (xs.flatMap E.cells)[j * E.n + k]? = some u := by
  induction xs with
  | nil => intro j k x u h; simp at h
  | cons y xs ih =>
    intro j k x u h hu
    cases j with
    | zero =>
      simp at h
      subst h
      have hk : k < (E.cells y).length := (List.getElem?_eq_some_iff.1 hu).1
      simp only [List.flatMap_cons, Nat.zero_mul, Nat.zero_add]
      rw [List.getElem?_append_left hk, hu]
    | succ j =>
      have := ih j k x u (by simpa using h) hu
      simp only [List.flatMap_cons]
      rw [List.getElem?_append_right (by rw [E.len, Nat.add_mul]; omega), E.len]
      rw [show (j + 1) * E.n + k - E.n = j * E.n + k by rw [Nat.add_mul]; omega]
      exact this
theorem row_rd (h : (Ch.row E T A c xs).ok w) : Rd E w A xs := by
  have h : w.ownsRow 0 T E.n (.slice A xs.length c) xs.length (xs.flatMap E.cells) := h
  cases A with
  | none =>
    obtain ⟨h1, -, -⟩ := ownsRow_nil_inv h
    have : xs = [] := List.eq_nil_of_length_eq_zero h1
    subst this
    exact ⟨by simp, by simp⟩
  | some a =>
    obtain ⟨g, cur, rfl, hg, hnc, hcm, hcs, htake⟩ := ownsRow_some_inv h
    refine ⟨fun _ => rfl, fun j x hj k u hu => ?_⟩
    have h1 := flat_get xs j k x u hj hu
    have h2 := h.cells (g := g) rfl _ _ h1
    rw [add_off] at h2
    simp only [pb, pq]
    rw [show 0 + j * E.n + k = 0 + (j * E.n + k) by omega]
    exact h2
theorem row_cap (h : (Ch.row E T A c xs).ok w) : xs.length ≤ c := by
  have h : w.ownsRow 0 T E.n (.slice A xs.length c) xs.length (xs.flatMap E.cells) := h
  cases A with
  | none => obtain ⟨h1, -, -⟩ := ownsRow_nil_inv h; omega
  | some a => obtain ⟨g, cur, rfl, hg, hnc, hcm, hcs, htake⟩ := ownsRow_some_inv h; exact hnc
theorem row_nil : (Ch.row E T none 0 []).ok w := World.ownsRow_nil w 0 T E.n
section
variable {w0 : World} {M : List Nat} {D : List Chunk}
theorem St.rd (h : St w0 M w D) (i : Nat) (hC : D[i]? = some (Ch.row E T A c xs) := by rfl) : Rd E w A xs := row_rd (h.at_ i hC)
theorem St.cap (h : St w0 M w D) (i : Nat) (hC : D[i]? = some (Ch.row E T A c xs) := by rfl) : xs.length ≤ c := row_cap (h.at_ i hC)
/-- a nil row may be had for nothing -/
theorem St.nilrow (h : St w0 M w D) (E : Enc α) (T : TypeId) : St w0 M w (Ch.row E T none 0 [] :: D) :=
  h.new (Keep.refl w) row_nil (by simp [Ch.row])
end

/-! ### 3. Operations on rows -/
section
variable {r : Option Nat} {P : Program} {N : Nat} {ρ : Env} {ds : List Deferred} {w0 : World} {M : List Nat} {D : List Chunk} {K : Env → World → Prop} {Q : Post} {dst : Option Nat}
theorem St.row_upd {w' : World} {A' : Option Addr} {c' : Nat} {ys : List α} (h : St w0 M w (Ch.row E T A c xs :: D)) (ho : w'.ownsRow 0 T E.n (.slice A' ys.length c') ys.length (ys.flatMap E.cells))
    (hk : (A' = A ∧ c' = c ∧ w.grownBy w' (A.map (·.block)) ∧ w'.heap.size = w.heap.size) ∨ (A' = some ⟨w.heap.size, 0, none⟩ ∧ w'.heap.size = w.heap.size + 1 ∧ Keep w w')) : St w0 M w' (Ch.row E T A' c' ys :: D) := by
  refine h.upd (C' := Ch.row E T A' c' ys) ?_ ho ?_
  · rcases hk with ⟨_, _, hg, _⟩ | ⟨_, _, hg⟩
    · exact Chg.of_grownBy hg
    · exact Chg.of_keep _ hg
  · intro b hb
    rcases hk with ⟨rfl, rfl, hg, hs⟩ | ⟨rfl, hs, hg⟩
    · have := (h.rng _ (List.mem_cons_self ..) b hb).2
      exact ⟨.inl hb, by omega⟩
    · simp [Ch.row] at hb
      subst hb
      exact ⟨.inr (Nat.le_refl _), by omega⟩
theorem run_append_call {o : Oper} {e : Operand → Value} {s x : Operand} {t : TypeId} {u v : Value} (ho : o.op = .call { callee := .builtin .append, args := #[s, x], argTypes := #[t, t] }) (h1 : e s = u) (h2 : e x = v) {res : Value} {w' : World}
    (hr : (Builtin.append_ #[t, t] o.type #[u, v]).run P w = .ok res w') : (execOp e o).run P w = .ok (.value res) w' := by
  simp only [execOp, ho, resolve, invoke, builtin, Sem.run_bind, Sem.run_pure, Result.andThen_ok, List.map_toArray, List.map_cons, List.map_nil, h1, h2, hr]
theorem Ef.append {s x : Operand} {t : TypeId} {B : Option Addr} {d : Nat} {ys : List α} (h : St w0 M w D) (i : Nat) (hB : Rd E w B ys) (hd : B = none → d = 0) (hlen : Fits P T (xs.length + ys.length))
    (k : ∀ A' c' w', St w0 M w' (Ch.row E T A' c' (xs ++ ys) :: D.eraseIdx i) → K (putE ρ dst (.slice A' (xs ++ ys).length c')) w') (hC : D[i]? = some (Ch.row E T A c xs) := by rfl) (hone : ∀ z, (E.cells z).all (·.oneCell') = true := by exact fun _ => rfl) (ht : rowB P t T E.n = true := by kernel_rfl) :
    Ef r P N dst (.call { callee := .builtin .append, args := #[s, x], argTypes := #[t, t] }) [.slice A xs.length c, .slice B ys.length d] ρ ds w K Q := by
  have hp := h.pull i hC
  have ho : w.ownsRow 0 T E.n (.slice A xs.length c) xs.length (xs.flatMap E.cells) := h.at_ i hC
  have hnil : B = none → ys.length = 0 ∧ d = 0 := by
    intro hb
    refine ⟨?_, hd hb⟩
    cases hy : ys.length with
    | zero => rfl
    | succ n =>
      have := hB.adr (by omega)
      rw [hb] at this
      cases this
  have hall : ∀ u ∈ ys.flatMap E.cells, u.oneCell' = true := fun u hu => by
    obtain ⟨z, _, hz⟩ := List.mem_flatMap.1 hu
    exact List.all_eq_true.1 (hone z) u hz
  have hcells : ∀ b, B = some b → ∀ j u, (ys.flatMap E.cells)[j]? = some u → w.cell? (b.add j) = some u := by
    intro b hb j u hj
    have hjl : j < ys.length * E.n := by
      have := (List.getElem?_eq_some_iff.1 hj).1
      rwa [length_flat] at this
    have hn : 0 < E.n := (rowB_of ht).2.1
    have hq : j / E.n < ys.length := (Nat.div_lt_iff_lt_mul hn).2 hjl
    have hdm := Nat.div_add_mod j E.n
    have hml := Nat.mod_lt j hn
    obtain ⟨z, hz⟩ : ∃ z, ys[j / E.n]? = some z := ⟨_, List.getElem?_eq_getElem hq⟩
    obtain ⟨u', hu'⟩ : ∃ u', (E.cells z)[j % E.n]? = some u' := ⟨_, List.getElem?_eq_getElem (by rw [E.len]; exact hml)⟩
    have hf := flat_get ys _ _ _ _ hz hu'
    have hjj : j / E.n * E.n + j % E.n = j := by rw [Nat.mul_comm]; exact hdm
    rw [hjj, hj] at hf
    injection hf with hf
    subst hf
    have hc := hB.cell _ _ hz _ _ hu'
    have ha := hB.adr (Nat.lt_of_le_of_lt (Nat.zero_le _) hq)
    rw [hb] at ha
    injection ha with ha
    rw [ha, add_off]
    simp only [pb, pq, hb]
    simp only [pb, pq, hb] at hc
    rw [Nat.add_assoc, hjj] at hc
    exact hc
  obtain ⟨A', c', w', hr, ho', hk⟩ := run_app (P := P) (ty := 0) (d := d) ht ho (length_flat ys) hnil hcells hall hlen
  rintro hN o a hop hdst ha hv
  obtain ⟨A', c', w', hr, ho', hk⟩ := run_app (P := P) (ty := o.type) (d := d) ht ho (length_flat ys) hnil hcells hall hlen
  refine ⟨fun f hf => trivial, ?_⟩
  rw [semAt_plain _ (by rw [hop]; simp)]
  have h2 : a.eval s = .slice A xs.length c ∧ a.eval x = .slice B ys.length d := by simpa [Op.operands, Call.operands] using hv
  rw [run_append_call hop h2.1 h2.2 hr]
  rw [← List.length_append, ← List.flatMap_append] at ho'
  subst hdst
  refine ⟨_, ?_, k A' c' w' (hp.row_upd ho' hk)⟩
  have := ha.putE hN (.slice A' (xs.length + ys.length) c')
  rw [List.length_append]
  exact this
end
end
end Go.Proofs.YthbehiflmcljcaaDoor.Sh
