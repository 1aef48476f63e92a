/- slices' functions at lists of numbers, as contracts over rows: Sort, Compact, Reverse, Contains, Index, Min, BinarySearch. -/
import Derived.Test.YthbehiflmcljcaaDoorGj
import Derived.Lib.RowBridge
set_option linter.unusedVariables false
set_option linter.unusedSimpArgs false
set_option maxRecDepth 10000
namespace Go.Proofs.YthbehiflmcljcaaDoor.Sh
open Go.RowKit
theorem keep_drewN' (w : World) (n : Nat) : Keep w (w.drewN n) := ⟨rfl, rfl, rfl, Nat.le_refl _, fun _ _ => rfl⟩
theorem keep_grow' (w : World) (os : Array Obj) : Keep w (Go.Sort.grow w os) :=
  ⟨rfl, rfl, rfl, by show w.heap.size ≤ (w.heap ++ os).size; rw [Array.size_append]; omega, fun j hj => by show (w.heap ++ os)[j]? = w.heap[j]?; exact Array.getElem?_append_left hj⟩
section
variable {w w0 : World} {M : List Nat} {D : List Chunk} {α : Type} {E : Enc α} {T : TypeId} {c g : Nat} {xs : List α}
theorem St.row_cells (h : St w0 M w (Ch.row E T (some ⟨g, 0, none⟩) c xs :: D)) : ∃ vs : List Value, vs.length = c * E.n ∧ vs.take (xs.length * E.n) = xs.flatMap E.cells ∧ xs.length ≤ c ∧ c ≤ maxLen ∧ St w0 M w (Ch.cells g T vs :: D) := by
  have ho : w.ownsRow 0 T E.n (.slice (some ⟨g, 0, none⟩) xs.length c) xs.length (xs.flatMap E.cells) := h.at_ 0
  obtain ⟨g', cur, hg, h1, h2, h3, h4, h5⟩ := ownsRow_some_inv ho
  injection hg with hg
  subst hg
  refine ⟨cur.toList, by simpa using h4, h5, h2, h3, ⟨h.chg, fun C hC => ?_, fun C hC => ?_, ?_⟩⟩
  · rcases List.mem_cons.1 hC with rfl | hC
    · show w.heap[g]? = some _
      rw [h1]
    · exact h.ok C (List.mem_cons_of_mem _ hC)
  · rcases List.mem_cons.1 hC with rfl | hC
    · exact fun b hb => h.rng (Ch.row E T (some ⟨g, 0, none⟩) c xs) (List.mem_cons_self ..) b hb
    · exact h.rng C (List.mem_cons_of_mem _ hC)
  · have := List.pairwise_cons.1 h.dis
    exact List.pairwise_cons.2 ⟨this.1, this.2⟩
theorem St.cells_row {vs : List Value} (h : St w0 M w (Ch.cells g T vs :: D)) (h1 : vs.length = c * E.n) (h2 : vs.take (xs.length * E.n) = xs.flatMap E.cells) (h3 : xs.length ≤ c) (h4 : c ≤ maxLen) : St w0 M w (Ch.row E T (some ⟨g, 0, none⟩) c xs :: D) := by
  have ho : w.heap[g]? = some (.cells vs.toArray T (0, 0)) := h.at_ 0
  refine ⟨h.chg, fun C hC => ?_, fun C hC => ?_, ?_⟩
  · rcases List.mem_cons.1 hC with rfl | hC
    · exact ⟨length_flat xs, .inr ⟨g, c, vs.toArray, rfl, Nat.zero_le _, ho, h3, h4, by simpa using h1, h2⟩⟩
    · exact h.ok C (List.mem_cons_of_mem _ hC)
  · rcases List.mem_cons.1 hC with rfl | hC
    · exact fun b hb => h.rng (Ch.cells g T vs) (List.mem_cons_self ..) b hb
    · exact h.rng C (List.mem_cons_of_mem _ hC)
  · have := List.pairwise_cons.1 h.dis
    exact List.pairwise_cons.2 ⟨this.1, this.2⟩
theorem setCells_eq : ∀ (us : List Value) (o : Nat) (w : World), w.setCells g o us = (us.zipIdx o).foldl (fun w p => w.setCell ⟨g, p.2, none⟩ p.1) w
  | [], _, _ => rfl
  | u :: us, o, w => by
    rw [World.setCells, setCells_eq us (o + 1), List.zipIdx_cons, List.foldl_cons]
theorem St.setCells : ∀ (us : List Value) (o : Nat) (vs : List Value) {w : World}, St w0 M w (Ch.cells g T vs :: D) → o + us.length ≤ vs.length → St w0 M (w.setCells g o us) (Ch.cells g T (vs.take o ++ us ++ vs.drop (o + us.length)) :: D)
  | [], o, vs, w, h, _ => by
    rw [World.setCells, List.append_nil, List.length_nil, Nat.add_zero, List.take_append_drop]
    exact h
  | u :: us, o, vs, w, h, hl => by
    simp only [List.length_cons] at hl
    have h1 := St.setCells us (o + 1) (vs.set o u) (h.setCell o u) (by rw [List.length_set]; omega)
    rw [World.setCells]
    have e : (vs.set o u).take (o + 1) ++ us ++ (vs.set o u).drop (o + 1 + us.length) = vs.take o ++ (u :: us) ++ vs.drop (o + (u :: us).length) := by
      have e1 : (vs.set o u).take (o + 1) = vs.take o ++ [u] := by
        rw [List.take_add_one, List.getElem?_set_self (by omega), List.take_set_of_le (Nat.le_refl _)]
        rfl
      have e2 : (vs.set o u).drop (o + 1 + us.length) = vs.drop (o + (u :: us).length) := by
        rw [List.drop_set_of_lt (by omega), List.length_cons]
        congr 1
        omega
      rw [e1, e2]
      simp
    rw [e] at h1
    exact h1
end
end Go.Proofs.YthbehiflmcljcaaDoor.Sh
namespace Go.Proofs.YthbehiflmcljcaaDoor.C
open Go.RowKit Go.Proofs.YthbehiflmcljcaaDoor.Sh
section
variable {w w0 : World} {M : List Nat} {D : List Chunk} {c g : Nat} {A : Option Addr} {xs : List Int}
theorem flat_ints (ys : List Int) : ys.flatMap InE.cells = ys.map (Value.int .i64) := by
  induction ys with
  | nil => rfl
  | cons y ys ih => rw [List.flatMap_cons, ih]; rfl
/-- a row's numbers written over -/
theorem rowSet {ys : List Int} (h : St w0 M w (Ch.row InE 3 (some ⟨g, 0, none⟩) c xs :: D)) (hl : ys.length = xs.length) : St w0 M (w.setCells g 0 (ys.map (Value.int .i64))) (Ch.row InE 3 (some ⟨g, 0, none⟩) c ys :: D) := by
  obtain ⟨vs, h1, h2, h3, h4, h5⟩ := h.row_cells
  have e1 : c * InE.n = c := Nat.mul_one c
  have e2 : ys.length * InE.n = ys.length := Nat.mul_one _
  rw [e1] at h1
  have h6 := St.setCells (ys.map (Value.int .i64)) 0 vs h5 (by rw [List.length_map]; omega)
  refine h6.cells_row ?_ ?_ (by omega) h4
  · simp only [List.length_append, List.length_take, List.length_map, List.length_drop]
    omega
  · rw [e2, flat_ints]
    simp
theorem row_adr (h : St w0 M w (Ch.row InE 3 A c xs :: D)) (h0 : xs ≠ []) : ∃ g, A = some ⟨g, 0, none⟩ := by
  have ho : w.ownsRow 0 3 InE.n (.slice A xs.length c) xs.length (xs.flatMap InE.cells) := h.at_ 0
  cases A with
  | none =>
    obtain ⟨h1, -, -⟩ := ownsRow_nil_inv ho
    exact absurd (List.eq_nil_of_length_eq_zero h1) h0
  | some a =>
    obtain ⟨g, cur, rfl, -⟩ := ownsRow_some_inv ho
    exact ⟨g, rfl⟩
theorem row_frozen (h : St w0 M w (Ch.row InE 3 (some ⟨g, 0, none⟩) c xs :: D)) (j : Nat) : w.frozen? ⟨g, 0 + j, none⟩ = false := by
  obtain ⟨vs, h1, h2, h3, h4, h5⟩ := h.row_cells
  rw [Nat.zero_add]
  exact cells_frozen (h5.at_ 0) j
theorem rd_ints (h : Rd InE w (some ⟨g, 0, none⟩) xs) : ∀ j, j < xs.length → w.cell? ⟨g, 0 + j, none⟩ = some (.int .i64 (xs.getD j 0)) := fun j hj => by
  have h1 := h.cell j _ (List.getElem?_eq_getElem hj) 0 (.int .i64 xs[j]) rfl
  have e : xs.getD j 0 = xs[j] := by rw [List.getD_eq_getElem?_getD, List.getElem?_eq_getElem hj]; rfl
  rw [e]
  simp only [pb, pq] at h1
  have e2 : 0 + j * InE.n + 0 = 0 + j := by show 0 + j * 1 + 0 = 0 + j; omega
  rw [e2] at h1
  exact h1
theorem rd_ints' {A : Option Addr} (h : Rd InE w A xs) : ∀ j, j < xs.length → w.cell? ⟨pb A, pq A + j, none⟩ = some (.int .i64 (xs.getD j 0)) := fun j hj => by
  have h1 := h.cell j _ (List.getElem?_eq_getElem hj) 0 (.int .i64 xs[j]) rfl
  have e : xs.getD j 0 = xs[j] := by rw [List.getD_eq_getElem?_getD, List.getElem?_eq_getElem hj]; rfl
  rw [e]
  have e2 : pq A + j * InE.n + 0 = pq A + j := by show pq A + j * 1 + 0 = pq A + j; omega
  rw [e2] at h1
  exact h1
def sortI (xs : Is) : Is := xs.mergeSort fun x y => decide (x ≤ y)
theorem holds_row (h : St w0 M w (Ch.row InE 3 (some ⟨g, 0, none⟩) c xs :: D)) : Go.Sort.Holds (Value.int .i64) w g 0 xs.toArray := by
  have h1 := Go.Lib.holds_of_ints (n := xs.length) (Nat.le_refl _) (rd_ints (h.rd 0)) (fun j _ => row_frozen h j)
  rw [List.take_length] at h1
  exact h1
theorem sort_calls (h : St w0 M w (Ch.row InE 3 A c xs :: D)) (hl : xs.length < 4611686018427387904) :
    Calls Tryd.prog 50 #[.slice A xs.length c] w fun e w' => e = .returned (.tuple #[]) ∧ St w0 M w' (Ch.row InE 3 A c (sortI xs) :: D) := by
  by_cases h0 : xs = []
  · subst h0
    refine Calls.mono (Tryd.slices_Sort_int_none A c w) ?_
    rintro e w' ⟨rfl, rfl⟩
    refine ⟨rfl, ?_⟩
    have : sortI [] = [] := by simp [sortI]
    rw [this]
    exact h
  · obtain ⟨g, rfl⟩ := row_adr h h0
    have hg : g < w.heap.size := h.rng _ (List.mem_cons_self ..) g (by simp [Ch.row]) |>.2
    refine Calls.mono (Tryd.slices_Sort_int g 0 c xs w (holds_row h) hg hl) ?_
    rintro e w' ⟨rfl, n, os, rfl⟩
    refine ⟨rfl, ?_⟩
    have hp : (xs.mergeSort fun x y => decide (x ≤ y)).length = xs.length := List.length_mergeSort xs
    rw [Go.Lib.putRow_eq_setCells (Value.int .i64) w g 0 xs.toArray _ n (holds_row h) (by simp)]
    exact (rowSet (h.quiet (keep_drewN' w n)) hp).quiet (keep_grow' _ _)
theorem compact_calls (h : St w0 M w (Ch.row InE 3 A c xs :: D)) (hl : xs.length ≤ 9223372036854775807) :
    Calls Tryd.prog 51 #[.slice A xs.length c] w fun e w' => e = .returned (.slice A (Lib.compact xs).length c) ∧ St w0 M w' (Ch.row InE 3 A c (Lib.compact xs) :: D) := by
  by_cases h0 : xs = []
  · subst h0
    refine Calls.mono (Tryd.slices_Compact_int_empty A c w) ?_
    rintro e w' ⟨rfl, rfl⟩
    exact ⟨rfl, h⟩
  · obtain ⟨g, rfl⟩ := row_adr h h0
    have hcap := h.cap 0
    refine Calls.mono (Tryd.slices_Compact_int_cells g 0 xs.length c xs w (Nat.le_refl _) hl hcap (rd_ints (h.rd 0)) (fun j _ => row_frozen h j)) ?_
    rintro e w' ⟨rfl, n, rfl⟩
    rw [List.take_length]
    refine ⟨rfl, ?_⟩
    have hle := Go.Lib.compact_length_le xs
    exact (rowSet (h.quiet (keep_drewN' w n)) (ys := Lib.compact xs ++ List.replicate (xs.length - (Lib.compact xs).length) 0) (by rw [List.length_append, List.length_replicate]; omega)).shrink
theorem reverse_calls (h : St w0 M w (Ch.row InE 3 A c xs :: D)) (hl : xs.length ≤ 9223372036854775807) :
    Calls Tryd.prog 33 #[.slice A xs.length c] w fun e w' => e = .returned (.tuple #[]) ∧ St w0 M w' (Ch.row InE 3 A c xs.reverse :: D) := by
  by_cases h0 : xs = []
  · subst h0
    refine Calls.mono (Tryd.slices_Reverse_int_empty A c w) ?_
    rintro e w' ⟨rfl, rfl⟩
    exact ⟨rfl, h⟩
  · obtain ⟨g, rfl⟩ := row_adr h h0
    refine Calls.mono (Tryd.slices_Reverse_int_cells g 0 xs.length c xs w (Nat.le_refl _) hl (rd_ints (h.rd 0)) (fun j _ => row_frozen h j)) ?_
    rintro e w' ⟨rfl, n, rfl⟩
    rw [List.take_length]
    exact ⟨rfl, rowSet (h.quiet (keep_drewN' w n)) (List.length_reverse ..)⟩
end
theorem contains_cv (A : Option Addr) (c : Nat) (xs : Is) (x : Int) (w0 : World) (hr : Rd InE w0 A xs) (hl : xs.length ≤ 9223372036854775807) : Cv Tryd.prog 30 [.slice A xs.length c, .int .i64 x] (.bool (decide (x ∈ xs))) w0 := by
  intro w hk
  have hr := hr.keep hk
  by_cases h0 : xs = []
  · subst h0
    refine Calls.mono (Tryd.slices_Contains_int_empty A c x w) ?_
    rintro e w' ⟨rfl, rfl⟩
    exact ⟨by simp, Keep.refl _⟩
  · have ha := hr.adr (List.length_pos_iff.2 h0)
    rw [ha]
    refine Calls.mono (Tryd.slices_Contains_int (pb A) (pq A) xs.length c xs x w (Nat.le_refl _) hl (rd_ints' hr)) ?_
    rintro e w' ⟨rfl, rfl⟩
    rw [List.take_length]
    refine ⟨?_, Keep.refl _⟩
    simp
theorem bsearch_cv (A : Option Addr) (c : Nat) (xs : Is) (x : Int) (w0 : World) (hr : Rd InE w0 A xs) (hl : xs.length < 4611686018427387904) (hs : xs.Pairwise (· ≤ ·)) : Cv Tryd.prog 31 [.slice A xs.length c, .int .i64 x] (.tuple #[.int .i64 (xs.countP (· < x) : Nat), .bool (decide (x ∈ xs))]) w0 := by
  intro w hk
  have hr := hr.keep hk
  by_cases h0 : xs = []
  · subst h0
    refine Calls.mono (Tryd.slices_BinarySearch_int_empty A c x w) ?_
    rintro e w' ⟨rfl, rfl⟩
    exact ⟨by simp, Keep.refl _⟩
  · have ha := hr.adr (List.length_pos_iff.2 h0)
    rw [ha]
    refine Calls.mono (Tryd.slices_BinarySearch_int (pb A) (pq A) xs.length c xs x w (Nat.le_refl _) hl (rd_ints' hr) (by rw [List.take_length]; exact hs)) ?_
    rintro e w' ⟨rfl, n, rfl⟩
    rw [List.take_length]
    refine ⟨?_, keep_drewN' _ _⟩
    simp
theorem idx_ex (x : Int) : ∀ (zs : Is) (i : Nat), x ∈ zs → ∃ k, k < zs.length ∧ Lib.idxFrom zs x i = ((i + k : Nat) : Int) ∧ zs[k]? = some x
  | [], _, h => by cases h
  | z :: zs, i, h => by
    by_cases e : z = x
    · exact ⟨0, by simp, by simp [Lib.idxFrom, e], by simp [e]⟩
    · obtain ⟨k, h1, h2, h3⟩ := idx_ex x zs (i + 1) (by rcases List.mem_cons.1 h with h | h; exact absurd h.symm e; exact h)
      refine ⟨k + 1, by simp; omega, ?_, by simpa using h3⟩
      have : (i + 1 + k : Nat) = i + (k + 1) := by omega
      rw [this] at h2
      simpa [Lib.idxFrom, e] using h2
theorem index_cv (A : Option Addr) (c : Nat) (xs : Is) (x : Int) (hx : x ∈ xs) (w0 : World) (hr : Rd InE w0 A xs) (hl : xs.length ≤ 9223372036854775807) : ∃ k, k < xs.length ∧ xs[k]? = some x ∧ Cv Tryd.prog 32 [.slice A xs.length c, .int .i64 x] (.int .i64 (k : Int)) w0 := by
  obtain ⟨k, h1, h2, h3⟩ := idx_ex x xs 0 hx
  refine ⟨k, h1, h3, ?_⟩
  intro w hk
  have hr := hr.keep hk
  have ha := hr.adr (List.length_pos_of_mem hx)
  rw [ha]
  refine Calls.mono (Tryd.slices_Index_int (pb A) (pq A) xs.length c xs x w (Nat.le_refl _) hl (rd_ints' hr)) ?_
  rintro e w' ⟨rfl, rfl⟩
  rw [List.take_length]
  refine ⟨?_, Keep.refl _⟩
  unfold Lib.idxOf
  rw [h2, Nat.zero_add]
theorem min_cv (A : Option Addr) (c : Nat) (xs : Is) (h0 : 0 < xs.length) (w0 : World) (hr : Rd InE w0 A xs) (hl : xs.length ≤ 9223372036854775807) : Cv Tryd.prog 40 [.slice A xs.length c] (.int .i64 (Lib.minOf xs)) w0 := by
  intro w hk
  have hr := hr.keep hk
  have ha := hr.adr h0
  rw [ha]
  refine Calls.mono (Tryd.slices_Min_int (pb A) (pq A) xs.length c xs w h0 (Nat.le_refl _) hl (rd_ints' hr)) ?_
  rintro e w' ⟨rfl, rfl⟩
  rw [List.take_length]
  exact ⟨rfl, Keep.refl _⟩
end Go.Proofs.YthbehiflmcljcaaDoor.C
