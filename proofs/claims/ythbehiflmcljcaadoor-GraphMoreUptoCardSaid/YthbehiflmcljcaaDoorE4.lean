/- Instances that come in of bulk at most 1048576. -/
import Derived.Test.YthbehiflmcljcaaDoorE3
import Derived.Test.YthbehiflmcljcaaDoorHb
set_option linter.unusedVariables false
set_option linter.unusedSimpArgs false
set_option maxRecDepth 10000
namespace Go.Proofs.YthbehiflmcljcaaDoor.C
open Go.ChangeShapes Go.WideShapes Go.ChangeAt Go.RowKit Go.Proofs.YthbehiflmcljcaaDoor.Sh
theorem bulk_mem {H : Type} : ∀ (l : List (DataW H)) (d : DataW H), d ∈ l → Rows.uptoBulk d ≤ Rows.uptoBulkAll l
  | [], d, h => by cases h
  | e :: l, d, h => by
    simp only [Rows.uptoBulkAll]
    rcases List.mem_cons.1 h with rfl | h
    · omega
    · have := bulk_mem l d h
      omega
theorem bulk_pos {H : Type} (d : DataW H) : 1 ≤ Rows.uptoBulk d := by
  cases d with
  | lit l => cases l <;> simp [Rows.uptoBulk]
  | _ => simp [Rows.uptoBulk]
theorem bulk_len {H : Type} : ∀ (l : List (DataW H)), l.length ≤ Rows.uptoBulkAll l
  | [] => by simp
  | e :: l => by
    simp only [Rows.uptoBulkAll, List.length_cons]
    have := bulk_len l
    have := bulk_pos e
    omega
theorem bulk_insts {H : Type} {w : World} {A : Option Addr} {c : Nat} {xs : List Ist} {d : DataW H} (hb : Rows.uptoBulk d ≤ 1048576)
    (h : (A = none ∧ c = 0 ∧ xs = [] ∧ d = .nil) ∨ ∃ (es sp : List (DataW H)), d = .slice es sp ∧ es.length = xs.length ∧ ∀ (i : Nat) d, es[i]? = some d → ∃ a, xs[i]? = some a ∧ IsPr w d a) :
    xs.length ≤ 1048576 ∧ ∀ x ∈ xs, SmI x := by
  rcases h with ⟨_, _, rfl, _⟩ | ⟨es, sp, rfl, hl, hall⟩
  · exact ⟨by simp, fun x hx => by cases hx⟩
  · simp only [Rows.uptoBulk] at hb
    have h1 := bulk_len es
    refine ⟨by omega, fun x hx => ?_⟩
    obtain ⟨i, hi⟩ := List.mem_iff_getElem?.1 hx
    have hil := (List.getElem?_eq_some_iff.1 hi).1
    have hm : es[i]'(by omega) ∈ es := List.getElem_mem _
    obtain ⟨b, hb2, -, -, d0, d1, d2, d3, d4, d5, d6, d7, d8, d9, d10, d11, d12, hd, hn⟩ := hall i es[i] (List.getElem?_eq_getElem (by omega))
    rw [hi] at hb2
    injection hb2 with hb2
    subst hb2
    have h2 := bulk_mem es _ hm
    rw [hd] at h2
    simp only [Rows.uptoBulk, Rows.uptoBulkAll] at h2
    have h3 : Rows.uptoBulk d5 ≤ 1048576 := by omega
    rcases hn with hn | ⟨es5, sp5, rfl, hl5, hall5⟩
    · exact ⟨by rw [hn]; simp, fun y hy => by rw [hn] at hy; cases hy⟩
    · simp only [Rows.uptoBulk] at h3
      have h4 := bulk_len es5
      refine ⟨by omega, fun y hy => ?_⟩
      obtain ⟨j, hj⟩ := List.mem_iff_getElem?.1 hy
      have hjl := (List.getElem?_eq_some_iff.1 hj).1
      have hm5 : es5[j]'(by omega) ∈ es5 := List.getElem_mem _
      obtain ⟨b, hb2, r, hr⟩ := hall5 j es5[j] (List.getElem?_eq_getElem (by omega))
      rw [hj] at hb2
      injection hb2 with hb2
      subst hb2
      have h5 := bulk_mem es5 _ hm5
      rw [hr] at h5
      simp only [Rows.uptoBulk, Rows.uptoBulkAll] at h5
      have h6 : y.text.length = y.text.toArray.size := by simp
      have h7 : y.text.length + 1 ≤ 1048576 := by
        refine Nat.le_trans ?_ (Nat.le_trans (Nat.le_add_right _ _) (Nat.le_trans h5 (by omega)))
        simp
      omega
end Go.Proofs.YthbehiflmcljcaaDoor.C
