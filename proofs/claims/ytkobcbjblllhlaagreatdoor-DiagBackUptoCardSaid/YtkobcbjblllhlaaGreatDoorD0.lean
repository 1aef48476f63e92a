/- Faults are in one strict order (plain). -/
import Derived.Test.YtkobcbjblllhlaaGreatDoorC9
set_option linter.unusedVariables false
set_option linter.unusedSimpArgs false
namespace Go.Proofs.YtkobcbjblllhlaaGreatDoor.C
open Go.RowKit Go.Proofs.YtkobcbjblllhlaaGreatDoor.Sh
theorem u8_lt_or {x y : UInt8} (h : x ≠ y) : (x < y ∧ ¬ y < x) ∨ (y < x ∧ ¬ x < y) := by
  have : x.toNat ≠ y.toNat := fun e => h (UInt8.toNat_inj.1 e)
  simp only [UInt8.lt_iff_toNat_lt]
  omega
theorem bl_flip : ∀ s t : Bs, s ≠ t → Op.bytesLess s t = !Op.bytesLess t s
  | [], [], h => absurd rfl h
  | [], y :: ys, _ => rfl
  | x :: xs, [], _ => rfl
  | x :: xs, y :: ys, h => by
    by_cases hxy : x = y
    · subst hxy
      have := bl_flip xs ys (by rintro rfl; exact h rfl)
      simp [Op.bytesLess, this]
    · have hyx : ¬ y = x := fun e => hxy e.symm
      rcases u8_lt_or hxy with ⟨h1, h2⟩ | ⟨h1, h2⟩ <;> simp [Op.bytesLess, h1, h2, hxy, hyx]
theorem bl_trans : ∀ s t u : Bs, Op.bytesLess s t = true → Op.bytesLess t u = true → Op.bytesLess s u = true
  | _, [], _, h, _ => by cases ‹Bs› <;> simp [Op.bytesLess] at h
  | _, _ :: _, [], _, h => by simp [Op.bytesLess] at h
  | [], y :: ys, z :: zs, _, _ => rfl
  | x :: xs, y :: ys, z :: zs, h1, h2 => by
    simp only [Op.bytesLess, Bool.or_eq_true, Bool.and_eq_true, decide_eq_true_eq, beq_iff_eq] at h1 h2 ⊢
    rcases h1 with h1 | ⟨rfl, h1⟩
    · rcases h2 with h2 | ⟨rfl, h2⟩
      · left
        simp only [UInt8.lt_iff_toNat_lt] at *
        omega
      · exact .inl h1
    · rcases h2 with h2 | ⟨rfl, h2⟩
      · exact .inl h2
      · exact .inr ⟨rfl, bl_trans xs ys zs h1 h2⟩
theorem rless_irrefl (a : Ft) : rlessB a a = false := by simp [rlessB]
theorem rless_flip (a b : Ft) (h : a ≠ b) : rlessB a b = !rlessB b a := by
  unfold rlessB
  by_cases h1 : a.file = b.file
  · by_cases h2 : a.line = b.line
    · by_cases h3 : a.col = b.col
      · have h4 : a.code ≠ b.code := by
          rintro h4
          apply h
          cases a; cases b; simp_all
        simp only [h1, h2, h3, ne_eq, not_true, if_false]
        by_cases h5 : a.code < b.code
        · have : ¬ b.code < a.code := by omega
          simp [h5, this]
        · have : b.code < a.code := by omega
          simp [h5, this]
      · have h3' : ¬ b.col = a.col := fun e => h3 e.symm
        simp only [h1, h2, h3, h3', ne_eq, not_true, if_false, not_false_eq_true, if_true]
        by_cases h5 : a.col < b.col
        · have : ¬ b.col < a.col := by omega
          simp [h5, this]
        · have : b.col < a.col := by omega
          simp [h5, this]
    · have h2' : ¬ b.line = a.line := fun e => h2 e.symm
      simp only [h1, h2, h2', ne_eq, not_true, if_false, not_false_eq_true, if_true]
      by_cases h5 : a.line < b.line
      · have : ¬ b.line < a.line := by omega
        simp [h5, this]
      · have : b.line < a.line := by omega
        simp [h5, this]
  · have h1' : ¬ b.file = a.file := fun e => h1 e.symm
    simp only [h1, h1', ne_eq, not_false_eq_true, if_true]
    exact bl_flip _ _ h1
theorem rless_trans (a b c : Ft) (h1 : rlessB a b = true) (h2 : rlessB b c = true) : rlessB a c = true := by
  unfold rlessB at *
  by_cases e1 : a.file = b.file
  · by_cases e2 : b.file = c.file
    · have e3 : a.file = c.file := e1.trans e2
      simp only [e1, e2, ne_eq, not_true, if_false] at *
      split at h1
      · split at h2
        · have : ¬ a.line = c.line := by simp at h1 h2; omega
          rw [if_pos this]
          simp at h1 h2 ⊢
          omega
        · rename_i q1 q2
          have q2 : b.line = c.line := by simpa using q2
          rw [if_pos (by rw [← q2]; exact q1), ← q2]
          exact h1
      · rename_i q1
        have q1 : a.line = b.line := by simpa using q1
        split at h2
        · rename_i q2
          rw [if_pos (by rw [q1]; exact q2), q1]
          exact h2
        · rename_i q2
          have q2 : b.line = c.line := by simpa using q2
          rw [if_neg (by simp [q1, q2])]
          split at h1
          · split at h2
            · have : ¬ a.col = c.col := by simp at h1 h2; omega
              rw [if_pos this]
              simp at h1 h2 ⊢
              omega
            · rename_i r1 r2
              have r2 : b.col = c.col := by simpa using r2
              rw [if_pos (by rw [← r2]; exact r1), ← r2]
              exact h1
          · rename_i r1
            have r1 : a.col = b.col := by simpa using r1
            split at h2
            · rename_i r2
              rw [if_pos (by rw [r1]; exact r2), r1]
              exact h2
            · rename_i r2
              have r2 : b.col = c.col := by simpa using r2
              rw [if_neg (by simp [r1, r2])]
              simp at h1 h2 ⊢
              omega
    · have e3 : ¬ a.file = c.file := by rw [e1]; exact e2
      rw [if_pos e2] at h2
      rw [if_pos e3, e1]
      exact h2
  · rw [if_pos e1] at h1
    by_cases e2 : b.file = c.file
    · have e3 : ¬ a.file = c.file := by rw [← e2]; exact e1
      rw [if_pos e3, ← e2]
      exact h1
    · rw [if_pos e2] at h2
      have h3 := bl_trans _ _ _ h1 h2
      have e3 : ¬ a.file = c.file := by
        intro e
        rw [e, bytesLess_irrefl] at h3
        cases h3
      rw [if_pos e3]
      exact h3
end Go.Proofs.YtkobcbjblllhlaaGreatDoor.C
