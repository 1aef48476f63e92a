/- A number's text is one of a kind: strconv.Itoa and the document's Number. -/
import Derived.Test.YtpnkfnenhgfhpaaDoorBr
set_option linter.unusedVariables false
set_option linter.unusedSimpArgs false
set_option maxRecDepth 10000
namespace Go.Proofs.YtpnkfnenhgfhpaaDoor.C
open Go.RowKit Go.Proofs.YtpnkfnenhgfhpaaDoor.Sh
theorem decV_snoc : ∀ (s : Bs) (b : UInt8) (v : Int), decV (s ++ [b]) v = 10 * decV s v + ((b.toNat : Int) - 48)
  | [], b, v => rfl
  | c :: s, b, v => by rw [List.cons_append, decV, decV, decV_snoc s b]
theorem dec_small {u : Nat} (h : u < 10) : Lib.decDigits u = [UInt8.ofNat (48 + u)] := by
  rw [Lib.decDigits, dif_pos h]
theorem dec_big {u : Nat} (h : ¬ u < 10) : Lib.decDigits u = Lib.decDigits (u / 10) ++ [UInt8.ofNat (48 + u % 10)] := by
  rw [Lib.decDigits, dif_neg h]
theorem dig_nat (k : Nat) (h : k < 10) : (UInt8.ofNat (48 + k)).toNat = 48 + k := by
  rw [UInt8.toNat_ofNat']; omega
theorem dec_props : ∀ (u : Nat), Lib.decDigits u ≠ [] ∧ (Lib.decDigits u).all digB = true ∧ decV (Lib.decDigits u) 0 = u ∧ (1 ≤ u → byt (Lib.decDigits u) 0 ≠ 48) := by
  intro u
  induction u using Nat.strongRecOn with
  | _ u ih =>
    by_cases h : u < 10
    · rw [dec_small h]
      have hd := dig_nat u h
      refine ⟨by simp, ?_, ?_, fun h1 => ?_⟩
      · simp only [List.all_cons, List.all_nil, Bool.and_true, digB, hd]
        simp; omega
      · show 10 * (0 : Int) + (((UInt8.ofNat (48 + u)).toNat : Int) - 48) = u
        rw [hd]; omega
      · show ((UInt8.ofNat (48 + u)).toNat : Int) ≠ 48
        rw [hd]; omega
    · rw [dec_big h]
      obtain ⟨q1, q2, q3, q4⟩ := ih (u / 10) (by omega)
      have hd := dig_nat (u % 10) (by omega)
      refine ⟨by simp, ?_, ?_, fun _ => ?_⟩
      · rw [List.all_append, q2]
        simp only [List.all_cons, List.all_nil, Bool.and_true, Bool.true_and, digB, hd]
        simp; omega
      · rw [decV_snoc, q3, hd]; omega
      · have : byt (Lib.decDigits (u / 10) ++ [UInt8.ofNat (48 + u % 10)]) 0 = byt (Lib.decDigits (u / 10)) 0 := by
          obtain ⟨x, r, hx⟩ := List.exists_cons_of_ne_nil q1
          rw [hx]; rfl
        rw [this]
        exact q4 (by omega)
theorem dec_len : ∀ (k u : Nat), u < 10 ^ (k + 1) → (Lib.decDigits u).length ≤ k + 1
  | 0, u, h => by rw [dec_small (by simpa using h)]; simp
  | k + 1, u, h => by
    by_cases hu : u < 10
    · rw [dec_small hu]; simp
    · rw [dec_big hu, List.length_append]
      have := dec_len k (u / 10) (by rw [Nat.pow_succ] at h; omega)
      simp only [List.length_cons, List.length_nil]
      omega
theorem dec_back : ∀ (n : Nat) (s : Bs), s.length = n → s ≠ [] → s.all digB = true → (byt s 0 ≠ 48) → 1 ≤ decV s 0 ∧ Lib.decDigits (decV s 0).toNat = s
  | 0, s, hn, h1, _, _ => absurd (List.eq_nil_of_length_eq_zero hn) h1
  | n + 1, s, hn, h1, h2, h3 => by
    obtain ⟨s', b, rfl⟩ : ∃ s' b, s = s' ++ [b] := ⟨s.dropLast, s.getLast h1, (List.dropLast_concat_getLast h1).symm⟩
    rw [List.all_append, Bool.and_eq_true] at h2
    obtain ⟨h2, hb⟩ := h2
    simp only [List.all_cons, List.all_nil, Bool.and_true, digB, Bool.and_eq_true, decide_eq_true_eq] at hb
    obtain ⟨hb1, hb2⟩ := hb
    rw [decV_snoc]
    have hbe : UInt8.ofNat b.toNat = b := by simp
    cases s' with
    | nil =>
      have h3 : (b.toNat : Int) ≠ 48 := h3
      have e : (10 * decV [] 0 + ((b.toNat : Int) - 48)) = ((b.toNat - 48 : Nat) : Int) := by rw [decV]; omega
      rw [e, Int.toNat_natCast, dec_small (by omega)]
      refine ⟨by omega, ?_⟩
      have : 48 + (b.toNat - 48) = b.toNat := by omega
      rw [this, hbe]; rfl
    | cons x r =>
      have h3' : byt (x :: r) 0 ≠ 48 := h3
      obtain ⟨q1, q2⟩ := dec_back n (x :: r) (by simpa using hn) (by simp) h2 h3'
      obtain ⟨v, hv⟩ : ∃ v : Nat, decV (x :: r) 0 = v := ⟨(decV (x :: r) 0).toNat, by omega⟩
      rw [hv] at q1 q2 ⊢
      rw [Int.toNat_natCast] at q2
      have e : (10 * (v : Int) + ((b.toNat : Int) - 48)) = ((10 * v + (b.toNat - 48) : Nat) : Int) := by omega
      rw [e, Int.toNat_natCast, dec_big (by omega)]
      refine ⟨by omega, ?_⟩
      have e1 : (10 * v + (b.toNat - 48)) / 10 = v := by omega
      have e2 : 48 + (10 * v + (b.toNat - 48)) % 10 = b.toNat := by omega
      rw [e1, e2, q2, hbe]
theorem num_itoa {u : Nat} (h : u ≤ 16384) : numR (Lib.itoa (u : Int)) 16384 = ((u : Int), true) := by
  rw [Lib.itoa_nonneg]
  obtain ⟨q1, q2, q3, q4⟩ := dec_props u
  have hl := dec_len 4 u (by omega)
  unfold numR
  rw [if_neg, q3]
  · simp; omega
  · rintro (h1 | h1 | h1 | h1)
    · exact q1 h1
    · omega
    · by_cases hu : u < 10
      · rw [dec_small hu] at h1; simp at h1
      · exact q4 (by omega) h1.2
    · rw [q2] at h1; cases h1
theorem num_back {s : Bs} (h : (numR s 16384).2 = true) : 0 ≤ (numR s 16384).1 ∧ (numR s 16384).1 ≤ 16384 ∧ Lib.itoa (numR s 16384).1 = s := by
  unfold numR at h ⊢
  split at h
  · cases h
  rename_i hn
  rw [if_neg hn]
  simp only [decide_eq_true_eq] at h
  simp only [not_or, not_and] at hn
  obtain ⟨h1, h2, h3, h4⟩ := hn
  have h4 : s.all digB = true := by simpa using h4
  by_cases hz : byt s 0 = 48
  · have hlen : s.length = 1 := by
      have := List.length_pos_iff.2 h1
      by_cases hl : 1 < s.length
      · exact absurd hz (h3 hl)
      · omega
    match s, hlen with
    | [b], _ =>
      have hz : (b.toNat : Int) = 48 := hz
      have e : decV [b] 0 = ((0 : Nat) : Int) := by
        show 10 * (0 : Int) + ((b.toNat : Int) - 48) = 0
        omega
      simp only [e]
      refine ⟨by omega, by omega, ?_⟩
      rw [Lib.itoa_nonneg, dec_small (by omega)]
      have : b = UInt8.ofNat (48 + 0) := by
        have : UInt8.ofNat b.toNat = b := by simp
        rw [← this]
        congr 1
        omega
      rw [this]
  · obtain ⟨q1, q2⟩ := dec_back _ s rfl h1 h4 hz
    simp only
    refine ⟨by omega, h, ?_⟩
    obtain ⟨v, hv⟩ : ∃ v : Nat, decV s 0 = v := ⟨(decV s 0).toNat, by omega⟩
    rw [hv] at q2 ⊢
    rw [Lib.itoa_nonneg]
    rw [Int.toNat_natCast] at q2
    exact q2
end Go.Proofs.YtpnkfnenhgfhpaaDoor.C
