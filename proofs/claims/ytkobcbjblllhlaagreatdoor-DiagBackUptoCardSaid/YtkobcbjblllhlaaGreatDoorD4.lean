/- A text that is read is the text of what was read; a fault's text is read back as the fault. -/
import Derived.Test.YtkobcbjblllhlaaGreatDoorC9
set_option linter.unusedVariables false
set_option linter.unusedSimpArgs false
set_option maxRecDepth 10000
namespace Go.Proofs.YtkobcbjblllhlaaGreatDoor.C
open Go.RowKit Go.Proofs.YtkobcbjblllhlaaGreatDoor.Sh
/-! ### one byte in a text -/
theorem index_no : ∀ (s : Bs) (b : UInt8), b ∉ s → Lib.index s [b] = -1
  | [], b, _ => rfl
  | x :: s, b, h => by
    have hx : ¬ b = x := fun e => h (by simp [e])
    have hs : b ∉ s := fun e => h (by simp [e])
    unfold Lib.index
    rw [index_no s b hs]
    simp [List.isPrefixOf, hx]
theorem index_at : ∀ (s t : Bs) (b : UInt8), b ∉ s → Lib.index (s ++ b :: t) [b] = s.length
  | [], t, b, _ => by
    show Lib.index (b :: t) [b] = _
    unfold Lib.index
    simp [List.isPrefixOf]
  | x :: s, t, b, h => by
    have hx : ¬ b = x := fun e => h (by simp [e])
    have hs : b ∉ s := fun e => h (by simp [e])
    show Lib.index (x :: (s ++ b :: t)) [b] = _
    unfold Lib.index
    rw [index_at s t b hs]
    have : ((s.length : Int) == -1) = false := by rw [beq_eq_false_iff_ne]; omega
    simp [List.isPrefixOf, hx, this]
theorem index_two (s : Bs) (b : UInt8) : (Lib.index s [b] = -1 ∧ b ∉ s) ∨ (∃ x y, s = x ++ b :: y ∧ b ∉ x ∧ Lib.index s [b] = x.length) := by
  by_cases h : b ∈ s
  · obtain ⟨x, y, rfl, hx⟩ := List.append_of_mem h |> fun _ => List.eq_append_cons_of_mem h
    exact .inr ⟨x, y, rfl, hx, index_at x y b hx⟩
  · exact .inl ⟨index_no s b h, h⟩
theorem cut_no (s : Bs) (b : UInt8) (h : b ∉ s) : Lib.cut s [b] = (s, [], false) := by simp [Lib.cut, index_no s b h]
theorem cut_at (s t : Bs) (b : UInt8) (h : b ∉ s) : Lib.cut (s ++ b :: t) [b] = (s, t, true) := by
  simp [Lib.cut, index_at s t b h]
theorem cut_join {s : Bs} {b : UInt8} (h : (Lib.cut s [b]).2.2 = true) : s = (Lib.cut s [b]).1 ++ b :: (Lib.cut s [b]).2.1 ∧ b ∉ (Lib.cut s [b]).1 := by
  rcases index_two s b with ⟨h1, h2⟩ | ⟨x, y, rfl, hx, -⟩
  · rw [cut_no s b h2] at h; cases h
  · rw [cut_at x y b hx]; exact ⟨rfl, hx⟩
/-! ### split -/
def joinC (b : UInt8) : List Bs → Bs
  | [] => []
  | [x] => x
  | x :: y :: l => x ++ b :: joinC b (y :: l)
theorem splitK_ne (b : UInt8) : ∀ (k : Nat) (s : Bs), Lib.splitK [b] 0 k s ≠ []
  | 0, s => by simp [Lib.splitK]
  | k + 1, s => by simp only [Lib.splitK]; split <;> simp
theorem splitK_join (b : UInt8) : ∀ (k : Nat) (s : Bs), joinC b (Lib.splitK [b] 0 k s) = s
  | 0, s => by simp [Lib.splitK, joinC]
  | k + 1, s => by
    simp only [Lib.splitK]
    rcases index_two s b with ⟨h1, h2⟩ | ⟨x, y, rfl, hx, h1⟩
    · simp [h1, joinC]
    · have : ((x.length : Int) == -1) = false := by rw [beq_eq_false_iff_ne]; omega
      have ih := splitK_join b k y
      have hne := splitK_ne b k y
      have e : (x ++ b :: y).drop (x.length + 1) = y := by simp
      simp only [h1, this, Int.toNat_natCast, Nat.add_zero, List.length_cons, List.length_nil, Bool.false_eq_true, if_false, Nat.zero_add, e, List.take_left]
      cases hl : Lib.splitK [b] 0 k y with
      | nil => exact absurd hl hne
      | cons u l => rw [hl] at ih; simp only [joinC, ih]
theorem split_join (b : UInt8) (s : Bs) : joinC b (Lib.split s [b]) = s := splitK_join b _ s
theorem countFrom_at (x y : Bs) (b : UInt8) (h : b ∉ x) (k : Nat) : Lib.countFrom [b] (k + 1) (x ++ b :: y) = 1 + Lib.countFrom [b] k y := by
  have : ((x.length : Int) == -1) = false := by rw [beq_eq_false_iff_ne]; omega
  simp [Lib.countFrom, index_at x y b h, this]
theorem countFrom_no (x : Bs) (b : UInt8) (h : b ∉ x) (k : Nat) : Lib.countFrom [b] k x = 0 := by
  cases k with
  | zero => rfl
  | succ k => simp [Lib.countFrom, index_no x b h]
theorem splitK_at (x y : Bs) (b : UInt8) (h : b ∉ x) (k : Nat) : Lib.splitK [b] 0 (k + 1) (x ++ b :: y) = x :: Lib.splitK [b] 0 k y := by
  have : ((x.length : Int) == -1) = false := by rw [beq_eq_false_iff_ne]; omega
  simp [Lib.splitK, index_at x y b h, this]
theorem split_three (x y z : Bs) (b : UInt8) (hx : b ∉ x) (hy : b ∉ y) (hz : b ∉ z) : Lib.split (x ++ b :: (y ++ b :: z)) [b] = [x, y, z] := by
  unfold Lib.split Lib.count
  have e : (x ++ b :: (y ++ b :: z)).length + 1 = (x.length + y.length + z.length + 1) + 1 + 1 := by simp; omega
  rw [e, countFrom_at x _ b hx, countFrom_at y z b hy, countFrom_no z b hz]
  show Lib.splitK [b] 0 2 _ = _
  rw [splitK_at x _ b hx, splitK_at y z b hy]
  rfl
/-! ### what is read -/
theorem prefix_take {s p : Bs} (h : Lib.hasPrefix s p = true) : s = p ++ s.drop p.length := by
  have := List.isPrefixOf_iff_prefix.1 h
  obtain ⟨t, rfl⟩ := this
  simp
theorem numS_itoa {s : Bs} (h : (numS s).2 = true) : Lib.itoa (numS s).1 = s := by
  unfold numS at h ⊢
  cases h' : Lib.atoiAll s with
  | ok v =>
    rw [h'] at h
    simp only [Bool.and_eq_true, beq_iff_eq] at h
    exact h.1
  | _ => rw [h'] at h; cases h
theorem fileS_join {s : Bs} (h : (fileS s).2.2 = true) : s = keyW (fileS s).1 ++ 58 :: (fileS s).2.1 := by
  by_cases h1 : Lib.hasPrefix s [34] = true
  · by_cases h2 : (quoteR s).2.2 ∧ Lib.hasPrefix (s.drop (quoteR s).2.1.toNat) [58] ∧ keyW (quoteR s).1 = s.take (quoteR s).2.1.toNat
    · simp only [fileS, if_pos h1, if_pos h2]
      obtain ⟨-, h3, h4⟩ := h2
      have h5 := prefix_take h3
      have hq := quoteR_bd s
      rw [List.drop_drop] at h5
      have e : ((quoteR s).2.1 + 1).toNat = (quoteR s).2.1.toNat + 1 := by omega
      rw [h4, e]
      conv => lhs; rw [← List.take_append_drop (quoteR s).2.1.toNat s, h5]
      simp
    · simp only [fileS, if_pos h1, if_neg h2] at h
      cases h
  · simp only [fileS, if_neg h1, Bool.and_eq_true] at h ⊢
    obtain ⟨h3, h4⟩ := h
    rw [keyW, if_pos h4]
    exact (cut_join h3).1
theorem read_text {s : Bs} {f : Ft} (h : readS s = some f) : textS f = s := by
  unfold readS at h
  simp only at h
  split at h
  · rename_i h1
    split at h
    · cases h
    rename_i h2
    split at h
    · rename_i h3
      injection h with h
      subst h
      simp only [Bool.and_eq_true] at h3
      obtain ⟨⟨q1, q2⟩, q3⟩ := h3
      have hj := split_join 58 (fileS s).2.1
      have hf := fileS_join h1
      generalize Lib.split (fileS s).2.1 [58] = ps at *
      match ps, h2 with
      | [p0, p1, p2], h2 =>
        have h4 : Lib.hasPrefix p2 errS = true := by
          cases h' : Lib.hasPrefix p2 errS with
          | true => rfl
          | false => exact absurd (.inr (by simp [nth, h'])) h2
        have h5 := prefix_take h4
        have e0 : Lib.itoa (numS p0).1 = p0 := numS_itoa q1
        have e1 : Lib.itoa (numS p1).1 = p1 := numS_itoa q2
        have e2 : Lib.itoa (numS (p2.drop 7)).1 = p2.drop 7 := numS_itoa q3
        simp only [joinC] at hj
        show keyW (fileS s).1 ++ [58] ++ Lib.itoa (numS p0).1 ++ [58] ++ Lib.itoa (numS p1).1 ++ [58, 32, 101, 114, 114, 111, 114, 32] ++ Lib.itoa (numS (p2.drop 7)).1 = s
        rw [e0, e1, e2]
        conv => rhs; rw [hf, ← hj, h5]
        simp [errS]
      | [], h2 => exact absurd (.inl (by simp)) h2
      | [_], h2 => exact absurd (.inl (by simp)) h2
      | [_, _], h2 => exact absurd (.inl (by simp)) h2
      | _ :: _ :: _ :: _ :: _, h2 => exact absurd (.inl (by simp only [List.length_cons]; omega)) h2
    · cases h
  · cases h
/-! ### what is written is read -/
theorem named_ne (c : Int) (h : namedB c = true) : c ≠ 34 ∧ c ≠ 58 := by
  constructor <;> (rintro rfl; revert h; decide)
theorem name_no {s : Bs} (h : nameB s = true) (b : UInt8) (hb : namedB b.toNat = false) : b ∉ s := by
  intro hm
  simp only [nameB, madeB, Bool.and_eq_true, List.all_eq_true] at h
  have := h.1.2 b hm
  rw [hb] at this
  cases this
theorem escS_x (a b : UInt8) (T : Bs) (ha : 0 ≤ digitI a.toNat) (hb : 0 ≤ digitI b.toNat) : escS (120 :: a :: b :: T) = (16 * digitI a.toNat + digitI b.toNat, 3) := by
  have e0 : byt (120 :: a :: b :: T) 0 = 120 := rfl
  have e1 : byt (120 :: a :: b :: T) 1 = a.toNat := rfl
  have e2 : byt (120 :: a :: b :: T) 2 = b.toNat := rfl
  unfold escS
  rw [if_neg (by simp), e0, e1, e2, if_neg (by decide), if_neg (by decide), if_neg]
  simp only [List.length_cons]
  omega
theorem hex_ok : ∀ n : Fin 256, 0 ≤ digitI (hexD ((n.val : Int) / 16)).toNat ∧ 0 ≤ digitI (hexD ((n.val : Int) % 16)).toNat ∧ 16 * digitI (hexD ((n.val : Int) / 16)).toNat + digitI (hexD ((n.val : Int) % 16)).toNat = n.val := by decide +kernel
theorem readQ_esc (b : UInt8) (T : Bs) (n : Int) (acc : Bs) : readQ (escW b ++ T) n acc = readQ T (n + (escW b).length) (acc ++ [b]) := by
  unfold escW
  split
  · rename_i h
    rcases h with h | h
    all_goals
      show readQ (92 :: b :: T) n acc = _
      rw [readQ_cons, if_neg (by decide), if_pos (by decide)]
      have e : escS (b :: T) = ((b.toNat : Int), 1) := by
        have e0 : byt (b :: T) 0 = b.toNat := rfl
        unfold escS
        rw [if_neg (by simp), e0, if_pos (by omega)]
      have eu : escU (b :: T) = b := by unfold escU; rw [e]; simp
      have e2 : (escS (b :: T)).2 = 1 := by rw [e]
      rw [if_neg (by rw [e2]; decide), e2, eu]
      show readQ T _ _ = readQ T _ _
      congr 1
      simp only [List.length_cons, List.length_nil]
      omega
  split
  · rename_i h0 h
    show readQ (92 :: 110 :: T) n acc = _
    have e : escS (110 :: T) = (10, 1) := by
      have e0 : byt (110 :: T) 0 = 110 := rfl
      unfold escS
      rw [if_neg (by simp), e0, if_neg (by decide), if_pos rfl]
    have eu : escU (110 :: T) = b := by
      unfold escU; rw [e]
      apply UInt8.toNat_inj.1
      simpa using h.symm
    have e2 : (escS (110 :: T)).2 = 1 := by rw [e]
    rw [readQ_cons, if_neg (by decide), if_pos (by decide), if_neg (by rw [e2]; decide), e2, eu]
    show readQ T _ _ = readQ T _ _
    congr 1
    simp only [List.length_cons, List.length_nil]
    omega
  split
  · rename_i h0 h1 h
    obtain ⟨k1, k2, k3⟩ := hex_ok ⟨b.toNat, b.toNat_lt⟩
    simp only at k1 k2 k3
    have e := escS_x _ _ T k1 k2
    rw [k3] at e
    show readQ (92 :: 120 :: hexD (b.toNat / 16) :: hexD (b.toNat % 16) :: T) n acc = _
    have eu : escU (120 :: hexD (b.toNat / 16) :: hexD (b.toNat % 16) :: T) = b := by unfold escU; rw [e]; simp
    have e2 : (escS (120 :: hexD (b.toNat / 16) :: hexD (b.toNat % 16) :: T)).2 = 3 := by rw [e]
    rw [readQ_cons, if_neg (by decide), if_pos (by decide), if_neg (by rw [e2]; decide), e2, eu]
    show readQ T _ _ = readQ T _ _
    congr 1
    simp only [List.length_cons, List.length_nil]
    omega
  · rename_i h0 h1 h2
    show readQ (b :: T) n acc = _
    rw [readQ_cons, if_neg (by omega), if_neg (by omega)]
    congr 1
theorem readQ_all : ∀ (s T : Bs) (n : Int) (acc : Bs), readQ (s.flatMap escW ++ 34 :: T) n acc = (acc ++ s, n + (s.flatMap escW).length + 1, true)
  | [], T, n, acc => by
    show readQ (34 :: T) n acc = _
    rw [readQ_cons, if_pos (by decide)]
    simp
  | b :: s, T, n, acc => by
    simp only [List.flatMap_cons, List.append_assoc]
    rw [readQ_esc, readQ_all s T]
    simp only [List.append_assoc, List.singleton_append, List.length_append, Prod.mk.injEq, and_true, true_and]
    omega
theorem quoteR_write (s T : Bs) : quoteR (quoteW s ++ T) = (s, ((quoteW s).length : Int), true) := by
  unfold quoteR
  rw [if_neg (by simp [quoteW])]
  have e : (quoteW s ++ T).drop 1 = s.flatMap escW ++ 34 :: T := by simp [quoteW]
  rw [e, readQ_all]
  simp only [List.nil_append, quoteW, List.cons_append, List.length_cons, List.length_append, List.length_nil, Prod.mk.injEq, and_true, true_and]
  omega
theorem fileS_write (n T : Bs) : fileS (keyW n ++ 58 :: T) = (n, T, true) := by
  unfold fileS
  by_cases h : nameB n = true
  · rw [keyW, if_pos h]
    have h34 : Lib.hasPrefix (n ++ 58 :: T) [34] = false := by
      have hno := name_no h 34 (by decide)
      cases n with
      | nil => simp [nameB, madeB] at h
      | cons x n =>
        have : ¬ (34 : UInt8) = x := fun e => hno (by simp [e])
        simp [Lib.hasPrefix, List.isPrefixOf, this]
    rw [if_neg (by simp [h34]), cut_at n T 58 (name_no h 58 (by decide))]
    simp [h]
  · have hk : keyW n = quoteW n := by rw [keyW, if_neg h]
    have hq := quoteR_write n (58 :: T)
    rw [hk]
    rw [if_pos (by simp [quoteW, Lib.hasPrefix, List.isPrefixOf]), hq]
    simp only [Int.toNat_natCast]
    rw [if_pos ⟨trivial, by simp [Lib.hasPrefix, List.isPrefixOf], by rw [hk]; simp⟩]
    have : (((quoteW n).length : Int) + 1).toNat = (quoteW n).length + 1 := by omega
    rw [this]
    simp
/-! ### numbers -/
theorem pu_snoc : ∀ (l : Bs) (acc a : Nat) (c : UInt8), Lib.parseUint10 acc l = .ok a → 48 ≤ c.toNat → c.toNat ≤ 57 → a * 10 + (c.toNat - 48) < 18446744073709551616 → Lib.parseUint10 acc (l ++ [c]) = .ok (a * 10 + (c.toNat - 48))
  | [], acc, a, c, h, h1, h2, h3 => by
    simp only [Lib.parseUint10] at h
    injection h with h
    subst h
    simp only [List.nil_append, Lib.parseUint10]
    rw [if_pos ⟨h1, h2⟩, if_neg (by omega), if_neg (by omega)]
  | x :: l, acc, a, c, h, h1, h2, h3 => by
    simp only [Lib.parseUint10, List.cons_append] at h ⊢
    split at h
    · rename_i hx
      rw [if_pos hx]
      split at h
      · cases h
      rename_i hy
      rw [if_neg hy]
      split at h
      · cases h
      rename_i hz
      rw [if_neg hz]
      exact pu_snoc l _ a c h h1 h2 h3
    · cases h
theorem dig_nat (n : Nat) (h : n < 10) : (UInt8.ofNat (48 + n)).toNat = 48 + n := by rw [UInt8.toNat_ofNat']; omega
theorem dec_parse (u : Nat) : u < 1000000000000000000 → Lib.parseUint10 0 (Lib.decDigits u) = .ok u := by
  induction u using Nat.strongRecOn with
  | _ u ih =>
    intro hu
    by_cases h : u < 10
    · rw [Lib.decDigits, dif_pos h]
      have := dig_nat u h
      simp only [Lib.parseUint10]
      rw [if_pos (by omega), if_neg (by omega), if_neg (by omega), this]
      congr 1
      omega
    · rw [Lib.decDigits, dif_neg h]
      have hd := dig_nat (u % 10) (by omega)
      rw [pu_snoc _ 0 (u / 10) _ (ih (u / 10) (by omega) (by omega)) (by omega) (by omega) (by omega), hd]
      congr 1
      omega
theorem dec_digit (u : Nat) : ∀ b ∈ Lib.decDigits u, 48 ≤ b.toNat ∧ b.toNat ≤ 57 := by
  induction u using Nat.strongRecOn with
  | _ u ih =>
    intro b hb
    by_cases h : u < 10
    · rw [Lib.decDigits, dif_pos h] at hb
      have := dig_nat u h
      obtain rfl := List.mem_singleton.1 hb
      omega
    · rw [Lib.decDigits, dif_neg h] at hb
      rcases List.mem_append.1 hb with hb | hb
      · exact ih (u / 10) (by omega) b hb
      · obtain rfl := List.mem_singleton.1 hb
        have := dig_nat (u % 10) (by omega)
        omega
theorem dec_cons (u : Nat) : ∃ c r, Lib.decDigits u = c :: r := by
  cases h : Lib.decDigits u with
  | nil =>
    have := Lib.decDigits_length u
    rw [h] at this
    have h2 := Lib.nDigits_pos u
    simp at this
    omega
  | cons c r => exact ⟨c, r, rfl⟩
theorem itoa_byte (v : Int) : ∀ b ∈ Lib.itoa v, b.toNat = 45 ∨ (48 ≤ b.toNat ∧ b.toNat ≤ 57) := by
  intro b hb
  unfold Lib.itoa at hb
  split at hb
  · rcases List.mem_cons.1 hb with rfl | hb
    · exact .inl rfl
    · exact .inr (dec_digit _ b hb)
  · exact .inr (dec_digit _ b hb)
theorem itoa_no (v : Int) : (58 : UInt8) ∉ Lib.itoa v := fun h => by
  have := itoa_byte v 58 h
  revert this
  decide
def Small (v : Int) : Prop := -999999999999999999 ≤ v ∧ v ≤ 999999999999999999
theorem atoi_itoa {v : Int} (h : Small v) : Lib.atoiAll (Lib.itoa v) = .ok v := by
  obtain ⟨h1, h2⟩ := h
  unfold Lib.itoa
  split
  · rename_i hn
    obtain ⟨c, r, hc⟩ := dec_cons v.natAbs
    have hp := dec_parse v.natAbs (by omega)
    have hm : Lib.parseMag (Lib.decDigits v.natAbs) = .ok v.natAbs := by rw [Lib.parseMag, if_neg (by rw [hc]; simp), hp]
    have e : ((45 : UInt8).toNat = 43 ∨ (45 : UInt8).toNat = 45) := .inr rfl
    simp only [Lib.atoiAll]
    rw [if_pos e, hm]
    simp only
    rw [if_neg (by simp), if_neg (by omega), if_pos (by rfl)]
    congr 1
    omega
  · rename_i hn
    obtain ⟨c, r, hc⟩ := dec_cons v.toNat
    have hp := dec_parse v.toNat (by omega)
    have hm : Lib.parseMag (Lib.decDigits v.toNat) = .ok v.toNat := by rw [Lib.parseMag, if_neg (by rw [hc]; simp), hp]
    have hd := dec_digit v.toNat c (by rw [hc]; simp)
    rw [hc] at hm ⊢
    simp only [Lib.atoiAll]
    rw [if_neg (by omega), hm]
    simp only
    rw [if_neg (by omega), if_neg (by omega), if_neg (by omega)]
    congr 1
    omega
theorem trim_itoa {v : Int} (h : Small v) : (Lib.trimPrefix (Lib.itoa v) [45]).length ≤ 18 := by
  obtain ⟨h1, h2⟩ := h
  unfold Lib.itoa
  split
  · rename_i hn
    have : Lib.trimPrefix (45 :: Lib.decDigits v.natAbs) [45] = Lib.decDigits v.natAbs := by simp [Lib.trimPrefix, Lib.hasPrefix, List.isPrefixOf]
    rw [this, Lib.decDigits_length]
    exact nDigits_le 17 _ (by omega)
  · rename_i hn
    obtain ⟨c, r, hc⟩ := dec_cons v.toNat
    have hd := dec_digit v.toNat c (by rw [hc]; simp)
    have hne : ¬ (45 : UInt8) = c := by rintro rfl; revert hd; decide
    have : Lib.trimPrefix (Lib.decDigits v.toNat) [45] = Lib.decDigits v.toNat := by rw [hc]; simp [Lib.trimPrefix, Lib.hasPrefix, List.isPrefixOf, hne]
    rw [this, Lib.decDigits_length]
    exact nDigits_le 17 _ (by omega)
theorem numS_of {v : Int} (h : Small v) : numS (Lib.itoa v) = (v, true) := by
  have := trim_itoa h
  simp only [numS, atoi_itoa h, beq_self_eq_true, Bool.true_and, Prod.mk.injEq, true_and, decide_eq_true_eq]
  omega
theorem text_read {f : Ft} (h1 : Small f.code) (h2 : Small f.line) (h3 : Small f.col) : readS (textS f) = some f := by
  have e : textS f = keyW f.file ++ 58 :: (Lib.itoa f.line ++ 58 :: (Lib.itoa f.col ++ 58 :: (errS ++ Lib.itoa f.code))) := by simp [textS, errS]
  have hno : (58 : UInt8) ∉ errS ++ Lib.itoa f.code := by
    intro hm
    rcases List.mem_append.1 hm with hm | hm
    · revert hm; decide
    · exact itoa_no _ hm
  have hf := fileS_write f.file (Lib.itoa f.line ++ 58 :: (Lib.itoa f.col ++ 58 :: (errS ++ Lib.itoa f.code)))
  rw [← e] at hf
  unfold readS
  simp only [hf, if_true]
  rw [split_three _ _ _ 58 (itoa_no _) (itoa_no _) hno]
  have n0 : nth [Lib.itoa f.line, Lib.itoa f.col, errS ++ Lib.itoa f.code] 0 = Lib.itoa f.line := rfl
  have n1 : nth [Lib.itoa f.line, Lib.itoa f.col, errS ++ Lib.itoa f.code] 1 = Lib.itoa f.col := rfl
  have n2 : nth [Lib.itoa f.line, Lib.itoa f.col, errS ++ Lib.itoa f.code] 2 = errS ++ Lib.itoa f.code := rfl
  have hp : Lib.hasPrefix (errS ++ Lib.itoa f.code) errS = true := by
    rw [Lib.hasPrefix, List.isPrefixOf_iff_prefix]
    exact List.prefix_append _ _
  have hd : (errS ++ Lib.itoa f.code).drop 7 = Lib.itoa f.code := by
    show (errS ++ Lib.itoa f.code).drop errS.length = _
    rw [List.drop_left]
  rw [n0, n1, n2, hp, hd, if_neg (by simp), numS_of h1, numS_of h2, numS_of h3]
  rfl
theorem parse_text {f : Ft} (h1 : Small f.code) (h2 : Small f.line) (h3 : Small f.col) : parseS (textS f) = (f, 0) := by
  simp only [parseS, text_read h1 h2 h3]
theorem text_inj {f g : Ft} (h1 : Small f.code) (h2 : Small f.line) (h3 : Small f.col) (k1 : Small g.code) (k2 : Small g.line) (k3 : Small g.col) (h : textS f = textS g) : f = g := by
  have := text_read h1 h2 h3
  rw [h, text_read k1 k2 k3] at this
  injection this with this
  exact this.symm
end Go.Proofs.YtkobcbjblllhlaaGreatDoor.C
