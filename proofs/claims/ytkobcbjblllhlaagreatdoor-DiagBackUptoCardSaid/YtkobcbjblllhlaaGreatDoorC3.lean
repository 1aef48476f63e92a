/- Quoted texts are read and written as quote's functions say. -/
import Derived.Test.YtkobcbjblllhlaaGreatDoorC2
set_option linter.unusedVariables false
set_option linter.unusedSimpArgs false
set_option maxRecDepth 10000
namespace Go.Proofs.YtkobcbjblllhlaaGreatDoor.C
open Go.RowKit Go.Proofs.YtkobcbjblllhlaaGreatDoor.Sh
theorem readQ_nil (n : Int) (acc : Bs) : readQ [] n acc = ([], n, false) := by rw [readQ]
theorem readQ_cons (b : UInt8) (t : Bs) (n : Int) (acc : Bs) : readQ (b :: t) n acc = if b.toNat = 34 then (acc, n + 1, true) else if b.toNat = 92 then if (escS t).2 = 0 then ([], n, false) else readQ (t.drop (escS t).2.toNat) (n + 1 + (escS t).2) (acc ++ [escU t]) else readQ t (n + 1) (acc ++ [b]) := by
  rw [readQ]
theorem read_cv (s : Bs) (hl : s.length ≤ 4000000000) (w0 : World) : Cv Tryz.prog 47 [S s] (.tuple #[S (quoteR s).1, .int .i64 (quoteR s).2.1, .bool (quoteR s).2.2]) w0 := by
  intro w hk
  refine calls_of_Wp (vs := [_]) Tryz.func47 ?_
  refine Wp.seq (Wp.reads (is := [0, 1, 2]) (Keep.refl _) (Rn.s rfl Yv.as (Rn.s rfl Yv.as (Rn.s rfl Yv.as (Rn.nil)))) ?_)
  refine Wp.seq (Wp.reads (is := [0]) (Keep.refl _) (Rn.s rfl Yv.as (Rn.nil)) ?_)
  refine Wp.seq (Wp.seq (Wp.reads (is := [0]) (Keep.refl _) (Rn.s rfl Yv.as (Rn.nil)) ?_))
  refine Wp.block ?_
  refine Wp.loop (α := (Option Addr × Nat) × (Nat × Bs)) (fun x ρ ds w' => ds = [] ∧ (x.2.1 ≤ s.length ∨ x.2.1 = 1) ∧ 1 ≤ x.2.1 ∧ x.2.2.length ≤ x.2.1 ∧ (s ≠ [] → readQ (s.drop x.2.1) x.2.1 x.2.2 = quoteR s) ∧
    St w [] w' [Ch.row ByE 5 x.1.1 x.1.2 x.2.2] ∧ Sub [(0, S s), (5, .slice x.1.1 x.2.2.length x.1.2), (6, .int .i64 x.2.1)] ρ) (fun x => s.length - x.2.1) ((none, 0), (1, []))
    ⟨rfl, .inr rfl, by simp, by simp, fun h => by rw [quoteR, if_neg h]; rfl, (St.init w).nilrow _ _, rfl, rfl, rfl, trivial⟩ ?_
  rintro ⟨⟨A, c⟩, k, acc⟩ ρ ds w' ⟨rfl, h1, h2, h3, h4, hst, hs⟩
  simp only at h1 h2 h3 h4 hst hs
  refine Wp.forget _ ?_ hs
  refine Wp.seq (Wp.seq (Wp.reads (is := [0, 1, 2, 3]) (Keep.refl _) (Rn.s rfl Yv.mv (Rn.s rfl Yv.mv (Rn.s rfl Yv.len_s (Rn.s rfl (Yv.cmp _ rfl) (Rn.nil))))) ?_))
  refine Wp.cond rfl (fun hlt => ?_) (fun hlt => ?_)
  · have hlt := of_decide_eq_true hlt
    have hne : s ≠ [] := by rintro rfl; simp at hlt; omega
    have hkl : k < s.length := by omega
    have hget : s[k]? = some s[k] := List.getElem?_eq_getElem hkl
    have hby := byt_of hget
    have hd : s.drop k = s[k] :: s.drop (k + 1) := List.drop_eq_getElem_cons hkl
    have h4 := h4 hne
    rw [hd, readQ_cons] at h4
    refine Wp.skip (Wp.seq (Wp.block (Wp.seq (Wp.reads (is := [0, 1, 2]) (Keep.refl _) (Rn.s rfl Yv.mv (Rn.s rfl Yv.mv (Rn.s rfl (Yv.ix (by omega) (by omega)) (Rn.nil)))) ?_))))
    refine Wp.block (Wp.seq (Wp.reads (is := [0, 1]) (Keep.refl _) (Rn.s rfl (Yv.cmp _ rfl) (Rn.s rfl Yv.as (Rn.nil))) ?_))
    refine Wp.cond rfl (fun h5 => ?_) (fun h5 => ?_)
    · have h5 := eq_of_beq h5
      refine Wp.seq (Wp.reads (is := [0, 1, 2, 3, 4, 5, 6]) (Keep.refl _) (Rn.s rfl Yv.mv (Rn.s rfl (Yv.bstr (hst.rd 0)) (Rn.s rfl Yv.mv (Rn.s rfl (Yv.add (by unfold inI; omega)) (Rn.s rfl Yv.as (Rn.s rfl Yv.as (Rn.s rfl Yv.as (Rn.nil)))))))) ?_)
      refine Wp.ret (Fin.ret (Res.three rfl rfl rfl rfl) ⟨?_, hst.keep⟩)
      rw [← h4, if_pos (by omega)]
    have h5 := ne_of_beq_false h5
    rw [if_neg (by omega)] at h4
    refine Wp.seq (Wp.reads (is := [0, 1]) (Keep.refl _) (Rn.s rfl (Yv.cmp _ rfl) (Rn.s rfl Yv.as (Rn.nil))) ?_)
    refine Wp.cond rfl (fun h6 => ?_) (fun h6 => ?_)
    · have h6 := eq_of_beq h6
      rw [if_pos (by omega)] at h4
      obtain ⟨T, hT⟩ : ∃ T, T = s.drop ((k : Int) + 1).toNat := ⟨_, rfl⟩
      have hT' : s.drop (k + 1) = T := by rw [hT]; congr 1
      rw [hT'] at h4
      have he := escS_bd T
      have hTl : T.length = s.length - (k + 1) := by rw [← hT', List.length_drop]
      refine Wp.seq (Wp.regionL (l := [0, 1, 2, 3, 4, 5, 6, 7, 8, 9]) (WO.rd (is := [0, 1, 2, 3]) (js := [4, 5, 6, 7, 8, 9]) (Keep.refl _) (Rn.s rfl Yv.mv (Rn.s rfl Yv.mv (Rn.s rfl (Yv.add (by unfold inI; omega)) (Rn.s rfl (Yv.ss_f (by omega) (by omega)) (Rn.nil))))) (WO.cv rfl (escape_cv' (s.drop ((k : Int) + 1).toNat) w') (Keep.refl _) (FnOk.of Tryz.func65) (fun w1 k1 => WO.rd (is := [5, 6, 7, 8, 9]) (js := []) ((Keep.refl _).trans k1) (Rn.s rfl Yv.mv (Rn.s rfl Yv.ex (Rn.s rfl Yv.ex (Rn.s rfl Yv.as (Rn.s rfl Yv.as (Rn.nil)))))) (WO.done ?_)))))
      rw [← hT]
      refine Wp.seq (Wp.seq (Wp.reads (is := [0, 1]) (Keep.refl _) (Rn.s rfl Yv.mv (Rn.s rfl (Yv.cmp _ rfl) (Rn.nil))) ?_))
      refine Wp.cond rfl (fun h7 => ?_) (fun h7 => ?_)
      · have h7 := eq_of_beq h7
        refine Wp.seq (Wp.reads (is := [0, 1, 2, 3]) (Keep.refl _) (Rn.s rfl Yv.mv (Rn.s rfl Yv.as (Rn.s rfl Yv.as (Rn.s rfl Yv.as (Rn.nil))))) ?_)
        refine Wp.ret (Fin.ret (Res.three rfl rfl rfl rfl) ⟨?_, hst.keep.trans k1⟩)
        rw [← h4, if_pos h7]
        rfl
      · have h7 := ne_of_beq_false h7
        rw [if_neg h7] at h4
        have hst1 := hst.quiet k1
        refine Wp.skip (Wp.seq (Wp.regionL (l := [0, 1, 2, 3, 4]) (WO.rd (is := [0, 1]) (js := [2, 3, 4]) (Keep.refl _) (Rn.s rfl Yv.mv (Rn.s rfl Yv.mv (Rn.nil))) (WO.app ByE [escU T] rfl (fun _ => rfl) hst1 0 (.inl (by simp; omega)) (fun b1 A1 c1 w1 hs1 => WO.rd (is := [4]) (js := []) (Keep.refl _) (Rn.s rfl Yv.as (Rn.nil)) (WO.done ?_))))))
        refine Wp.reads (is := [0, 1, 2, 3]) (Keep.refl _) (Rn.s rfl Yv.mv (Rn.s rfl Yv.mv (Rn.s rfl (Yv.add (by unfold inI; omega)) (Rn.s rfl Yv.as (Rn.nil))))) ?_
        refine Wp.reads (is := [0, 1, 2]) (Keep.refl _) (Rn.s rfl Yv.mv (Rn.s rfl (Yv.add (by unfold inI; omega)) (Rn.s rfl Yv.as (Rn.nil)))) ?_
        refine ⟨((A1, c1), (k + 1 + (escS T).2.toNat, acc ++ [escU T])), ⟨rfl, ?_, ?_, ?_, ?_, hs1, rfl, rfl, ?_, trivial⟩, ?_⟩
        · simp only; omega
        · simp only; omega
        · simp; omega
        · intro _
          simp only
          have hdd : s.drop (k + 1 + (escS T).2.toNat) = T.drop (escS T).2.toNat := by rw [← List.drop_drop, hT']
          rw [← h4, hdd]
          congr 1
          omega
        · show some (Value.int .i64 ((k : Int) + (escS T).2 + 1)) = _
          congr 2
          simp only
          omega
        · simp only; omega
    · have h6 := ne_of_beq_false h6
      rw [if_neg (by omega)] at h4
      refine Wp.regionL (l := [0, 1, 2, 3, 4, 5, 6]) (WO.rd (is := [0, 1, 2, 3]) (js := [4, 5, 6]) (Keep.refl _) (Rn.s rfl Yv.mv (Rn.s rfl Yv.mv (Rn.s rfl Yv.mv (Rn.s rfl (Yv.ix (by omega) (by omega)) (Rn.nil))))) (WO.app ByE [nth s (k : Int)] rfl (fun _ => rfl) hst 0 (.inl (by simp; omega)) (fun b1 A1 c1 w1 hs1 => WO.rd (is := [6]) (js := []) (Keep.refl _) (Rn.s rfl Yv.as (Rn.nil)) (WO.done ?_))))
      refine Wp.reads (is := [0, 1, 2]) (Keep.refl _) (Rn.s rfl Yv.mv (Rn.s rfl (Yv.add (by unfold inI; omega)) (Rn.s rfl Yv.as (Rn.nil)))) ?_
      refine ⟨((A1, c1), (k + 1, acc ++ [nth s (k : Int)])), ⟨rfl, ?_, ?_, ?_, ?_, hs1, rfl, rfl, rfl, trivial⟩, ?_⟩
      · simp only; omega
      · simp only; omega
      · simp; omega
      · intro _
        simp only
        rw [nth_of hget, ← h4]
        congr 1
      · simp only; omega
  · have hlt := of_decide_eq_false hlt
    refine Wp.exit (Wp.seq (Wp.reads (is := [0, 1, 2, 3, 4]) (Keep.refl _) (Rn.s rfl Yv.mv (Rn.s rfl Yv.len_s (Rn.s rfl Yv.as (Rn.s rfl Yv.as (Rn.s rfl Yv.as (Rn.nil)))))) ?_))
    refine Wp.ret (Fin.ret (Res.three rfl rfl rfl rfl) ⟨?_, hst.keep⟩)
    by_cases hne : s = []
    · subst hne; simp [quoteR]; rfl
    · rw [← h4 hne, List.drop_eq_nil_of_le (by omega), readQ_nil]
      have : k = s.length := by
        rcases h1 with h1 | h1
        · omega
        · have := List.length_pos_iff.2 hne; omega
      rw [this]
      rfl
/-- what is written for one byte -/
def hexD (n : Int) : UInt8 := if n < 10 then UInt8.ofNat (48 + n.toNat) else UInt8.ofNat (87 + n.toNat)
def escW (b : UInt8) : Bs :=
  if b.toNat = 34 ∨ b.toNat = 92 then [92, b] else if b.toNat = 10 then [92, 110] else if b.toNat < 32 ∨ b.toNat = 127 then [92, 120, hexD (b.toNat / 16), hexD (b.toNat % 16)] else [b]
def quoteW (s : Bs) : Bs := 34 :: s.flatMap escW ++ [34]
theorem escW_len (b : UInt8) : (escW b).length ≤ 4 := by
  unfold escW
  repeat' split
  all_goals simp
theorem quoteW_len (s : Bs) : (s.flatMap escW).length ≤ 4 * s.length := by
  induction s with
  | nil => simp
  | cons b s ih => have := escW_len b; rw [List.flatMap_cons, List.length_append, List.length_cons]; omega
def hexS : Bs := [48, 49, 50, 51, 52, 53, 54, 55, 56, 57, 97, 98, 99, 100, 101, 102]
theorem hex_all : ∀ n : Fin 256, nth hexS ((n.val : Int) / 2 ^ min (4 : Int).toNat IntKind.u8.bits) = hexD (n.val / 16) ∧ nth hexS (andI .u8 n.val 15) = hexD (n.val % 16) ∧ (n.val : Int) / 2 ^ min (4 : Int).toNat IntKind.u8.bits < 16 ∧ 0 ≤ andI .u8 n.val 15 ∧ andI .u8 n.val 15 < 16 := by decide
theorem write_cv (s : Bs) (hl : s.length ≤ 500000000) (w0 : World) : Cv Tryz.prog 58 [S s] (S (quoteW s)) w0 := by
  intro w hk
  refine calls_of_Wp (vs := [_]) Tryz.func58 ?_
  refine Wp.seq (Wp.reads (is := [0]) (Keep.refl _) (Rn.s rfl Yv.as (Rn.nil)) ?_)
  refine Wp.seq (Wp.regionL (l := [0, 1]) (WO.act (he := Ef.bsl (T := 5) ByE [34] (St.init w) fun b w1 k1 hs1 => WO.rd (is := [1]) (js := []) (Keep.refl _) (Rn.s rfl Yv.as (Rn.nil)) (WO.done ?_))))
  refine Wp.seq (Wp.seq (Wp.reads (is := [0]) (Keep.refl _) (Rn.s rfl Yv.as (Rn.nil)) ?_))
  refine Wp.block ?_
  refine Wp.loop (α := (Option Addr × Nat) × Nat) (fun x ρ ds w' => ds = [] ∧ x.2 ≤ s.length ∧ 
    St w [] w' [Ch.row ByE 5 x.1.1 x.1.2 (34 :: (s.take x.2).flatMap escW)] ∧ Sub [(0, S s), (3, .slice x.1.1 (34 :: (s.take x.2).flatMap escW).length x.1.2), (4, .int .i64 x.2)] ρ) (fun x => s.length - x.2) ((some ⟨b, 0, none⟩, 1), 0)
    ⟨rfl, by simp, hs1, rfl, rfl, rfl, trivial⟩ ?_
  rintro ⟨⟨A, c⟩, k⟩ ρ ds w' ⟨rfl, h1, hst, hs⟩
  simp only at h1 hst hs
  refine Wp.forget _ ?_ hs
  refine Wp.seq (Wp.seq (Wp.reads (is := [0, 1, 2, 3]) (Keep.refl _) (Rn.s rfl Yv.mv (Rn.s rfl Yv.mv (Rn.s rfl Yv.len_s (Rn.s rfl (Yv.cmp _ rfl) (Rn.nil))))) ?_))
  refine Wp.cond rfl (fun hlt => ?_) (fun hlt => ?_)
  · have hlt := of_decide_eq_true hlt
    have hkl : k < s.length := by omega
    have hget : s[k]? = some s[k] := List.getElem?_eq_getElem hkl
    have hby := byt_of hget
    have hnx : (34 : UInt8) :: (s.take (k + 1)).flatMap escW = (34 :: (s.take k).flatMap escW) ++ escW s[k] := by
      rw [List.take_add_one, hget, Option.toList_some, List.flatMap_append, List.flatMap_singleton, List.cons_append]
    have hlen := quoteW_len (s.take k)
    have hlk : (s.take k).length ≤ s.length := by simp; omega
    refine Wp.skip (Wp.seq (Wp.block (Wp.seq (Wp.reads (is := [0, 1, 2, 3]) (Keep.refl _) (Rn.s rfl Yv.mv (Rn.s rfl Yv.mv (Rn.s rfl (Yv.ix (by omega) (by omega)) (Rn.s rfl Yv.as (Rn.nil))))) ?_))))
    refine Wp.mid (fun ρ ds w'' => ds = [] ∧ ∃ A c, St w [] w'' [Ch.row ByE 5 A c (34 :: (s.take (k + 1)).flatMap escW)] ∧ Sub [(0, S s), (3, .slice A (34 :: (s.take (k + 1)).flatMap escW).length c), (4, .int .i64 k)] ρ) ?_ ?_
    · generalize hb : s[k] = b at hnx hby
      have hn : nth s (k : Int) = b := by rw [nth_of hget, hb]
      have bb : 0 ≤ byt s k ∧ byt s k ≤ 255 := byt_bd s k
      have hb' : (byt s k).toNat = b.toNat := by omega
      refine Wp.block (Wp.seq (Wp.reads (is := [0, 1, 2, 3, 4, 5, 6]) (Keep.refl _) (Rn.s rfl Yv.mv (Rn.s rfl (Yv.cmp _ rfl) (Rn.s rfl Yv.mv (Rn.or (is := [3, 4, 5]) (js := [6]) (t := 23) (d := 26) (hg := rfl) (hf := fun h2 => have h2 := ne_of_beq_false h2; Rn.s rfl Yv.mv (Rn.s rfl (Yv.cmp _ rfl) (Rn.s rfl Yv.pick_f ((Rn.e 3 rfl rfl))))) (ht := fun _ => Rn.no rfl (Rn.no rfl (Rn.s rfl Yv.pick_t (Rn.e 3 rfl rfl)))) (k := Rn.s rfl Yv.as (Rn.nil)))))) ?_))
      refine Wp.cond rfl (fun h2 => ?_) (fun h2 => ?_)
      · have h2 : byt s k = 34 ∨ byt s k = 92 := by simpa using h2
        have e : escW b = [92, nth s (k : Int)] := by rw [hn, escW, if_pos (by omega)]
        refine Wp.regionL (l := [0, 1, 2, 3, 4]) (WO.rd (is := [0, 1]) (js := [2, 3, 4]) (Keep.refl _) (Rn.s rfl Yv.mv (Rn.s rfl Yv.mv (Rn.nil))) (WO.app ByE [92, nth s (k : Int)] rfl (fun _ => rfl) hst 0 (.inl (by simp only [List.length_cons, List.length_nil]; omega)) (fun b1 A1 c1 w1 hs1 => WO.rd (is := [4]) (js := []) (Keep.refl _) (Rn.s rfl Yv.as (Rn.nil)) (WO.done ?_))))
        rw [← e, ← hnx] at hs1
        rw [← e, ← hnx]
        exact ⟨rfl, _, _, hs1, rfl, rfl, rfl, trivial⟩
      have h2 : ¬ (byt s k = 34 ∨ byt s k = 92) := by simpa using h2
      refine Wp.seq (Wp.reads (is := [0, 1, 2]) (Keep.refl _) (Rn.s rfl Yv.mv (Rn.s rfl (Yv.cmp _ rfl) (Rn.s rfl Yv.as (Rn.nil)))) ?_)
      refine Wp.cond rfl (fun h3 => ?_) (fun h3 => ?_)
      · have h3 := eq_of_beq h3
        have e : escW b = [92, 110] := by rw [escW, if_neg (by omega), if_pos (by omega)]
        refine Wp.regionL (l := [0, 1, 2, 3]) (WO.rd (is := [0]) (js := [1, 2, 3]) (Keep.refl _) (Rn.s rfl Yv.mv (Rn.nil)) (WO.app ByE [92, 110] rfl (fun _ => rfl) hst 0 (.inl (by simp only [List.length_cons, List.length_nil]; omega)) (fun b1 A1 c1 w1 hs1 => WO.rd (is := [3]) (js := []) (Keep.refl _) (Rn.s rfl Yv.as (Rn.nil)) (WO.done ?_))))
        rw [← e, ← hnx] at hs1
        rw [← e, ← hnx]
        exact ⟨rfl, _, _, hs1, rfl, rfl, rfl, trivial⟩
      have h3 := ne_of_beq_false h3
      refine Wp.seq (Wp.reads (is := [0, 1, 2, 3, 4, 5, 6]) (Keep.refl _) (Rn.s rfl Yv.mv (Rn.s rfl (Yv.cmp _ rfl) (Rn.s rfl Yv.mv (Rn.or (is := [3, 4, 5]) (js := [6]) (t := 40) (d := 43) (hg := rfl) (hf := fun h2 => have h2 := of_decide_eq_false h2; Rn.s rfl Yv.mv (Rn.s rfl (Yv.cmp _ rfl) (Rn.s rfl Yv.pick_f ((Rn.e 3 rfl rfl))))) (ht := fun _ => Rn.no rfl (Rn.no rfl (Rn.s rfl Yv.pick_t (Rn.e 3 rfl rfl)))) (k := Rn.s rfl Yv.as (Rn.nil)))))) ?_)
      refine Wp.cond rfl (fun h4 => ?_) (fun h4 => ?_)
      · have h4 : byt s k < 32 ∨ byt s k = 127 := by simpa using h4
        have hx := hex_all ⟨b.toNat, b.toNat_lt⟩
        simp only at hx
        rw [← hby] at hx
        obtain ⟨x1, x2, x3, x4, x5⟩ := hx
        have e : escW b = [92, 120, nth hexS (byt s k / 2 ^ min (4 : Int).toNat IntKind.u8.bits), nth hexS (andI .u8 (byt s k) 15)] := by
          rw [x1, x2, escW, if_neg (by omega), if_neg (by omega), if_pos (by omega), ← hby]
        refine Wp.draws [8] mixed (WD.rd (is := [0, 1, 2, 3, 4, 5, 6]) (fun _ _ _ _ _ h => h) (Keep.drew _) (Rn.s rfl Yv.mv (Rn.s rfl Yv.mv (Rn.s rfl (Yv.shr (by decide)) (Rn.s rfl (Yv.ix (l := hexS) (Int.ediv_nonneg bb.1 (by decide)) x3) (Rn.s rfl Yv.mv (Rn.s rfl Yv.and (Rn.s rfl (Yv.ix (l := hexS) x4 x5) (Rn.nil)))))))) (WD.app ByE [92, 120, nth hexS (byt s k / 2 ^ min (4 : Int).toNat IntKind.u8.bits), nth hexS (andI .u8 (byt s k) 15)] 7 8 rfl (fun _ => rfl) (hst.quiet (Keep.drew _)) 0 (.inl (by simp only [List.length_cons, List.length_nil]; omega)) (fun b1 A1 c1 w1 hs1 => WD.rd (is := [9]) (fun _ _ _ _ _ h => h) (Keep.refl _) (Rn.s rfl Yv.as (Rn.nil)) (WD.done ?_))))
        rw [← e, ← hnx] at hs1
        rw [← e, ← hnx]
        exact ⟨rfl, _, _, hs1, rfl, rfl, rfl, trivial⟩
      · have h4 : ¬ (byt s k < 32 ∨ byt s k = 127) := by simpa using h4
        have e : escW b = [nth s (k : Int)] := by rw [hn, escW, if_neg (by omega), if_neg (by omega), if_neg (by omega)]
        refine Wp.regionL (l := [0, 1, 2, 3, 4]) (WO.rd (is := [0, 1]) (js := [2, 3, 4]) (Keep.refl _) (Rn.s rfl Yv.mv (Rn.s rfl Yv.mv (Rn.nil))) (WO.app ByE [nth s (k : Int)] rfl (fun _ => rfl) hst 0 (.inl (by simp only [List.length_cons, List.length_nil]; omega)) (fun b1 A1 c1 w1 hs1 => WO.rd (is := [4]) (js := []) (Keep.refl _) (Rn.s rfl Yv.as (Rn.nil)) (WO.done ?_))))
        rw [← e, ← hnx] at hs1
        rw [← e, ← hnx]
        exact ⟨rfl, _, _, hs1, rfl, rfl, rfl, trivial⟩
    · rintro ρ ds w'' ⟨rfl, A, c, hst, hs⟩
      refine Wp.forget _ ?_ hs
      refine Wp.reads (is := [0, 1, 2]) (Keep.refl _) (Rn.s rfl Yv.mv (Rn.s rfl (Yv.add (by unfold inI; omega)) (Rn.s rfl Yv.as (Rn.nil)))) ?_
      exact ⟨((A, c), k + 1), ⟨rfl, by simp only; omega, hst, rfl, rfl, rfl, trivial⟩, by simp only; omega⟩
  · have hlt := of_decide_eq_false hlt
    have hke : s.take k = s := List.take_of_length_le (by omega)
    rw [hke] at hst
    rw [hke]
    have hlen := quoteW_len s
    refine Wp.exit (Wp.seq (Wp.regionL (l := [0, 1, 2, 3, 4]) (WO.rd (is := [0]) (js := [1, 2, 3, 4]) (Keep.refl _) (Rn.s rfl Yv.mv (Rn.nil)) (WO.app ByE [34] rfl (fun _ => rfl) hst 0 (.inl (by simp only [List.length_cons, List.length_nil]; omega)) (fun b1 A1 c1 w1 hs1 => WO.rd (is := [3, 4]) (js := []) (Keep.refl _) (Rn.s rfl (Yv.bstr (hs1.rd 0)) (Rn.s rfl Yv.as (Rn.nil))) (WO.done ?_))))))
    exact Wp.ret (Fin.ret (Res.one rfl rfl) ⟨rfl, hs1.keep⟩)
end Go.Proofs.YtkobcbjblllhlaaGreatDoor.C
