/- Trees over trees: what a path leads to, and a part cut out and laid over again. -/
import Derived.Test.YtbmplmehofgocaaDoorRf
import Derived.Test.YtbmplmehofgocaaDoorBd
set_option linter.unusedVariables false
set_option linter.unusedSimpArgs false
set_option maxRecDepth 10000
namespace Go.Proofs.YtbmplmehofgocaaDoor.C
open Go.RowKit Go.Proofs.YtbmplmehofgocaaDoor.Sh
open RF
/-! ### 1. a key's place -/
theorem findP_pos {t : List Nd} {post : List Nd} {d : Int} (hp : ∀ x, post.head? = some x → x.depth ≤ d) (key : Bs) : ∀ (F : RF) (p : Nat), t.drop p = F.flat ++ post → F.at_ d → (posF F p).find? (fun n : Nat => (nth t (n : Int)).key == key) = findP F p key
  | .nil, p, _, _ => rfl
  | .cons n k r, p, h, hat => by
    obtain ⟨h1, h2⟩ := atN_cons h hat hp
    rw [posF, List.find?_cons, h1.nth, findP, findP_pos hp key r _ h2 hat.2.2]
    by_cases hk : n.key = key
    · rw [if_pos hk, beq_iff_eq.2 hk]
    · rw [if_neg hk, beq_eq_false_iff_ne.2 hk]
theorem find_at {t : List Nd} {i : Nat} {n : Nd} {k : RF} {post : List Nd} (h : AtN t i n k post) (key : Bs) :
    (findS t i key = -1 ∧ k.findR key = none) ∨ ∃ (x : Nat) (m : Nd) (km : RF) (post' : List Nd), findS t i key = x ∧ k.findR key = some (m, km) ∧ AtN t x m km post' := by
  have hp : ∀ x, post.head? = some x → x.depth ≤ n.depth + 1 := fun x hx => by have := h.post x hx; omega
  have e : findS t i key = orN (findP k (i + 1) key) := by
    unfold findS
    rw [h.parts, findP_pos hp key k (i + 1) h.next h.at_]
  have hf := findP_find hp k (i + 1) key h.next h.at_
  cases hx : findP k (i + 1) key with
  | none =>
    rw [hx] at hf e
    exact .inl ⟨e, hf⟩
  | some x =>
    rw [hx] at hf e
    obtain ⟨m, km, post', g1, g2⟩ := hf
    exact .inr ⟨x, m, km, post', e, g1, g2⟩
theorem itemI_sign (key : Bs) : ∀ (l1 l2 : List Nat) (no : Nat), l1.length = l2.length → (0 ≤ itemI key l1 no ↔ 0 ≤ itemI key l2 no)
  | [], [], _, _ => Iff.rfl
  | [], _ :: _, _, h => by cases h
  | _ :: _, [], _, h => by cases h
  | a :: l1, b :: l2, no, h => by
    rw [itemI, itemI]
    split
    · constructor <;> intro <;> omega
    · exact itemI_sign key l1 l2 (no + 1) (by simpa using h)
theorem posF_len : ∀ (F : RF) (p q : Nat), (posF F p).length = (posF F q).length
  | .nil, _, _ => rfl
  | .cons n k r, p, q => by
    rw [posF, posF, List.length_cons, List.length_cons, posF_len r _ (q + 1 + k.flat.length)]
theorem step_sign {t u : List Nd} {i j : Nat} {n : Nd} {k : RF} {p q : List Nd} (h1 : AtN t i n k p) (h2 : AtN u j n k q) (more : Bs) : 0 ≤ stepS t i more ↔ 0 ≤ stepS u j more := by
  unfold stepS
  rw [h1.nth, h2.nth]
  split
  · rcases find_at h1 more with ⟨e1, f1⟩ | ⟨x, m, km, p', e1, f1, -⟩ <;> rcases find_at h2 more with ⟨e2, f2⟩ | ⟨y, m', km', q', e2, f2, -⟩
    · rw [e1, e2]
    · rw [f1] at f2; cases f2
    · rw [f1] at f2; cases f2
    · rw [e1, e2]; omega
  · split
    · exact Iff.rfl
    · rw [h1.parts, h2.parts]
      exact itemI_sign more _ _ 0 (posF_len k _ _)
/-! ### 2. a key in what is laid -/
theorem findR_none : ∀ (F : RF) (key : Bs), F.findR key = none ↔ key ∉ F.keysL
  | .nil, key => by simp [RF.findR, RF.keysL]
  | .cons n k r, key => by
    rw [RF.findR]
    by_cases hk : n.key = key
    · rw [if_pos hk]; simp [RF.keysL, hk]
    · rw [if_neg hk, findR_none r key]
      simp only [RF.keysL, List.mem_cons, not_or]
      exact ⟨fun h => ⟨fun e => hk e.symm, h⟩, fun h => h.2⟩
theorem findR_app : ∀ (F G : RF) (key : Bs), (F.app G).findR key = match F.findR key with
    | some x => some x
    | none => G.findR key
  | .nil, G, key => rfl
  | .cons n k r, G, key => by
    rw [RF.app, RF.findR, RF.findR, findR_app r G key]
    by_cases hk : n.key = key
    · rw [if_pos hk, if_pos hk]
    · rw [if_neg hk, if_neg hk]
theorem findR_rest (ks : List Bs) : ∀ (B : RF) (key : Bs), (B.rest ks).findR key = if key ∈ ks then none else B.findR key
  | .nil, key => by simp [RF.rest, RF.findR]
  | .cons n k r, key => by
    rw [RF.rest, RF.findR]
    by_cases h : n.key ∈ ks
    · rw [if_pos h, findR_rest ks r key]
      by_cases hk : n.key = key
      · subst hk; rw [if_pos h, if_pos h]
      · rw [if_neg hk]
    · rw [if_neg h, RF.findR, findR_rest ks r key]
      by_cases hk : n.key = key
      · subst hk; rw [if_pos rfl, if_pos rfl, if_neg h]
      · rw [if_neg hk, if_neg hk]
theorem findR_layA : ∀ (A B : RF) (key : Bs), B.GN 1 → (A.layA B).findR key = match A.findR key with
    | none => none
    | some (n, k) => match B.findR key with
      | none => some (n, k)
      | some (m, km) => if n.kind = 1 ∧ m.kind = 1 then some (m, k.layK km) else some (m, km)
  | .nil, B, key, _ => rfl
  | .cons n k r, B, key, hB => by
    have ih := findR_layA r B key hB
    rw [RF.layA, RF.findR]
    cases hf : B.findR n.key with
    | none =>
      simp only
      rw [RF.findR, ih]
      by_cases hk : n.key = key
      · subst hk; rw [if_pos rfl, if_pos rfl, hf]
      · rw [if_neg hk, if_neg hk]
    | some x =>
      obtain ⟨m, km⟩ := x
      have hm := (findR_gn B n.key m km hB hf).1
      simp only
      by_cases hkk : n.kind = 1 ∧ m.kind = 1
      · rw [if_pos hkk, RF.findR, ih, hm]
        by_cases hk : n.key = key
        · subst hk; rw [if_pos rfl, if_pos rfl, hf]
          simp only
          rw [if_pos hkk]; rfl
        · rw [if_neg hk, if_neg hk]
      · rw [if_neg hkk, RF.findR, ih, hm]
        by_cases hk : n.key = key
        · subst hk; rw [if_pos rfl, if_pos rfl, hf]
          simp only
          rw [if_neg hkk]
        · rw [if_neg hk, if_neg hk]
theorem findR_layK (A B : RF) (key : Bs) (hB : B.GN 1) : (A.layK B).findR key = match A.findR key with
    | none => B.findR key
    | some (n, k) => match B.findR key with
      | none => some (n, k)
      | some (m, km) => if n.kind = 1 ∧ m.kind = 1 then some (m, k.layK km) else some (m, km) := by
  unfold RF.layK
  rw [findR_app, findR_layA A B key hB, findR_rest]
  cases hA : A.findR key with
  | none =>
    simp only
    rw [if_neg ((findR_none A key).1 hA)]
  | some x =>
    obtain ⟨n, k⟩ := x
    simp only
    cases hB : B.findR key with
    | none => rfl
    | some y =>
      obtain ⟨m, km⟩ := y
      simp only
      by_cases hkk : n.kind = 1 ∧ m.kind = 1
      · rw [if_pos hkk]; exact (if_pos hkk).symm
      · rw [if_neg hkk]; exact (if_neg hkk).symm
/-! ### 3. paths of one and two keys -/
theorem getS_one {t : List Nd} (h : isS t = true) (key : Bs) : getS t [key] = findS t 0 key := by
  obtain ⟨a, F, rfl, f1, f2, f3, f4, f5, f6⟩ := is_tree h
  have hk : (nth (a :: F.flat) ((0 : Nat) : Int)).kind = 1 := by rw [nth_nat]; exact f4
  have hb := findS_bd (t := a :: F.flat) (i := 0) (by simp) key
  unfold getS
  rw [if_pos h, getGo]
  unfold stepS
  rw [if_pos hk]
  split
  · omega
  · rw [getGo]; omega
theorem getS_two {t : List Nd} (h : isS t = true) (key more : Bs) : getS t [key, more] = if findS t 0 key < 0 then -1 else stepS t (findS t 0 key).toNat more := by
  obtain ⟨a, F, rfl, f1, f2, f3, f4, f5, f6⟩ := is_tree h
  have hk : (nth (a :: F.flat) ((0 : Nat) : Int)).kind = 1 := by rw [nth_nat]; exact f4
  have hb := findS_bd (t := a :: F.flat) (i := 0) (by simp) key
  have e : stepS (a :: F.flat) 0 key = findS (a :: F.flat) 0 key := by unfold stepS; rw [if_pos hk]
  unfold getS
  rw [if_pos h, getGo, e]
  split
  · rfl
  · rename_i h1
    have hb2 := stepS_bd (a :: F.flat) (findS (a :: F.flat) 0 key).toNat more (by omega)
    rw [getGo]
    split
    · omega
    · rw [getGo]; omega
theorem gets_law {a b : List Nd} (ha : isS a = true) (hb : isS b = true) (hl : (layS a b).length ≤ 16384) (key more : Bs) (x y z p q r : Int) (hx : x = getS a [key]) (hy : y = getS b [key]) (hz : z = getS (layS a b) [key]) (hp : p = getS a [key, more]) (hq : q = getS b [key, more]) (hr : r = getS (layS a b) [key, more]) :
    (0 ≤ z ↔ 0 ≤ x ∨ 0 ≤ y) ∧
    (¬ (0 ≤ x ∧ 0 ≤ y ∧ (nth a x).kind = 1 ∧ (nth b y).kind = 1) → 0 ≤ y → nth (layS a b) z = nth b y ∧ (0 ≤ r ↔ 0 ≤ q)) ∧
    (y < 0 → 0 ≤ x → nth (layS a b) z = nth a x ∧ (0 ≤ r ↔ 0 ≤ p)) ∧
    (0 ≤ x → 0 ≤ y → (nth a x).kind = 1 → (nth b y).kind = 1 → (nth (layS a b) z).kind = 1 ∧ (0 ≤ r ↔ 0 ≤ p ∨ 0 ≤ q) ∧ (0 ≤ r → 0 ≤ q → nth (layS a b) r = nth b q) ∧ (0 ≤ r → q < 0 → nth (layS a b) r = nth a p)) := by
  have hT := layS_is ha hb hl
  rw [getS_one ha] at hx
  rw [getS_one hb] at hy
  rw [getS_one hT] at hz
  rw [getS_two ha, ← hx] at hp
  rw [getS_two hb, ← hy] at hq
  rw [getS_two hT, ← hz] at hr
  obtain ⟨na, A, rfl, a1, a2, a3, a4, a5, -⟩ := is_tree ha
  obtain ⟨nb, B, rfl, b1, b2, b3, b4, b5, -⟩ := is_tree hb
  have e := layS_flat (A := A) (B := B) (by rw [a5]; exact a1) (by rw [b5]; exact b1) a2 b2 a4 b4
  have gK := layK_gn a2 b2
  have tK : (A.layK B).at_ 1 := layK_at a1 b1
  have rA : AtN (na :: A.flat) 0 na A [] := ⟨by simp, by rw [a5]; exact a1, by simp⟩
  have rB : AtN (nb :: B.flat) 0 nb B [] := ⟨by simp, by rw [b5]; exact b1, by simp⟩
  have rT : AtN (layS (na :: A.flat) (nb :: B.flat)) 0 nb (A.layK B) [] := by rw [e]; exact ⟨by simp, by rw [b5]; exact tK, by simp⟩
  have hk := findR_layK A B key b2
  generalize layS (na :: A.flat) (nb :: B.flat) = T at *
  generalize na :: A.flat = a at *
  generalize nb :: B.flat = b at *
  rcases find_at rA key with ⟨e1, f1⟩ | ⟨i, n, k, p1, e1, f1, g1⟩
  · rcases find_at rB key with ⟨e2, f2⟩ | ⟨j, m, km, p2, e2, f2, g2⟩
    · rw [f1, f2] at hk
      rcases find_at rT key with ⟨e3, f3⟩ | ⟨l, o, ko, p3, e3, f3, g3⟩
      · rw [e1] at hx; rw [e2] at hy; rw [e3] at hz
        subst hx hy hz
        refine ⟨by decide, fun _ h => absurd h (by decide), fun _ h => absurd h (by decide), fun h => absurd h (by decide)⟩
      · rw [f3] at hk; cases hk
    · rw [f1, f2] at hk
      rcases find_at rT key with ⟨e3, f3⟩ | ⟨l, o, ko, p3, e3, f3, g3⟩
      · rw [f3] at hk; cases hk
      · rw [f3] at hk
        injection hk with hk
        injection hk with h1 h2
        subst h1 h2
        rw [e1] at hx; rw [e2] at hy; rw [e3] at hz
        subst hx hy hz
        rw [if_neg (by omega), Int.toNat_natCast] at hq hr
        refine ⟨by omega, fun _ _ => ⟨by rw [g2.nth, g3.nth], ?_⟩, fun h => by omega, fun h => absurd h (by decide)⟩
        rw [hq, hr]
        exact step_sign g3 g2 more
  · rcases find_at rB key with ⟨e2, f2⟩ | ⟨j, m, km, p2, e2, f2, g2⟩
    · rw [f1, f2] at hk
      rcases find_at rT key with ⟨e3, f3⟩ | ⟨l, o, ko, p3, e3, f3, g3⟩
      · rw [f3] at hk; cases hk
      · rw [f3] at hk
        injection hk with hk
        injection hk with h1 h2
        subst h1 h2
        rw [e1] at hx; rw [e2] at hy; rw [e3] at hz
        subst hx hy hz
        rw [if_neg (by omega), Int.toNat_natCast] at hp hr
        refine ⟨by omega, fun _ h => absurd h (by decide), fun _ _ => ⟨by rw [g1.nth, g3.nth], ?_⟩, fun _ h => absurd h (by decide)⟩
        rw [hp, hr]
        exact step_sign g3 g1 more
    · rw [f1, f2] at hk
      simp only at hk
      rcases find_at rT key with ⟨e3, f3⟩ | ⟨l, o, ko, p3, e3, f3, g3⟩
      · rw [f3] at hk; split at hk <;> cases hk
      · rw [f3] at hk
        rw [e1] at hx; rw [e2] at hy; rw [e3] at hz
        subst hx hy hz
        rw [if_neg (by omega), Int.toNat_natCast] at hp hq hr
        by_cases hkk : n.kind = 1 ∧ m.kind = 1
        · rw [if_pos hkk] at hk
          injection hk with hk
          injection hk with h1 h2
          subst h1 h2
          refine ⟨by omega, fun h => ?_, fun h => by omega, fun _ _ _ _ => ?_⟩
          · exact (h ⟨by omega, by omega, by rw [g1.nth]; exact hkk.1, by rw [g2.nth]; exact hkk.2⟩).elim
          have gkm : km.GN 1 := by
            have := (findR_gn B key o km b2 f2).2.2.2.2
            rw [hkk.2] at this
            exact this
          have hk2 := findR_layK k km more gkm
          have s1 : stepS a i more = findS a i more := by unfold stepS; rw [g1.nth, if_pos hkk.1]
          have s2 : stepS b j more = findS b j more := by unfold stepS; rw [g2.nth, if_pos hkk.2]
          have s3 : stepS T l more = findS T l more := by unfold stepS; rw [g3.nth, if_pos hkk.2]
          rw [s1] at hp; rw [s2] at hq; rw [s3] at hr
          refine ⟨by rw [g3.nth]; exact hkk.2, ?_⟩
          rcases find_at g1 more with ⟨u1, v1⟩ | ⟨i', n', k', p1', u1, v1, w1⟩ <;> rcases find_at g2 more with ⟨u2, v2⟩ | ⟨j', m', km', p2', u2, v2, w2⟩ <;> rcases find_at g3 more with ⟨u3, v3⟩ | ⟨l', o', ko', p3', u3, v3, w3⟩ <;> rw [v1, v2, v3] at hk2 <;> simp only at hk2
          · rw [hp, hq, hr, u1, u2, u3]
            exact ⟨by decide, fun h => absurd h (by decide), fun h => absurd h (by decide)⟩
          · cases hk2
          · cases hk2
          · injection hk2 with hk2
            injection hk2 with h1 h2
            subst h1 h2
            rw [hp, hq, hr, u1, u2, u3]
            exact ⟨by omega, fun _ _ => by rw [w2.nth, w3.nth], fun _ h => by omega⟩
          · cases hk2
          · injection hk2 with hk2
            injection hk2 with h1 h2
            subst h1 h2
            rw [hp, hq, hr, u1, u2, u3]
            exact ⟨by omega, fun _ h => absurd h (by decide), fun _ h => by rw [w1.nth, w3.nth]⟩
          · split at hk2 <;> cases hk2
          · have : o' = m' := by
              split at hk2
              · injection hk2 with hk2
                injection hk2
              · injection hk2 with hk2
                injection hk2
            subst this
            rw [hp, hq, hr, u1, u2, u3]
            exact ⟨by omega, fun _ _ => by rw [w2.nth, w3.nth], fun _ h => by omega⟩
        · rw [if_neg hkk] at hk
          injection hk with hk
          injection hk with h1 h2
          subst h1 h2
          refine ⟨by omega, fun _ _ => ⟨by rw [g2.nth, g3.nth], ?_⟩, fun h => by omega, fun _ _ h1 h2 => ?_⟩
          · rw [hq, hr]
            exact step_sign g3 g2 more
          · rw [g1.nth] at h1; rw [g2.nth] at h2
            exact (hkk ⟨h1, h2⟩).elim
/-! ### 4. cut out, and laid over -/
theorem findP_split : ∀ (F : RF) (p : Nat) (key : Bs) (x : Nat), findP F p key = some x → ∃ (pre : RF) (n : Nd) (k r : RF), F = pre.app (.cons n k r) ∧ key ∉ pre.keysL ∧ n.key = key ∧ x = p + pre.flat.length
  | .nil, p, key, x, h => by cases h
  | .cons n k r, p, key, x, h => by
    rw [findP] at h
    split at h
    · rename_i hk
      injection h with h
      exact ⟨.nil, n, k, r, rfl, by simp [RF.keysL], hk, by simp [RF.flat, h]⟩
    · rename_i hk
      obtain ⟨pre, n', k', r', e1, e2, e3, e4⟩ := findP_split r _ key x h
      refine ⟨.cons n k pre, n', k', r', by rw [e1]; rfl, ?_, e3, ?_⟩
      · simp only [RF.keysL, List.mem_cons, not_or]
        exact ⟨fun e => hk e.symm, e2⟩
      · rw [e4]; simp [RF.flat]; omega
theorem at_app_inv : ∀ (F G : RF) (d : Int), (F.app G).at_ d → F.at_ d ∧ G.at_ d
  | .nil, G, d, h => ⟨trivial, h⟩
  | .cons n k r, G, d, ⟨h1, h2, h3⟩ => ⟨⟨h1, h2, (at_app_inv r G d h3).1⟩, (at_app_inv r G d h3).2⟩
theorem gn_app_inv : ∀ (F G : RF) (q : Int), (F.app G).GN q → F.GN q ∧ G.GN q ∧ (q ≠ 2 → ∀ key ∈ F.keysL, key ∉ G.keysL)
  | .nil, G, q, h => ⟨trivial, h, fun _ key h => by cases h⟩
  | .cons n k r, G, q, ⟨a1, a2, a3, a4, a5, a6⟩ => by
    obtain ⟨i1, i2, i3⟩ := gn_app_inv r G q a6
    rw [keysL_app] at a4
    refine ⟨⟨a1, a2, a3, fun hq => ⟨(a4 hq).1, fun h => (a4 hq).2 (List.mem_append.2 (.inl h))⟩, a5, i1⟩, i2, fun hq key hk => ?_⟩
    rcases List.mem_cons.1 hk with rfl | hk
    · exact fun h => (a4 hq).2 (List.mem_append.2 (.inr h))
    · exact i3 hq key hk
theorem layA_free : ∀ (A : RF) (n : Nd) (k : RF), n.key ∉ A.keysL → A.layA (.cons n k .nil) = A
  | .nil, n, k, _ => rfl
  | .cons m km r, n, k, h => by
    simp only [RF.keysL, List.mem_cons, not_or] at h
    rw [RF.layA, layA_free r n k h.2]
    have : (RF.cons n k .nil).findR m.key = none := by rw [RF.findR, if_neg h.1]; rfl
    rw [this]
/-- what is left where a key's part is cut out, and that part laid over it -/
structure CutsTo (t : List Nd) (key : Bs) (x : Nat) (u : List Nd) : Prop where
  dep : (nth t (x : Int)).depth = 1
  lt : x < t.length
  pos : 0 < x
  is : isS (withoutL t key) = true
  eq : withoutL t key = t.take x ++ t.drop (endS t x)
  get : findS (withoutL t key) 0 key = -1
  merge : mergeS [withoutL t key, ndR :: (t.take (endS t x)).drop x] = (u, 0)
  len : u.length = t.length
  ak : (t.take x ++ t.drop (endS t x)).map ak = (u.take (withoutL t key).length ++ u.drop t.length).map ak
theorem cuts_law {t : List Nd} (h : isS t = true) (key : Bs) : (findS t 0 key = -1 ∧ withoutL t key = t) ∨ ∃ (x : Nat) (u : List Nd), findS t 0 key = x ∧ CutsTo t key x u := by
  obtain ⟨a, F, rfl, f1, f2, f3, f4, f5, f6⟩ := is_tree h
  have r0 : AtN (a :: F.flat) 0 a F [] := ⟨by simp, by rw [f5]; exact f1, by simp⟩
  have e : findS (a :: F.flat) 0 key = orN (findP F 1 key) := by
    unfold findS
    rw [r0.parts, findP_pos (d := a.depth + 1) (by simp) key F (0 + 1) r0.next r0.at_]
  cases hx : findP F 1 key with
  | none =>
    rw [hx] at e
    refine .inl ⟨e, ?_⟩
    unfold withoutL
    rw [e, if_pos (by decide)]
  | some x =>
    rw [hx] at e
    obtain ⟨pre, n, k, r, rfl, hn1, hn2, rfl⟩ := findP_split F 1 key x hx
    have e : findS (a :: (pre.app (RF.cons n k r)).flat) 0 key = ((1 + pre.flat.length : Nat) : Int) := e
    obtain ⟨t1, t2⟩ := at_app_inv pre _ 1 f1
    obtain ⟨s1, s2, s3⟩ := gn_app_inv pre _ 1 f2
    obtain ⟨t3, t4, t5⟩ := t2
    obtain ⟨c1, c2, c3, c4, c5, c6⟩ := s2
    have hfl : (pre.app (RF.cons n k r)).flat = pre.flat ++ n :: (k.flat ++ r.flat) := by rw [flat_app]; rfl
    obtain ⟨t, ht⟩ : ∃ t, t = a :: (pre.flat ++ n :: (k.flat ++ r.flat)) := ⟨_, rfl⟩
    have htl : t.length = 1 + pre.flat.length + (1 + k.flat.length + r.flat.length) := by rw [ht]; simp; omega
    rw [hfl, ← ht] at e h f6 ⊢
    have hdr : t.drop (1 + pre.flat.length) = n :: (k.flat ++ r.flat) := by
      rw [ht, Nat.add_comm, List.drop_succ_cons, List.drop_left]
    have htk : t.take (1 + pre.flat.length) = a :: pre.flat := by
      rw [ht, Nat.add_comm, List.take_succ_cons, List.take_left]
    have hat : AtN t (1 + pre.flat.length) n k r.flat := ⟨hdr, by rw [t3]; exact t4, fun x hx => by
      cases r with
      | nil => cases hx
      | cons y ky ry => injection hx with hx; subst hx; rw [t5.1, t3]; omega⟩
    have hend := hat.endS
    have hdr2 : t.drop (1 + pre.flat.length + 1 + k.flat.length) = r.flat := by
      rw [Nat.add_assoc (1 + pre.flat.length) 1, ← List.drop_drop, hdr, Nat.add_comm 1, List.drop_succ_cons, List.drop_left]
    have hw : withoutL t key = a :: (pre.app r).flat := by
      unfold withoutL cutL
      rw [e, if_neg (by omega), Int.toNat_natCast, hend, htk, hdr2, flat_app]; rfl
    have hwl : (a :: (pre.app r).flat).length = 1 + pre.flat.length + r.flat.length := by rw [flat_app]; simp; omega
    have gW : (pre.app r).GN 1 := gn_app pre r 1 s1 c6 fun hq key hk hr => s3 hq key hk (by simp [RF.keysL, hr])
    have tW : (pre.app r).at_ 1 := at_app pre r 1 t1 t5
    have hW : isS (a :: (pre.app r).flat) = true := tree_is tW gW f3 (by omega)
    have hnk : n.key ∉ (pre.app r).keysL := by
      rw [keysL_app, List.mem_append]
      rintro (h | h)
      · rw [hn2] at h; exact hn1 h
      · exact (c4 (by decide)).2 h
    have gN : (RF.cons n k .nil).GN 1 := ⟨c1, c2, c3, fun hq => ⟨(c4 hq).1, by simp [RF.keysL]⟩, c5, trivial⟩
    have tN : (RF.cons n k .nil).at_ 1 := ⟨t3, t4, trivial⟩
    have hsub : (t.take (1 + pre.flat.length + 1 + k.flat.length)).drop (1 + pre.flat.length) = n :: k.flat := by
      have := hat.sub
      unfold subS at this
      rw [hend] at this
      exact this
    have hN : isS (ndR :: (RF.cons n k .nil).flat) = true := tree_is tN gN (by decide) (by simp [RF.flat]; omega)
    have hNf : (RF.cons n k .nil).flat = n :: k.flat := by simp [RF.flat]
    have hlay := layS_flat (na := a) (nb := ndR) (A := pre.app r) (B := .cons n k .nil) (by rw [f5]; exact tW) tN gW gN f4 rfl
    have hK : (pre.app r).layK (.cons n k .nil) = (pre.app r).app (.cons n k .nil) := by
      unfold RF.layK
      rw [layA_free _ n k hnk, RF.rest, if_neg hnk]; rfl
    rw [hK, flat_app (pre.app r) (.cons n k .nil), hNf] at hlay
    rw [hNf] at hN
    have hul : (ndR :: ((pre.app r).flat ++ (n :: k.flat))).length = t.length := by rw [htl, flat_app]; simp; omega
    refine .inr ⟨1 + pre.flat.length, ndR :: ((pre.app r).flat ++ (n :: k.flat)), e, ?_⟩
    refine ⟨by rw [hat.nth]; exact t3, hat.lt, by omega, by rw [hw]; exact hW, ?_, ?_, ?_, hul, ?_⟩
    · rw [hw, hend, htk, hdr2, flat_app]; rfl
    · rw [hw]
      have r1 : AtN (a :: (pre.app r).flat) 0 a (pre.app r) [] := ⟨by simp, by rw [f5]; exact tW, by simp⟩
      rcases find_at r1 key with ⟨g1, -⟩ | ⟨_, m, km, _, -, g2, -⟩
      · exact g1
      · have := (findR_none (pre.app r) key).2 (by rw [← hn2]; exact hnk)
        rw [this] at g2
        cases g2
    · rw [hw, hend, hsub]
      unfold mergeS
      rw [if_pos (by simp [hW, hN])]
      simp only
      rw [foldS, hlay, if_neg (by omega), foldS]
    · rw [hw, hend, htk, hdr2]
      have e1 : (ndR :: ((pre.app r).flat ++ (n :: k.flat))).drop t.length = [] := List.drop_eq_nil_of_le (by omega)
      have e2 : (ndR :: ((pre.app r).flat ++ (n :: k.flat))).take (a :: (pre.app r).flat).length = ndR :: (pre.app r).flat := by
        rw [List.length_cons, List.take_succ_cons, List.take_left]
      rw [e1, e2, List.append_nil, flat_app]
      have hr := f3
      unfold rootOk at hr
      simp at hr
      simp [C.ak, hr.1.1.1, hr.1.1.2, hr.1.2, hr.2]
end Go.Proofs.YtbmplmehofgocaaDoor.C
