/- Trees laid over trees, as forests. -/
import Derived.Test.YtbmplmehofgocaaDoorRa
import Derived.Test.YtbmplmehofgocaaDoorMa
set_option linter.unusedVariables false
set_option linter.unusedSimpArgs false
set_option maxRecDepth 10000
namespace Go.Proofs.YtbmplmehofgocaaDoor.C
open Go.RowKit Go.Proofs.YtbmplmehofgocaaDoor.Sh
/-! ### 1. forests -/
theorem cong2 {α β γ : Type} (f : α → β → γ) {a a' : α} {b b' : β} (h1 : a = a') (h2 : b = b') : f a b = f a' b' := by rw [h1, h2]
namespace RF
def keysL : RF → List Bs
  | .nil => []
  | .cons n _ r => n.key :: r.keysL
def app : RF → RF → RF
  | .nil, g => g
  | .cons n k r, g => .cons n k (r.app g)
def findR : RF → Bs → Option (Nd × RF)
  | .nil, _ => none
  | .cons n k r, key => if n.key = key then some (n, k) else r.findR key
/-- those whose keys are none of these -/
def rest (ks : List Bs) : RF → RF
  | .nil => .nil
  | .cons n k r => if n.key ∈ ks then r.rest ks else .cons n k (r.rest ks)
def layA : RF → RF → RF
  | .nil, _ => .nil
  | .cons n k r, B => match B.findR n.key with
    | some (m, km) => if n.kind = 1 ∧ m.kind = 1 then .cons m ((k.layA km).app (km.rest k.keysL)) (r.layA B) else .cons m km (r.layA B)
    | none => .cons n k (r.layA B)
def layK (A B : RF) : RF := (A.layA B).app (B.rest A.keysL)
/-- what makes a forest below a node of kind q good -/
def GN : RF → Int → Prop
  | .nil, _ => True
  | .cons n k r, q => (((n.kind == 1 || n.kind == 2) || n.kind == 3) && (decide (1 ≤ n.depth) && decide (n.depth ≤ 32)) && (n.text == [] || n.kind == 3)) = true ∧ leafOk n k = true ∧ (q = 2 → n.key = []) ∧ (q ≠ 2 → n.key.length ≤ 64 ∧ n.key ∉ r.keysL) ∧ k.GN n.kind ∧ r.GN q
end RF
open RF
theorem flat_app : ∀ F G : RF, (F.app G).flat = F.flat ++ G.flat
  | .nil, G => rfl
  | .cons n k r, G => by simp [RF.app, RF.flat, flat_app r G]
theorem keysL_app : ∀ F G : RF, (F.app G).keysL = F.keysL ++ G.keysL
  | .nil, G => rfl
  | .cons n k r, G => by simp [RF.app, RF.keysL, keysL_app r G]
theorem at_app : ∀ (F G : RF) (d : Int), F.at_ d → G.at_ d → (F.app G).at_ d
  | .nil, G, d, _, h => h
  | .cons n k r, G, d, ⟨h1, h2, h3⟩, h => ⟨h1, h2, at_app r G d h3 h⟩
theorem good_iff : ∀ (F : RF) (q : Int) (m : List (Bs × Int)), F.good q m = true ↔ F.GN q ∧ (q ≠ 2 → ∀ key ∈ F.keysL, (alook key m).isSome = false)
  | .nil, q, m => by simp [RF.good, RF.GN, RF.keysL]
  | .cons n k r, q, m => by
    have e : (RF.cons n k r).good q m = ((((n.kind == 1 || n.kind == 2) || n.kind == 3) && (decide (1 ≤ n.depth) && decide (n.depth ≤ 32)) && (n.text == [] || n.kind == 3)) &&
    leafOk n k && (if q = 2 then n.key == [] else !((alook n.key m).isSome || decide ((64 : Int) < n.key.length))) && (k.good n.kind [] && r.good q (if q = 2 then m else aput n.key (w64 ((alook n.key m).getD 0 + 1)) m))) := by
      cases k <;> rfl
    rw [e]
    simp only [RF.GN, RF.keysL]
    generalize (((n.kind == 1 || n.kind == 2) || n.kind == 3) && (decide (1 ≤ n.depth) && decide (n.depth ≤ 32)) && (n.text == [] || n.kind == 3)) = g0
    have i1 := good_iff k n.kind []
    by_cases hq : q = 2
    · have i2 := good_iff r q m
      simp only [if_pos hq]
      simp only [Bool.and_eq_true, i1, i2]
      constructor
      · rintro ⟨⟨⟨a1, a2⟩, a3⟩, a4, a5⟩
        exact ⟨⟨a1, a2, fun _ => by simpa using a3, fun h => (h hq).elim, a4.1, a5.1⟩, fun h => (h hq).elim⟩
      · rintro ⟨⟨a1, a2, a3, a4, a5, a6⟩, a7⟩
        exact ⟨⟨⟨a1, a2⟩, by simpa using a3 hq⟩, ⟨a5, fun _ _ _ => rfl⟩, a6, fun h => (h hq).elim⟩
    · have i2 := good_iff r q (aput n.key (w64 ((alook n.key m).getD 0 + 1)) m)
      simp only [if_neg hq]
      simp only [Bool.and_eq_true, i1, i2]
      constructor
      · rintro ⟨⟨⟨a1, a2⟩, a3⟩, a4, a5, a6⟩
        simp only [Bool.not_eq_true', Bool.or_eq_false_iff, decide_eq_false_iff_not] at a3
        refine ⟨⟨a1, a2, fun h => (hq h).elim, fun _ => ⟨by omega, fun hm => ?_⟩, a4.1, a5⟩, fun _ key hk => ?_⟩
        · have := a6 hq n.key hm
          rw [alook_aput, if_pos rfl] at this
          cases this
        · rcases List.mem_cons.1 hk with rfl | hk
          · exact a3.1
          · have := a6 hq key hk
            rw [alook_aput] at this
            split at this
            · cases this
            · exact this
      · rintro ⟨⟨a1, a2, a3, a4, a5, a6⟩, a7⟩
        obtain ⟨b1, b2⟩ := a4 hq
        have a7 := a7 hq
        refine ⟨⟨⟨a1, a2⟩, ?_⟩, ⟨a5, fun _ _ _ => rfl⟩, a6, fun _ key hk => ?_⟩
        · simp only [Bool.not_eq_true', Bool.or_eq_false_iff, decide_eq_false_iff_not]
          exact ⟨a7 n.key (List.mem_cons_self ..), by omega⟩
        · rw [alook_aput, if_neg]
          · exact a7 key (List.mem_cons_of_mem _ hk)
          · rintro rfl; exact b2 hk
theorem gn_app : ∀ (F G : RF) (q : Int), F.GN q → G.GN q → (q ≠ 2 → ∀ key ∈ F.keysL, key ∉ G.keysL) → (F.app G).GN q
  | .nil, G, q, _, h, _ => h
  | .cons n k r, G, q, ⟨a1, a2, a3, a4, a5, a6⟩, h, hd => by
    refine ⟨a1, a2, a3, fun hq => ⟨(a4 hq).1, ?_⟩, a5, gn_app r G q a6 h fun hq key hk => hd hq key (List.mem_cons_of_mem _ hk)⟩
    rw [keysL_app]
    intro hm
    rcases List.mem_append.1 hm with hm | hm
    · exact (a4 hq).2 hm
    · exact hd hq n.key (List.mem_cons_self ..) hm
theorem rest_keys (ks : List Bs) : ∀ (B : RF) (key : Bs), key ∈ (B.rest ks).keysL ↔ key ∈ B.keysL ∧ key ∉ ks
  | .nil, key => by simp [RF.rest, RF.keysL]
  | .cons n k r, key => by
    rw [RF.rest]
    split
    · rename_i h
      rw [rest_keys ks r key]
      simp only [RF.keysL, List.mem_cons]
      constructor
      · rintro ⟨h1, h2⟩; exact ⟨.inr h1, h2⟩
      · rintro ⟨rfl | h1, h2⟩
        · exact (h2 h).elim
        · exact ⟨h1, h2⟩
    · rename_i h
      simp only [RF.keysL, List.mem_cons, rest_keys ks r key]
      constructor
      · rintro (rfl | ⟨h1, h2⟩)
        · exact ⟨.inl rfl, h⟩
        · exact ⟨.inr h1, h2⟩
      · rintro ⟨rfl | h1, h2⟩
        · exact .inl rfl
        · exact .inr ⟨h1, h2⟩
theorem gn_rest (ks : List Bs) (q : Int) : ∀ (B : RF), B.GN q → (B.rest ks).GN q
  | .nil, h => h
  | .cons n k r, ⟨a1, a2, a3, a4, a5, a6⟩ => by
    rw [RF.rest]
    split
    · exact gn_rest ks q r a6
    · exact ⟨a1, a2, a3, fun hq => ⟨(a4 hq).1, fun hm => (a4 hq).2 ((rest_keys ks r n.key).1 hm).1⟩, a5, gn_rest ks q r a6⟩
theorem at_rest (ks : List Bs) (d : Int) : ∀ (B : RF), B.at_ d → (B.rest ks).at_ d
  | .nil, h => h
  | .cons n k r, ⟨h1, h2, h3⟩ => by
    rw [RF.rest]
    split
    · exact at_rest ks d r h3
    · exact ⟨h1, h2, at_rest ks d r h3⟩
theorem findR_gn {q : Int} : ∀ (B : RF) (key : Bs) (m : Nd) (km : RF), B.GN q → B.findR key = some (m, km) → m.key = key ∧ (((m.kind == 1 || m.kind == 2) || m.kind == 3) && (decide (1 ≤ m.depth) && decide (m.depth ≤ 32)) && (m.text == [] || m.kind == 3)) = true ∧ leafOk m km = true ∧ (q ≠ 2 → m.key.length ≤ 64) ∧ km.GN m.kind
  | .nil, key, m, km, _, h => by cases h
  | .cons n k r, key, m, km, ⟨a1, a2, a3, a4, a5, a6⟩, h => by
    rw [RF.findR] at h
    split at h
    · rename_i hk
      injection h with h
      injection h with h1 h2
      subst h1 h2
      exact ⟨hk, a1, a2, fun hq => (a4 hq).1, a5⟩
    · exact findR_gn r key m km a6 h
theorem findR_at {d : Int} : ∀ (B : RF) (key : Bs) (m : Nd) (km : RF), B.at_ d → B.findR key = some (m, km) → m.depth = d ∧ km.at_ (d + 1)
  | .nil, key, m, km, _, h => by cases h
  | .cons n k r, key, m, km, ⟨h1, h2, h3⟩, h => by
    rw [RF.findR] at h
    split at h
    · injection h with h
      injection h with e1 e2
      subst e1 e2
      exact ⟨h1, h2⟩
    · exact findR_at r key m km h3 h
theorem layA_keys : ∀ (A B : RF) (q : Int), B.GN q → (A.layA B).keysL = A.keysL
  | .nil, B, q, _ => rfl
  | .cons n k r, B, q, hB => by
    rw [RF.layA]
    cases hf : B.findR n.key with
    | none => simp [RF.keysL, layA_keys r B q hB]
    | some x =>
      obtain ⟨m, km⟩ := x
      have := (findR_gn B n.key m km hB hf).1
      simp only
      split
      · simp [RF.keysL, layA_keys r B q hB, this]
      · simp [RF.keysL, layA_keys r B q hB, this]
theorem layA_at : ∀ (A B : RF) (d : Int), A.at_ d → B.at_ d → (A.layA B).at_ d
  | .nil, B, d, _, _ => trivial
  | .cons n k r, B, d, ⟨h1, h2, h3⟩, hB => by
    rw [RF.layA]
    cases hf : B.findR n.key with
    | none => exact ⟨h1, h2, layA_at r B d h3 hB⟩
    | some x =>
      obtain ⟨m, km⟩ := x
      obtain ⟨g1, g2⟩ := findR_at B n.key m km hB hf
      simp only
      split
      · exact ⟨g1, at_app _ _ _ (layA_at k km (d + 1) h2 g2) (at_rest _ _ km g2), layA_at r B d h3 hB⟩
      · exact ⟨g1, g2, layA_at r B d h3 hB⟩
theorem layA_gn : ∀ (A B : RF), A.GN 1 → B.GN 1 → (A.layA B).GN 1
  | .nil, B, _, _ => trivial
  | .cons n k r, B, ⟨a1, a2, a3, a4, a5, a6⟩, hB => by
    have ih := layA_gn r B a6 hB
    have hk := layA_keys r B 1 hB
    rw [RF.layA]
    cases hf : B.findR n.key with
    | none => exact ⟨a1, a2, a3, fun hq => by rw [hk]; exact a4 hq, a5, ih⟩
    | some x =>
      obtain ⟨m, km⟩ := x
      obtain ⟨g1, g2, g3, g4, g5⟩ := findR_gn B n.key m km hB hf
      simp only
      split
      · rename_i hkk
        refine ⟨g2, ?_, fun h => absurd h (by decide), fun hq => by rw [hk, g1]; exact a4 hq, ?_, ih⟩
        · unfold leafOk
          split
          · rfl
          · rw [hkk.2]; rfl
        · rw [hkk.1] at a5
          rw [hkk.2] at g5 ⊢
          refine gn_app _ _ _ (layA_gn k km a5 g5) (gn_rest _ _ km g5) fun _ key h1 h2 => ?_
          rw [layA_keys k km 1 g5] at h1
          exact ((rest_keys _ km key).1 h2).2 h1
      · exact ⟨g2, g3, fun h => absurd h (by decide), fun hq => by rw [hk, g1]; exact a4 hq, g5, ih⟩
theorem layK_gn {A B : RF} (hA : A.GN 1) (hB : B.GN 1) : (A.layK B).GN 1 := by
  refine gn_app _ _ _ (layA_gn A B hA hB) (gn_rest _ _ B hB) fun _ key h1 h2 => ?_
  rw [layA_keys A B 1 hB] at h1
  exact ((rest_keys _ B key).1 h2).2 h1
theorem layK_at {A B : RF} {d : Int} (hA : A.at_ d) (hB : B.at_ d) : (A.layK B).at_ d := at_app _ _ _ (layA_at A B d hA hB) (at_rest _ _ B hB)
/-! ### 2. places in a list -/
def posF : RF → Nat → List Nat
  | .nil, _ => []
  | .cons _ k r, p => p :: posF r (p + 1 + k.flat.length)
theorem endR_app (d : Int) : ∀ (l1 l2 : List Nd) (p : Nat), (∀ n ∈ l1, d < n.depth) → (∀ x, l2.head? = some x → x.depth ≤ d) → endR d (l1 ++ l2) p = p + l1.length
  | [], [], p, _, _ => rfl
  | [], x :: l2, p, _, h => by
    have := h x rfl
    rw [List.nil_append, endR, if_neg (by omega)]; rfl
  | n :: l1, l2, p, h1, h2 => by
    rw [List.cons_append, endR, if_pos (h1 n (List.mem_cons_self ..)), endR_app d l1 l2 (p + 1) (fun x hx => h1 x (List.mem_cons_of_mem _ hx)) h2]
    simp; omega
theorem partsR_skip (d : Int) : ∀ (l1 l2 : List Nd) (p : Nat), (∀ n ∈ l1, d + 1 < n.depth) → partsR d (l1 ++ l2) p = partsR d l2 (p + l1.length)
  | [], l2, p, _ => rfl
  | n :: l1, l2, p, h => by
    have := h n (List.mem_cons_self ..)
    rw [List.cons_append, partsR, if_pos (by omega), if_neg (by omega), partsR_skip d l1 l2 (p + 1) (fun x hx => h x (List.mem_cons_of_mem _ hx))]
    congr 1
    simp; omega
theorem partsR_pos (d : Int) : ∀ (F : RF) (post : List Nd) (p : Nat), F.at_ (d + 1) → (∀ x, post.head? = some x → x.depth ≤ d) → partsR d (F.flat ++ post) p = posF F p
  | .nil, [], p, _, _ => rfl
  | .nil, x :: post, p, _, h => by
    have := h x rfl
    rw [RF.flat, List.nil_append, partsR, if_neg (by omega)]; rfl
  | .cons n k r, post, p, ⟨h1, h2, h3⟩, h => by
    have e : (RF.cons n k r).flat ++ post = n :: (k.flat ++ (r.flat ++ post)) := by simp [RF.flat]
    rw [e, partsR, if_pos (by omega), if_pos h1, partsR_skip d _ _ _ (fun x hx => by have := at_deep k _ h2 x hx; omega), partsR_pos d r post _ h3 h]
    rfl
/-- a node of a list, with what is in it -/
structure AtN (t : List Nd) (i : Nat) (n : Nd) (k : RF) (post : List Nd) : Prop where
  eq : t.drop i = n :: (k.flat ++ post)
  at_ : k.at_ (n.depth + 1)
  post : ∀ x, post.head? = some x → x.depth ≤ n.depth
theorem AtN.lt {t : List Nd} {i : Nat} {n : Nd} {k : RF} {post : List Nd} (h : AtN t i n k post) : i < t.length := by
  have := congrArg List.length h.eq
  simp only [List.length_drop, List.length_cons] at this
  omega
theorem AtN.nth {t : List Nd} {i : Nat} {n : Nd} {k : RF} {post : List Nd} (h : AtN t i n k post) : nth t (i : Int) = n := by
  refine nth_of ?_
  have := congrArg (fun l => l[0]?) h.eq
  simpa using this
theorem AtN.next {t : List Nd} {i : Nat} {n : Nd} {k : RF} {post : List Nd} (h : AtN t i n k post) : t.drop (i + 1) = k.flat ++ post := by
  have := congrArg (List.drop 1) h.eq
  rw [List.drop_drop] at this
  exact this
theorem AtN.endS {t : List Nd} {i : Nat} {n : Nd} {k : RF} {post : List Nd} (h : AtN t i n k post) : C.endS t i = i + 1 + k.flat.length := by
  unfold C.endS
  rw [h.nth, h.next, endR_app n.depth _ _ _ (fun x hx => by have := at_deep k _ h.at_ x hx; omega) h.post]
theorem AtN.sub {t : List Nd} {i : Nat} {n : Nd} {k : RF} {post : List Nd} (h : AtN t i n k post) : subS t i = n :: k.flat := by
  unfold subS
  rw [h.endS, List.drop_take, h.eq]
  have : i + 1 + k.flat.length - i = k.flat.length + 1 := by omega
  rw [this, List.take_succ_cons, List.take_left']
  rfl
theorem AtN.parts {t : List Nd} {i : Nat} {n : Nd} {k : RF} {post : List Nd} (h : AtN t i n k post) : partsS t i = posF k (i + 1) := by
  unfold partsS
  rw [h.nth, h.next]
  exact partsR_pos n.depth k post (i + 1) h.at_ h.post
/-- the first of a forest in a list -/
theorem atN_cons {t : List Nd} {p : Nat} {n : Nd} {k r : RF} {post : List Nd} {d : Int} (h : t.drop p = (RF.cons n k r).flat ++ post) (hat : (RF.cons n k r).at_ d) (hp : ∀ x, post.head? = some x → x.depth ≤ d) :
    AtN t p n k (r.flat ++ post) ∧ t.drop (p + 1 + k.flat.length) = r.flat ++ post := by
  obtain ⟨h1, h2, h3⟩ := hat
  refine ⟨⟨by rw [h]; simp [RF.flat], by rw [h1]; exact h2, ?_⟩, ?_⟩
  · intro x hx
    cases r with
    | nil => have := hp x hx; omega
    | cons y a b => injection hx with hx; subst hx; have := h3.1; omega
  · have := congrArg (List.drop (1 + k.flat.length)) h
    rw [List.drop_drop] at this
    rw [Nat.add_assoc, this]
    simp [RF.flat, Nat.add_comm 1]
def findP : RF → Nat → Bs → Option Nat
  | .nil, _, _ => none
  | .cons n k r, p, key => if n.key = key then some p else findP r (p + 1 + k.flat.length) key
/-- unique keys -/
def uniqF : RF → Prop
  | .nil => True
  | .cons n _ r => n.key ∉ r.keysL ∧ uniqF r
theorem gn_uniq {q : Int} (hq : q ≠ 2) : ∀ F : RF, F.GN q → uniqF F
  | .nil, _ => trivial
  | .cons n k r, ⟨a1, a2, a3, a4, a5, a6⟩ => ⟨(a4 hq).2, gn_uniq hq r a6⟩
theorem findP_none : ∀ (F : RF) (p : Nat) (key : Bs), key ∉ F.keysL → findP F p key = none
  | .nil, _, _, _ => rfl
  | .cons n k r, p, key, h => by
    simp only [RF.keysL, List.mem_cons, not_or] at h
    rw [findP, if_neg (fun e => h.1 e.symm)]
    exact findP_none r _ key h.2
theorem keysR_pos {t : List Nd} {post : List Nd} {d : Int} (hp : ∀ x, post.head? = some x → x.depth ≤ d) : ∀ (F : RF) (p : Nat) (m : List (Bs × Int)), t.drop p = F.flat ++ post → F.at_ d → uniqF F → ∀ key, alook key (keysR t (posF F p) m) = match findP F p key with
    | some x => some (x : Int)
    | none => alook key m
  | .nil, p, m, _, _, _, key => rfl
  | .cons n k r, p, m, h, hat, ⟨u1, u2⟩, key => by
    obtain ⟨h1, h2⟩ := atN_cons h hat hp
    have e : keysR t (posF (.cons n k r) p) m = keysR t (posF r (p + 1 + k.flat.length)) (aput n.key (p : Int) m) := by
      unfold keysR
      rw [posF, List.foldl_cons, h1.nth]
    rw [e, keysR_pos hp r _ _ h2 hat.2.2 u2 key, findP]
    by_cases hk : n.key = key
    · subst hk
      rw [if_pos rfl, findP_none r _ _ u1, alook_aput, if_pos rfl]
    · rw [if_neg hk]
      cases findP r (p + 1 + k.flat.length) key with
      | some x => rfl
      | none => simp only; rw [alook_aput, if_neg hk]
theorem keysR_some {t : List Nd} {post : List Nd} {d : Int} (hp : ∀ x, post.head? = some x → x.depth ≤ d) : ∀ (F : RF) (p : Nat) (m : List (Bs × Int)), t.drop p = F.flat ++ post → F.at_ d → ∀ key, (alook key (keysR t (posF F p) m)).isSome = true ↔ key ∈ F.keysL ∨ (alook key m).isSome = true
  | .nil, p, m, _, _, key => by simp [RF.keysL, posF, keysR]
  | .cons n k r, p, m, h, hat, key => by
    obtain ⟨h1, h2⟩ := atN_cons h hat hp
    have e : keysR t (posF (.cons n k r) p) m = keysR t (posF r (p + 1 + k.flat.length)) (aput n.key (p : Int) m) := by
      unfold keysR
      rw [posF, List.foldl_cons, h1.nth]
    rw [e, keysR_some hp r _ _ h2 hat.2.2 key, alook_aput]
    simp only [RF.keysL, List.mem_cons]
    by_cases hk : n.key = key
    · subst hk; simp
    · rw [if_neg hk]
      constructor
      · rintro (h | h)
        · exact .inl (.inr h)
        · exact .inr h
      · rintro ((h | h) | h)
        · exact (hk h.symm).elim
        · exact .inl h
        · exact .inr h
theorem findP_find {t : List Nd} {post : List Nd} {d : Int} (hp : ∀ x, post.head? = some x → x.depth ≤ d) : ∀ (F : RF) (p : Nat) (key : Bs), t.drop p = F.flat ++ post → F.at_ d → match findP F p key with
    | some x => ∃ m km post', F.findR key = some (m, km) ∧ AtN t x m km post'
    | none => F.findR key = none
  | .nil, p, key, _, _ => rfl
  | .cons n k r, p, key, h, hat => by
    obtain ⟨h1, h2⟩ := atN_cons h hat hp
    rw [findP, RF.findR]
    by_cases hk : n.key = key
    · rw [if_pos hk, if_pos hk]
      exact ⟨n, k, _, rfl, h1⟩
    · rw [if_neg hk, if_neg hk]
      exact findP_find hp r _ key h2 hat.2.2
/-! ### 3. what is laid -/
theorem rest_flat {b : List Nd} {post : List Nd} {d : Int} (hp : ∀ x, post.head? = some x → x.depth ≤ d) (m : List (Bs × Int)) (ks : List Bs) (hm : ∀ key, (alook key m).isSome = true ↔ key ∈ ks) : ∀ (F : RF) (p : Nat), b.drop p = F.flat ++ post → F.at_ d →
    (posF F p).flatMap (fun n : Nat => if (alook (nth b (n : Int)).key m).isSome then [] else subS b n) = (F.rest ks).flat
  | .nil, p, _, _ => rfl
  | .cons n k r, p, h, hat => by
    obtain ⟨h1, h2⟩ := atN_cons h hat hp
    rw [posF, List.flatMap_cons, rest_flat hp m ks hm r _ h2 hat.2.2, h1.nth, h1.sub, RF.rest]
    by_cases hk : n.key ∈ ks
    · rw [if_pos ((hm n.key).2 hk), if_pos hk]; rfl
    · rw [if_neg (fun e => hk ((hm n.key).1 e)), if_neg hk]
      simp [RF.flat]
theorem layA_flat (a b : List Nd) : ∀ (A : RF) (f p : Nat) (post : List Nd) (d : Int) (j : Nat) (nb : Nd) (B : RF) (pb : List Nd), a.drop p = A.flat ++ post → A.at_ d → (∀ x, post.head? = some x → x.depth ≤ d) → A.GN 1 → AtN b j nb B pb → B.GN 1 → a.length - p ≤ f →
    (posF A p).flatMap (fun n : Nat => match alook (nth a (n : Int)).key (keysS b j) with
        | some m => layF a b f n m.toNat
        | none => subS a n) = (A.layA B).flat
  | .nil, f, p, post, d, j, nb, B, pb, _, _, _, _, _, _, _ => rfl
  | .cons n k r, f, p, post, d, j, nb, B, pb, h, hat, hp, hgn, hb, hB, hf => by
    obtain ⟨h1, h2⟩ := atN_cons h hat hp
    obtain ⟨a1, a2, a3, a4, a5, a6⟩ := hgn
    have hpl := h1.lt
    have ihr := layA_flat a b r f _ post d j nb B pb h2 hat.2.2 hp a6 hb hB (by omega)
    rw [posF, List.flatMap_cons, ihr, h1.nth, RF.layA]
    have hkb : alook n.key (keysS b j) = match findP B (j + 1) n.key with
        | some x => some (x : Int)
        | none => alook n.key [] := by
      unfold keysS
      rw [hb.parts]
      exact keysR_pos (d := nb.depth + 1) (fun x hx => by have := hb.post x hx; omega) B (j + 1) [] hb.next hb.at_ (gn_uniq (by decide) B hB) n.key
    have hfp := findP_find (d := nb.depth + 1) (fun x hx => by have := hb.post x hx; omega) B (j + 1) n.key hb.next hb.at_
    cases hx : findP B (j + 1) n.key with
    | none =>
      rw [hx] at hkb hfp
      simp only at hkb hfp
      rw [hkb, hfp, h1.sub]
      simp [alook, RF.flat]
    | some x =>
      rw [hx] at hkb hfp
      simp only at hkb hfp
      obtain ⟨m, km, pm, e1, e2⟩ := hfp
      obtain ⟨g1, g2, g3, g4, g5⟩ := findR_gn B n.key m km hB e1
      rw [hkb, e1]
      simp only [Int.toNat_natCast]
      obtain ⟨f', rfl⟩ : ∃ f', f = f' + 1 := ⟨f - 1, by omega⟩
      rw [layF, h1.nth, e2.nth]
      by_cases hkk : n.kind = 1 ∧ m.kind = 1
      · rw [if_neg (by simp [hkk.1, hkk.2]), if_pos hkk, h1.parts, e2.parts]
        rw [hkk.1] at a5
        rw [hkk.2] at g5
        have q1 := layA_flat a b k f' (p + 1) _ (n.depth + 1) x m km pm h1.next h1.at_ (fun y hy => by have := h1.post y hy; omega) a5 e2 g5 (by omega)
        have q2 := rest_flat (d := m.depth + 1) (fun y hy => by have := e2.post y hy; omega) (keysS a p) k.keysL (fun key => by
          unfold keysS
          rw [h1.parts, keysR_some (d := n.depth + 1) (fun y hy => by have := h1.post y hy; omega) k (p + 1) [] h1.next h1.at_ key]
          simp [alook]) km (x + 1) e2.next e2.at_
        refine (cong2 (fun y z => (m :: y ++ z) ++ (r.layA B).flat) q1 q2).trans ?_
        simp [RF.flat, flat_app]
      · rw [if_pos (by
          by_cases h1' : n.kind = 1
          · exact .inr fun h2' => hkk ⟨h1', h2'⟩
          · exact .inl h1'), if_neg hkk, e2.sub]
        simp [RF.flat]
theorem layS_flat {na nb : Nd} {A B : RF} (hA : A.at_ (na.depth + 1)) (hB : B.at_ (nb.depth + 1)) (gA : A.GN 1) (gB : B.GN 1) (ka : na.kind = 1) (kb : nb.kind = 1) : layS (na :: A.flat) (nb :: B.flat) = nb :: (A.layK B).flat := by
  have h1 : AtN (na :: A.flat) 0 na A [] := ⟨by simp, hA, by simp⟩
  have h2 : AtN (nb :: B.flat) 0 nb B [] := ⟨by simp, hB, by simp⟩
  unfold layS
  have e : (na :: A.flat).length = A.flat.length + 1 := rfl
  rw [e, layF, h1.nth, h2.nth, if_neg (by simp [ka, kb]), h1.parts, h2.parts]
  have q1 := layA_flat (na :: A.flat) (nb :: B.flat) A A.flat.length 1 [] (na.depth + 1) 0 nb B [] h1.next hA (by simp) gA h2 gB (by simp)
  have q2 := rest_flat (d := nb.depth + 1) (by simp) (keysS (na :: A.flat) 0) A.keysL (fun key => by
    unfold keysS
    rw [h1.parts, keysR_some (d := na.depth + 1) (by simp) A (0 + 1) [] h1.next hA key]
    simp [alook]) B (0 + 1) h2.next hB
  refine (cong2 (fun y z => nb :: y ++ z) q1 q2).trans ?_
  simp [RF.layK, flat_app]
/-- trees as roots with good forests -/
theorem is_tree {t : List Nd} (h : isS t = true) : ∃ (a : Nd) (F : RF), t = a :: F.flat ∧ F.at_ 1 ∧ F.GN 1 ∧ rootOk a = true ∧ a.kind = 1 ∧ a.depth = 0 ∧ t.length ≤ 16384 := by
  obtain ⟨a, F, rfl, hat⟩ := is_build h
  have h' := h
  rw [is_forest a F hat] at h'
  simp only [Bool.and_eq_true, decide_eq_true_eq] at h'
  have hr := h'.1.2
  have hr2 := hr
  unfold rootOk at hr2
  simp at hr2
  exact ⟨a, F, rfl, hat, ((good_iff F 1 []).1 h'.2).1, hr, hr2.1.1.1, hr2.1.1.2, h'.1.1⟩
theorem tree_is {a : Nd} {F : RF} (hat : F.at_ 1) (hg : F.GN 1) (hr : rootOk a = true) (hl : (a :: F.flat).length ≤ 16384) : isS (a :: F.flat) = true := by
  rw [is_forest a F hat, hr, decide_eq_true hl, (good_iff F 1 []).2 ⟨hg, fun _ key _ => rfl⟩]
  rfl
theorem layS_is {a b : List Nd} (ha : isS a = true) (hb : isS b = true) (hl : (layS a b).length ≤ 16384) : isS (layS a b) = true := by
  obtain ⟨na, A, rfl, a1, a2, a3, a4, a5, -⟩ := is_tree ha
  obtain ⟨nb, B, rfl, b1, b2, b3, b4, b5, -⟩ := is_tree hb
  have e := layS_flat (A := A) (B := B) (by rw [a5]; exact a1) (by rw [b5]; exact b1) a2 b2 a4 b4
  rw [e] at hl ⊢
  exact tree_is (layK_at a1 b1) (layK_gn a2 b2) b3 hl
end Go.Proofs.YtbmplmehofgocaaDoor.C
