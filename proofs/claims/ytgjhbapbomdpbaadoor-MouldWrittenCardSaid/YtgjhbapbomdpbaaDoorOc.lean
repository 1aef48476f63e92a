/- Templates under jobs: two trees whose sections and parts are twins come to the same jobs (plain law). -/
import Derived.Test.YtgjhbapbomdpbaaDoorOa
set_option linter.unusedVariables false
set_option linter.unusedSimpArgs false
set_option maxRecDepth 10000
namespace Go.Proofs.YtgjhbapbomdpbaaDoor.C
open Go.RowKit Go.Proofs.YtgjhbapbomdpbaaDoor.Sh
open RF
/-! ### 1. twins: a node with the same forest in it -/
def Twin (t u : List Nd) (i j : Nat) : Prop := ∃ n K p q, AtN t i n K p ∧ AtN u j n K q
def Fnd (t u : List Nd) (a b : Int) : Prop := (a = -1 ∧ b = -1) ∨ ∃ x y : Nat, a = x ∧ b = y ∧ Twin t u x y
theorem fnd_of {t u : List Nd} {i j : Nat} {n n' : Nd} {K K' : RF} {p q : List Nd} (h1 : AtN t i n K p) (h2 : AtN u j n' K' q) {key : Bs} (h : K.findR key = K'.findR key) : Fnd t u (findS t i key) (findS u j key) := by
  rcases find_at h1 key with ⟨e1, f1⟩ | ⟨x, m, km, p', e1, f1, g1⟩ <;> rcases find_at h2 key with ⟨e2, f2⟩ | ⟨y, m', km', q', e2, f2, g2⟩
  · exact .inl ⟨e1, e2⟩
  · rw [f1, f2] at h; cases h
  · rw [f1, f2] at h; cases h
  · rw [f1, f2] at h
    injection h with h
    injection h with h h'
    subst h h'
    exact .inr ⟨x, y, e1, e2, _, _, _, _, g1, g2⟩
theorem Twin.find {t u : List Nd} {i j : Nat} (h : Twin t u i j) (key : Bs) : Fnd t u (findS t i key) (findS u j key) := by
  obtain ⟨n, K, p, q, h1, h2⟩ := h
  exact fnd_of h1 h2 rfl
theorem Twin.nth {t u : List Nd} {i j : Nat} (h : Twin t u i j) : Sh.nth u (j : Int) = Sh.nth t (i : Int) := by
  obtain ⟨n, K, p, q, h1, h2⟩ := h
  rw [h1.nth, h2.nth]
theorem Twin.part {t u : List Nd} {i j : Nat} (h : Twin t u i j) (ht : isS t = true) (hu : isS u = true) : partS u (j : Int) = partS t (i : Int) := by
  have hn := h.nth
  obtain ⟨n, K, p, q, h1, h2⟩ := h
  have e : partL u j = partL t i := by
    unfold partL
    rw [h1.sub, h2.sub, h1.nth, h2.nth]
  have e2 : partOk u (j : Int) = partOk t (i : Int) := by
    unfold partOk
    rw [hn, ht, hu]
    have := h1.lt
    have := h2.lt
    have e1 : decide ((i : Int) < t.length) = true := decide_eq_true (by omega)
    have e2 : decide ((j : Int) < u.length) = true := decide_eq_true (by omega)
    rw [e1, e2, decide_eq_true (show (0 : Int) ≤ i by omega), decide_eq_true (show (0 : Int) ≤ j by omega)]
  unfold partS
  rw [e2, Int.toNat_natCast, Int.toNat_natCast, e]
theorem Twin.own {t u : List Nd} {i j : Nat} (h : Twin t u i j) (ht : isS t = true) (hu : isS u = true) : ownS u (j : Int) = ownS t (i : Int) := by
  unfold ownS
  rw [h.part ht hu]
namespace RF
def tops : RF → List Nd
  | .nil => []
  | .cons n _ r => n :: r.tops
end RF
theorem tops_flat : ∀ (F : RF), ∀ n ∈ F.tops, n ∈ F.flat
  | .nil, n, h => by cases h
  | .cons x k r, n, h => by
    rw [RF.flat]
    rcases List.mem_cons.1 h with rfl | h
    · exact List.mem_cons_self ..
    · exact List.mem_cons_of_mem _ (List.mem_append_right _ (tops_flat r n h))
theorem posF_tops {t : List Nd} {post : List Nd} {d : Int} (hp : ∀ x, post.head? = some x → x.depth ≤ d) : ∀ (F : RF) (p : Nat), t.drop p = F.flat ++ post → F.at_ d → (posF F p).map (fun n : Nat => nth t (n : Int)) = F.tops
  | .nil, p, _, _ => rfl
  | .cons n k r, p, h, hat => by
    obtain ⟨h1, h2⟩ := atN_cons h hat hp
    rw [posF, List.map_cons, h1.nth, posF_tops hp r _ h2 hat.2.2]
    rfl
theorem AtN.tops {t : List Nd} {i : Nat} {n : Nd} {k : RF} {post : List Nd} (h : AtN t i n k post) : (partsS t i).map (fun n : Nat => Sh.nth t (n : Int)) = k.tops := by
  rw [h.parts]
  exact posF_tops (d := n.depth + 1) (fun x hx => by have := h.post x hx; omega) k (i + 1) h.next h.at_
theorem AtN.mem {t : List Nd} {i : Nat} {n : Nd} {k : RF} {post : List Nd} (h : AtN t i n k post) : n ∈ t ∧ ∀ x ∈ k.flat, x ∈ t := by
  have : ∀ x ∈ t.drop i, x ∈ t := fun x hx => List.mem_of_mem_drop hx
  rw [h.eq] at this
  exact ⟨this n (List.mem_cons_self ..), fun x hx => this x (List.mem_cons_of_mem _ (List.mem_append_left _ hx))⟩
/-- what a node says: itself, or its parts -/
def saysN (n : Nd) (k : RF) : List Nd × Ft :=
  if n.kind = 3 then ([n], ft0) else if n.kind = 1 then ([], placeS 90 n) else
  match k.tops.find? (fun m => m.kind != 3) with
  | some m => ([], placeS 90 m)
  | none => (k.tops, ft0)
theorem texts_says {t : List Nd} {i : Nat} {n : Nd} {k : RF} {post : List Nd} (h : AtN t i n k post) :
    (if (textsS t i).2.2 = false then (([] : List Nd), placeS 90 (nth t (textsS t i).2.1)) else ((textsS t i).1.map (fun n : Nat => nth t (n : Int)), ft0)) = saysN n k := by
  unfold textsS saysN
  rw [h.nth]
  by_cases h3 : n.kind = 3
  · rw [if_pos h3, if_pos h3]
    simp only [Bool.true_eq_false, if_false, List.map_cons, List.map_nil, h.nth]
  rw [if_neg h3, if_neg h3]
  by_cases h1 : n.kind = 1
  · rw [if_pos h1, if_pos h1]
    simp only [if_true, h.nth]
  rw [if_neg h1, if_neg h1, ← h.tops, List.find?_map]
  have e : ((fun m : Nd => m.kind != 3) ∘ fun n : Nat => nth t (n : Int)) = (fun n : Nat => (nth t (n : Int)).kind != 3) := rfl
  rw [e]
  cases hf : (partsS t i).find? (fun n : Nat => (nth t (n : Int)).kind != 3) with
  | none => simp [textsG]
  | some x => simp [textsG]
theorem ext_says {t : List Nd} {i : Nat} {n : Nd} {k : RF} {post : List Nd} (h : AtN t i n k post) : (k.findR kExt = none ∧ extS t i = ([], ft0)) ∨ ∃ m km, k.findR kExt = some (m, km) ∧ extS t i = saysN m km ∧ (m ∈ t ∧ ∀ x ∈ km.flat, x ∈ t) := by
  rcases find_at h kExt with ⟨e1, f1⟩ | ⟨x, m, km, p', e1, f1, g1⟩
  · left
    refine ⟨f1, ?_⟩
    unfold extS
    rw [e1, if_pos (by decide)]
  · right
    refine ⟨m, km, f1, ?_, g1.mem⟩
    rw [← texts_says g1]
    unfold extS
    rw [e1, if_neg (by omega), Int.toNat_natCast]
theorem Twin.ext {t u : List Nd} {i j : Nat} (h : Twin t u i j) : extS u j = extS t i ∧ ∀ n ∈ (extS t i).1, n ∈ t := by
  obtain ⟨n, K, p, q, h1, h2⟩ := h
  rcases ext_says h1 with ⟨f1, e1⟩ | ⟨m, km, f1, e1, g1⟩ <;> rcases ext_says h2 with ⟨f2, e2⟩ | ⟨m', km', f2, e2, g2⟩
  · rw [e1, e2]; exact ⟨rfl, fun n hn => by cases hn⟩
  · rw [f1] at f2; cases f2
  · rw [f1] at f2; cases f2
  · rw [f1] at f2
    injection f2 with f2
    injection f2 with f2 f3
    subst f2 f3
    rw [e1, e2]
    refine ⟨rfl, fun n hn => ?_⟩
    unfold saysN at hn
    split at hn
    · rw [List.mem_singleton.1 hn]; exact g1.1
    split at hn
    · cases hn
    split at hn
    · cases hn
    · exact g1.2 n (tops_flat km n hn)
/-! ### 2. what templates come to -/
theorem loop_congr {tm tm' : MS → Nd → MS × Md} {most : Int} : ∀ (ns : List Nd) (s : MS) (ah : List (List Nd)) (h : Int), (∀ s, ∀ n ∈ ns, tm' s n = tm s n) → loopS tm' most ns s ah h = loopS tm most ns s ah h
  | [], s, ah, h, _ => rfl
  | n :: r, s, ah, h, hn => by
    rw [loopS, loopS, hn s n (List.mem_cons_self ..)]
    split
    · rfl
    · exact loop_congr r _ _ _ fun s x hx => hn s x (List.mem_cons_of_mem _ hx)
theorem whole_congr {tm tm' : MS → Nd → MS × Md} {most : Int} {names : List Nd × Ft} {own : List Nd} {ah : List (List Nd)} {s : MS} (h : ∀ s, ∀ n ∈ names.1, tm' s n = tm s n) : wholeS tm' most names own ah s = wholeS tm most names own ah s := by
  unfold wholeS
  rw [loop_congr names.1 s ah 1 h]
theorem tmpl_congr {t u : List Nd} {T T' : Int} {nd nd' : MS → Nat → MS × Md} (hn : ∀ s i j, Twin t u i j → nd' s j = nd s i) {n : Nd} (hT : Fnd t u (tmAt t T n.text) (tmAt u T' n.text)) (s : MS) : tmplS nd' u T' s n = tmplS nd t T s n := by
  unfold tmplS
  rcases hT with ⟨e1, e2⟩ | ⟨x, y, e1, e2, ht⟩
  · rw [e1, e2, if_pos (by decide), if_pos (by decide)]
  · have n1 : ¬ (x : Int) < 0 := by omega
    have n2 : ¬ (y : Int) < 0 := by omega
    simp only [e1, e2, n1, n2, if_false, Int.toNat_natCast, hn _ x y ht]
theorem node_sim {t u : List Nd} (ht : isS t = true) (hu : isS u = true) {lone : Bs} (hl : ∀ n ∈ t, n.text ≠ lone) {T T' : Int} (hT : ∀ key, key ≠ lone → Fnd t u (tmAt t T key) (tmAt u T' key)) : ∀ (f : Nat) (s : MS) (i j : Nat), Twin t u i j → nodeF u T' f s j = nodeF t T f s i
  | 0, s, i, j, _ => rfl
  | f + 1, s, i, j, h => by
    unfold nodeF
    rw [h.nth, h.ext.1, h.own ht hu]
    split
    · rfl
    · exact whole_congr fun s n hn => tmpl_congr (fun s i j h => node_sim ht hu hl hT f s i j h) (hT _ (hl n (h.ext.2 n hn))) s
/-! ### 3. jobs -/
theorem sec_sim {t u : List Nd} (h0 : Fnd t u (findS t 0 kDef) (findS u 0 kDef)) (h1 : (findS t 0 kTem = -1 ∧ findS u 0 kTem = -1) ∨ ∃ x y : Nat, findS t 0 kTem = x ∧ findS u 0 kTem = y ∧ nth u (y : Int) = nth t (x : Int)) (h2 : Fnd t u (findS t 0 kJob) (findS u 0 kJob)) : secS u = secS t := by
  have e0 : ∀ (a b : Int), Fnd t u a b → (0 ≤ b ∧ (nth u b).kind ≠ 1 ↔ 0 ≤ a ∧ (nth t a).kind ≠ 1) ∧ (0 ≤ a → nth u b = nth t a) := by
    rintro a b (⟨rfl, rfl⟩ | ⟨x, y, rfl, rfl, ht⟩)
    · exact ⟨⟨fun h => absurd h.1 (by decide), fun h => absurd h.1 (by decide)⟩, fun h => absurd h (by decide)⟩
    · rw [ht.nth]
      exact ⟨⟨fun h => ⟨by omega, h.2⟩, fun h => ⟨by omega, h.2⟩⟩, fun _ => rfl⟩
  have e1 : (0 ≤ findS u 0 kTem ∧ (nth u (findS u 0 kTem)).kind ≠ 1 ↔ 0 ≤ findS t 0 kTem ∧ (nth t (findS t 0 kTem)).kind ≠ 1) ∧ (0 ≤ findS t 0 kTem → nth u (findS u 0 kTem) = nth t (findS t 0 kTem)) := by
    rcases h1 with ⟨a, b⟩ | ⟨x, y, a, b, ht⟩
    · rw [a, b]; exact ⟨⟨fun h => absurd h.1 (by decide), fun h => absurd h.1 (by decide)⟩, fun h => absurd h (by decide)⟩
    · rw [a, b, ht]
      exact ⟨⟨fun h => ⟨by omega, h.2⟩, fun h => ⟨by omega, h.2⟩⟩, fun _ => rfl⟩
  obtain ⟨a0, b0⟩ := e0 _ _ h0
  obtain ⟨a1, b1⟩ := e1
  obtain ⟨a2, b2⟩ := e0 _ _ h2
  unfold secS
  by_cases q0 : 0 ≤ findS t 0 kDef ∧ (nth t (findS t 0 kDef)).kind ≠ 1
  · rw [if_pos q0, if_pos (a0.2 q0), b0 q0.1]
  rw [if_neg q0, if_neg (fun h => q0 (a0.1 h))]
  by_cases q1 : 0 ≤ findS t 0 kTem ∧ (nth t (findS t 0 kTem)).kind ≠ 1
  · rw [if_pos q1, if_pos (a1.2 q1), b1 q1.1]
  rw [if_neg q1, if_neg (fun h => q1 (a1.1 h))]
  by_cases q2 : 0 ≤ findS t 0 kJob ∧ (nth t (findS t 0 kJob)).kind ≠ 1
  · rw [if_pos q2, if_pos (a2.2 q2), b2 q2.1]
  rw [if_neg q2, if_neg (fun h => q2 (a2.1 h))]
theorem job_sim {t u : List Nd} (ht : isS t = true) (hu : isS u = true) {lone : Bs} (hl : ∀ n ∈ t, n.text ≠ lone) (h0 : Fnd t u (findS t 0 kDef) (findS u 0 kDef)) (h1 : (findS t 0 kTem = -1 ∧ findS u 0 kTem = -1) ∨ ∃ x y : Nat, findS t 0 kTem = x ∧ findS u 0 kTem = y ∧ nth u (y : Int) = nth t (x : Int)) (h2 : Fnd t u (findS t 0 kJob) (findS u 0 kJob))
    (hT : ∀ key, key ≠ lone → Fnd t u (tmAt t (findS t 0 kTem) key) (tmAt u (findS u 0 kTem) key)) (name : Bs) : jobS u name = jobS t name := by
  have hsec := sec_sim h0 h1 h2
  have hJ : Fnd t u (jobAt t name) (jobAt u name) := by
    unfold jobAt
    rcases h2 with ⟨a, b⟩ | ⟨x, y, a, b, h⟩
    · rw [a, b, if_neg (by decide), if_neg (by decide)]; exact .inl ⟨rfl, rfl⟩
    · rw [a, b, if_pos (by omega), if_pos (by omega), Int.toNat_natCast, Int.toNat_natCast]
      exact h.find name
  unfold jobS
  simp only [ht, hu, hsec, Bool.true_eq_false, if_false]
  by_cases q1 : (secS t).code ≠ 0
  · rw [if_pos q1, if_pos q1]
  rw [if_neg q1, if_neg q1]
  rcases hJ with ⟨a, b⟩ | ⟨x, y, a, b, hj⟩
  · rw [a, b, if_pos (by decide), if_pos (by decide)]
  have hW : ∀ ah, jobW u name ah = jobW t name ah := by
    intro ah
    unfold jobW
    rw [a, b, Int.toNat_natCast, Int.toNat_natCast, hj.ext.1, hj.own ht hu]
    exact congrArg Prod.snd (whole_congr fun s n hn => tmpl_congr (fun s i j h => node_sim ht hu hl hT fuelM s i j h) (hT _ (hl n (hj.ext.2 n hn))) s)
  simp only [hW]
  have n1 : ¬ (x : Int) < 0 := by omega
  have n2 : ¬ (y : Int) < 0 := by omega
  simp only [a, b, n1, n2, if_false, hj.nth]
  by_cases q3 : (nth t (x : Int)).kind ≠ 1
  · rw [if_pos q3, if_pos q3]
  rw [if_neg q3, if_neg q3]
  rcases h0 with ⟨c, d⟩ | ⟨x', y', c, d, hd⟩
  · rw [c, d, if_neg (by decide), if_neg (by decide)]
  · have n3 : (0 : Int) ≤ (x' : Int) := by omega
    have n4 : (0 : Int) ≤ (y' : Int) := by omega
    simp only [c, d, n3, n4, if_true, Int.toNat_natCast, hd.own ht hu]
    rcases hd.find kExt with ⟨c', d'⟩ | ⟨x'', y'', c', d', he⟩
    · rw [c', d', if_neg (by decide), if_neg (by decide)]
    · have n5 : (0 : Int) ≤ (x'' : Int) := by omega
      have n6 : (0 : Int) ≤ (y'' : Int) := by omega
      simp only [c', d', n5, n6, if_true, he.nth]
end Go.Proofs.YtgjhbapbomdpbaaDoor.C
