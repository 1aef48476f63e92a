/- Templates under jobs: what a job comes to is a tree without extends; a job that extends nothing, without defaults, is its own part (plain law). -/
import Derived.Test.YtgjhbapbomdpbaaDoorJB
import Derived.Test.YtgjhbapbomdpbaaDoorJ9
set_option linter.unusedVariables false
set_option linter.unusedSimpArgs false
set_option maxRecDepth 10000
namespace Go.Proofs.YtgjhbapbomdpbaaDoor.C
open Go.RowKit Go.Proofs.YtgjhbapbomdpbaaDoor.Sh
open RF
/-! ### 1. a part of a tree -/
abbrev fieldsB (n : Nd) : Bool := (((n.kind == 1 || n.kind == 2) || n.kind == 3) && (decide (1 ≤ n.depth) && decide (n.depth ≤ 32)) && (n.text == [] || n.kind == 3))
/-- a node of a tree, with a good forest in it -/
structure NodeOk (t : List Nd) (i : Nat) (n : Nd) (k : RF) (post : List Nd) : Prop where
  at_ : AtN t i n k post
  f : fieldsB n = true
  leaf : leafOk n k = true
  gn : k.GN n.kind
theorem node_in {t : List Nd} : ∀ (F : RF) (p : Nat) (q d : Int) (post : List Nd), (∀ x, post.head? = some x → x.depth ≤ d) → t.drop p = F.flat ++ post → F.at_ d → F.GN q → ∀ i, p ≤ i → i < p + F.flat.length → ∃ n k post', NodeOk t i n k post'
  | .nil, p, q, d, post, hp, h, hat, hg, i, h1, h2 => by
    simp only [RF.flat, List.length_nil] at h2
    omega
  | .cons n k r, p, q, d, post, hp, h, hat, hg, i, h1, h2 => by
    obtain ⟨a1, a2⟩ := atN_cons h hat hp
    obtain ⟨g1, g2, g3, g4, g5, g6⟩ := hg
    have hl : (RF.cons n k r).flat.length = 1 + k.flat.length + r.flat.length := by simp [RF.flat]; omega
    by_cases e : i = p
    · subst e
      exact ⟨n, k, _, a1, g1, g2, g5⟩
    by_cases e2 : i < p + 1 + k.flat.length
    · exact node_in k (p + 1) n.kind (d + 1) (r.flat ++ post) (fun x hx => by have := a1.post x hx; have := hat.1; omega) a1.next hat.2.1 g5 i (by omega) e2
    · exact node_in r (p + 1 + k.flat.length) q d post hp a2 hat.2.2 g6 i (by omega) (by omega)
theorem tree_node {t : List Nd} (h : isS t = true) {i : Nat} (h0 : 0 < i) (hi : i < t.length) : ∃ n k post, NodeOk t i n k post := by
  obtain ⟨a, F, rfl, f1, f2, f3, f4, f5, f6⟩ := is_tree h
  refine node_in F 1 1 1 [] (by simp) (by simp) f1 f2 i (by omega) ?_
  simp only [List.length_cons] at hi
  omega
namespace RF
def sub (d : Int) : RF → RF
  | .nil => .nil
  | .cons n k r => .cons (subD d n) (k.sub d) (r.sub d)
end RF
theorem flat_sub (d : Int) : ∀ F : RF, (F.sub d).flat = F.flat.map (subD d)
  | .nil => rfl
  | .cons n k r => by simp [RF.sub, RF.flat, flat_sub d k, flat_sub d r]
theorem keysL_sub (d : Int) : ∀ F : RF, (F.sub d).keysL = F.keysL
  | .nil => rfl
  | .cons n k r => by rw [RF.sub, RF.keysL, RF.keysL, keysL_sub d r]; rfl
theorem at_sub (d : Int) : ∀ (F : RF) (e : Int), F.at_ e → (F.sub d).at_ (e - d)
  | .nil, e, _ => trivial
  | .cons n k r, e, ⟨h1, h2, h3⟩ => ⟨by show n.depth - d = e - d; rw [h1], by have := at_sub d k (e + 1) h2; rwa [show e + 1 - d = e - d + 1 by omega] at this, at_sub d r e h3⟩
theorem leaf_sub (d : Int) (n : Nd) (k : RF) : leafOk (subD d n) (k.sub d) = leafOk n k := by cases k <;> rfl
theorem gn_sub (d : Int) : ∀ (F : RF) (q : Int), F.GN q → (∀ n ∈ F.flat, 1 ≤ n.depth - d ∧ n.depth - d ≤ 32) → (F.sub d).GN q
  | .nil, q, _, _ => trivial
  | .cons n k r, q, ⟨a1, a2, a3, a4, a5, a6⟩, h => by
    have hn := h n (by simp [RF.flat])
    refine ⟨?_, by rw [leaf_sub]; exact a2, a3, fun hq => ⟨(a4 hq).1, by rw [keysL_sub]; exact (a4 hq).2⟩, gn_sub d k n.kind a5 (fun x hx => h x (by simp [RF.flat, hx])), gn_sub d r q a6 (fun x hx => h x (by simp [RF.flat, hx]))⟩
    show ((((n.kind == 1 || n.kind == 2) || n.kind == 3) && (decide (1 ≤ n.depth - d) && decide (n.depth - d ≤ 32)) && (n.text == [] || n.kind == 3))) = true
    simp only [Bool.and_eq_true] at a1 ⊢
    exact ⟨⟨a1.1.1, by simp [hn]⟩, a1.2⟩
theorem gn_flat : ∀ (F : RF) (q : Int), F.GN q → ∀ n ∈ F.flat, 1 ≤ n.depth ∧ n.depth ≤ 32
  | .nil, q, _, n, h => by cases h
  | .cons x k r, q, ⟨a1, a2, a3, a4, a5, a6⟩, n, h => by
    rw [RF.flat] at h
    rcases List.mem_cons.1 h with rfl | h
    · simp only [Bool.and_eq_true, decide_eq_true_eq] at a1
      exact a1.1.2
    rcases List.mem_append.1 h with h | h
    · exact gn_flat k _ a5 n h
    · exact gn_flat r _ a6 n h
theorem NodeOk.partL {t : List Nd} {i : Nat} {n : Nd} {k : RF} {post : List Nd} (h : NodeOk t i n k post) : C.partL t i = noKey (subD n.depth n) :: (k.sub n.depth).flat := by
  unfold C.partL
  rw [h.at_.sub, h.at_.nth, flat_sub]
  rfl
theorem NodeOk.root {t : List Nd} {i : Nat} {n : Nd} {k : RF} {post : List Nd} (h : NodeOk t i n k post) (hk : n.kind = 1) : rootOk (noKey (subD n.depth n)) = true := by
  have hf := h.f
  simp only [fieldsB, Bool.and_eq_true, hk] at hf
  have ht : n.text = [] := by simpa using hf.2
  unfold rootOk noKey subD
  simp [hk, ht]
theorem NodeOk.kids {t : List Nd} {i : Nat} {n : Nd} {k : RF} {post : List Nd} (h : NodeOk t i n k post) : (k.sub n.depth).at_ 1 ∧ (k.sub n.depth).GN n.kind := by
  have ha := at_sub n.depth k (n.depth + 1) h.at_.at_
  rw [show n.depth + 1 - n.depth = 1 by omega] at ha
  have hf := h.f
  simp only [fieldsB, Bool.and_eq_true, decide_eq_true_eq] at hf
  refine ⟨ha, gn_sub n.depth k n.kind h.gn fun x hx => ?_⟩
  have h1 := at_deep k _ h.at_.at_ x hx
  have h2 := gn_flat k _ h.gn x hx
  omega
theorem NodeOk.len {t : List Nd} {i : Nat} {n : Nd} {k : RF} {post : List Nd} (h : NodeOk t i n k post) : k.flat.length + 1 ≤ t.length := by
  have := congrArg List.length h.at_.eq
  simp only [List.length_drop, List.length_cons, List.length_append] at this
  omega
theorem part_ok {t : List Nd} (h : isS t = true) {i : Nat} (h0 : 0 < i) (hi : i < t.length) (hk : (nth t (i : Int)).kind = 1) : partS t (i : Int) = (partL t i, 0) ∧ isS (partL t i) = true ∧ (findS (partL t i) 0 kExt < 0 ↔ findS t i kExt < 0) := by
  obtain ⟨n, k, post, hn⟩ := tree_node h h0 hi
  have hk' : n.kind = 1 := by rw [← hn.at_.nth]; exact hk
  obtain ⟨k1, k2⟩ := hn.kids
  have hlen := hn.len
  have hl := (isS_depth h).2.1
  have e := hn.partL
  refine ⟨?_, ?_, ?_⟩
  · unfold partS
    rw [if_pos, Int.toNat_natCast]
    unfold partOk
    simp [h, hk, hi]
  · rw [e]
    refine tree_is k1 (by rw [hk'] at k2; exact k2) (hn.root hk') ?_
    rw [flat_sub]
    simp only [List.length_cons, List.length_map]
    omega
  · have r0 : AtN (partL t i) 0 (noKey (subD n.depth n)) (k.sub n.depth) [] := by
      rw [e]
      refine ⟨by simp, ?_, by simp⟩
      have : (noKey (subD n.depth n)).depth = 0 := by unfold noKey subD; simp
      rw [this]; exact k1
    have f1 := find_at r0 kExt
    have f2 := find_at hn.at_ kExt
    have e3 : (k.sub n.depth).findR kExt = none ↔ k.findR kExt = none := by rw [findR_none, findR_none, keysL_sub]
    rcases f1 with ⟨q1, q2⟩ | ⟨x, m, km, p', q1, q2, -⟩ <;> rcases f2 with ⟨s1, s2⟩ | ⟨y, m', km', p'', s1, s2, -⟩
    · rw [q1, s1]
    · rw [e3.1 q2] at s2; cases s2
    · rw [e3.2 s2] at q2; cases q2
    · rw [q1, s1]; omega
/-! ### 2. trees without extends -/
def GT (x : List Nd) : Prop := isS x = true ∧ findS x 0 kExt < 0
theorem own_gt {t : List Nd} (h : isS t = true) {i : Nat} (h0 : 0 < i) (hi : i < t.length) (hk : (nth t (i : Int)).kind = 1) : GT (ownS t (i : Int)) := by
  obtain ⟨p1, p2, p3⟩ := part_ok h h0 hi hk
  unfold ownS
  rw [p1]
  show GT (withoutS (partL t i) kExt).1
  unfold withoutS
  rw [if_pos p2]
  show GT (withoutL (partL t i) kExt)
  rcases cuts_law p2 kExt with ⟨c1, c2⟩ | ⟨x, u, c1, c2⟩
  · rw [c2]; exact ⟨p2, by omega⟩
  · exact ⟨c2.is, by rw [c2.get]; decide⟩
theorem lay_gt {a b : List Nd} (ha : GT a) (hb : GT b) (hl : ¬ (16384 : Int) < (layS a b).length) : GT (layS a b) := by
  have hl : (layS a b).length ≤ 16384 := by omega
  have his := layS_is ha.1 hb.1 hl
  refine ⟨his, ?_⟩
  have hg := (gets_law ha.1 hb.1 hl kExt [] _ _ _ _ _ _ rfl rfl rfl rfl rfl rfl).1
  rw [getS_one ha.1, getS_one hb.1, getS_one his] at hg
  have h1 := ha.2
  have h2 := hb.2
  omega
theorem fold_gt : ∀ (ts : List (List Nd)) (out : List Nd), GT out → (∀ x ∈ ts, GT x) → (foldS out ts).2 = 0 → GT (foldS out ts).1
  | [], out, ho, _, _ => ho
  | t :: r, out, ho, hts, h => by
    rw [foldS] at h ⊢
    split at h
    · exact absurd h (by decide)
    · rename_i hl
      rw [if_neg hl]
      exact fold_gt r _ (lay_gt ho (hts t (List.mem_cons_self ..)) hl) (fun x hx => hts x (List.mem_cons_of_mem _ hx)) h
theorem merge_gt {ts : List (List Nd)} (hts : ∀ x ∈ ts, GT x) (h : (mergeS ts).2 = 0) : GT (mergeS ts).1 := by
  unfold mergeS at h ⊢
  split at h
  · rename_i hal
    rw [if_pos hal]
    cases ts with
    | nil => exact ⟨ndR_is, by decide⟩
    | cons t r => exact fold_gt r t (hts t (List.mem_cons_self ..)) (fun x hx => hts x (List.mem_cons_of_mem _ hx)) h
  · exact absurd h (by decide)
def InvM (s : MS) : Prop := ∀ key x, alook key s.done = some x → x.fault.code = 0 → GT x.tree
def OkR (r : MS × Md) : Prop := InvM r.1 ∧ (r.2.fault.code = 0 → GT r.2.tree)
theorem ok_fail {s : MS} {f : Ft} (h : InvM s) (hf : f.code ≠ 0) : OkR (s, failM f) := ⟨h, fun q => absurd q hf⟩
theorem tmpl_ok {t : List Nd} {T : Int} {node : MS → Nat → MS × Md} (hT : T < t.length) (hn : ∀ s i, InvM s → 0 < i → i < t.length → OkR (node s i)) {s : MS} (hs : InvM s) (n : Nd) : OkR (tmplS node t T s n) := by
  unfold tmplS
  split
  · exact ok_fail hs (by show (91 : Int) ≠ 0; decide)
  rename_i q1
  split
  · exact ok_fail hs (by show (92 : Int) ≠ 0; decide)
  split
  · rename_i q3
    refine ⟨hs, fun hc => ?_⟩
    obtain ⟨x, hx⟩ := Option.isSome_iff_exists.1 q3
    simp only [hx, Option.getD_some] at hc ⊢
    exact hs _ _ hx hc
  · have hb : 0 < (tmAt t T n.text).toNat ∧ (tmAt t T n.text).toNat < t.length := by
      unfold tmAt at q1 ⊢
      split at q1
      · rename_i h0
        rw [if_pos h0]
        have := findM_bd (t := t) (i := T.toNat) (by omega) n.text
        omega
      · omega
    have ho := hn (underS s n.text) (tmAt t T n.text).toNat hs hb.1 hb.2
    refine ⟨fun key x hx hc => ?_, ho.2⟩
    have hx : alook key (aput n.text (node (underS s n.text) (tmAt t T n.text).toNat).2 (node (underS s n.text) (tmAt t T n.text).toNat).1.done) = some x := hx
    rw [alook_aput] at hx
    split at hx
    · injection hx with hx
      subst hx
      exact ho.2 hc
    · exact ho.1 key x hx hc
theorem fault_ok {most : Int} {n : Nd} {x : Md} (h : (faultS most n x).code = 0) : x.fault.code = 0 ∧ x.height ≤ most := by
  unfold faultS at h
  split at h
  · exact absurd h (by show ¬ (93 : Int) = 0; decide)
  · rename_i q
    exact ⟨h, by
      by_cases hm : most < x.height
      · exact absurd ⟨h, hm⟩ q
      · omega⟩
theorem loop_ok {tm : MS → Nd → MS × Md} {most : Int} (htm : ∀ s n, InvM s → OkR (tm s n)) : ∀ (ns : List Nd) (s : MS) (ah : List (List Nd)) (h : Int), InvM s → (∀ a ∈ ah, GT a) → InvM (loopS tm most ns s ah h).s ∧ ((loopS tm most ns s ah h).f.code = 0 → ∀ a ∈ (loopS tm most ns s ah h).ahead, GT a)
  | [], s, ah, h, hs, ha => ⟨hs, fun _ => ha⟩
  | n :: r, s, ah, h, hs, ha => by
    have h1 := htm s n hs
    rw [loopS]
    by_cases hf : (faultS most n (tm s n).2).code ≠ 0
    · rw [if_pos hf]
      exact ⟨h1.1, fun q => absurd q hf⟩
    · rw [if_neg hf]
      have h0 := fault_ok (Decidable.not_not.1 hf)
      refine loop_ok htm r _ _ _ h1.1 fun a hm => ?_
      rcases List.mem_append.1 hm with hm | hm
      · exact ha a hm
      · rw [List.mem_singleton.1 hm]; exact h1.2 h0.1
theorem whole_ok {tm : MS → Nd → MS × Md} {most : Int} (htm : ∀ s n, InvM s → OkR (tm s n)) (names : List Nd × Ft) {own : List Nd} {ah : List (List Nd)} {s : MS} (ho : GT own) (hs : InvM s) (ha : ∀ a ∈ ah, GT a) : OkR (wholeS tm most names own ah s) := by
  unfold wholeS
  split
  · rename_i q; exact ok_fail hs q
  obtain ⟨l1, l2⟩ := loop_ok (most := most) htm names.1 s ah 1 hs ha
  split
  · rename_i q; exact ok_fail l1 q
  · rename_i q
    refine ⟨l1, fun hc => merge_gt (fun x hx => ?_) hc⟩
    rcases List.mem_append.1 hx with hx | hx
    · exact l2 (Decidable.not_not.1 q) x hx
    · rw [List.mem_singleton.1 hx]; exact ho
theorem node_ok {t : List Nd} {T : Int} (h : isS t = true) (hT : T < t.length) : ∀ (f : Nat) (s : MS) (i : Nat), InvM s → 0 < i → i < t.length → OkR (nodeF t T f s i)
  | 0, s, i, hs, _, _ => ok_fail hs (by decide)
  | f + 1, s, i, hs, h0, hi => by
    unfold nodeF
    split
    · exact ok_fail hs (by show (90 : Int) ≠ 0; decide)
    · rename_i q
      exact whole_ok (fun s n hs => tmpl_ok hT (fun s i a b c => node_ok h hT f s i a b c) hs n) _ (own_gt h h0 hi (Decidable.not_not.1 q)) hs (by simp)
/-! ### 3. a job -/
theorem sec_ok {t : List Nd} (h : (secS t).code = 0) : (0 ≤ findS t 0 kDef → (nth t (findS t 0 kDef)).kind = 1) ∧ (0 ≤ findS t 0 kTem → (nth t (findS t 0 kTem)).kind = 1) ∧ (0 ≤ findS t 0 kJob → (nth t (findS t 0 kJob)).kind = 1) := by
  have h90 : ∀ n : Nd, (placeS 90 n).code ≠ 0 := fun n => by show (90 : Int) ≠ 0; decide
  unfold secS at h
  by_cases q1 : 0 ≤ findS t 0 kDef ∧ (nth t (findS t 0 kDef)).kind ≠ 1
  · rw [if_pos q1] at h; exact absurd h (h90 _)
  rw [if_neg q1] at h
  by_cases q2 : 0 ≤ findS t 0 kTem ∧ (nth t (findS t 0 kTem)).kind ≠ 1
  · rw [if_pos q2] at h; exact absurd h (h90 _)
  rw [if_neg q2] at h
  by_cases q3 : 0 ≤ findS t 0 kJob ∧ (nth t (findS t 0 kJob)).kind ≠ 1
  · rw [if_pos q3] at h; exact absurd h (h90 _)
  exact ⟨fun a => Decidable.not_not.1 fun b => q1 ⟨a, b⟩, fun a => Decidable.not_not.1 fun b => q2 ⟨a, b⟩, fun a => Decidable.not_not.1 fun b => q3 ⟨a, b⟩⟩
theorem jobR_err {x : Md} (h : (jobR x).2.code ≠ 0) : (jobR x).1 = [] := by
  unfold jobR at h ⊢
  split
  · rfl
  · rename_i q; rw [if_neg q] at h; exact absurd rfl h
theorem jobR_ok {x : Md} (h : (jobR x).2.code = 0) : x.fault.code = 0 ∧ (jobR x).1 = x.tree := by
  unfold jobR at h ⊢
  by_cases q : x.fault.code ≠ 0
  · rw [if_pos q] at h; exact absurd h q
  · rw [if_neg q]; exact ⟨Decidable.not_not.1 q, rfl⟩
/-- what a job that comes to something is -/
structure JobIs (t : List Nd) (name : Bs) (x : List Nd) (J : Nat) : Prop where
  is : isS t = true
  sec : (secS t).code = 0
  at_ : jobAt t name = J
  job : 0 ≤ findS t 0 kJob
  pos : 0 < J
  lt : J < t.length
  kind : (nth t (J : Int)).kind = 1
  def_ : 0 ≤ findS t 0 kDef → findS t (findS t 0 kDef).toNat kExt < 0
  eq : (x, ft0) = jobR (jobW t name (if 0 ≤ findS t 0 kDef then [ownS t (findS t 0 kDef)] else []))
  ok : (jobW t name (if 0 ≤ findS t 0 kDef then [ownS t (findS t 0 kDef)] else [])).fault.code = 0
theorem job_is {t : List Nd} {name : Bs} (h : (jobS t name).2.code = 0) : ∃ J, JobIs t name (jobS t name).1 J := by
  obtain ⟨r, hr⟩ : ∃ r, r = jobS t name := ⟨_, rfl⟩
  rw [← hr] at h ⊢
  unfold jobS at hr
  by_cases q0 : isS t = false
  · rw [if_pos q0] at hr; rw [hr] at h; exact absurd h (by decide)
  rw [if_neg q0] at hr
  by_cases q1 : (secS t).code ≠ 0
  · rw [if_pos q1] at hr; rw [hr] at h; exact absurd h q1
  rw [if_neg q1] at hr
  by_cases q2 : jobAt t name < 0
  · rw [if_pos q2] at hr; rw [hr] at h; exact absurd h (by decide)
  rw [if_neg q2] at hr
  by_cases q3 : (nth t (jobAt t name)).kind ≠ 1
  · rw [if_pos q3] at hr; rw [hr] at h; exact absurd h (by show ¬ (90 : Int) = 0; decide)
  rw [if_neg q3] at hr
  have q0 : isS t = true := by simpa using q0
  have hj : 0 ≤ findS t 0 kJob := by
    unfold jobAt at q2
    split at q2
    · assumption
    · omega
  have h0 := (isS_depth q0).1
  have hb := findM_bd (t := t) (i := 0) h0 kJob
  have hb2 := findM_bd (t := t) (i := (findS t 0 kJob).toNat) (by omega) name
  have eJ : jobAt t name = findS t (findS t 0 kJob).toNat name := by unfold jobAt; rw [if_pos hj]
  rw [eJ] at q2 q3
  have hdef : 0 ≤ findS t 0 kDef → findS t (findS t 0 kDef).toNat kExt < 0 := by
    intro hd
    rw [if_pos hd] at hr
    by_cases q4 : 0 ≤ findS t (findS t 0 kDef).toNat kExt
    · rw [if_pos q4] at hr; rw [hr] at h; exact absurd h (by show ¬ (90 : Int) = 0; decide)
    · omega
  have hr2 : r = jobR (jobW t name (if 0 ≤ findS t 0 kDef then [ownS t (findS t 0 kDef)] else [])) := by
    by_cases hd : 0 ≤ findS t 0 kDef
    · rw [if_pos hd] at hr ⊢
      rw [if_neg (by have := hdef hd; omega)] at hr
      exact hr
    · rw [if_neg hd] at hr ⊢
      exact hr
  have ho : (jobR (jobW t name (if 0 ≤ findS t 0 kDef then [ownS t (findS t 0 kDef)] else []))).2.code = 0 := by rw [← hr2]; exact h
  obtain ⟨o1, o2⟩ := jobR_ok ho
  refine ⟨(findS t (findS t 0 kJob).toNat name).toNat, q0, Decidable.not_not.1 q1, by rw [eJ]; omega, hj, by omega, by omega, ?_, hdef, ?_, o1⟩
  · have e : (((findS t (findS t 0 kJob).toNat name).toNat : Nat) : Int) = findS t (findS t 0 kJob).toNat name := by omega
    rw [e]; exact Decidable.not_not.1 q3
  · rw [hr2]
    unfold jobR
    rw [if_neg (by rw [o1]; simp)]
theorem job_err {t : List Nd} {name : Bs} (h : (jobS t name).2.code ≠ 0) : (jobS t name).1 = [] := by
  unfold jobS at h ⊢
  split
  · rfl
  split
  · rfl
  split
  · rfl
  split
  · rfl
  rename_i q0 q1 q2 q3
  rw [if_neg q0, if_neg q1, if_neg q2, if_neg q3] at h
  split
  · rename_i q4
    rw [if_pos q4] at h
    split
    · rfl
    · rename_i q5
      rw [if_neg q5] at h
      exact jobR_err h
  · rename_i q4
    rw [if_neg q4] at h
    exact jobR_err h
theorem get_job {t : List Nd} {name : Bs} {x : List Nd} {J : Nat} (h : JobIs t name x J) : getS t [kDef] = findS t 0 kDef ∧ getS t [kJob, name] = J ∧ getS t [kJob, name, kExt] = findS t J kExt := by
  refine ⟨getS_one h.is _, ?_, ?_⟩
  · rw [getS_two h.is, if_neg (by have := h.job; omega)]
    unfold stepS
    rw [Int.toNat_of_nonneg h.job, if_pos ((sec_ok h.sec).2.2 h.job)]
    have := h.at_
    unfold jobAt at this
    rw [if_pos h.job] at this
    exact this
  · obtain ⟨a, F, e, f1, f2, f3, f4, f5, f6⟩ := is_tree h.is
    have hk : (nth t ((0 : Nat) : Int)).kind = 1 := by rw [e, nth_nat]; exact f4
    have h0 : stepS t 0 kJob = findS t 0 kJob := by unfold stepS; rw [if_pos hk]
    have h1 : stepS t (findS t 0 kJob).toNat name = J := by
      unfold stepS
      rw [Int.toNat_of_nonneg h.job, if_pos ((sec_ok h.sec).2.2 h.job)]
      have := h.at_
      unfold jobAt at this
      rw [if_pos h.job] at this
      exact this
    have h2 : stepS t J kExt = findS t J kExt := by unfold stepS; rw [if_pos h.kind]
    have hb := findM_bd (t := t) (i := J) h.lt kExt
    unfold getS
    rw [if_pos h.is, getGo, h0, if_neg (by have := h.job; omega), getGo, h1, if_neg (by omega), Int.toNat_natCast, getGo, h2]
    split
    · omega
    · rw [getGo]; omega
theorem jobW_ok {t : List Nd} {name : Bs} {x : List Nd} {J : Nat} (h : JobIs t name x J) (ah : List (List Nd)) (hah : ∀ a ∈ ah, GT a) (ho : (jobW t name ah).fault.code = 0) : GT (jobW t name ah).tree := by
  have hb := findM_bd (t := t) (i := 0) (isS_depth h.is).1 kTem
  have hw : OkR (wholeS (tmplS (nodeF t (findS t 0 kTem) fuelM) t (findS t 0 kTem)) 16 (extS t (jobAt t name).toNat) (ownS t (jobAt t name)) ah ⟨[], []⟩) := by
    refine whole_ok (fun s n hs => tmpl_ok hb.2.1 (fun s i a b c => node_ok h.is hb.2.1 fuelM s i a b c) hs n) _ ?_ (fun key x hx => by cases hx) hah
    rw [h.at_]
    exact own_gt h.is h.pos h.lt h.kind
  exact hw.2 ho
theorem plain_law {t : List Nd} {name : Bs} (h : (jobS t name).2.code = 0) : isS (jobS t name).1 = true ∧ getS (jobS t name).1 [kExt] < 0 ∧ 0 ≤ getS t [kJob, name] ∧
    (getS t [kDef] < 0 → getS t [kJob, name, kExt] < 0 → partS t (getS t [kJob, name]) = ((jobS t name).1, 0)) := by
  obtain ⟨J, hJ⟩ := job_is h
  obtain ⟨x, hx⟩ : ∃ x, x = (jobS t name).1 := ⟨_, rfl⟩
  rw [← hx] at hJ ⊢
  obtain ⟨g1, g2, g3⟩ := get_job hJ
  have h0 := (isS_depth hJ.is).1
  have hbd := findM_bd (t := t) (i := 0) h0 kDef
  have hah : ∀ a ∈ (if 0 ≤ findS t 0 kDef then [ownS t (findS t 0 kDef)] else []), GT a := by
    intro a ha
    split at ha
    · rename_i hd
      rw [List.mem_singleton.1 ha]
      have hk := (sec_ok hJ.sec).1 hd
      have := own_gt hJ.is (i := (findS t 0 kDef).toNat) (by omega) (by omega) (by rw [Int.toNat_of_nonneg hd]; exact hk)
      rw [Int.toNat_of_nonneg hd] at this
      exact this
    · cases ha
  have hgt := jobW_ok hJ _ hah hJ.ok
  have ex : x = (jobW t name (if 0 ≤ findS t 0 kDef then [ownS t (findS t 0 kDef)] else [])).tree := by
    have e := hJ.eq
    unfold jobR at e
    rw [if_neg (by rw [hJ.ok]; simp)] at e
    exact congrArg Prod.fst e
  rw [← ex] at hgt
  refine ⟨hgt.1, by rw [getS_one hgt.1]; exact hgt.2, by rw [g2]; omega, fun hd he => ?_⟩
  rw [g1] at hd
  rw [g3] at he
  obtain ⟨p1, p2, p3⟩ := part_ok hJ.is hJ.pos hJ.lt hJ.kind
  rw [g2, p1]
  have eown : ownS t (J : Int) = partL t J := by
    unfold ownS
    rw [p1]
    show (withoutS (partL t J) kExt).1 = _
    unfold withoutS
    rw [if_pos p2]
    show withoutL (partL t J) kExt = _
    unfold withoutL
    rw [if_pos (p3.2 he)]
  have em := (empty_law p2).1
  have ew : (jobW t name []).tree = partL t J := by
    unfold jobW
    rw [hJ.at_, Int.toNat_natCast, eown]
    have ee : extS t J = ([], ft0) := by unfold extS; rw [if_pos he]
    rw [ee]
    unfold wholeS
    rw [if_neg (by show ¬ (0 : Int) ≠ 0; simp)]
    have el : loopS (tmplS (nodeF t (findS t 0 kTem) fuelM) t (findS t 0 kTem)) 16 [] ⟨[], []⟩ [] 1 = ⟨⟨[], []⟩, ft0, [], 1⟩ := rfl
    rw [el, if_neg (by show ¬ (0 : Int) ≠ 0; simp), List.nil_append, em]
  rw [if_neg (by omega)] at ex
  rw [ex, ew]
end Go.Proofs.YtgjhbapbomdpbaaDoor.C
