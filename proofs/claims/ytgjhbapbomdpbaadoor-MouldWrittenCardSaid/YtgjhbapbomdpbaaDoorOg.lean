/- Templates under jobs: defaults, a template and a job that are written out come to the three laid over one another (plain law). -/
import Derived.Test.YtgjhbapbomdpbaaDoorOd
set_option linter.unusedVariables false
set_option linter.unusedSimpArgs false
set_option maxRecDepth 10000
namespace Go.Proofs.YtgjhbapbomdpbaaDoor.C
open Go.RowKit Go.Proofs.YtgjhbapbomdpbaaDoor.Sh
open RF
/-! ### 1. how large it is, what is laid -/
theorem rest_rest (k1 k2 : List Bs) : ∀ B : RF, (B.rest k1).rest k2 = B.rest (k1 ++ k2)
  | .nil => rfl
  | .cons n k r => by
    have ih := rest_rest k1 k2 r
    rw [RF.rest, RF.rest]
    by_cases h : n.key ∈ k1
    · rw [if_pos h, if_pos (List.mem_append_left _ h), ih]
    · rw [if_neg h, RF.rest, ih]
      by_cases h2 : n.key ∈ k2
      · rw [if_pos h2, if_pos (List.mem_append_right _ h2)]
      · rw [if_neg h2, if_neg (by rw [List.mem_append]; exact fun q => q.elim h h2)]
theorem layA_skip (x : Bs) (B : RF) : ∀ A : RF, x ∉ A.keysL → A.layA (B.rest [x]) = A.layA B
  | .nil, _ => rfl
  | .cons n k r, h => by
    simp only [RF.keysL, List.mem_cons, not_or] at h
    have ih := layA_skip x B r h.2
    have e : (B.rest [x]).findR n.key = B.findR n.key := by
      rw [findR_rest, if_neg (by simpa using fun q => h.1 q.symm)]
    rw [RF.layA, RF.layA, e, ih]
theorem rest_len1 (ks : List Bs) : ∀ B : RF, (B.rest ks).flat.length ≤ B.flat.length
  | .nil => Nat.le_refl _
  | .cons n k r => by
    have ih := rest_len1 ks r
    rw [RF.rest]
    split
    · simp only [RF.flat, List.length_cons, List.length_append]; omega
    · simp only [RF.flat, List.length_cons, List.length_append]; omega
theorem rest_len2 (x : Bs) : ∀ (B : RF) (m : Nd) (km : RF), B.findR x = some (m, km) → (B.rest [x]).flat.length + (1 + km.flat.length) ≤ B.flat.length
  | .nil, m, km, h => by cases h
  | .cons n k r, m, km, h => by
    rw [RF.findR] at h
    by_cases hk : n.key = x
    · rw [if_pos hk] at h
      injection h with h
      injection h with h1 h2
      subst h1 h2
      have ih := rest_len1 [x] r
      rw [RF.rest, if_pos (by simp [hk])]
      simp only [RF.flat, List.length_cons, List.length_append]
      omega
    · rw [if_neg hk] at h
      have ih := rest_len2 x r m km h
      rw [RF.rest, if_neg (by simpa using hk)]
      simp only [RF.flat, List.length_cons, List.length_append]
      omega
theorem lay_len : ∀ (A B : RF), A.GN 1 → (A.layA B).flat.length + (B.rest A.keysL).flat.length ≤ A.flat.length + B.flat.length
  | .nil, B, _ => by
    rw [RF.keysL, rest_none]
    simp [RF.layA, RF.flat]
  | .cons n k r, B, ⟨a1, a2, a3, a4, a5, a6⟩ => by
    have hn := (a4 (by decide)).2
    have ih := lay_len r (B.rest [n.key]) a6
    rw [layA_skip n.key B r hn, rest_rest] at ih
    have e : [n.key] ++ r.keysL = (RF.cons n k r).keysL := rfl
    rw [e] at ih
    have h1 := rest_len1 [n.key] B
    rw [RF.layA]
    cases hf : B.findR n.key with
    | none =>
      simp only [RF.flat, List.length_cons, List.length_append]
      omega
    | some x =>
      obtain ⟨m, km⟩ := x
      have h2 := rest_len2 n.key B m km hf
      simp only
      split
      · rename_i hk
        rw [hk.1] at a5
        have ihk := lay_len k km a5
        simp only [RF.flat, flat_app, List.length_cons, List.length_append]
        omega
      · simp only [RF.flat, List.length_cons, List.length_append]
        omega
theorem layK_len {A B : RF} (h : A.GN 1) : (A.layK B).flat.length ≤ A.flat.length + B.flat.length := by
  unfold RF.layK
  rw [flat_app, List.length_append]
  exact lay_len A B h
/-- a tree, as a root and a forest -/
structure TF (a : Nd) (F : RF) : Prop where
  at_ : F.at_ 1
  gn : F.GN 1
  root : rootOk a = true
theorem TF.kind {a : Nd} {F : RF} (h : TF a F) : a.kind = 1 ∧ a.depth = 0 ∧ a.key = [] ∧ a.text = [] := by
  have hr := h.root
  unfold rootOk at hr
  simp at hr
  exact ⟨hr.1.1.1, hr.1.1.2, hr.1.2, hr.2⟩
theorem TF.is {a : Nd} {F : RF} (h : TF a F) (hl : F.flat.length ≤ 16000) : isS (a :: F.flat) = true := tree_is h.at_ h.gn h.root (by simp only [List.length_cons]; omega)
theorem TF.lay {a b : Nd} {A B : RF} (ha : TF a A) (hb : TF b B) : layS (a :: A.flat) (b :: B.flat) = b :: (A.layK B).flat ∧ TF b (A.layK B) :=
  ⟨layS_flat (by rw [ha.kind.2.1]; exact ha.at_) (by rw [hb.kind.2.1]; exact hb.at_) ha.gn hb.gn ha.kind.1 hb.kind.1, layK_at ha.at_ hb.at_, layK_gn ha.gn hb.gn, hb.root⟩
theorem merge3 {a b c : Nd} {A B C : RF} (ha : TF a A) (hb : TF b B) (hc : TF c C) (hl : A.flat.length + B.flat.length + C.flat.length ≤ 16000) : mergeS [a :: A.flat, b :: B.flat, c :: C.flat] = (c :: ((A.layK B).layK C).flat, 0) := by
  obtain ⟨l1, h1⟩ := ha.lay hb
  obtain ⟨l2, h2⟩ := h1.lay hc
  have n1 := layK_len (B := B) ha.gn
  have n2 := layK_len (B := C) h1.gn
  unfold mergeS
  rw [if_pos (by simp [ha.is (by omega), hb.is (by omega), hc.is (by omega)])]
  simp only
  rw [foldS, l1, if_neg (by simp only [List.length_cons]; omega), foldS, l2, if_neg (by simp only [List.length_cons]; omega), foldS]
theorem tf_of {t : List Nd} (h : isS t = true) : ∃ a F, t = a :: F.flat ∧ TF a F := by
  obtain ⟨a, F, rfl, f1, f2, f3, f4, f5, f6⟩ := is_tree h
  exact ⟨a, F, rfl, f1, f2, f3⟩
theorem TF.root0 {a : Nd} {F : RF} (h : TF a F) : AtN (a :: F.flat) 0 a F [] := ⟨by simp, by rw [h.kind.2.1]; exact h.at_, by simp⟩
theorem TF.find {a : Nd} {F : RF} (h : TF a F) (key : Bs) : findS (a :: F.flat) 0 key = orN (findP F 1 key) := by
  unfold findS
  rw [h.root0.parts, findP_pos (d := a.depth + 1) (by simp) key F (0 + 1) h.root0.next h.root0.at_]
theorem TF.free {a : Nd} {F : RF} (h : TF a F) {key : Bs} (hk : findS (a :: F.flat) 0 key < 0) : key ∉ F.keysL := by
  rw [← findR_none]
  rcases find_at h.root0 key with ⟨e, f⟩ | ⟨x, m, km, p', e, f, -⟩
  · exact f
  · rw [e] at hk; omega
theorem sub_sub (a b : Int) : ∀ F : RF, (F.sub a).sub b = F.sub (a + b)
  | .nil => rfl
  | .cons n k r => by
    rw [RF.sub, RF.sub, RF.sub, sub_sub a b k, sub_sub a b r]
    congr 1
    unfold subD
    congr 1
    show n.depth - a - b = n.depth - (a + b)
    omega
theorem sub_zero : ∀ F : RF, F.sub 0 = F
  | .nil => rfl
  | .cons n k r => by
    rw [RF.sub, sub_zero k, sub_zero r]
    congr 1
    unfold subD
    cases n
    congr 1
    exact Int.sub_zero _
/-! ### 2. the tree that is written -/
def kTt : Bs := [116]
def kJj : Bs := [106]
def nR : Nd := ⟨1, 0, [], [], [], 0, 0, 0⟩
def nDef : Nd := ⟨1, 1, kDef, [], [], 0, 0, 0⟩
def nTem : Nd := ⟨1, 1, kTem, [], [], 0, 0, 0⟩
def nT : Nd := ⟨1, 2, kTt, [], [], 0, 0, 0⟩
def nJob : Nd := ⟨1, 1, kJob, [], [], 0, 0, 0⟩
def nJ : Nd := ⟨1, 2, kJj, [], [], 0, 0, 0⟩
def nE (own : Bool) : Nd := if own then ⟨3, 3, kExt, kTt, [], 0, 0, 0⟩ else ⟨2, 3, kExt, [], [], 0, 0, 0⟩
def nE2 : Nd := ⟨3, 4, [], kTt, [], 0, 0, 0⟩
def eK (own : Bool) : RF := if own then .nil else .cons nE2 .nil .nil
def eL (own : Bool) : List Nd := if own then [nE own] else [nE own, nE2]
def writT (d p j : List Nd) (own : Bool) : List Nd := (((([nR, nDef] ++ (d.drop 1).map (downD 1)) ++ [nTem, nT]) ++ (p.drop 1).map (downD 2) ++ [nJob, nJ]) ++ eL own) ++ (j.drop 1).map (downD 2)
def writF (D P J : RF) (own : Bool) : RF := .cons nDef (D.sub (-1)) (.cons nTem (.cons nT (P.sub (-2)) .nil) (.cons nJob (.cons nJ (.cons (nE own) (eK own) (J.sub (-2))) .nil) .nil))
theorem writ_flat (d p j : Nd) (D P J : RF) (own : Bool) : writT (d :: D.flat) (p :: P.flat) (j :: J.flat) own = nR :: (writF D P J own).flat := by
  unfold writT writF
  simp only [RF.flat, flat_sub, List.drop_succ_cons, List.drop_zero, downD_sub]
  cases own <;> simp [eL, eK, RF.flat]
theorem writ_tf {d p j : Nd} {D P J : RF} (hd : TF d D) (hp : TF p P) (hj : TF j J) (own : Bool) (xd : ∀ n ∈ D.flat, n.depth ≤ 29) (xp : ∀ n ∈ P.flat, n.depth ≤ 29) (xj : ∀ n ∈ J.flat, n.depth ≤ 29) (hf : kExt ∉ J.keysL) : TF nR (writF D P J own) := by
  have s1 : (D.sub (-1)).at_ 2 := at_sub (-1) D 1 hd.at_
  have s2 : (P.sub (-2)).at_ 3 := at_sub (-2) P 1 hp.at_
  have s3 : (J.sub (-2)).at_ 3 := at_sub (-2) J 1 hj.at_
  have g1 : (D.sub (-1)).GN 1 := gn_sub (-1) D 1 hd.gn fun n hn => by have := gn_flat D 1 hd.gn n hn; have := xd n hn; omega
  have g2 : (P.sub (-2)).GN 1 := gn_sub (-2) P 1 hp.gn fun n hn => by have := gn_flat P 1 hp.gn n hn; have := xp n hn; omega
  have g3 : (J.sub (-2)).GN 1 := gn_sub (-2) J 1 hj.gn fun n hn => by have := gn_flat J 1 hj.gn n hn; have := xj n hn; omega
  have lf : ∀ (n : Nd) (k : RF), n.kind = 1 → leafOk n k = true := fun n k h => by cases k <;> simp [leafOk, h]
  refine ⟨⟨rfl, s1, rfl, ⟨rfl, s2, trivial⟩, rfl, ⟨rfl, ⟨?_, ?_, s3⟩, trivial⟩, trivial⟩, ?_, rfl⟩
  · cases own <;> rfl
  · cases own
    · exact ⟨rfl, trivial, trivial⟩
    · trivial
  · refine ⟨by decide, lf _ _ rfl, fun h => absurd h (by decide), fun _ => ⟨by decide, by show nDef.key ∉ [nTem.key, nJob.key]; decide⟩, g1, by decide, lf _ _ rfl, fun h => absurd h (by decide), fun _ => ⟨by decide, by show nTem.key ∉ [nJob.key]; decide⟩, ⟨by decide, lf _ _ rfl, fun h => absurd h (by decide), fun _ => ⟨by decide, by decide⟩, g2, trivial⟩, by decide, lf _ _ rfl, fun h => absurd h (by decide), fun _ => ⟨by decide, by decide⟩, ⟨by decide, lf _ _ rfl, fun h => absurd h (by decide), fun _ => ⟨by decide, by decide⟩, ⟨?_, ?_, fun h => absurd h (by decide), fun _ => ⟨?_, ?_⟩, ?_, g3⟩, trivial⟩, trivial⟩
    · cases own <;> decide
    · cases own <;> rfl
    · cases own <;> decide
    · rw [keysL_sub]
      cases own <;> exact hf
    · cases own
      · exact ⟨by decide, rfl, fun _ => rfl, fun h => absurd rfl h, trivial, trivial⟩
      · trivial
/-! ### 3. its job -/
theorem AtN.part {t : List Nd} {i : Nat} {n : Nd} {k : RF} {post : List Nd} (h : AtN t i n k post) : C.partL t i = noKey (subD n.depth n) :: (k.sub n.depth).flat := by
  unfold C.partL
  rw [h.sub, h.nth, flat_sub]
  rfl
theorem AtN.partS {t : List Nd} {i : Nat} {n : Nd} {k : RF} {post : List Nd} (h : AtN t i n k post) (ht : isS t = true) (hk : n.kind = 1) : C.partS t (i : Int) = (noKey (subD n.depth n) :: (k.sub n.depth).flat, 0) := by
  unfold C.partS
  rw [if_pos, Int.toNat_natCast, h.part]
  unfold partOk
  have := h.lt
  simp [ht, h.nth, hk, this]
theorem own_free {t : List Nd} {i : Nat} {n : Nd} {k : RF} {post : List Nd} (h : AtN t i n k post) (ht : isS t = true) (hk : n.kind = 1) (htf : TF (noKey (subD n.depth n)) (k.sub n.depth)) (hl : (k.sub n.depth).flat.length ≤ 16000) (hf : kExt ∉ k.keysL) : ownS t (i : Int) = noKey (subD n.depth n) :: (k.sub n.depth).flat := by
  unfold ownS
  rw [h.partS ht hk]
  show (withoutS _ kExt).1 = _
  unfold withoutS
  rw [if_pos (htf.is hl)]
  show withoutL _ kExt = _
  unfold withoutL
  rw [if_pos]
  rw [htf.find, findP_none _ _ _ (by rw [keysL_sub]; exact hf)]
  decide
theorem own_cut {t : List Nd} {i : Nat} {n e : Nd} {ek r : RF} {post : List Nd} (h : AtN t i n (.cons e ek r) post) (ht : isS t = true) (hk : n.kind = 1) (htf : TF (noKey (subD n.depth n)) ((RF.cons e ek r).sub n.depth)) (hl : ((RF.cons e ek r).sub n.depth).flat.length ≤ 16000) (he : e.key = kExt) : ownS t (i : Int) = noKey (subD n.depth n) :: (r.sub n.depth).flat := by
  unfold ownS
  rw [h.partS ht hk]
  show (withoutS _ kExt).1 = _
  unfold withoutS
  rw [if_pos (htf.is hl)]
  show withoutL _ kExt = _
  obtain ⟨a, ha⟩ : ∃ a, a = noKey (subD n.depth n) := ⟨_, rfl⟩
  rw [← ha] at htf ⊢
  have hfd : findS (a :: ((RF.cons e ek r).sub n.depth).flat) 0 kExt = ((1 : Nat) : Int) := by
    rw [htf.find, RF.sub, findP, if_pos (show (subD n.depth e).key = kExt from he)]
    rfl
  obtain ⟨A1, -⟩ := atN_cons (t := a :: ((RF.cons e ek r).sub n.depth).flat) (p := 1) (n := subD n.depth e) (k := ek.sub n.depth) (r := r.sub n.depth) (post := []) (d := 1) (by rw [List.append_nil]; rfl) htf.at_ (by simp)
  unfold withoutL
  rw [hfd, if_neg (by decide), Int.toNat_natCast]
  unfold cutL
  rw [A1.endS]
  have e1 : (a :: ((RF.cons e ek r).sub n.depth).flat) = (a :: subD n.depth e :: (ek.sub n.depth).flat) ++ (r.sub n.depth).flat := by simp [RF.sub, RF.flat]
  rw [e1, List.drop_left' (by simp; omega)]
  rfl
theorem find_here {t : List Nd} {i : Nat} {n m : Nd} {k km : RF} {post : List Nd} (h : AtN t i n k post) {key : Bs} (hk : k.findR key = some (m, km)) : ∃ (x : Nat) (q : List Nd), findS t i key = x ∧ AtN t x m km q := by
  rcases find_at h key with ⟨e, f⟩ | ⟨x, m', km', p', e, f, g⟩
  · rw [hk] at f; cases f
  · rw [hk] at f
    injection f with f
    injection f with f1 f2
    subst f1 f2
    exact ⟨x, p', e, g⟩
theorem find_no {t : List Nd} {i : Nat} {n : Nd} {k : RF} {post : List Nd} (h : AtN t i n k post) {key : Bs} (hk : key ∉ k.keysL) : findS t i key = -1 := by
  rcases find_at h key with ⟨e, f⟩ | ⟨x, m', km', p', e, f, g⟩
  · exact e
  · rw [(findR_none k key).2 hk] at f; cases f
theorem writ_law {d p j : List Nd} (hd : isS d = true) (hp : isS p = true) (hj : isS j = true) (own : Bool) (fd : findS d 0 kExt < 0) (fp : findS p 0 kExt < 0) (fj : findS j 0 kExt < 0) (xd : ∀ n ∈ d, n.depth ≤ 29) (xp : ∀ n ∈ p, n.depth ≤ 29) (xj : ∀ n ∈ j, n.depth ≤ 29) (hl : d.length + p.length + j.length ≤ 500) :
    ∃ X W, mergeS [d, p, j] = (W, 0) ∧ jobS (writT d p j own) kJj = (X, ft0) ∧ X.map ak = W.map ak ∧ X.length ≤ 16384 := by
  obtain ⟨rd, D, rfl, hD⟩ := tf_of hd
  obtain ⟨rp, P, rfl, hP⟩ := tf_of hp
  obtain ⟨rj, J, rfl, hJ⟩ := tf_of hj
  have fd := hD.free fd
  have fp := hP.free fp
  have fj := hJ.free fj
  simp only [List.length_cons] at hl
  have xd : ∀ n ∈ D.flat, n.depth ≤ 29 := fun n hn => xd n (List.mem_cons_of_mem _ hn)
  have xp : ∀ n ∈ P.flat, n.depth ≤ 29 := fun n hn => xp n (List.mem_cons_of_mem _ hn)
  have xj : ∀ n ∈ J.flat, n.depth ≤ 29 := fun n hn => xj n (List.mem_cons_of_mem _ hn)
  have hT := writ_tf hD hP hJ own xd xp xj fj
  rw [writ_flat]
  obtain ⟨t, ht⟩ : ∃ t, t = nR :: (writF D P J own).flat := ⟨_, rfl⟩
  have h0 : (nR :: (writF D P J own).flat).length ≤ 600 := by
    rw [← writ_flat rd rp rj D P J own]
    unfold writT
    simp only [List.length_append, List.length_map, List.length_drop, List.length_cons, List.length_nil]
    have : (eL own).length ≤ 2 := by cases own <;> decide
    omega
  have hfl : (writF D P J own).flat.length ≤ 600 := by
    simp only [List.length_cons] at h0
    omega
  have hIs := hT.is (by omega)
  have r0 := hT.root0
  rw [← ht] at hIs r0 ⊢
  -- the sections
  obtain ⟨x1, q1, e1, A1⟩ := find_here r0 (key := kDef) (m := nDef) (km := D.sub (-1)) rfl
  obtain ⟨x2, q2, e2, A2⟩ := find_here r0 (key := kTem) (m := nTem) (km := .cons nT (P.sub (-2)) .nil) rfl
  obtain ⟨x4, q4, e4, A4⟩ := find_here r0 (key := kJob) (m := nJob) (km := .cons nJ (.cons (nE own) (eK own) (J.sub (-2))) .nil) rfl
  obtain ⟨x3, q3, e3, A3⟩ := find_here A2 (key := kTt) (m := nT) (km := P.sub (-2)) rfl
  obtain ⟨x5, q5, e5, A5⟩ := find_here A4 (key := kJj) (m := nJ) (km := .cons (nE own) (eK own) (J.sub (-2))) rfl
  have eD : (D.sub (-1)).sub nDef.depth = D := by rw [sub_sub]; exact sub_zero D
  have eP : (P.sub (-2)).sub nT.depth = P := by rw [sub_sub]; exact sub_zero P
  have eJ : (J.sub (-2)).sub nJ.depth = J := by rw [sub_sub]; exact sub_zero J
  have tD : TF (noKey (subD nDef.depth nDef)) ((D.sub (-1)).sub nDef.depth) := by rw [eD]; exact ⟨hD.at_, hD.gn, rfl⟩
  have tP : TF (noKey (subD nT.depth nT)) ((P.sub (-2)).sub nT.depth) := by rw [eP]; exact ⟨hP.at_, hP.gn, rfl⟩
  have tJ0 : TF (noKey (subD nJ.depth nJ)) J := ⟨hJ.at_, hJ.gn, rfl⟩
  have tJ : TF (noKey (subD nJ.depth nJ)) ((RF.cons (nE own) (eK own) (J.sub (-2))).sub nJ.depth) := by
    have gk : (RF.cons (nE own) (eK own) (J.sub (-2))).GN 1 := hT.gn.2.2.2.2.2.2.2.2.2.2.2.2.2.2.1.2.2.2.2.1
    have ak : (RF.cons (nE own) (eK own) (J.sub (-2))).at_ 3 := hT.at_.2.2.2.2.2.1.2.1
    refine ⟨at_sub 2 _ 3 ak, gn_sub 2 _ 1 gk fun n hn => ?_, rfl⟩
    have h1 := at_deep _ 3 ak n hn
    have h2 := gn_flat _ 1 gk n hn
    omega
  have o1 := own_free A1 hIs rfl tD (by rw [eD]; omega) (by rw [keysL_sub]; exact fd)
  have o3 := own_free A3 hIs rfl tP (by rw [eP]; omega) (by rw [keysL_sub]; exact fp)
  have o5 := own_cut A5 hIs rfl tJ (by
    rw [RF.sub, RF.flat, List.length_cons, List.length_append, eJ]
    have : ((eK own).sub nJ.depth).flat.length ≤ 1 := by cases own <;> decide
    omega) (by cases own <;> rfl)
  rw [eD] at o1 tD
  rw [eP] at o3 tP
  rw [eJ] at o5
  have p0 := (empty_law (tP.is (by omega))).1
  have m1 := merge3 tD tP tJ0 (by omega)
  have m2 := merge3 hD hP hJ (by omega)
  -- what is extended
  have x5e : ∃ tn : Nd, tn.text = kTt ∧ extS t x5 = ([tn], ft0) := by
    rcases ext_says A5 with ⟨f, -⟩ | ⟨m, km, f, e, -⟩
    · rw [RF.findR, if_pos (by cases own <;> rfl)] at f; cases f
    · rw [RF.findR, if_pos (by cases own <;> rfl)] at f
      injection f with f
      injection f with f1 f2
      subst f1 f2
      rw [e]
      cases own
      · exact ⟨nE2, rfl, rfl⟩
      · exact ⟨nE true, rfl, rfl⟩
  obtain ⟨tn, htn, x5e⟩ := x5e
  have x3e : extS t x3 = ([], ft0) := by
    unfold extS
    rw [find_no A3 (by rw [keysL_sub]; exact fp), if_pos (by decide)]
  have x1e : findS t x1 kExt = -1 := find_no A1 (by rw [keysL_sub]; exact fd)
  have eAt : jobAt t kJj = x5 := by
    unfold jobAt
    rw [e4, if_pos (by omega), Int.toNat_natCast]
    exact e5
  have eTm : tmAt t (x2 : Int) kTt = x3 := by
    unfold tmAt
    rw [if_pos (by omega), Int.toNat_natCast]
    exact e3
  have hnode : ∀ f s, nodeF t (x2 : Int) (f + 1) s x3 = (s, ⟨noKey (subD nT.depth nT) :: P.flat, 1, ft0⟩) := by
    intro f s
    rw [nodeF, A3.nth, if_neg (by decide), x3e, o3]
    unfold wholeS
    rw [if_neg (by decide)]
    have el : ∀ tm : MS → Nd → MS × Md, loopS tm 15 [] s [] 1 = ⟨s, ft0, [], 1⟩ := fun _ => rfl
    rw [el, if_neg (fun h => h rfl), List.nil_append, p0]
  have hW : (jobW t kJj [noKey (subD nDef.depth nDef) :: D.flat]) = ⟨noKey (subD nJ.depth nJ) :: ((D.layK P).layK J).flat, 2, ft0⟩ := by
    unfold jobW
    rw [e2, eAt, Int.toNat_natCast, x5e, o5]
    obtain ⟨g, hg⟩ : ∃ g, fuelM = g + 1 := ⟨16384, rfl⟩
    rw [hg]
    have htm : tmplS (nodeF t (x2 : Int) (g + 1)) t (x2 : Int) ⟨[], []⟩ tn = (doneM (underS ⟨[], []⟩ kTt) kTt ⟨noKey (subD nT.depth nT) :: P.flat, 1, ft0⟩, ⟨noKey (subD nT.depth nT) :: P.flat, 1, ft0⟩) := by
      unfold tmplS
      rw [htn, eTm, if_neg (by omega), if_neg (by decide), if_neg (by decide), Int.toNat_natCast, hnode]
    unfold wholeS
    rw [if_neg (fun h => h rfl)]
    have el : loopS (tmplS (nodeF t (x2 : Int) (g + 1)) t (x2 : Int)) 16 [tn] ⟨[], []⟩ [noKey (subD nDef.depth nDef) :: D.flat] 1 = ⟨doneM (underS ⟨[], []⟩ kTt) kTt ⟨noKey (subD nT.depth nT) :: P.flat, 1, ft0⟩, ft0, [noKey (subD nDef.depth nDef) :: D.flat, noKey (subD nT.depth nT) :: P.flat], 2⟩ := by
      rw [loopS, htm]
      have hf : faultS 16 tn ⟨noKey (subD nT.depth nT) :: P.flat, 1, ft0⟩ = ft0 := by
        unfold faultS
        rw [if_neg (fun h => absurd h.2 (by show ¬ (16 : Int) < 1; decide))]
      simp only [hf]
      rw [if_neg (by decide), loopS]
      rfl
    rw [el]
    simp only
    rw [if_neg (fun h => h rfl)]
    have em : [noKey (subD nDef.depth nDef) :: D.flat, noKey (subD nT.depth nT) :: P.flat] ++ [noKey (subD nJ.depth nJ) :: J.flat] = [noKey (subD nDef.depth nDef) :: D.flat, noKey (subD nT.depth nT) :: P.flat, noKey (subD nJ.depth nJ) :: J.flat] := rfl
    rw [em, m1]
  have hsec : secS t = ft0 := by
    unfold secS
    rw [e1, e2, e4, A1.nth, A2.nth, A4.nth, if_neg (fun h => h.2 rfl), if_neg (fun h => h.2 rfl), if_neg (fun h => h.2 rfl)]
  refine ⟨noKey (subD nJ.depth nJ) :: ((D.layK P).layK J).flat, _, m2, ?_, ?_, ?_⟩
  · show jobS t kJj = (noKey (subD nJ.depth nJ) :: ((D.layK P).layK J).flat, ft0)
    unfold jobS
    rw [hIs, if_neg (by decide), hsec, if_neg (by decide), eAt, if_neg (by omega), A5.nth, if_neg (by decide), e1, if_pos (by omega), Int.toNat_natCast, x1e, if_neg (by decide), o1, hW]
    rfl
  · have hk := hJ.kind
    simp only [List.map_cons, ak, hk.1, hk.2.1, hk.2.2.1, hk.2.2.2]
    rfl
  · have n1 := layK_len (B := P) hD.gn
    have n2 := layK_len (B := J) (layK_gn hD.gn hP.gn)
    simp only [List.length_cons]
    omega
end Go.Proofs.YtgjhbapbomdpbaaDoor.C
