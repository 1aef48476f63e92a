/- Templates under jobs: a template that nobody extends changes nothing (plain law). -/
import Derived.Test.YtgjhbapbomdpbaaDoorOc
set_option linter.unusedVariables false
set_option linter.unusedSimpArgs false
set_option maxRecDepth 10000
namespace Go.Proofs.YtgjhbapbomdpbaaDoor.C
open Go.RowKit Go.Proofs.YtgjhbapbomdpbaaDoor.Sh
open RF
def kLone : Bs := [97, 32, 116, 101, 109, 112, 108, 97, 116, 101, 32, 116, 104, 97, 116, 32, 110, 111, 98, 111, 100, 121, 32, 101, 120, 116, 101, 110, 100, 115]
def loneN : Nd := ⟨1, 2, kLone, [], [], 0, 0, 0⟩
def downD (by_ : Int) (n : Nd) : Nd := ⟨n.kind, n.depth + by_, n.key, n.text, n.file, n.line, n.col, n.val⟩
theorem downD_sub (d : Int) : downD d = subD (-d) := by
  funext n
  unfold downD subD
  congr 1
  omega
theorem findR_skip {pre r K K' : RF} {n : Nd} {key : Bs} (h : n.key ≠ key) : (pre.app (.cons n K r)).findR key = (pre.app (.cons n K' r)).findR key := by
  rw [findR_app, findR_app, RF.findR, RF.findR, if_neg h, if_neg h]
theorem findR_here {pre r K : RF} {n : Nd} (h : n.key ∉ pre.keysL) : (pre.app (.cons n K r)).findR n.key = some (n, K) := by
  rw [findR_app, (findR_none pre n.key).2 h, RF.findR, if_pos rfl]
def unusedT (t : List Nd) (k : Nat) (junk : List Nd) : List Nd := (t.take (k + 1) ++ [loneN]) ++ (junk.drop 1).map (downD 2) ++ t.drop (k + 1)
theorem unused_law {t junk : List Nd} (ht : isS t = true) (hj : isS junk = true) {k : Nat} (hk : findS t 0 kTem = k) (hkind : (nth t (k : Int)).kind = 1) (hlone : findS t k kLone < 0) (hlen : t.length + junk.length ≤ 4000) (htx : ∀ n ∈ t, n.text ≠ kLone) (hdp : ∀ n ∈ junk, n.depth ≤ 30) (name : Bs) : jobS (unusedT t k junk) name = jobS t name := by
  obtain ⟨a, F, rfl, f1, f2, f3, f4, f5, f6⟩ := is_tree ht
  obtain ⟨b, G, rfl, g1, g2, g3, g4, g5, g6⟩ := is_tree hj
  have r0 : AtN (a :: F.flat) 0 a F [] := ⟨by simp, by rw [f5]; exact f1, by simp⟩
  have e : findS (a :: F.flat) 0 kTem = orN (findP F 1 kTem) := by
    unfold findS
    rw [r0.parts, findP_pos (d := a.depth + 1) (by simp) kTem F (0 + 1) r0.next r0.at_]
  have hx : findP F 1 kTem = some k := by
    cases hx : findP F 1 kTem with
    | none =>
      rw [hx] at e
      have e : findS (a :: F.flat) 0 kTem = -1 := e
      omega
    | some x =>
      rw [hx] at e
      have e : findS (a :: F.flat) 0 kTem = (x : Int) := e
      congr 1
      omega
  obtain ⟨pre, n, K, r, rfl, hn1, hn2, rfl⟩ := findP_split F 1 kTem k hx
  obtain ⟨t1, t2⟩ := at_app_inv pre _ 1 f1
  obtain ⟨s1, s2, s3⟩ := gn_app_inv pre _ 1 f2
  obtain ⟨t3, t4, t5⟩ := t2
  obtain ⟨c1, c2, c3, c4, c5, c6⟩ := s2
  have hfl : (pre.app (RF.cons n K r)).flat = pre.flat ++ n :: (K.flat ++ r.flat) := by rw [flat_app]; rfl
  have hd1 : (a :: (pre.app (RF.cons n K r)).flat).drop (1 + pre.flat.length) = (RF.cons n K r).flat ++ [] := by
    rw [hfl, Nat.add_comm, List.drop_succ_cons, List.drop_left', List.append_nil]
    · rfl
    · rfl
  obtain ⟨A1, -⟩ := atN_cons (d := 1) hd1 ⟨t3, t4, t5⟩ (by simp)
  have hkn : n.kind = 1 := by rw [← A1.nth]; exact hkind
  have hnl : kLone ∉ K.keysL := by
    rw [← findR_none]
    rcases find_at A1 kLone with ⟨q1, q2⟩ | ⟨x, m, km, p', q1, q2, -⟩
    · exact q2
    · rw [q1] at hlone; omega
  obtain ⟨J, hJ⟩ : ∃ J, J = G.sub (-2) := ⟨_, rfl⟩
  have hJat : J.at_ 3 := by
    have := at_sub (-2) G 1 g1
    rw [hJ]
    exact this
  have hJgn : J.GN 1 := by
    rw [hJ]
    refine gn_sub (-2) G 1 g2 fun x hx => ?_
    have h1 := gn_flat G 1 g2 x hx
    have h2 := hdp x (List.mem_cons_of_mem _ hx)
    omega
  have hJfl : J.flat = (G.flat).map (downD 2) := by rw [hJ, flat_sub, downD_sub]
  obtain ⟨K', hK'⟩ : ∃ K', K' = RF.cons loneN J K := ⟨_, rfl⟩
  have hu : unusedT (a :: (pre.app (RF.cons n K r)).flat) (1 + pre.flat.length) (b :: G.flat) = a :: (pre.app (RF.cons n K' r)).flat := by
    have e1 : (a :: (pre.app (RF.cons n K r)).flat) = (a :: (pre.flat ++ [n])) ++ (K.flat ++ r.flat) := by rw [hfl]; simp
    have e2 : (a :: (pre.flat ++ [n])).length = 1 + pre.flat.length + 1 := by simp; omega
    unfold unusedT
    rw [e1, List.take_left' e2, List.drop_left' e2, flat_app, List.drop_succ_cons, List.drop_zero, hK']
    simp only [RF.flat, hJfl]
    simp
  rw [hu]
  have hat' : (pre.app (RF.cons n K' r)).at_ 1 := by
    refine at_app _ _ 1 t1 ⟨t3, ?_, t5⟩
    rw [hK']
    exact ⟨rfl, hJat, t4⟩
  have hgn' : (pre.app (RF.cons n K' r)).GN 1 := by
    refine gn_app _ _ 1 s1 ⟨c1, ?_, c3, c4, ?_, c6⟩ s3
    · rw [hK']
      show (n.kind != 3) = true
      rw [hkn]; rfl
    · rw [hK', hkn]
      refine ⟨by decide, ?_, fun h => absurd h (by decide), fun _ => ⟨by decide, hnl⟩, hJgn, by rw [hkn] at c5; exact c5⟩
      cases J <;> rfl
  have hlen' : (a :: (pre.app (RF.cons n K' r)).flat).length ≤ 16384 := by
    rw [← hu]
    unfold unusedT
    simp only [List.length_append, List.length_take, List.length_map, List.length_drop, List.length_cons, List.length_nil] at hlen ⊢
    omega
  have hIs := tree_is hat' hgn' f3 hlen'
  have r1 : AtN (a :: (pre.app (RF.cons n K' r)).flat) 0 a (pre.app (RF.cons n K' r)) [] := ⟨by simp, by rw [f5]; exact hat', by simp⟩
  have hroot : ∀ key, key ≠ kTem → Fnd (a :: (pre.app (RF.cons n K r)).flat) (a :: (pre.app (RF.cons n K' r)).flat) (findS (a :: (pre.app (RF.cons n K r)).flat) 0 key) (findS (a :: (pre.app (RF.cons n K' r)).flat) 0 key) := fun key hne => fnd_of r0 r1 (findR_skip (by rw [hn2]; exact hne.symm))
  have hk1 : ∃ (y : Nat) (q : List Nd), findS (a :: (pre.app (RF.cons n K' r)).flat) 0 kTem = y ∧ AtN (a :: (pre.app (RF.cons n K' r)).flat) y n K' q := by
    have hh : (pre.app (RF.cons n K' r)).findR kTem = some (n, K') := by rw [← hn2]; exact findR_here (by rw [hn2]; exact hn1)
    rcases find_at r1 kTem with ⟨q1, q2⟩ | ⟨y, m, km, p', q1, q2, q3⟩
    · rw [hh] at q2; cases q2
    · rw [hh] at q2
      injection q2 with q2
      injection q2 with q2 q4
      subst q2 q4
      exact ⟨y, p', q1, q3⟩
  obtain ⟨y, q, hy, A2⟩ := hk1
  refine job_sim ht hIs htx (hroot kDef (by decide)) (.inr ⟨_, y, hk, hy, by rw [A1.nth, A2.nth]⟩) (hroot kJob (by decide)) (fun key hne => ?_) name
  unfold tmAt
  rw [hk, hy, if_pos (by omega), if_pos (by omega), Int.toNat_natCast, Int.toNat_natCast]
  refine fnd_of A1 A2 ?_
  rw [hK', RF.findR, if_neg (show ¬ loneN.key = key from fun h => hne h.symm)]
end Go.Proofs.YtgjhbapbomdpbaaDoor.C
