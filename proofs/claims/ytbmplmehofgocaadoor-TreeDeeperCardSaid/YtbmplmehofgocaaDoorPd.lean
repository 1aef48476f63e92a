/- The plain law of TreeJoins and TreeDeeper: one text read from another state of the reader is the same tree, moved. -/
import Derived.Test.YtbmplmehofgocaaDoorPb
set_option linter.unusedVariables false
set_option linter.unusedSimpArgs false
set_option maxRecDepth 10000
namespace Go.Proofs.YtbmplmehofgocaaDoor.C
open Go.RowKit Go.Proofs.YtbmplmehofgocaaDoor.Sh
theorem popS_eq (i : Int) (b : OB) (low : List OB) (hb : b.indent ≤ i) : ∀ up : List OB, popS i (up ++ b :: low) = up.dropWhile (fun x => decide (i < x.indent)) ++ b :: low
  | [] => by
    cases low with
    | nil => rfl
    | cons y r => rw [List.nil_append, popS, if_neg (by omega)]; rfl
  | x :: r => by
    obtain ⟨y, q, hq⟩ : ∃ y q, r ++ b :: low = y :: q := by cases r <;> simp
    rw [List.cons_append, hq, popS]
    by_cases h : i < x.indent
    · rw [if_pos h, ← hq, popS_eq i b low hb r, List.dropWhile_cons_of_pos (by simpa using h)]
    · rw [if_neg h, List.dropWhile_cons_of_neg (by simpa using h), List.cons_append, hq]
theorem goS_dk (file : Bs) : ∀ (ls : List Ln) (nodes : List Nd) (st : List OB) (last : Bool) (ind : Int), (goS file ls nodes st last ind).2.code = 0 → ∃ more, (goS file ls nodes st last ind).1.map dk = nodes.map dk ++ more
  | [], nodes, st, last, ind, _ => ⟨[], by rw [goS]; simp⟩
  | l :: ls, nodes, st, last, ind, hc => by
    rw [goS] at hc ⊢
    by_cases h1 : (readC l.text).2.2 ≠ 0
    · rw [if_pos h1] at hc; exact (h1 hc).elim
    rw [if_neg h1] at hc ⊢
    by_cases h2 : (enterS nodes st last ind l (readC l.text).1).1 ≠ 0
    · rw [if_pos h2] at hc; exact (h2 hc).elim
    rw [if_neg h2] at hc ⊢
    obtain ⟨E, N2, S2, hE⟩ : ∃ E N2 S2, enterS nodes st last ind l (readC l.text).1 = (E, N2, S2) := ⟨_, _, _, rfl⟩
    rw [hE] at h2 hc ⊢
    obtain rfl : E = 0 := by simpa using h2
    obtain ⟨b, r, -, -, -, -, -, rfl, rfl⟩ := enterS_inv hE
    obtain ⟨more, hm⟩ := goS_dk file ls _ _ _ _ hc
    rw [List.map_append, nodes1_dk, List.append_assoc] at hm
    exact ⟨_, hm⟩
def fL (c : Int → Int) (k : Int) (l : Ln) : Ln := ⟨c l.no, l.indent + k, l.text⟩
def fN (c : Int → Int) (k e : Int) (n : Nd) : Nd := ⟨n.kind, n.depth + e, n.key, n.text, n.file, c n.line, n.col + k, if n.val = 0 then 0 else n.val + k⟩
def fB (k d : Int) (b : OB) : OB := { b with indent := b.indent + k, node := b.node + d }
theorem nodes1_app (P nodes : List Nd) (h : nodes ≠ []) (last : Bool) (ind : Int) (l : Ln) (o : Ct) : nodes1 (P ++ nodes) last ind l o = P ++ nodes1 nodes last ind l o := by
  have hl := List.length_pos_iff.2 h
  unfold nodes1
  split
  · have e : (P ++ nodes).length - 1 = P.length + (nodes.length - 1) := by rw [List.length_append]; omega
    rw [e, List.set_append_right _ _ (by omega)]
    congr 2
    · omega
    · congr 1
      simp [List.getElem?_append_right]
  · rfl
theorem nodes1_fN (c : Int → Int) (k e : Int) (nodes : List Nd) (h : nodes ≠ []) (last : Bool) (ind : Int) (l : Ln) (o : Ct) : nodes1 (nodes.map (fN c k e)) last (ind + k) (fL c k l) o = (nodes1 nodes last ind l o).map (fN c k e) := by
  have hl := List.length_pos_iff.2 h
  have ho : opens last (ind + k) (fL c k l) = opens last ind l := by
    unfold opens fL
    congr 1
    simp
  unfold nodes1
  rw [ho]
  split
  · rw [List.map_set, List.length_map]
    congr 1
    have hlt : nodes.length - 1 < nodes.length := by omega
    simp [List.getElem?_eq_getElem hlt, fN, Nd.kd]
  · rfl
theorem nodes1_ne {nodes : List Nd} (h : nodes ≠ []) (last : Bool) (ind : Int) (l : Ln) (o : Ct) : nodes1 nodes last ind l o ≠ [] := by
  intro e
  have := nodes1_len nodes last ind l o
  rw [e] at this
  exact h (List.eq_nil_of_length_eq_zero this.symm)
theorem nodeS_fN (file : Bs) (m e : Nat) (c : Int → Int) (k : Int) (l : Ln) (o : Ct) (hi : 0 ≤ l.indent) (ho : CtG o) : nodeS file (m + e) (fL c k l) o = fN c k e (nodeS file m l o) := by
  unfold nodeS fN fL
  simp only
  congr 1
  · omega
  · split
    · rename_i h
      have := ho.v h
      rw [if_neg (by omega)]; omega
    · rfl
theorem sim_go (file : Bs) (c : Int → Int) (k : Int) (hk : 0 ≤ k) (low : List OB) (inA : Bs → Prop) (PJ : List Nd) (hP : PJ ≠ []) (G : List Nd × Ft) (hG : G.2.code = 0) (hd : ∀ n ∈ G.1.drop 1, n.depth + low.length ≤ 32) (hA : ∀ key, ((1 : Int), key) ∈ (G.1.drop 1).map dk → ¬ inA key) :
    ∀ (ls : List Ln) (NB : List Nd) (up : List OB) (rB rJ : OB) (last : Bool) (ind : Int), NB ≠ [] → (∀ l ∈ ls, 0 ≤ l.indent) → rB.indent = 0 → rB.items = false → rJ.indent = k → rJ.items = false →
      (∀ key, (alook key rJ.keys).isSome = true ↔ inA key ∨ (alook key rB.keys).isSome = true) → goS file ls (nd0 file :: NB) (up ++ [rB]) last ind = G →
      goS file (ls.map (fL c k)) (PJ ++ NB.map (fN c k low.length)) (up.map (fB k (PJ.length - 1)) ++ rJ :: low) last (ind + k) = (PJ ++ (G.1.drop 1).map (fN c k low.length), G.2)
  | [], NB, up, rB, rJ, last, ind, hN, _, _, _, _, _, _, hgo => by
    rw [goS] at hgo
    subst hgo
    rfl
  | l :: ls, NB, up, rB, rJ, last, ind, hN, hls, hB0, hB1, hJ0, hJ1, hK, hgo => by
    have hli := hls l (List.mem_cons_self ..)
    have hls' : ∀ l ∈ ls, 0 ≤ l.indent := fun x hx => hls x (List.mem_cons_of_mem _ hx)
    obtain ⟨g1, -⟩ := readC_g l.text
    rw [goS] at hgo
    by_cases h1 : (readC l.text).2.2 ≠ 0
    · rw [if_pos h1] at hgo; subst hgo; exact (h1 hG).elim
    rw [if_neg h1] at hgo
    have hct := g1 (by simpa using h1)
    by_cases h2 : (enterS (nd0 file :: NB) (up ++ [rB]) last ind l (readC l.text).1).1 ≠ 0
    · rw [if_pos h2] at hgo; subst hgo; exact (h2 hG).elim
    rw [if_neg h2] at hgo
    obtain ⟨E, N2, S2, hE⟩ : ∃ E N2 S2, enterS (nd0 file :: NB) (up ++ [rB]) last ind l (readC l.text).1 = (E, N2, S2) := ⟨_, _, _, rfl⟩
    rw [hE] at h2 hgo
    obtain rfl : E = 0 := by simpa using h2
    obtain ⟨o, ho⟩ : ∃ o, o = (readC l.text).1 := ⟨_, rfl⟩
    rw [← ho] at hE hgo hct
    obtain ⟨b, r, hp, e1, e2, e3, e4, hN2, hS2⟩ := enterS_inv hE
    -- the final nodes hold the new one
    have hin : dk (nodeS file S2.length l o) ∈ (G.1.drop 1).map dk := by
      obtain ⟨more, hm⟩ := goS_dk file ls (N2 ++ [nodeS file S2.length l o]) S2 (!o.has) l.indent (by rw [hgo]; exact hG)
      rw [hgo] at hm
      have hl2 : 1 ≤ (N2.map dk).length := by rw [hN2, List.length_map, nodes1_len]; simp
      rw [List.map_drop, hm, List.map_append, List.append_assoc, List.drop_append_of_le_length hl2]
      simp
    obtain ⟨nf, hnf, hnfe⟩ := List.mem_map.1 hin
    have hdep : (S2.length : Int) + low.length ≤ 32 := by
      have := hd nf hnf
      have e : nf.depth = (S2.length : Int) := congrArg Prod.fst hnfe
      omega
    have hop : opens last (ind + k) (fL c k l) = opens last ind l := by
      unfold opens fL; congr 1; simp
    obtain ⟨up1, hup1⟩ : ∃ up1, up1 = if opens last ind l then (⟨l.indent, o.kind == 2, ((nd0 file :: NB).length : Int) - 1, []⟩ : OB) :: up else up := ⟨_, rfl⟩
    have hsB : stack1 (nd0 file :: NB).length (up ++ [rB]) last ind l o = up1 ++ [rB] := by
      rw [stack1, hup1]; split <;> rfl
    have hsJ : stack1 (PJ ++ NB.map (fN c k low.length)).length (up.map (fB k (PJ.length - 1)) ++ rJ :: low) last (ind + k) (fL c k l) o = up1.map (fB k (PJ.length - 1)) ++ rJ :: low := by
      rw [stack1, hop, hup1]
      split
      · rw [List.map_cons, List.cons_append]
        congr 1
        unfold fB fL
        simp only [List.length_append, List.length_map, List.length_cons]
        congr 1
        omega
      · rfl
    rw [hsB, popS_eq l.indent rB [] (by omega)] at hp
    have hpJ : popS (l.indent + k) (up1.map (fB k (PJ.length - 1)) ++ rJ :: low) = (up1.dropWhile (fun x => decide (l.indent < x.indent))).map (fB k (PJ.length - 1)) ++ rJ :: low := by
      rw [popS_eq _ rJ low (by omega), List.dropWhile_map]
      congr 2
      congr 1
      funext x
      simp [fB]
    have hnJ : nodes1 (PJ ++ NB.map (fN c k low.length)) last (ind + k) (fL c k l) o = PJ ++ (nodes1 NB last ind l o).map (fN c k low.length) := by
      rw [nodes1_app _ _ (by simpa using hN), nodes1_fN _ _ _ _ hN]
    have hnB : N2 = nd0 file :: nodes1 NB last ind l o := by
      rw [hN2]; exact nodes1_app [nd0 file] NB hN last ind l o
    generalize hD : up1.dropWhile (fun x => decide (l.indent < x.indent)) = D at hp hpJ
    rw [List.map_cons, goS]
    have hrt : (fL c k l).text = l.text := rfl
    rw [hrt, if_neg h1, ← ho]
    cases D with
    | nil =>
      injection hp with hp1 hp2
      subst hp1 hp2
      have hl0 : l.indent = 0 := by omega
      have hnA : ¬ inA o.key := by
        refine hA o.key ?_
        have : dk (nodeS file S2.length l o) = (1, o.key) := by rw [hS2]; rfl
        rw [← this]; exact hin
      have hit : (o.kind == 2) = false := by rw [← e2]; exact hB1
      have e4' : (alook o.key rB.keys).isSome = false := by simpa [hit] using e4
      have hJk : (alook o.key rJ.keys).isSome = false := by
        by_cases h : (alook o.key rJ.keys).isSome = true
        · rcases (hK o.key).1 h with h | h
          · exact (hnA h).elim
          · rw [h] at e4'; cases e4'
        · simpa using h
      have hl32 : ¬ (32 : Int) < ((rJ :: low).length : Int) := by
        rw [hS2] at hdep
        simp only [List.length_cons, List.length_nil] at hdep ⊢
        omega
      have hEJ : enterS (PJ ++ NB.map (fN c k low.length)) (up.map (fB k (PJ.length - 1)) ++ rJ :: low) last (ind + k) (fL c k l) o = (0, PJ ++ (nodes1 NB last ind l o).map (fN c k low.length), { rJ with keys := aput o.key (w64 ((alook o.key rJ.keys).getD 0 + 1)) rJ.keys } :: low) := by
        unfold enterS
        have hfi : (fL c k l).indent = l.indent + k := rfl
        rw [hsJ, hfi, hpJ, hnJ]
        simp only [List.map_nil, List.nil_append]
        rw [if_neg (by rw [hJ0, hl0]; simp), if_neg (by rw [hJ1, hit]; simp), if_neg hl32, if_neg (by rw [hJk]; simp)]
      rw [hEJ, if_neg (by simp)]
      have hlen : ({ rJ with keys := aput o.key (w64 ((alook o.key rJ.keys).getD 0 + 1)) rJ.keys } :: low).length = S2.length + low.length := by rw [hS2]; simp; omega
      simp only
      rw [hlen, nodeS_fN file _ _ _ _ _ _ hli hct, List.append_assoc, ← List.map_singleton, ← List.map_append]
      refine sim_go file c k hk low inA PJ hP G hG hd hA ls (nodes1 NB last ind l o ++ [nodeS file S2.length l o]) [] { rB with keys := aput o.key (w64 ((alook o.key rB.keys).getD 0 + 1)) rB.keys } { rJ with keys := aput o.key (w64 ((alook o.key rJ.keys).getD 0 + 1)) rJ.keys } (!o.has) l.indent (by simp) hls' ?_ ?_ ?_ ?_ ?_ ?_
      · exact hB0
      · exact hB1
      · exact hJ0
      · exact hJ1
      · intro key
        simp only [alook_aput]
        by_cases e : o.key = key
        · subst e; simp
        · rw [if_neg e, if_neg e]; exact hK key
      · rw [← hgo, hnB, hS2]; rfl
    | cons x q =>
      injection hp with hp1 hp2
      subst hp1 hp2
      have hl32 : ¬ (32 : Int) < (((fB k (PJ.length - 1) x) :: (q.map (fB k (PJ.length - 1)) ++ rJ :: low)).length : Int) := by
        rw [hS2] at hdep
        simp only [List.append_eq, List.length_cons, List.length_append, List.length_map, List.length_nil] at hdep ⊢
        omega
      have hEJ : enterS (PJ ++ NB.map (fN c k low.length)) (up.map (fB k (PJ.length - 1)) ++ rJ :: low) last (ind + k) (fL c k l) o = (0, PJ ++ (nodes1 NB last ind l o).map (fN c k low.length), fB k (PJ.length - 1) { x with keys := aput o.key (w64 ((alook o.key x.keys).getD 0 + 1)) x.keys } :: (q.map (fB k (PJ.length - 1)) ++ rJ :: low)) := by
        unfold enterS
        have hfi : (fL c k l).indent = l.indent + k := rfl
        rw [hsJ, hfi, hpJ, hnJ]
        simp only [List.map_cons, List.cons_append]
        rw [if_neg (by simp only [fB]; omega), if_neg (by simp only [fB]; rw [e2]; simp), if_neg hl32, if_neg (by simp only [fB]; rw [e4]; simp)]
        rfl
      rw [hEJ, if_neg (by simp)]
      have hlen : (fB k (PJ.length - 1) { x with keys := aput o.key (w64 ((alook o.key x.keys).getD 0 + 1)) x.keys } :: (q.map (fB k (PJ.length - 1)) ++ rJ :: low)).length = S2.length + low.length := by rw [hS2]; simp; omega
      simp only
      rw [hlen, nodeS_fN file _ _ _ _ _ _ hli hct, List.append_assoc, ← List.map_singleton, ← List.map_append]
      refine sim_go file c k hk low inA PJ hP G hG hd hA ls (nodes1 NB last ind l o ++ [nodeS file S2.length l o]) ({ x with keys := aput o.key (w64 ((alook o.key x.keys).getD 0 + 1)) x.keys } :: q) rB rJ (!o.has) l.indent (by simp) hls' hB0 hB1 hJ0 hJ1 hK ?_
      rw [← hgo, hnB, hS2]; rfl
end Go.Proofs.YtbmplmehofgocaaDoor.C
