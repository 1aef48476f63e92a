/- A walk over the model's code with a small environment (generic: over any program). Part L: a few elements appended to an owned row. -/
import Derived.Test.YthbehiflmcljcaaDoorShK
set_option linter.unusedVariables false
set_option linter.unusedSimpArgs false
namespace Go.Proofs.YthbehiflmcljcaaDoor.Sh
open Go.RowKit
section
variable {α : Type} {r : Option Nat} {P : Program} {N : Nat} {ops : Array Oper} {ρ : Env} {ds : List Deferred} {w w0 : World} {Q : Post} {M : List Nat} {D : List Chunk} {l : List Nat}
theorem St.drop1 {C C' : Chunk} (h : St w0 M w (C :: C' :: D)) : St w0 M w (C :: D) := h.sub (.cons_cons _ (.cons _ (List.Sublist.refl _)))
theorem fits_len {P : Program} {t T : TypeId} {n m : Nat} (ht : rowB P t T n = true) (h : Fits P T m) : m ≤ 140737488355328 := by
  obtain ⟨_, _, i, _, hi, _, _, _, hby⟩ := rowB_of ht
  exact (h.le hi hby).2
/-- x = append(x, y..): the y's are written out -/
theorem WO.app (E : Enc α) {T : TypeId} {A : Option Addr} {c : Nat} {xs : List α} (ys : List α) {i1 i2 d1 d2 len : Nat} {t t' : TypeId} {parts : Array (Nat × Operand)} {vs : List Value} {s x : Operand} (hc1 : cop N ops ρ i1 = some (some d1, .buildSlice t len parts, vs))
    (hc2 : ∀ b, cop N ops ((d1, .slice (some ⟨b, 0, none⟩) ys.length ys.length) :: ρ) i2 = some (some d2, .call { callee := .builtin .append, args := #[s, x], argTypes := #[t', t'] }, [.slice A xs.length c, .slice (some ⟨b, 0, none⟩) ys.length ys.length]))
    (hs : St w0 M w D) (i : Nat) (hlen : Fits P T (xs.length + ys.length))
    (k : ∀ b A' c' w', St w0 M w' (Ch.row E T A' c' (xs ++ ys) :: D.eraseIdx i) → WO r P N ops l ((d2, .slice A' (xs ++ ys).length c') :: (d1, .slice (some ⟨b, 0, none⟩) ys.length ys.length) :: ρ) ds w' Q)
    (hC : D[i]? = some (Ch.row E T A c xs) := by rfl) 
    
    (hb : bslB P T len E.n ((parts.toList.map (·.1)).zip vs) = some (ys.flatMap E.cells).toArray := by kernel_rfl) (hl : ys.length = len := by rfl) (ht1 : slB P t T E.n = true := by kernel_rfl) (ht : rowB P t' T E.n = true := by kernel_rfl) (hone : ∀ z, (E.cells z).all (·.oneCell') = true := by exact fun _ => rfl) : WO r P N ops (i1 :: i2 :: l) ρ ds w Q := by
  have hp := hs.pull i hC
  refine WO.act hc1 (Ef.bsl E ys hp (fun b w1 k1 hs1 => ?_) ht1 hb hl (by have := fits_len ht hlen; simp only [maxLen]; omega))
  refine WO.act (hc2 b) (Ef.append hs1 1 (hs1.rd 0) (by simp) hlen (fun A' c' w2 hs2 => ?_) rfl hone ht)
  exact k b A' c' w2 hs2.drop1
theorem WD.app {tail : List Nat} {listed : Array Bool} (E : Enc α) {T : TypeId} {A : Option Addr} {c : Nat} {xs : List α} (ys : List α) (i1 i2 : Nat) {d1 d2 len : Nat} {t t' : TypeId} {parts : Array (Nat × Operand)} {vs : List Value} {s x : Operand} (hc1 : cop N ops ρ i1 = some (some d1, .buildSlice t len parts, vs))
    (hc2 : ∀ b, cop N ops ((d1, .slice (some ⟨b, 0, none⟩) ys.length ys.length) :: ρ) i2 = some (some d2, .call { callee := .builtin .append, args := #[s, x], argTypes := #[t', t'] }, [.slice A xs.length c, .slice (some ⟨b, 0, none⟩) ys.length ys.length]))
    (hs : St w0 M w D) (i : Nat) (hlen : Fits P T (xs.length + ys.length))
    (k : ∀ b A' c' w', St w0 M w' (Ch.row E T A' c' (xs ++ ys) :: D.eraseIdx i) → WD r P N ops tail ((listed.setIfInBounds i1 true).setIfInBounds i2 true) ((d2, .slice A' (xs ++ ys).length c') :: (d1, .slice (some ⟨b, 0, none⟩) ys.length ys.length) :: ρ) ds w' Q)
    (hC : D[i]? = some (Ch.row E T A c xs) := by rfl) 
    
    (hb : bslB P T len E.n ((parts.toList.map (·.1)).zip vs) = some (ys.flatMap E.cells).toArray := by kernel_rfl) (hl : ys.length = len := by rfl) (ht1 : slB P t T E.n = true := by kernel_rfl) (ht : rowB P t' T E.n = true := by kernel_rfl) (hone : ∀ z, (E.cells z).all (·.oneCell') = true := by exact fun _ => rfl)
    (hr1 : Region.ready .any ops listed = [i1] := by kernel_rfl) (hr2 : Region.ready .any ops (listed.setIfInBounds i1 true) = [i2] := by kernel_rfl) (hi2 : tail.contains i2 = true := by rfl) : WD r P N ops tail listed ρ ds w Q := by
  have hp := hs.pull i hC
  refine WD.act i1 hc1 (Ef.bsl E ys hp (fun b w1 k1 hs1 => ⟨fun _ => k1, ?_⟩) ht1 hb hl (by have := fits_len ht hlen; simp only [maxLen]; omega)) hr1
  refine WD.act i2 (hc2 b) (Ef.append hs1 1 (hs1.rd 0) (by simp) hlen (fun A' c' w2 hs2 => ⟨fun hn => absurd (List.contains_iff_mem.1 hi2) hn, ?_⟩) rfl hone ht) hr2
  exact k b A' c' w2 hs2.drop1
/-- a variable with its zero value -/
def zcells (P : Program) (t : TypeId) : Option (List Value) := match P.info? t with
  | some i => match i.zero with
    | some z => some z.cells.toList
    | none => none
  | none => none
theorem Ef.allocL {N : Nat} {ρ : Env} {K : Env → World → Prop} {dst : Option Nat} {t : TypeId} {vs : List Value} (h : St w0 M w D) (k : ∀ b w', Keep w w' → St w0 M w' (Ch.cells b t vs :: D) → K (putE ρ dst (.pointer (some ⟨b, 0, none⟩))) w') (hz : zcells P t = some vs := by kernel_rfl) : Ef r P N dst (.alloc t) [] ρ ds w K Q := by
  unfold zcells at hz
  cases hi : P.info? t with
  | none => rw [hi] at hz; cases hz
  | some i =>
    rw [hi] at hz
    cases hz' : i.zero with
    | none => simp only [hz'] at hz; cases hz
    | some z =>
      simp only [hz', Option.some.injEq] at hz
      subst hz
      exact Ef.alloc (z := z) (by simp [hi, hz']) h k
theorem Ef.boxL {N : Nat} {ρ : Env} {K : Env → World → Prop} {dst : Option Nat} {t : TypeId} {x : Operand} {v : Value} (vs : List Value) (h : St w0 M w D) (k : ∀ b w', Keep w w' → St w0 M w' (Ch.cells b t vs :: D) → K (putE ρ dst (.pointer (some ⟨b, 0, none⟩))) w') (hv : v.cells.toList = vs := by rfl) : Ef r P N dst (.box t x) [v] ρ ds w K Q := by
  subst hv
  exact Ef.box h k
/-- one cell, or all cells, of a variable -/
theorem St.cells {b : Nat} {T : TypeId} {vs : List Value} (h : St w0 M w D) (i : Nat) (hC : D[i]? = some (Ch.cells b T vs) := by rfl) : Cells w b vs := fun j v hj => cells_cell (T := T) (h.at_ i hC) j v hj
end
/-- results in a struct's cells and in a slot -/
theorem resAT {P : Program} {fn : Func} {N n : Nat} {ρ : Env} {w : World} {t u b : Nat} {ty : TypeId} {vs : List Value} {x : Value} (h : fn.results = #[.cell t ty, .tmp u]) (hp : lk ρ t = some (.pointer (some ⟨b, 0, none⟩))) (hx : lk ρ u = some x) (hc : Cells w b vs) (hn : vs.length = n := by rfl) (ht : agB P ty n = true := by kernel_rfl) : Res P fn N ρ w (.tuple #[.agg vs.toArray, x]) := fun a ds ha => by
  have h1 := ha.val t _ hp
  have h3 := ha.val u _ hx
  have h2 : (loadVar ty ⟨b, 0, none⟩).run P w = .ok (.agg vs.toArray) w := run_loadVar_ag (agB_of ht) ⟨b, 0, none⟩ vs hn (fun j v hj => by rw [add_off, Nat.zero_add]; exact hc j v hj)
  simp only [results, h]
  simp at h1 h3
  simp [h1, h2, h3, asAddr]
theorem St.setCell {w0 w : World} {M : List Nat} {D : List Chunk} {b : Nat} {T : TypeId} {vs : List Value} (h : St w0 M w (Ch.cells b T vs :: D)) (j : Nat) (v : Value) : St w0 M (w.setCell ⟨b, j, none⟩ v) (Ch.cells b T (vs.set j v) :: D) := by
  have hb : w.heap[b]? = some (.cells vs.toArray T (0, 0)) := h.at_ 0
  have hlt : b < w.heap.size := (Array.getElem?_eq_some_iff.1 hb).1
  refine h.upd (C' := Ch.cells b T (vs.set j v)) ⟨rfl, rfl, rfl, by simp, fun x hx hn => Below.heap_setCell _ _ _ _ (by simpa [Ch.cells] using hn)⟩ ?_ ?_
  · show (w.setCell ⟨b, j, none⟩ v).heap[b]? = some _
    simp [World.setCell, Array.getElem?_modify, hb]
  · intro x hx
    simp [Ch.cells] at hx
    subst hx
    exact ⟨.inl (by simp [Ch.cells]), by simpa using hlt⟩
/-! ### rules for interfaces -/
def ifB (P : Program) (t : TypeId) : Bool := match P.underlying t with | some (.interface _) => true | _ => false
theorem ifB_of {P : Program} {t : TypeId} (h : ifB P t = true) : ∃ ms, P.underlying t = some (.interface ms) := by
  unfold ifB at h
  cases hu : P.underlying t with
  | none => rw [hu] at h; cases h
  | some d =>
    rw [hu] at h
    cases d with
    | interface ms => exact ⟨ms, rfl⟩
    | _ => cases h
theorem eqnil_t {P : Program} {t : TypeId} (h : ifB P t = true) (d : Nat) (w : World) : (Op.equalIn (d + 1) t .nilIface .nilIface).run P w = .ok true w := by
  obtain ⟨ms, hm⟩ := ifB_of h
  simp [Op.equalIn, run_underlying hm]
theorem eqnil_f {P : Program} {t tt : TypeId} {v : Value} (h : ifB P t = true) (d : Nat) (w : World) : (Op.equalIn (d + 1) t (.iface tt v) .nilIface).run P w = .ok false w := by
  obtain ⟨ms, hm⟩ := ifB_of h
  simp [Op.equalIn, run_underlying hm]
theorem Yv.ifn_t {P : Program} {w : World} {t u : TypeId} {x : Operand} {c : Value} (hu : ifB P t = true := by kernel_rfl) : Yv P w (.binOp .eql t x (.const c) u) [.nilIface, .nilIface] (.bool true) :=
  Yv.mk2 (x := x) (y := .const c) (by simp) rfl fun o e w' hop hx hy _ => by
    have heq : (Op.equal t .nilIface .nilIface).run P w' = .ok true w' := eqnil_t hu 9999 w'
    simp [execOp, hop, hx, hy, binOp, eqGuard, heq]
theorem Yv.ifn_f {P : Program} {w : World} {t u tt : TypeId} {x : Operand} {c : Value} {v : Value} (hu : ifB P t = true := by kernel_rfl) : Yv P w (.binOp .eql t x (.const c) u) [.iface tt v, .nilIface] (.bool false) :=
  Yv.mk2 (x := x) (y := .const c) (by simp) rfl fun o e w' hop hx hy _ => by
    have heq : (Op.equal t (.iface tt v) .nilIface).run P w' = .ok false w' := eqnil_f hu 9999 w'
    simp [execOp, hop, hx, hy, binOp, eqGuard, heq]
theorem Yv.mki {P : Program} {w : World} {t : TypeId} {x : Operand} {v : Value} (h : P.concrete t = true := by kernel_rfl) : Yv P w (.makeInterface t x) [v] (.iface t v) :=
  Yv.mk1 (x := x) (by simp) rfl fun o e w' hop hx _ => by simp [execOp, hop, hx, run_makeInterface _ _ _ h]
end Go.Proofs.YthbehiflmcljcaaDoor.Sh
