/- A walk over the model's code with a small environment (generic: over any program). Part J: calls that keep what lies; pieces that a truth value guards; variables that are written once; results in cells. -/
import Derived.Test.YthbehiflmcljcaaDoorShI
set_option linter.unusedVariables false
set_option linter.unusedSimpArgs false
namespace Go.Proofs.YthbehiflmcljcaaDoor.Sh
open Go.RowKit

/-- number f is a function with a body that is entered by a call -/
def FnOk (P : Program) (f : FuncId) : Prop := ∃ fn, P.funcs[f]? = some fn ∧ fn.body.isSome = true ∧ (fn.name == "runtime.NumGoroutine") = false
theorem FnOk.of {P : Program} {f : FuncId} {fn : Func} (hf : P.funcs[f]? = some fn) (hb : fn.body.isSome = true := by rfl) (hn : (fn.name == "runtime.NumGoroutine") = false := by kernel_rfl) : FnOk P f := ⟨fn, hf, hb, hn⟩
/-- f, called at vs in any world that keeps w0, hands back v and keeps what lies -/
def Cv (P : Program) (f : FuncId) (vs : List Value) (v : Value) (w0 : World) : Prop := ∀ w, Keep w0 w → Calls P f vs.toArray w fun e w' => e = .returned v ∧ Keep w w'
theorem Cv.keep {P : Program} {f : FuncId} {vs : List Value} {v : Value} {w0 w1 : World} (h : Cv P f vs v w0) (k : Keep w0 w1) : Cv P f vs v w1 := fun w hw => h w (k.trans hw)
section
variable {r : Option Nat} {P : Program} {N : Nat} {ops : Array Oper} {ρ ρ' : Env} {ds : List Deferred} {w w0 : World} {Q : Post} {l js : List Nat} {id i d t : Nat} {dst : Option Nat} {op : Op} {vs : List Value}
theorem Ef.quiet {f : FuncId} {x : Operand} {args : Array Operand} {ts : Array TypeId} {caps : List Value} {us : List Value} {v : Value} {K : Env → World → Prop} (h : Cv P f (us ++ caps) v w0) (hk : Keep w0 w) (hf : FnOk P f)
    (k : ∀ w', Keep w w' → K (putE ρ dst v) w') :
    Ef r P N dst (.call { callee := .value x, args := args, argTypes := ts }) (.func (.func f) #[] caps.toArray :: us) ρ ds w K Q := by
  obtain ⟨fn, hf, hb, hn⟩ := hf
  refine Ef.callv hf ?_ hb hn
  have := h w hk
  simp only [← List.append_toArray] at this
  refine Calls.mono this ?_
  rintro e w' ⟨rfl, hk'⟩
  exact k w' hk'
/-! ### fixed order -/
theorem WO.le (h : WO r P N ops l ρ' ds w Q) (hl : Le ρ' ρ) : WO r P N ops l ρ ds w Q := fun a ha => h a (ha.le hl)
/-- a call that keeps what lies -/
theorem WO.cv {f : FuncId} {x : Operand} {args : Array Operand} {ts : Array TypeId} {caps : List Value} {us : List Value} {v : Value} (hc : cop N ops ρ i = some (dst, .call { callee := .value x, args := args, argTypes := ts }, .func (.func f) #[] caps.toArray :: us)) (h : Cv P f (us ++ caps) v w0) (hk : Keep w0 w) (hf : FnOk P f)
    (k : ∀ w', Keep w w' → WO r P N ops l (putE ρ dst v) ds w' Q) : WO r P N ops (i :: l) ρ ds w Q :=
  WO.act hc (Ef.quiet h hk hf k)
/-- the end of a piece that is walked in two ways -/
theorem WO.e {v : Value} (n : Nat) (k : WO r P N ops l ((d, v) :: ρ') ds w Q) (hv : lk ρ d = some v := by rfl) (h1 : ρ.drop n = ρ' := by rfl) (h2 : disjK (ρ.take n) ρ' = true := by kernel_rfl) : WO r P N ops l ρ ds w Q := k.le ((Le.drop n h1 h2).put hv)
theorem WO.and (t d : Nat) {g b : Bool} (hg : lk ρ t = some (.bool g) := by rfl)
    (ht : g = true → (∀ w', Keep w w' → WO r P N ops js ((d, .bool b) :: (t, .bool true) :: ρ) ds w' Q) → WO r P N ops l ((t, .bool true) :: ρ) ds w Q)
    (hf : g = false → (∀ w', Keep w w' → WO r P N ops js ((d, .bool false) :: (t, .bool false) :: ρ) ds w' Q) → WO r P N ops l ((t, .bool false) :: ρ) ds w Q)
    (k : ∀ w', Keep w w' → WO r P N ops js ((d, .bool (g && b)) :: ρ) ds w' Q) : WO r P N ops l ρ ds w Q := by
  cases g with
  | true => exact (ht rfl fun w' hk => (k w' hk).le (Le.cons (fun s u hs => by
      rw [lk_cons]
      split
      · rename_i e; subst e; rw [hg] at hs; exact hs
      · exact hs) d (.bool b))).le ((Le.refl ρ).put hg)
  | false => exact (hf rfl fun w' hk => (k w' hk).le (Le.cons (fun s u hs => by
      rw [lk_cons]
      split
      · rename_i e; subst e; rw [hg] at hs; exact hs
      · exact hs) d (.bool false))).le ((Le.refl ρ).put hg)
theorem WO.or (t d : Nat) {g b : Bool} (hg : lk ρ t = some (.bool g) := by rfl)
    (hf : g = false → (∀ w', Keep w w' → WO r P N ops js ((d, .bool b) :: (t, .bool false) :: ρ) ds w' Q) → WO r P N ops l ((t, .bool false) :: ρ) ds w Q)
    (ht : g = true → (∀ w', Keep w w' → WO r P N ops js ((d, .bool true) :: (t, .bool true) :: ρ) ds w' Q) → WO r P N ops l ((t, .bool true) :: ρ) ds w Q)
    (k : ∀ w', Keep w w' → WO r P N ops js ((d, .bool (g || b)) :: ρ) ds w' Q) : WO r P N ops l ρ ds w Q := by
  cases g with
  | false => exact (hf rfl fun w' hk => (k w' hk).le (Le.cons (fun s u hs => by
      rw [lk_cons]
      split
      · rename_i e; subst e; rw [hg] at hs; exact hs
      · exact hs) d (.bool b))).le ((Le.refl ρ).put hg)
  | true => exact (ht rfl fun w' hk => (k w' hk).le (Le.cons (fun s u hs => by
      rw [lk_cons]
      split
      · rename_i e; subst e; rw [hg] at hs; exact hs
      · exact hs) d (.bool true))).le ((Le.refl ρ).put hg)
/-- a region as a list of its numbers; what is told of the world behind it: it keeps what lay -/
theorem Wp.regionK {l : List Nat} (h : WO r P N ops l ρ ds w Q) (hl : List.range ops.size = l := by rfl) : Wp r P N (.region id ops false) ρ ds w Q := Wp.regionL h hl
/-- a variable that takes a value and is never written again -/
def Cells (w : World) (b : Nat) (vs : List Value) : Prop := ∀ j v, vs[j]? = some v → w.cell? ⟨b, j, none⟩ = some v
theorem Cells.keep {w w' : World} {b : Nat} {vs : List Value} (h : Cells w b vs) (k : Keep w w') : Cells w' b vs := fun j v hj => k.cell (h j v hj)
theorem Cells.at_ {w : World} {b : Nat} {vs : List Value} (h : Cells w b vs) (j : Nat) {v : Value} (hv : vs[j]? = some v := by rfl) : w.cell? ⟨b, j, none⟩ = some v := h j v hv
theorem Cells.new (w : World) (t : TypeId) (vs : List Value) : Cells (w.alloc (.cells vs.toArray t)) w.heap.size vs := fun j v hj => cells_cell (T := t) (vs := vs) (heap_alloc_new w _) j v hj
theorem WO.box {ty : TypeId} {x : Operand} {v : Value} (hc : cop N ops ρ i = some (dst, .box ty x, [v])) (k : ∀ b w', Keep w w' → w.heap.size ≤ b → Cells w' b v.cells.toList → WO r P N ops l (putE ρ dst (.pointer (some ⟨b, 0, none⟩))) ds w' Q) : WO r P N ops (i :: l) ρ ds w Q :=
  WO.act hc (Ef.of_run (v := .pointer (some ⟨w.heap.size, 0, none⟩)) (w' := w.alloc (.cells v.cells.toList.toArray ty)) (by simp)
    (fun o e ho hv => by
      have hx : e x = v := by simpa [Op.operands] using hv
      simp [execOp, ho, hx, Instr.box, newVar, newRow]) (k _ _ (Keep.alloc _ _) (Nat.le_refl _) (Cells.new w ty _)))
/-- a whole struct out of such a variable -/
theorem Yv.ldb {n b : Nat} {x : Operand} {ty : TypeId} {vs : List Value} (h : Cells w b vs) (hn : vs.length = n := by rfl) (ht : agB P ty n = true := by kernel_rfl) : Yv P w (.load ty x) [(.pointer (some ⟨b, 0, none⟩))] (.agg vs.toArray) :=
  Yv.lds hn (fun j v hj => by rw [Nat.zero_add]; exact h j v hj) ht
end
/-! ### an order that is drawn -/
section
variable {r : Option Nat} {P : Program} {N : Nat} {ops : Array Oper} {ρ ρ' : Env} {ds : List Deferred} {w w0 : World} {Q : Post} {tail : List Nat} {listed listed' : Array Bool} {id i d t : Nat} {dst : Option Nat}
theorem WD.le (h : WD r P N ops tail listed ρ' ds w Q) (hl : Le ρ' ρ) : WD r P N ops tail listed ρ ds w Q := fun a ha => h a (ha.le hl)
theorem WD.cv (i : Nat) {f : FuncId} {x : Operand} {args : Array Operand} {ts : Array TypeId} {caps : List Value} {us : List Value} {v : Value} (hc : cop N ops ρ i = some (dst, .call { callee := .value x, args := args, argTypes := ts }, .func (.func f) #[] caps.toArray :: us)) (h : Cv P f (us ++ caps) v w0) (hk : Keep w0 w) (hf : FnOk P f)
    (k : ∀ w', Keep w w' → WD r P N ops tail (listed.setIfInBounds i true) (putE ρ dst v) ds w' Q) (hl : Region.ready .any ops listed = [i] := by kernel_rfl) : WD r P N ops tail listed ρ ds w Q :=
  WD.act i hc (Ef.quiet h hk hf (fun w' hk' => ⟨fun _ => hk', k w' hk'⟩)) hl
theorem WD.e {v : Value} (n : Nat) (k : WD r P N ops tail listed' ((d, v) :: ρ') ds w Q) (hv : lk ρ d = some v := by rfl) (h1 : ρ.drop n = ρ' := by rfl) (h2 : disjK (ρ.take n) ρ' = true := by kernel_rfl) (hl : listed = listed' := by kernel_rfl) : WD r P N ops tail listed ρ ds w Q := by
  subst hl
  exact k.le ((Le.drop n h1 h2).put hv)
theorem WD.and (is : List Nat) (t d : Nat) {g b : Bool} (hg : lk ρ t = some (.bool g) := by rfl)
    (ht : g = true → (∀ w', Keep w w' → WD r P N ops tail (marks listed is) ((d, .bool b) :: (t, .bool true) :: ρ) ds w' Q) → WD r P N ops tail listed ((t, .bool true) :: ρ) ds w Q)
    (hf : g = false → (∀ w', Keep w w' → WD r P N ops tail (marks listed is) ((d, .bool false) :: (t, .bool false) :: ρ) ds w' Q) → WD r P N ops tail listed ((t, .bool false) :: ρ) ds w Q)
    (k : ∀ w', Keep w w' → WD r P N ops tail (marks listed is) ((d, .bool (g && b)) :: ρ) ds w' Q) : WD r P N ops tail listed ρ ds w Q := by
  cases g with
  | true => exact (ht rfl fun w' hk => (k w' hk).le (Le.cons (fun s u hs => by
      rw [lk_cons]
      split
      · rename_i e; subst e; rw [hg] at hs; exact hs
      · exact hs) d (.bool b))).le ((Le.refl ρ).put hg)
  | false => exact (hf rfl fun w' hk => (k w' hk).le (Le.cons (fun s u hs => by
      rw [lk_cons]
      split
      · rename_i e; subst e; rw [hg] at hs; exact hs
      · exact hs) d (.bool false))).le ((Le.refl ρ).put hg)
theorem WD.or (is : List Nat) (t d : Nat) {g b : Bool} (hg : lk ρ t = some (.bool g) := by rfl)
    (hf : g = false → (∀ w', Keep w w' → WD r P N ops tail (marks listed is) ((d, .bool b) :: (t, .bool false) :: ρ) ds w' Q) → WD r P N ops tail listed ((t, .bool false) :: ρ) ds w Q)
    (ht : g = true → (∀ w', Keep w w' → WD r P N ops tail (marks listed is) ((d, .bool true) :: (t, .bool true) :: ρ) ds w' Q) → WD r P N ops tail listed ((t, .bool true) :: ρ) ds w Q)
    (k : ∀ w', Keep w w' → WD r P N ops tail (marks listed is) ((d, .bool (g || b)) :: ρ) ds w' Q) : WD r P N ops tail listed ρ ds w Q := by
  cases g with
  | false => exact (hf rfl fun w' hk => (k w' hk).le (Le.cons (fun s u hs => by
      rw [lk_cons]
      split
      · rename_i e; subst e; rw [hg] at hs; exact hs
      · exact hs) d (.bool b))).le ((Le.refl ρ).put hg)
  | true => exact (ht rfl fun w' hk => (k w' hk).le (Le.cons (fun s u hs => by
      rw [lk_cons]
      split
      · rename_i e; subst e; rw [hg] at hs; exact hs
      · exact hs) d (.bool true))).le ((Le.refl ρ).put hg)
end
/-! ### results in cells -/
theorem resAgg {P : Program} {fn : Func} {N n : Nat} {ρ : Env} {w : World} {t b : Nat} {ty : TypeId} {vs : List Value} (h : fn.results = #[.cell t ty]) (hp : lk ρ t = some (.pointer (some ⟨b, 0, none⟩)) := by rfl) (hc : Cells w b vs) (hn : vs.length = n := by rfl) (ht : agB P ty n = true := by kernel_rfl) : Res P fn N ρ w (.agg vs.toArray) := fun a ds ha => by
  have h1 := ha.val t _ hp
  have h2 : (loadVar ty ⟨b, 0, none⟩).run P w = .ok (.agg vs.toArray) w := run_loadVar_ag (agB_of ht) ⟨b, 0, none⟩ vs hn (fun j v hj => by rw [add_off, Nat.zero_add]; exact hc j v hj)
  simp only [results, h]
  simp at h1
  simp [h1, h2, asAddr]
end Go.Proofs.YthbehiflmcljcaaDoor.Sh
