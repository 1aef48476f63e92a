/- A walk over the model's code with a small environment (generic: over any program). Part B: runs of operations that only read; regions in a fixed order and in any order; what an operation that acts owes. -/
import Derived.Test.YthbehiflmcljcaaDoorShA
set_option linter.unusedVariables false
set_option linter.unusedSimpArgs false
namespace Go.Proofs.YthbehiflmcljcaaDoor.Sh
open Go.RowKit

/-! ### 1. Guards -/
def gdv (want : Bool) : Option Value → Option Bool
  | some (.bool b) => some (b == want)
  | some (.tuple _) => some false
  | _ => none
def gd (ops : Array Oper) (ρ : Env) (o : Oper) : Option Bool :=
  match o.guard with
  | none => some true
  | some (g, want) => match (ops[g]?).bind (·.dst) with
    | some d => gdv want (lk ρ d)
    | none => none
theorem wanted_of_gd {N : Nat} {a : Act} {ρ : Env} {ds : List Deferred} {ops : Array Oper} {o : Oper} {c : Bool} (ha : Rep N a ρ ds) (h : gd ops ρ o = some c) :
    Region.wanted o (yielded ops a.tmps) = c := by
  unfold gd at h
  unfold Region.wanted
  cases hg : o.guard with
  | none => rw [hg] at h; simpa using h
  | some gw =>
    obtain ⟨g, want⟩ := gw
    rw [hg] at h
    simp only at h ⊢
    cases hd : (ops[g]?).bind (·.dst) with
    | none => rw [hd] at h; cases h
    | some d =>
      rw [hd] at h
      simp only at h
      unfold yielded
      rw [hd]
      simp only [Option.bind_some]
      cases hv : lk ρ d with
      | none => rw [hv] at h; cases h
      | some v =>
        rw [hv] at h
        have e := ha.val d v hv
        have hq : a.tmps[d]? = some v ∨ (a.tmps[d]? = none ∧ v = undef) := by
          by_cases hlt : d < a.tmps.size
          · left; simp [hlt] at e; simp [hlt, e]
          · right; simp [hlt] at e; exact ⟨by simp [hlt], e.symm⟩
        cases v <;> simp only [gdv] at h <;> try cases h
        · rcases hq with hq | ⟨_, hq⟩
          · rw [hq]
            simp only []
            rename_i b
            cases b <;> cases want <;> rfl
          · cases hq
        · rcases hq with hq | ⟨hq, _⟩ <;> (rw [hq]; rfl)

/-! ### 2. Worlds in which old blocks are as they were -/
abbrev Keep (w w' : World) : Prop := Below w.heap.size w w'
theorem Keep.refl (w : World) : Keep w w := Below.refl _ _
theorem Keep.trans {a b c : World} (h : Keep a b) (k : Keep b c) : Keep a c := Below.trans h (k.mono h.size)
theorem Keep.drew (w : World) : Keep w w.drew := (Below.refl _ _).drew
theorem Keep.alloc (w : World) (o : Obj) : Keep w (w.alloc o) := (Below.refl _ w).alloc (Nat.le_refl _) o
theorem Keep.blk {w w' : World} (h : Keep w w') {b : Nat} {o : Obj} (hb : w.heap[b]? = some o) : w'.heap[b]? = some o :=
  (h.block b (Array.getElem?_eq_some_iff.1 hb).1).trans hb
theorem Keep.cell {w w' : World} (h : Keep w w') {a : Addr} {v : Value} (hc : w.cell? a = some v) : w'.cell? a = some v :=
  (Below.cell h (World.block_lt_of_cell? w a hc)).trans hc

/-! operations with their operands' values -/
def evs (ρ : Env) : List Operand → Option (List Value)
  | [] => some []
  | x :: xs => match ev ρ x with
    | some v => match evs ρ xs with
      | some vs => some (v :: vs)
      | none => none
    | none => none
def dstOk (N : Nat) : Option Nat → Bool
  | none => true
  | some d => Nat.blt d N
/-- operation number i, if it is carried out and all its operands are known: where its value goes, itself, their values -/
def cop (N : Nat) (ops : Array Oper) (ρ : Env) (i : Nat) : Option (Option Nat × Op × List Value) :=
  match ops[i]? with
  | none => none
  | some o => match gd ops ρ o with
    | some true => match dstOk N o.dst with
      | true => match evs ρ o.op.operands.toList with
        | some vs => some (o.dst, o.op, vs)
        | none => none
      | false => none
    | _ => none
/-- operation number i, if it is passed over -/
def cno (N : Nat) (ops : Array Oper) (ρ : Env) (i : Nat) : Option (Option Nat) :=
  match ops[i]? with
  | none => none
  | some o => match gd ops ρ o with
    | some false => match dstOk N o.dst with
      | true => some o.dst
      | false => none
    | _ => none
theorem evs_spec {N : Nat} {a : Act} {ρ : Env} {ds : List Deferred} (ha : Rep N a ρ ds) : ∀ {xs : List Operand} {vs : List Value}, evs ρ xs = some vs → xs.map a.eval = vs
  | [], vs, h => by simp [evs] at h; subst h; rfl
  | x :: xs, vs, h => by
    unfold evs at h
    cases hx : ev ρ x with
    | none => rw [hx] at h; cases h
    | some v =>
      rw [hx] at h
      simp only at h
      cases hxs : evs ρ xs with
      | none => rw [hxs] at h; cases h
      | some us =>
        rw [hxs] at h
        simp only [Option.some.injEq] at h
        subst h
        simp [ha.ev hx, evs_spec ha hxs]
theorem cop_spec {N : Nat} {ops : Array Oper} {ρ : Env} {i : Nat} {dst : Option Nat} {op : Op} {vs : List Value} (h : cop N ops ρ i = some (dst, op, vs)) :
    ∃ o, ops[i]? = some o ∧ gd ops ρ o = some true ∧ o.dst = dst ∧ o.op = op ∧ dstOk N dst = true ∧ evs ρ op.operands.toList = some vs := by
  unfold cop at h
  cases ho : ops[i]? with
  | none => rw [ho] at h; cases h
  | some o =>
    rw [ho] at h
    simp only at h
    cases hg : gd ops ρ o with
    | none => rw [hg] at h; cases h
    | some c =>
      rw [hg] at h
      cases c with
      | false => cases h
      | true =>
        simp only at h
        cases hd : dstOk N o.dst with
        | false => rw [hd] at h; cases h
        | true =>
          rw [hd] at h
          simp only at h
          cases hv : evs ρ o.op.operands.toList with
          | none => rw [hv] at h; cases h
          | some us =>
            rw [hv] at h
            simp only [Option.some.injEq, Prod.mk.injEq] at h
            obtain ⟨rfl, rfl, rfl⟩ := h
            exact ⟨o, rfl, hg, rfl, rfl, hd, hv⟩
theorem Le.ev {ρ ρ' : Env} (h : Le ρ ρ') {x : Operand} {v : Value} (hx : Sh.ev ρ x = some v) : Sh.ev ρ' x = some v := by
  cases x with
  | tmp t => exact h t v hx
  | _ => exact hx
theorem Le.evs {ρ ρ' : Env} (h : Le ρ ρ') : ∀ {xs : List Operand} {vs : List Value}, Sh.evs ρ xs = some vs → Sh.evs ρ' xs = some vs
  | [], vs, hv => hv
  | x :: xs, vs, hv => by
    unfold Sh.evs at hv ⊢
    cases hx : Sh.ev ρ x with
    | none => rw [hx] at hv; cases hv
    | some v =>
      rw [hx] at hv
      rw [h.ev hx]
      simp only at hv ⊢
      cases hxs : Sh.evs ρ xs with
      | none => rw [hxs] at hv; cases hv
      | some us => rw [hxs] at hv; rw [h.evs hxs]; exact hv
theorem Le.gd {ρ ρ' : Env} (h : Le ρ ρ') {ops : Array Oper} {o : Oper} {c : Bool} (hg : Sh.gd ops ρ o = some c) : Sh.gd ops ρ' o = some c := by
  unfold Sh.gd at hg ⊢
  cases ho : o.guard with
  | none => rw [ho] at hg; exact hg
  | some gw =>
    obtain ⟨g, want⟩ := gw
    rw [ho] at hg
    simp only at hg ⊢
    cases hd : (ops[g]?).bind (·.dst) with
    | none => rw [hd] at hg; cases hg
    | some d =>
      rw [hd] at hg
      simp only at hg ⊢
      cases hv : lk ρ d with
      | none => rw [hv] at hg; cases hg
      | some v => rw [hv] at hg; rw [h d v hv]; exact hg
theorem Le.cop {N : Nat} {ops : Array Oper} {ρ ρ' : Env} {i : Nat} {x : Option Nat × Op × List Value} (h : Le ρ ρ') (hc : Sh.cop N ops ρ i = some x) : Sh.cop N ops ρ' i = some x := by
  unfold Sh.cop at hc ⊢
  cases ho : ops[i]? with
  | none => rw [ho] at hc; cases hc
  | some o =>
    rw [ho] at hc
    simp only at hc ⊢
    cases hg : Sh.gd ops ρ o with
    | none => rw [hg] at hc; cases hc
    | some c =>
      rw [hg] at hc
      rw [h.gd hg]
      cases c with
      | false => cases hc
      | true =>
        simp only at hc ⊢
        cases hd : dstOk N o.dst with
        | false => rw [hd] at hc; cases hc
        | true =>
          rw [hd] at hc
          simp only at hc ⊢
          cases hv : Sh.evs ρ o.op.operands.toList with
          | none => rw [hv] at hc; cases hc
          | some us => rw [hv] at hc; rw [h.evs hv]; exact hc
theorem Le.cno {N : Nat} {ops : Array Oper} {ρ ρ' : Env} {i : Nat} {x : Option Nat} (h : Le ρ ρ') (hc : Sh.cno N ops ρ i = some x) : Sh.cno N ops ρ' i = some x := by
  unfold Sh.cno at hc ⊢
  cases ho : ops[i]? with
  | none => rw [ho] at hc; cases hc
  | some o =>
    rw [ho] at hc
    simp only at hc ⊢
    cases hg : Sh.gd ops ρ o with
    | none => rw [hg] at hc; cases hc
    | some c =>
      rw [hg] at hc
      rw [h.gd hg]
      exact hc
theorem cno_spec {N : Nat} {ops : Array Oper} {ρ : Env} {i : Nat} {dst : Option Nat} (h : cno N ops ρ i = some dst) :
    ∃ o, ops[i]? = some o ∧ gd ops ρ o = some false ∧ o.dst = dst ∧ dstOk N dst = true := by
  unfold cno at h
  cases ho : ops[i]? with
  | none => rw [ho] at h; cases h
  | some o =>
    rw [ho] at h
    simp only at h
    cases hg : gd ops ρ o with
    | none => rw [hg] at h; cases h
    | some c =>
      rw [hg] at h
      cases c with
      | true => cases h
      | false =>
        simp only at h
        cases hd : dstOk N o.dst with
        | false => rw [hd] at h; cases h
        | true =>
          rw [hd] at h
          simp only [Option.some.injEq] at h
          subst h
          exact ⟨o, rfl, hg, rfl, hd⟩
def putE (ρ : Env) : Option Nat → Value → Env
  | none, _ => ρ
  | some d, v => (d, v) :: ρ
theorem Rep.putE {N : Nat} {a : Act} {ρ : Env} {ds : List Deferred} (h : Rep N a ρ ds) {dst : Option Nat} (hd : dstOk N dst = true) (v : Value) : Rep N (a.put dst v) (putE ρ dst v) ds := by
  cases dst with
  | none => exact h
  | some d => exact h.put (by simpa [dstOk] using hd) v

/-- does it look at memory? -/
def rdm : Op → Bool
  | .move _ | .assign _ | .pick .. | .build .. | .nilCheck _ | .binOp .. | .unOp .. | .makeFunc .. | .slice .. | .fieldAddr .. | .field .. | .indexAddr .. | .index .. | .extract .. => false
  | _ => true
/-- an operation that only reads: in every world that keeps w (if it looks at memory at all) it leaves v -/
def Yv (P : Program) (w : World) (op : Op) (vs : List Value) (v : Value) : Prop :=
  (∀ c, op ≠ .defer c) ∧ ∀ (o : Oper) (e : Operand → Value), o.op = op → op.operands.toList.map e = vs → ∀ w', (rdm op = true → Keep w w') → (execOp e o).run P w' = .ok (.value v) w'

def Rn (P : Program) (w : World) (N : Nat) (ops : Array Oper) : List Nat → Env → Env → Prop
  | [], ρ, ρ' => Le ρ' ρ
  | i :: is, ρ, ρ' => (∃ d op vs v, cop N ops ρ i = some (some d, op, vs) ∧ Yv P w op vs v ∧ Rn P w N ops is ((d, v) :: ρ) ρ') ∨ (∃ d, cno N ops ρ i = some (some d) ∧ Rn P w N ops is ((d, undef) :: ρ) ρ')

section
variable {P : Program} {w : World} {N : Nat} {ops : Array Oper} {i d : Nat} {is : List Nat} {ρ ρ' : Env} {op : Op} {vs : List Value} {v : Value}
theorem Rn.nil : Rn P w N ops [] ρ ρ := Le.refl _
theorem Rn.s (hc : cop N ops ρ i = some (some d, op, vs)) (hy : Yv P w op vs v) (k : Rn P w N ops is ((d, v) :: ρ) ρ') : Rn P w N ops (i :: is) ρ ρ' := .inl ⟨d, op, vs, v, hc, hy, k⟩
theorem Rn.no (hc : cno N ops ρ i = some (some d)) (k : Rn P w N ops is ((d, undef) :: ρ) ρ') : Rn P w N ops (i :: is) ρ ρ' := .inr ⟨d, hc, k⟩
theorem Rn.up {ρ0 : Env} (h : Le ρ0 ρ) (k : Rn P w N ops is ρ0 ρ') : Rn P w N ops is ρ ρ' := by
  induction is generalizing ρ0 ρ with
  | nil => exact Le.trans k h
  | cons i is ih =>
    rcases k with ⟨d, op, vs, v, a, b, c⟩ | ⟨d, a, b⟩
    · exact .inl ⟨d, op, vs, v, h.cop a, b, ih (h.cons d v) c⟩
    · exact .inr ⟨d, h.cno a, ih (h.cons d _) b⟩
theorem Rn.app {js : List Nat} {ρ'' : Env} (h : Rn P w N ops is ρ ρ') (k : Rn P w N ops js ρ' ρ'') : Rn P w N ops (is ++ js) ρ ρ'' := by
  induction is generalizing ρ with
  | nil => exact Rn.up h k
  | cons i is ih =>
    rcases h with ⟨d, op, vs, v, a, b, c⟩ | ⟨d, a, b⟩
    · exact .inl ⟨d, op, vs, v, a, b, ih c⟩
    · exact .inr ⟨d, a, ih b⟩
/-- the end of a piece that is walked in two ways: n facts are new, d's is kept -/
theorem Rn.e {ρ1 : Env} (n : Nat) (hv : lk ρ1 d = some v) (h1 : ρ1.drop n = ρ) (h2 : disjK (ρ1.take n) ρ = true := by kernel_rfl) : Rn P w N ops [] ρ1 ((d, v) :: ρ) := (Le.drop n h1 h2).put hv
/-- a && b: t says a; the piece ends in d -/
theorem Rn.and {js : List Nat} {t : Nat} {g b : Bool} (hg : lk ρ t = some (.bool g) := by rfl) (ht : g = true → Rn P w N ops is ((t, .bool true) :: ρ) ((d, .bool b) :: (t, .bool true) :: ρ))
    (hf : g = false → Rn P w N ops is ((t, .bool false) :: ρ) ((d, .bool false) :: (t, .bool false) :: ρ)) (k : Rn P w N ops js ((d, .bool (g && b)) :: ρ) ρ') : Rn P w N ops (is ++ js) ρ ρ' := by
  cases g with
  | true => exact (Rn.up ((Le.refl ρ).put hg) (ht rfl)).app (Rn.up (Le.cons (fun s u hs => by
      rw [lk_cons]
      split
      · rename_i e; subst e; rw [hg] at hs; exact hs
      · exact hs) d (.bool b)) k)
  | false => exact (Rn.up ((Le.refl ρ).put hg) (hf rfl)).app (Rn.up (Le.cons (fun s u hs => by
      rw [lk_cons]
      split
      · rename_i e; subst e; rw [hg] at hs; exact hs
      · exact hs) d (.bool false)) k)
/-- a || b -/
theorem Rn.or {js : List Nat} {t : Nat} {g b : Bool} (hg : lk ρ t = some (.bool g) := by rfl) (hf : g = false → Rn P w N ops is ((t, .bool false) :: ρ) ((d, .bool b) :: (t, .bool false) :: ρ))
    (ht : g = true → Rn P w N ops is ((t, .bool true) :: ρ) ((d, .bool true) :: (t, .bool true) :: ρ)) (k : Rn P w N ops js ((d, .bool (g || b)) :: ρ) ρ') : Rn P w N ops (is ++ js) ρ ρ' := by
  cases g with
  | false => exact (Rn.up ((Le.refl ρ).put hg) (hf rfl)).app (Rn.up (Le.cons (fun s u hs => by
      rw [lk_cons]
      split
      · rename_i e; subst e; rw [hg] at hs; exact hs
      · exact hs) d (.bool b)) k)
  | true => exact (Rn.up ((Le.refl ρ).put hg) (ht rfl)).app (Rn.up (Le.cons (fun s u hs => by
      rw [lk_cons]
      split
      · rename_i e; subst e; rw [hg] at hs; exact hs
      · exact hs) d (.bool true)) k)
end

/-! ### 3. What an operation that acts owes; regions in a fixed order -/
/-- an operation, from this environment and world, comes to K (or leaves by a panic) -/
def Ef (r : Option Nat) (P : Program) (N : Nat) (dst : Option Nat) (op : Op) (vs : List Value) (ρ : Env) (ds : List Deferred) (w : World) (K : Env → World → Prop) (Q : Post) : Prop :=
  dstOk N dst = true → ∀ (o : Oper) (a : Act), o.op = op → o.dst = dst → Rep N a ρ ds → op.operands.toList.map a.eval = vs → o.wpIn (Fr r) 0 P a w (fun a' w' => ∃ ρ', Rep N a' ρ' ds ∧ K ρ' w') (lift N Q)
def WO (r : Option Nat) (P : Program) (N : Nat) (ops : Array Oper) (l : List Nat) (ρ : Env) (ds : List Deferred) (w : World) (Q : Post) : Prop :=
  ∀ a, Rep N a ρ ds → wpOpsIn (Fr r) 0 P ops (lift N Q) l a w

section
variable {r : Option Nat} {P : Program} {N : Nat} {ops : Array Oper} {ρ ρ' : Env} {ds : List Deferred} {w : World} {Q : Post} {i : Nat} {l : List Nat} {id : Nat} {dst : Option Nat} {op : Op} {vs : List Value}
theorem Wp.region (h : WO r P N ops (List.range ops.size) ρ ds w Q) : Wp r P N (.region id ops false) ρ ds w Q := fun a ha => wpIn_region (h a ha)
theorem WO.done (h : Q .normal ρ ds w) : WO r P N ops [] ρ ds w Q := fun a ha => ⟨ρ, ds, ha, h⟩
theorem semAt_plain {o : Oper} (e : Operand → Value) (hd : ∀ c, o.op ≠ .defer c) : o.semAt (Fr r).round e = execOp e o := Oper.semAt_eq _ _ _ hd
theorem WO.run {is : List Nat} (h : Rn P w N ops is ρ ρ') (k : WO r P N ops l ρ' ds w Q) : WO r P N ops (is ++ l) ρ ds w Q := by
  induction is generalizing ρ with
  | nil => exact fun a ha => k a (ha.le h)
  | cons i is ih =>
    intro a ha
    show wpOpsIn (Fr r) 0 P ops (lift N Q) (i :: (is ++ l)) a w
    rcases h with ⟨d, op, vs, v, hc, hy, hrest⟩ | ⟨d, hc, hrest⟩
    · obtain ⟨o, ho, hg, hd, rfl, hN, hv⟩ := cop_spec hc
      simp only [wpOpsIn, ho]
      rw [wanted_of_gd ha hg]
      simp only [if_true]
      refine ⟨fun f hf => trivial, ?_⟩
      rw [semAt_plain _ hy.1, hy.2 o a.eval rfl (evs_spec ha hv) w (fun _ => Keep.refl w)]
      simp only [Oper.uponIn, hd]
      exact ih hrest _ (ha.putE hN v)
    · obtain ⟨o, ho, hg, hd, hN⟩ := cno_spec hc
      simp only [wpOpsIn, ho]
      rw [wanted_of_gd ha hg]
      simp only [Bool.false_eq_true, if_false, hd]
      exact ⟨fun f hf => trivial, ih hrest _ (ha.putE hN undef)⟩
theorem Yv.weak {w0 : World} {v : Value} (hk : Keep w0 w) (h : Yv P w0 op vs v) : Yv P w op vs v := ⟨h.1, fun o e ho hv w' k => h.2 o e ho hv w' (fun hr => hk.trans (k hr))⟩
theorem Rn.weak {w0 : World} {is : List Nat} (hk : Keep w0 w) (h : Rn P w0 N ops is ρ ρ') : Rn P w N ops is ρ ρ' := by
  induction is generalizing ρ with
  | nil => exact h
  | cons i is ih =>
    rcases h with ⟨d, op, vs, v, a, b, c⟩ | ⟨d, a, b⟩
    · exact .inl ⟨d, op, vs, v, a, b.weak hk, ih c⟩
    · exact .inr ⟨d, a, ih b⟩
/-- the whole region reads -/
theorem Wp.reads {ρ' : Env} {w0 : World} {is : List Nat} (hk : Keep w0 w) (h : Rn P w0 N ops is ρ ρ') (k : Q .normal ρ' ds w) (his : List.range ops.size = is := by rfl) : Wp r P N (.region id ops false) ρ ds w Q :=
  Wp.region (by subst his; have := WO.run (r := r) (l := []) (h.weak hk) (WO.done k); simpa using this)
/-- a region as a list of its numbers -/
theorem Wp.regionL {l : List Nat} (h : WO r P N ops l ρ ds w Q) (hl : List.range ops.size = l := by rfl) : Wp r P N (.region id ops false) ρ ds w Q := Wp.region (by rw [hl]; exact h)
/-- some reading ahead -/
theorem WO.rd {w0 : World} {is js : List Nat} (hk : Keep w0 w) (h : Rn P w0 N ops is ρ ρ') (k : WO r P N ops js ρ' ds w Q) (hl : l = is ++ js := by rfl) : WO r P N ops l ρ ds w Q := by
  subst hl
  exact WO.run (h.weak hk) k
theorem WO.act (hc : cop N ops ρ i = some (dst, op, vs) := by rfl) (he : Ef r P N dst op vs ρ ds w (fun ρ' w' => WO r P N ops l ρ' ds w' Q) Q) : WO r P N ops (i :: l) ρ ds w Q := by
  intro a ha
  obtain ⟨o, ho, hg, hd, rfl, hN, hv⟩ := cop_spec hc
  simp only [wpOpsIn, ho]
  rw [wanted_of_gd ha hg]
  simp only [if_true]
  refine Oper.wpIn_mono ?_ (he hN o a rfl hd ha (evs_spec ha hv))
  rintro a' w' ⟨ρ', hr, hk⟩
  exact hk a' hr
theorem WO.no (hc : cno N ops ρ i = some dst := by rfl) (k : WO r P N ops l (putE ρ dst undef) ds w Q) : WO r P N ops (i :: l) ρ ds w Q := by
  intro a ha
  obtain ⟨o, ho, hg, hd, hN⟩ := cno_spec hc
  simp only [wpOpsIn, ho]
  rw [wanted_of_gd ha hg]
  simp only [Bool.false_eq_true, if_false, hd]
  exact ⟨fun f hf => trivial, k _ (ha.putE hN undef)⟩
theorem Ef.mono {K K' : Env → World → Prop} (h : Ef r P N dst op vs ρ ds w K Q) (hk : ∀ ρ' w', K ρ' w' → K' ρ' w') : Ef r P N dst op vs ρ ds w K' Q :=
  fun hN o a ho hd ha hv => Oper.wpIn_mono (fun a' w' ⟨ρ', hr, h'⟩ => ⟨ρ', hr, hk _ _ h'⟩) (h hN o a ho hd ha hv)
/-- an operation whose run is known -/
theorem Ef.of_run {v : Value} {w' : World} {K : Env → World → Prop} (hnd : ∀ c, op ≠ .defer c) (h : ∀ (o : Oper) (e : Operand → Value), o.op = op → op.operands.toList.map e = vs → (execOp e o).run P w = .ok (.value v) w')
    (k : K (putE ρ dst v) w') : Ef r P N dst op vs ρ ds w K Q := by
  rintro hN o a rfl rfl ha hv
  refine ⟨fun f hf => trivial, ?_⟩
  rw [semAt_plain _ hnd, h o a.eval rfl hv]
  exact ⟨_, ha.putE hN v, k⟩
theorem Ef.of_skip {w' : World} {K : Env → World → Prop} (hnd : ∀ c, op ≠ .defer c) (h : ∀ (o : Oper) (e : Operand → Value), o.op = op → op.operands.toList.map e = vs → (execOp e o).run P w = .ok .skip w')
    (k : K (putE ρ dst undef) w') : Ef r P N dst op vs ρ ds w K Q := by
  rintro hN o a rfl rfl ha hv
  refine ⟨fun f hf => trivial, ?_⟩
  rw [semAt_plain _ hnd, h o a.eval rfl hv]
  exact ⟨_, ha.putE hN undef, k⟩
/-- a panic -/
theorem Ef.of_panic {v : Value} {w' : World} {K : Env → World → Prop} (hnd : ∀ c, op ≠ .defer c) (h : ∀ (o : Oper) (e : Operand → Value), o.op = op → op.operands.toList.map e = vs → (execOp e o).run P w = .halt (.panic v) w')
    (k : Q (.panic [{ v, recovered := false }]) ρ ds w') : Ef r P N dst op vs ρ ds w K Q := by
  rintro hN o a rfl rfl ha hv
  refine ⟨fun f hf => trivial, ?_⟩
  rw [semAt_plain _ hnd, h o a.eval rfl hv]
  exact ⟨_, _, ha, k⟩
/-- a call that is entered: its contract -/
def afterCall (ρ : Env) (ds : List Deferred) (dst : Option Nat) (K : Env → World → Prop) (Q : Post) : Ending → World → Prop
  | .returned v, w' => K (putE ρ dst v) w'
  | .panicked ch, w' => Q (.panic ch) ρ ds w'
  | .outgrown, _ => False
theorem Ef.of_enter {f : FuncId} {args : Array Value} {K : Env → World → Prop} (hnd : ∀ c, op ≠ .defer c) (h : ∀ (o : Oper) (e : Operand → Value), o.op = op → op.operands.toList.map e = vs → (execOp e o).run P w = .ok (.enter f args) w)
    (hc : Calls P f args w (afterCall ρ ds dst K Q)) : Ef r P N dst op vs ρ ds w K Q := by
  rintro hN o a rfl rfl ha hv
  refine ⟨fun f hf => trivial, ?_⟩
  rw [semAt_plain _ hnd, h o a.eval rfl hv]
  simp only [Oper.uponIn]
  refine ⟨fun hc => by simp [Fence.wide] at hc, ?_⟩
  have hcc : CallsIn (Fr r) (0 - 1) P f args w _ := (callsIn_wide (n := 0 - 1)).2 hc
  refine hcc.mono ?_
  intro e w' he
  cases e with
  | returned v => exact ⟨_, ha.putE hN v, he⟩
  | panicked ch => exact ⟨_, _, ha, he⟩
  | outgrown => exact he.elim
/-- a call by name -/
theorem enters_name {P : Program} {f : FuncId} {fn : Func} (hf : P.funcs[f]? = some fn) (hb : fn.body.isSome = true) (hn : (fn.name == "runtime.NumGoroutine") = false) (args : Array Value) (w : World) : (callFunc f args).run P w = .ok (.enter f args) w := by
  have hb' : ¬ fn.body = none := by cases h : fn.body <;> simp_all
  have hn' : ¬ fn.name = "runtime.NumGoroutine" := by simpa using hn
  simp [callFunc, hf, hb', hn']
/-- a function's value is called (by name, or a closure: what it captured comes last) -/
theorem Ef.callv {f : FuncId} {fn : Func} {x : Operand} {args : Array Operand} {ts : Array TypeId} {caps : Array Value} {us : List Value} {K : Env → World → Prop} (hf : P.funcs[f]? = some fn)
    (hc : Calls P f (us.toArray ++ caps) w (afterCall ρ ds dst K Q)) (hb : fn.body.isSome = true := by rfl) (hn : (fn.name == "runtime.NumGoroutine") = false := by kernel_rfl) :
    Ef r P N dst (.call { callee := .value x, args := args, argTypes := ts }) (.func (.func f) #[] caps :: us) ρ ds w K Q := by
  refine Ef.of_enter (by simp) (fun o e ho hv => ?_) hc
  simp only [Op.operands, Call.operands, Array.toList_append, List.map_append, List.singleton_append, List.map_cons, List.map_nil, List.cons.injEq] at hv
  obtain ⟨h1, h2⟩ := hv
  have h3 : args.map e = us.toArray := by
    apply Array.ext'
    simpa using h2
  simp only [execOp, ho, resolve, h1, Sem.run_bind]
  simp [Deferred.ofValue, invoke, h3, enters_name hf hb hn, go_sem]
end
end Go.Proofs.YthbehiflmcljcaaDoor.Sh
