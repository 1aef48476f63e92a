/- A walk over the model's code with a small environment (generic: over any program). Part A: environments, the walk's own wp, the rules of control, runs of operations that only read, regions in a fixed order. -/
import Derived.CallsIn
import Derived.OrdersIn
import Derived.Below
import Derived.Laws.World
import Derived.Tactics
import Derived.WalkKit
import Derived.RowKit3
import Derived.OwnWalkIn
import Derived.TacticsInMore
import Derived.RangeFuncLeaves
import Derived.RangeFuncRecord
import Derived.Laws.Concat
import Derived.Laws.AppendOwn
import Derived.Laws.OwnMore
import Derived.MapKept
import Derived.Carry
set_option linter.unusedVariables false
namespace Go.Proofs.YtgjhbapbomdpbaaDoor.Sh
open Go.RowKit

/-! ### 1. The fence, environments -/
abbrev Fr (r : Option Nat) : Fence := { Fence.wide with round := r }
abbrev Env := List (Nat × Value)
def lk : Env → Nat → Option Value
  | [], _ => none
  | (k, v) :: ρ, t => bif Nat.beq k t then some v else lk ρ t
def ev (ρ : Env) : Operand → Option Value
  | .tmp t => lk ρ t
  | .const v => some v
  | .global g => some (.pointer (some ⟨g, 0, none⟩))
  | .func f => some (.func (.func f) #[] #[])
structure Rep (N : Nat) (a : Act) (ρ : Env) (ds : List Deferred) : Prop where
  size : a.tmps.size = N
  val : ∀ t v, lk ρ t = some v → a.tmps.getD t undef = v
  defers : a.defers = ds
theorem Rep.ev {N : Nat} {a : Act} {ρ : Env} {ds : List Deferred} (h : Rep N a ρ ds) {x : Operand} {v : Value} (hx : ev ρ x = some v) : a.eval x = v := by
  cases x with
  | tmp t => exact h.val t v hx
  | const c => exact Option.some.inj hx
  | global g => exact Option.some.inj hx
  | func f => exact Option.some.inj hx
theorem lk_cons (k : Nat) (v : Value) (ρ : Env) (t : Nat) : lk ((k, v) :: ρ) t = if k = t then some v else lk ρ t := by
  show (bif Nat.beq k t then some v else lk ρ t) = _
  by_cases h : k = t
  · subst h; simp
  · have : Nat.beq k t = false := by cases hb : Nat.beq k t with | false => rfl | true => exact absurd (Nat.eq_of_beq_eq_true hb) h
    simp [this, h]
theorem Rep.put {N : Nat} {a : Act} {ρ : Env} {ds : List Deferred} (h : Rep N a ρ ds) {d : Nat} (hd : d < N) (v : Value) : Rep N (a.put (some d) v) ((d, v) :: ρ) ds := by
  refine ⟨by simp [Act.put, h.size], fun t u ht => ?_, h.defers⟩
  rw [lk_cons] at ht
  by_cases hdt : d = t
  · subst hdt
    simp only [if_true, Option.some.injEq] at ht
    subst ht
    have : d < a.tmps.size := by rw [h.size]; exact hd
    simp [Act.put, this]
  · rw [if_neg hdt] at ht
    have := h.val t u ht
    simpa [Act.put, Array.getElem?_setIfInBounds_ne hdt] using this
theorem Rep.noPut {N : Nat} {a : Act} {ρ : Env} {ds : List Deferred} (h : Rep N a ρ ds) (v : Value) : Rep N (a.put none v) ρ ds := h
/-- what a smaller environment says the greater one says -/
def Sub : Env → Env → Prop
  | [], _ => True
  | (t, v) :: r, ρ => lk ρ t = some v ∧ Sub r ρ
theorem Sub.lk {r ρ : Env} (h : Sub r ρ) : ∀ {t v}, lk r t = some v → Sh.lk ρ t = some v := by
  induction r with
  | nil => intro t v ht; simp [Sh.lk] at ht
  | cons x r ih =>
    obtain ⟨k, u⟩ := x
    intro t v ht
    rw [lk_cons] at ht
    by_cases hk : k = t
    · subst hk
      simp only [if_true, Option.some.injEq] at ht
      subst ht
      exact h.1
    · rw [if_neg hk] at ht
      exact ih h.2 ht
/-- every fact of the one is a fact of the other -/
def Le (r ρ : Env) : Prop := ∀ t v, lk r t = some v → lk ρ t = some v
theorem Le.refl (ρ : Env) : Le ρ ρ := fun _ _ h => h
theorem Le.trans {a b c : Env} (h : Le a b) (k : Le b c) : Le a c := fun t v ht => k t v (h t v ht)
theorem Sub.le {r ρ : Env} (h : Sub r ρ) : Le r ρ := fun _ _ ht => h.lk ht
theorem Le.cons {r ρ : Env} (h : Le r ρ) (k : Nat) (v : Value) : Le ((k, v) :: r) ((k, v) :: ρ) := fun t u ht => by
  rw [lk_cons] at ht ⊢
  split at ht
  · rename_i hk; rw [if_pos hk]; exact ht
  · rename_i hk; rw [if_neg hk]; exact h t u ht
/-- a fact that is there already -/
theorem Le.put {r ρ : Env} {k : Nat} {v : Value} (h : Le r ρ) (hv : lk ρ k = some v) : Le ((k, v) :: r) ρ := fun t u ht => by
  rw [lk_cons] at ht
  split at ht
  · rename_i hk; subst hk; rw [hv]; exact ht
  · exact h t u ht
theorem Rep.le {N : Nat} {a : Act} {ρ r : Env} {ds : List Deferred} (h : Rep N a ρ ds) (hs : Le r ρ) : Rep N a r ds := ⟨h.size, fun t v ht => h.val t v (hs t v ht), h.defers⟩
def hasK : Env → Nat → Bool
  | [], _ => false
  | (k, _) :: ρ, t => bif Nat.beq k t then true else hasK ρ t
def disjK : Env → Env → Bool
  | [], _ => true
  | (k, _) :: l, ρ => bif hasK ρ k then false else disjK l ρ
theorem hasK_lk {ρ : Env} {t : Nat} (h : hasK ρ t = false) : lk ρ t = none := by
  induction ρ with
  | nil => rfl
  | cons x ρ ih =>
    obtain ⟨k, v⟩ := x
    simp only [hasK, cond_eq_ite] at h
    split at h
    · cases h
    · rename_i hk
      rw [lk_cons, if_neg (fun e => hk (by subst e; simp))]
      exact ih h
theorem Le.of_disj (l ρ : Env) (h : disjK l ρ = true) : Le ρ (l ++ ρ) := by
  induction l with
  | nil => exact Le.refl _
  | cons x l ih =>
    obtain ⟨k, v⟩ := x
    simp only [disjK, cond_eq_ite] at h
    split at h
    · cases h
    · rename_i hk
      intro t u ht
      rw [List.cons_append, lk_cons]
      split
      · rename_i e; subst e
        rw [hasK_lk (by simpa using hk)] at ht
        cases ht
      · exact ih h t u ht
/-- n new facts ahead -/
theorem Le.drop {ρ ρ1 : Env} (n : Nat) (h1 : ρ1.drop n = ρ := by rfl) (h2 : disjK (ρ1.take n) ρ = true := by kernel_rfl) : Le ρ ρ1 := by
  have := Le.of_disj (ρ1.take n) ρ h2
  rw [← h1, List.take_append_drop] at this
  rw [← h1]
  exact this
theorem Rep.sub {N : Nat} {a : Act} {ρ r : Env} {ds : List Deferred} (h : Rep N a ρ ds) (hs : Sub r ρ) : Rep N a r ds := ⟨h.size, fun t v ht => h.val t v (hs.lk ht), h.defers⟩

/-! ### 2. wp over environments -/
abbrev Post := Exit → Env → List Deferred → World → Prop
def lift (N : Nat) (Q : Post) : Exit → Act → World → Prop := fun e a w => ∃ ρ ds, Rep N a ρ ds ∧ Q e ρ ds w
def Wp (r : Option Nat) (P : Program) (N : Nat) (c : Code) (ρ : Env) (ds : List Deferred) (w : World) (Q : Post) : Prop :=
  ∀ a, Rep N a ρ ds → c.wpIn (Fr r) 0 P (lift N Q) a w

section control
variable {r : Option Nat} {P : Program} {N : Nat} {ρ : Env} {ds : List Deferred} {w : World} {Q : Post}
theorem Wp.mono {c : Code} {Q' : Post} (h : Wp r P N c ρ ds w Q) (hq : ∀ e ρ' ds' w', Q e ρ' ds' w' → Q' e ρ' ds' w') : Wp r P N c ρ ds w Q' :=
  fun a ha => wpIn_mono (h a ha) fun e a' w' ⟨ρ', ds', hr, hQ⟩ => ⟨ρ', ds', hr, hq _ _ _ _ hQ⟩
theorem Wp.forget {c : Code} (r' : Env) (h : Wp r P N c r' ds w Q) (hs : Sub r' ρ) : Wp r P N c ρ ds w Q := fun a ha => h a (ha.sub hs)
theorem Wp.le {c : Code} {r' : Env} (h : Wp r P N c r' ds w Q) (hs : Le r' ρ) : Wp r P N c ρ ds w Q := fun a ha => h a (ha.le hs)
theorem Wp.skip (h : Q .normal ρ ds w) : Wp r P N .skip ρ ds w Q := fun _ ha => wpIn_skip ⟨ρ, ds, ha, h⟩
theorem Wp.exit {id : Nat} (h : Q (.exit id) ρ ds w) : Wp r P N (.exit id) ρ ds w Q := fun _ ha => wpIn_exit ⟨ρ, ds, ha, h⟩
theorem Wp.ret (h : Q .ret ρ ds w) : Wp r P N .ret ρ ds w Q := fun _ ha => wpIn_ret ⟨ρ, ds, ha, h⟩
/-- what follows a piece of code -/
def thn (K : Env → List Deferred → World → Prop) (Q : Post) : Post
  | .normal, ρ, ds, w => K ρ ds w
  | e, ρ, ds, w => Q e ρ ds w
def blk (id : Nat) (Q : Post) : Post
  | .exit id', ρ, ds, w => if id' = id then Q .normal ρ ds w else Q (.exit id') ρ ds w
  | e, ρ, ds, w => Q e ρ ds w
theorem lift_thn {x : Code} {a : Act} {K : Env → List Deferred → World → Prop} {K' : Act → World → Prop} (hK : ∀ a' ρ' ds' w', Rep N a' ρ' ds' → K ρ' ds' w' → K' a' w')
    (h : x.wpIn (Fr r) 0 P (lift N (thn K Q)) a w) : x.wpIn (Fr r) 0 P (Exit.then K' (lift N Q)) a w :=
  wpIn_mono h fun e a' w' ⟨ρ', ds', hr, hq⟩ => by
    cases e with
    | normal => exact hK _ _ _ _ hr hq
    | _ => exact ⟨ρ', ds', hr, hq⟩
theorem Wp.seq {x y : Code} (h : Wp r P N x ρ ds w (thn (fun ρ' ds' w' => Wp r P N y ρ' ds' w' Q) Q)) : Wp r P N (.seq x y) ρ ds w Q :=
  fun a ha => wpIn_seq (lift_thn (fun a' _ _ _ hr hk => hk a' hr) (h a ha))
/-- the same with a relation between: what follows is walked once, from a relation's states -/
theorem Wp.cut {x y : Code} (R : Env → List Deferred → World → Prop) (h : Wp r P N x ρ ds w (thn R Q)) (k : ∀ ρ' ds' w', R ρ' ds' w' → Wp r P N y ρ' ds' w' Q) : Wp r P N (.seq x y) ρ ds w Q :=
  Wp.seq (h.mono fun e ρ' ds' w' hq => by cases e <;> first | exact k _ _ _ hq | exact hq)
/-- a relation between a piece of code and what follows it -/
theorem Wp.mid {c : Code} (R : Env → List Deferred → World → Prop) (h : Wp r P N c ρ ds w (thn R Q)) (k : ∀ ρ' ds' w', R ρ' ds' w' → Q .normal ρ' ds' w') : Wp r P N c ρ ds w Q :=
  h.mono fun e ρ' ds' w' hq => by cases e <;> first | exact k _ _ _ hq | exact hq
theorem Wp.cond {c : Operand} {x y : Code} {t : Bool} (hc : ev ρ c = some (.bool t)) (ht : t = true → Wp r P N x ρ ds w Q) (hf : t = false → Wp r P N y ρ ds w Q) : Wp r P N (.cond c x y) ρ ds w Q :=
  fun a ha => wpIn_cond_split (ha.ev hc) (fun h => ht h a ha) (fun h => hf h a ha)
theorem Wp.cond_t {c : Operand} {x y : Code} (hc : ev ρ c = some (.bool true) := by rfl) (h : Wp r P N x ρ ds w Q) : Wp r P N (.cond c x y) ρ ds w Q := Wp.cond hc (fun _ => h) (fun h' => by cases h')
theorem Wp.cond_f {c : Operand} {x y : Code} (hc : ev ρ c = some (.bool false) := by rfl) (h : Wp r P N y ρ ds w Q) : Wp r P N (.cond c x y) ρ ds w Q := Wp.cond hc (fun h' => by cases h') (fun _ => h)
theorem Wp.block {id : Nat} {c : Code} (h : Wp r P N c ρ ds w (blk id Q)) : Wp r P N (.block id c) ρ ds w Q :=
  fun a ha => wpIn_block (wpIn_mono (h a ha) fun e a' w' ⟨ρ', ds', hr, hq⟩ => by
    cases e with
    | exit id' =>
      simp only [Exit.inBlock]
      simp only [blk] at hq
      by_cases hid : id' = id
      · rw [if_pos hid] at hq ⊢; exact ⟨ρ', ds', hr, hq⟩
      · rw [if_neg hid] at hq ⊢; exact ⟨ρ', ds', hr, hq⟩
    | _ => exact ⟨ρ', ds', hr, hq⟩)
/-- a loop: the relation names a state x; each round ends in a state of lesser measure, or leaves -/
theorem Wp.loop {α : Type} {c : Code} (I : α → Env → List Deferred → World → Prop) (μ : α → Nat) (x : α) (h0 : I x ρ ds w)
    (round : ∀ x ρ' ds' w', I x ρ' ds' w' → Wp r P N c ρ' ds' w' (thn (fun ρ'' ds'' w'' => ∃ y, I y ρ'' ds'' w'' ∧ μ y < μ x) Q)) : Wp r P N (.loop c) ρ ds w Q := by
  intro a ha b k cs hro hb hr
  have key : ∀ j x a w ρ ds, μ x = j → Rep N a ρ ds → I x ρ ds w →
      ∃ e a' w', lift N Q e a' w' ∧ ArrivesIn (Machine.fenced P (Fr r)) P (lone (b.atR a (.code c :: .inLoop c :: k)) cs w) b k cs e a' w' := by
    intro j
    induction j using Nat.strongRecOn with
    | _ j ih =>
      intro x a w ρ ds hx ha hI
      obtain ⟨e, a₁, w₁, ⟨ρ₁, ds₁, hr₁, hq⟩, harr⟩ := round x ρ ds w hI a ha b (.inLoop c :: k) cs hro hb hr
      cases e with
      | normal =>
        obtain ⟨y, hI₁, hlt⟩ := hq
        obtain ⟨e₂, a₂, w₂, hq₂, harr₂⟩ := ih (μ y) (hx ▸ hlt) y a₁ w₁ ρ₁ ds₁ rfl hr₁ hI₁
        exact ⟨e₂, a₂, w₂, hq₂, .of_steps (StepsIn.trans harr (.one (fenced_calm hb hr rfl) stepR_inLoop)) harr₂⟩
      | exit id => exact ⟨_, a₁, w₁, ⟨ρ₁, ds₁, hr₁, hq⟩, .pass (x := .inLoop c) rfl (fun _ _ => .inl (by simp)) harr⟩
      | goto l => exact ⟨_, a₁, w₁, ⟨ρ₁, ds₁, hr₁, hq⟩, .pass (x := .inLoop c) rfl (fun _ _ => .inl (by simp)) harr⟩
      | ret => exact ⟨_, a₁, w₁, ⟨ρ₁, ds₁, hr₁, hq⟩, .pass (x := .inLoop c) rfl (fun _ _ => .inl (by simp)) harr⟩
      | panic ch => exact ⟨_, a₁, w₁, ⟨ρ₁, ds₁, hr₁, hq⟩, .pass (x := .inLoop c) rfl (fun _ _ => .inl (by simp)) harr⟩
      | outgrown => exact ⟨_, a₁, w₁, ⟨ρ₁, ds₁, hr₁, hq⟩, .pass (x := .inLoop c) rfl (fun _ _ => .inl (by simp)) harr⟩
  obtain ⟨e, a', w', hq, harr⟩ := key _ x a w ρ ds rfl ha h0
  exact ⟨e, a', w', hq, .of_steps (.one (fenced_calm hb hr rfl) stepR_loop) harr⟩
end control

/-! ### 3. Entering a function -/
def argsEnv : List Value → Nat → Env
  | [], _ => []
  | v :: vs, i => (i, v) :: argsEnv vs (i + 1)
theorem lk_argsEnv (vs : List Value) : ∀ i t v, lk (argsEnv vs i) t = some v → i ≤ t ∧ vs[t - i]? = some v := by
  induction vs with
  | nil => intro i t v h; simp [argsEnv, lk] at h
  | cons u vs ih =>
    intro i t v h
    rw [argsEnv, lk_cons] at h
    by_cases hi : i = t
    · subst hi; simp at h; subst h; simp
    · rw [if_neg hi] at h
      obtain ⟨h1, h2⟩ := ih _ _ _ h
      refine ⟨by omega, ?_⟩
      obtain ⟨k, hk⟩ : ∃ k, t - i = k + 1 := ⟨t - i - 1, by omega⟩
      rw [hk]
      have : t - (i + 1) = k := by omega
      rw [this] at h2
      simpa using h2
/-- what a function hands back, out of an environment -/
def Res (P : Program) (fn : Func) (N : Nat) (ρ : Env) (w : World) (v : Value) : Prop := ∀ a ds, Rep N a ρ ds → (results fn a.tmps).run P w = .ok v w
/-- marks of ranges over functions, whose rounds have deferred nothing, are taken on the way out -/
def Lv : List Deferred → (World → Prop) → World → Prop
  | [], K, w => K w
  | d :: ds, K, w => ∃ b, d.target = .collected b ∧ w.heap[b]? = some (.deferred (some [])) ∧ Lv ds K (w.putObj b (.deferred none))
structure FinR (P : Program) (fn : Func) (N : Nat) (R : Ending → World → Prop) (ρ : Env) (ds : List Deferred) (w : World) : Prop where
  lv : Lv ds (fun w' => ∃ v, Res P fn N ρ w' v ∧ R (.returned v) w') w
structure FinP (R : Ending → World → Prop) (ch : List PanicEntry) (ds : List Deferred) (w : World) : Prop where
  lv : Lv ds (fun w' => R (.panicked ch) w') w
def Fin (P : Program) (fn : Func) (N : Nat) (R : Ending → World → Prop) : Post
  | .normal, ρ, ds, w | .ret, ρ, ds, w => FinR P fn N R ρ ds w
  | .panic ch, _, ds, w => FinP R ch ds w
  | _, _, _, _ => False
theorem lv_leaves {P : Program} {fn : Func} {tmps : Array Value} {R : Ending → World → Prop} {u : FrameMode} (hu : u ≠ .run) {K : World → Prop} (hK : ∀ w, K w → LeavesInM (Fr none) 0 P fn tmps R [] u w) : ∀ (ds : List Deferred) (w : World), Lv ds K w → LeavesInM (Fr none) 0 P fn tmps R ds u w
  | [], w, h => hK w h
  | d :: ds, w, ⟨b, h1, h2, h3⟩ => ⟨hu, .inl ⟨b, _, h1, run_takeDeferred h2, lv_leaves hu hK ds _ h3⟩⟩
/-- a function, from its body: whatever its deferred calls are -/
theorem calls_of_WpM {P : Program} {f : FuncId} {fn : Func} {c : Code} {vs : List Value} {w : World} {R : Ending → World → Prop} {N : Nat} {Q : Post} (hf : P.funcs[f]? = some fn) (h : Wp none P N c (argsEnv vs 0) [] w Q)
    (hQ : ∀ e ρ ds a w', Rep N a ρ ds → Q e ρ ds w' → bodyPostM (Fr none) 0 P fn R e a w') (hb : fn.body = some c := by rfl) (hN : fn.ntmps = N := by rfl) (hn : Nat.ble vs.length N = true := by rfl) : Calls P f vs.toArray w R := by
  subst hN
  have hn := Nat.le_of_ble_eq_true hn
  refine (callsIn_wide (n := 0)).1 (callsIn_of_wp_marks (F := Fr none) hf hb trivial ?_)
  refine wpIn_mono (h _ ⟨by simp; omega, fun t v ht => ?_, rfl⟩) ?_
  · obtain ⟨-, h2⟩ := lk_argsEnv _ _ _ _ ht
    rw [Nat.sub_zero] at h2
    obtain ⟨hlt, hv⟩ := List.getElem?_eq_some_iff.1 h2
    simp [Array.getElem?_append, hlt, hv]
  · intro e a w' ⟨ρ, ds, hr, hq⟩
    exact hQ e ρ ds a w' hr hq
theorem calls_of_Wp {P : Program} {f : FuncId} {fn : Func} {c : Code} {vs : List Value} {w : World} {R : Ending → World → Prop} {N : Nat} (hf : P.funcs[f]? = some fn) (h : Wp none P N c (argsEnv vs 0) [] w (Fin P fn N R)) (hb : fn.body = some c := by rfl) (hN : fn.ntmps = N := by rfl)
    (hn : Nat.ble vs.length N = true := by rfl) : Calls P f vs.toArray w R := by
  refine calls_of_WpM hf h ?_ hb hN hn
  intro e ρ ds a w' hr hq
  have fin : Lv ds (fun w' => ∃ v, Res P fn N ρ w' v ∧ R (.returned v) w') w' → LeavesInM (Fr none) 0 P fn a.tmps R a.defers .returning w' := fun hq => by
    rw [hr.defers]
    exact lv_leaves (by simp) (fun w2 ⟨v, h1, h2⟩ => ⟨v, h1 a ds hr, h2⟩) ds w' hq
  cases e with
  | normal => exact fin hq.lv
  | ret => exact fin hq.lv
  | panic ch =>
    show LeavesInM (Fr none) 0 P fn a.tmps R a.defers (.panicking ch) w'
    rw [hr.defers]
    exact lv_leaves (by simp) (fun w2 h2 => h2) ds w' hq.lv
  | _ => exact hq.elim
theorem Res.none {P : Program} {fn : Func} {N : Nat} {ρ : Env} {w : World} (h : fn.results = #[]) : Res P fn N ρ w (.tuple #[]) := fun a _ _ => results_none h a.tmps P w
theorem Res.one {P : Program} {fn : Func} {N : Nat} {ρ : Env} {w : World} {t : Nat} {v : Value} (h : fn.results = #[.tmp t]) (hv : lk ρ t = some v) : Res P fn N ρ w v := fun a ds ha => by
  rw [results_tmp h, ha.val t v hv]
theorem Res.two {P : Program} {fn : Func} {N : Nat} {ρ : Env} {w : World} {t u : Nat} {v x : Value} (h : fn.results = #[.tmp t, .tmp u]) (hv : lk ρ t = some v) (hx : lk ρ u = some x) : Res P fn N ρ w (.tuple #[v, x]) := fun a ds ha => by
  rw [results_tmp2 h, ha.val t v hv, ha.val u x hx]
theorem Res.three {P : Program} {fn : Func} {N : Nat} {ρ : Env} {w : World} {t u s : Nat} {v x y : Value} (h : fn.results = #[.tmp t, .tmp u, .tmp s]) (hv : lk ρ t = some v) (hx : lk ρ u = some x) (hy : lk ρ s = some y) : Res P fn N ρ w (.tuple #[v, x, y]) := fun a ds ha => by
  have e1 := ha.val t v hv
  have e2 := ha.val u x hx
  have e3 := ha.val s y hy
  simp only [results, h]
  simp at e1 e2 e3
  simp [e1, e2, e3]
theorem Fin.ret {P : Program} {fn : Func} {N : Nat} {R : Ending → World → Prop} {ρ : Env} {w : World} {v : Value} (h : Res P fn N ρ w v) (hR : R (.returned v) w) : FinR P fn N R ρ [] w := ⟨⟨v, h, hR⟩⟩
theorem Fin.retM {P : Program} {fn : Func} {N : Nat} {R : Ending → World → Prop} {ρ : Env} {ds : List Deferred} {w : World} (h : Lv ds (fun w' => ∃ v, Res P fn N ρ w' v ∧ R (.returned v) w') w) : FinR P fn N R ρ ds w := ⟨h⟩
theorem Fin.normal {P : Program} {fn : Func} {N : Nat} {R : Ending → World → Prop} {ρ : Env} {w : World} {v : Value} (h : Res P fn N ρ w v) (hR : R (.returned v) w) : FinR P fn N R ρ [] w := ⟨⟨v, h, hR⟩⟩
end Go.Proofs.YtgjhbapbomdpbaaDoor.Sh
/- A walk over the model's code with a small environment (generic: over any program). Part B: runs of operations that only read; regions in a fixed order and in any order; what an operation that acts owes. -/
set_option linter.unusedVariables false
set_option linter.unusedSimpArgs false
namespace Go.Proofs.YtgjhbapbomdpbaaDoor.Sh
open Go.RowKit

/-! ### 1. Guards -/
def gdv (want : Bool) : Option Value → Option Bool
  | some (.bool b) => some (b == want)
  | some (.tuple _) => some false
  | _ => none
def gd (ops : Array Oper) (ρ : Env) (o : Oper) : Option Bool :=
  match o.guard with
  | none => some true
  | some (g, want) => match (ops[g]?).bind (·.dst) with
    | some d => gdv want (lk ρ d)
    | none => none
theorem wanted_of_gd {N : Nat} {a : Act} {ρ : Env} {ds : List Deferred} {ops : Array Oper} {o : Oper} {c : Bool} (ha : Rep N a ρ ds) (h : gd ops ρ o = some c) :
    Region.wanted o (yielded ops a.tmps) = c := by
  unfold gd at h
  unfold Region.wanted
  cases hg : o.guard with
  | none => rw [hg] at h; simpa using h
  | some gw =>
    obtain ⟨g, want⟩ := gw
    rw [hg] at h
    simp only at h ⊢
    cases hd : (ops[g]?).bind (·.dst) with
    | none => rw [hd] at h; cases h
    | some d =>
      rw [hd] at h
      simp only at h
      unfold yielded
      rw [hd]
      simp only [Option.bind_some]
      cases hv : lk ρ d with
      | none => rw [hv] at h; cases h
      | some v =>
        rw [hv] at h
        have e := ha.val d v hv
        have hq : a.tmps[d]? = some v ∨ (a.tmps[d]? = none ∧ v = undef) := by
          by_cases hlt : d < a.tmps.size
          · left; simp [hlt] at e; simp [hlt, e]
          · right; simp [hlt] at e; exact ⟨by simp [hlt], e.symm⟩
        cases v <;> simp only [gdv] at h <;> try cases h
        · rcases hq with hq | ⟨_, hq⟩
          · rw [hq]
            simp only []
            rename_i b
            cases b <;> cases want <;> rfl
          · cases hq
        · rcases hq with hq | ⟨hq, _⟩ <;> (rw [hq]; rfl)

/-! ### 2. Worlds in which old blocks are as they were -/
abbrev Keep (w w' : World) : Prop := Below w.heap.size w w'
theorem Keep.refl (w : World) : Keep w w := Below.refl _ _
theorem Keep.trans {a b c : World} (h : Keep a b) (k : Keep b c) : Keep a c := Below.trans h (k.mono h.size)
theorem Keep.drew (w : World) : Keep w w.drew := (Below.refl _ _).drew
theorem Keep.alloc (w : World) (o : Obj) : Keep w (w.alloc o) := (Below.refl _ w).alloc (Nat.le_refl _) o
theorem Keep.blk {w w' : World} (h : Keep w w') {b : Nat} {o : Obj} (hb : w.heap[b]? = some o) : w'.heap[b]? = some o :=
  (h.block b (Array.getElem?_eq_some_iff.1 hb).1).trans hb
theorem Keep.cell {w w' : World} (h : Keep w w') {a : Addr} {v : Value} (hc : w.cell? a = some v) : w'.cell? a = some v :=
  (Below.cell h (World.block_lt_of_cell? w a hc)).trans hc

/-! operations with their operands' values -/
def evs (ρ : Env) : List Operand → Option (List Value)
  | [] => some []
  | x :: xs => match ev ρ x with
    | some v => match evs ρ xs with
      | some vs => some (v :: vs)
      | none => none
    | none => none
def dstOk (N : Nat) : Option Nat → Bool
  | none => true
  | some d => Nat.blt d N
/-- operation number i, if it is carried out and all its operands are known: where its value goes, itself, their values -/
def cop (N : Nat) (ops : Array Oper) (ρ : Env) (i : Nat) : Option (Option Nat × Op × List Value) :=
  match ops[i]? with
  | none => none
  | some o => match gd ops ρ o with
    | some true => match dstOk N o.dst with
      | true => match evs ρ o.op.operands.toList with
        | some vs => some (o.dst, o.op, vs)
        | none => none
      | false => none
    | _ => none
/-- operation number i, if it is passed over -/
def cno (N : Nat) (ops : Array Oper) (ρ : Env) (i : Nat) : Option (Option Nat) :=
  match ops[i]? with
  | none => none
  | some o => match gd ops ρ o with
    | some false => match dstOk N o.dst with
      | true => some o.dst
      | false => none
    | _ => none
theorem evs_spec {N : Nat} {a : Act} {ρ : Env} {ds : List Deferred} (ha : Rep N a ρ ds) : ∀ {xs : List Operand} {vs : List Value}, evs ρ xs = some vs → xs.map a.eval = vs
  | [], vs, h => by simp [evs] at h; subst h; rfl
  | x :: xs, vs, h => by
    unfold evs at h
    cases hx : ev ρ x with
    | none => rw [hx] at h; cases h
    | some v =>
      rw [hx] at h
      simp only at h
      cases hxs : evs ρ xs with
      | none => rw [hxs] at h; cases h
      | some us =>
        rw [hxs] at h
        simp only [Option.some.injEq] at h
        subst h
        simp [ha.ev hx, evs_spec ha hxs]
theorem cop_spec {N : Nat} {ops : Array Oper} {ρ : Env} {i : Nat} {dst : Option Nat} {op : Op} {vs : List Value} (h : cop N ops ρ i = some (dst, op, vs)) :
    ∃ o, ops[i]? = some o ∧ gd ops ρ o = some true ∧ o.dst = dst ∧ o.op = op ∧ dstOk N dst = true ∧ evs ρ op.operands.toList = some vs := by
  unfold cop at h
  cases ho : ops[i]? with
  | none => rw [ho] at h; cases h
  | some o =>
    rw [ho] at h
    simp only at h
    cases hg : gd ops ρ o with
    | none => rw [hg] at h; cases h
    | some c =>
      rw [hg] at h
      cases c with
      | false => cases h
      | true =>
        simp only at h
        cases hd : dstOk N o.dst with
        | false => rw [hd] at h; cases h
        | true =>
          rw [hd] at h
          simp only at h
          cases hv : evs ρ o.op.operands.toList with
          | none => rw [hv] at h; cases h
          | some us =>
            rw [hv] at h
            simp only [Option.some.injEq, Prod.mk.injEq] at h
            obtain ⟨rfl, rfl, rfl⟩ := h
            exact ⟨o, rfl, hg, rfl, rfl, hd, hv⟩
theorem Le.ev {ρ ρ' : Env} (h : Le ρ ρ') {x : Operand} {v : Value} (hx : Sh.ev ρ x = some v) : Sh.ev ρ' x = some v := by
  cases x with
  | tmp t => exact h t v hx
  | _ => exact hx
theorem Le.evs {ρ ρ' : Env} (h : Le ρ ρ') : ∀ {xs : List Operand} {vs : List Value}, Sh.evs ρ xs = some vs → Sh.evs ρ' xs = some vs
  | [], vs, hv => hv
  | x :: xs, vs, hv => by
    unfold Sh.evs at hv ⊢
    cases hx : Sh.ev ρ x with
    | none => rw [hx] at hv; cases hv
    | some v =>
      rw [hx] at hv
      rw [h.ev hx]
      simp only at hv ⊢
      cases hxs : Sh.evs ρ xs with
      | none => rw [hxs] at hv; cases hv
      | some us => rw [hxs] at hv; rw [h.evs hxs]; exact hv
theorem Le.gd {ρ ρ' : Env} (h : Le ρ ρ') {ops : Array Oper} {o : Oper} {c : Bool} (hg : Sh.gd ops ρ o = some c) : Sh.gd ops ρ' o = some c := by
  unfold Sh.gd at hg ⊢
  cases ho : o.guard with
  | none => rw [ho] at hg; exact hg
  | some gw =>
    obtain ⟨g, want⟩ := gw
    rw [ho] at hg
    simp only at hg ⊢
    cases hd : (ops[g]?).bind (·.dst) with
    | none => rw [hd] at hg; cases hg
    | some d =>
      rw [hd] at hg
      simp only at hg ⊢
      cases hv : lk ρ d with
      | none => rw [hv] at hg; cases hg
      | some v => rw [hv] at hg; rw [h d v hv]; exact hg
theorem Le.cop {N : Nat} {ops : Array Oper} {ρ ρ' : Env} {i : Nat} {x : Option Nat × Op × List Value} (h : Le ρ ρ') (hc : Sh.cop N ops ρ i = some x) : Sh.cop N ops ρ' i = some x := by
  unfold Sh.cop at hc ⊢
  cases ho : ops[i]? with
  | none => rw [ho] at hc; cases hc
  | some o =>
    rw [ho] at hc
    simp only at hc ⊢
    cases hg : Sh.gd ops ρ o with
    | none => rw [hg] at hc; cases hc
    | some c =>
      rw [hg] at hc
      rw [h.gd hg]
      cases c with
      | false => cases hc
      | true =>
        simp only at hc ⊢
        cases hd : dstOk N o.dst with
        | false => rw [hd] at hc; cases hc
        | true =>
          rw [hd] at hc
          simp only at hc ⊢
          cases hv : Sh.evs ρ o.op.operands.toList with
          | none => rw [hv] at hc; cases hc
          | some us => rw [hv] at hc; rw [h.evs hv]; exact hc
theorem Le.cno {N : Nat} {ops : Array Oper} {ρ ρ' : Env} {i : Nat} {x : Option Nat} (h : Le ρ ρ') (hc : Sh.cno N ops ρ i = some x) : Sh.cno N ops ρ' i = some x := by
  unfold Sh.cno at hc ⊢
  cases ho : ops[i]? with
  | none => rw [ho] at hc; cases hc
  | some o =>
    rw [ho] at hc
    simp only at hc ⊢
    cases hg : Sh.gd ops ρ o with
    | none => rw [hg] at hc; cases hc
    | some c =>
      rw [hg] at hc
      rw [h.gd hg]
      exact hc
theorem cno_spec {N : Nat} {ops : Array Oper} {ρ : Env} {i : Nat} {dst : Option Nat} (h : cno N ops ρ i = some dst) :
    ∃ o, ops[i]? = some o ∧ gd ops ρ o = some false ∧ o.dst = dst ∧ dstOk N dst = true := by
  unfold cno at h
  cases ho : ops[i]? with
  | none => rw [ho] at h; cases h
  | some o =>
    rw [ho] at h
    simp only at h
    cases hg : gd ops ρ o with
    | none => rw [hg] at h; cases h
    | some c =>
      rw [hg] at h
      cases c with
      | true => cases h
      | false =>
        simp only at h
        cases hd : dstOk N o.dst with
        | false => rw [hd] at h; cases h
        | true =>
          rw [hd] at h
          simp only [Option.some.injEq] at h
          subst h
          exact ⟨o, rfl, hg, rfl, hd⟩
def putE (ρ : Env) : Option Nat → Value → Env
  | none, _ => ρ
  | some d, v => (d, v) :: ρ
theorem Rep.putE {N : Nat} {a : Act} {ρ : Env} {ds : List Deferred} (h : Rep N a ρ ds) {dst : Option Nat} (hd : dstOk N dst = true) (v : Value) : Rep N (a.put dst v) (putE ρ dst v) ds := by
  cases dst with
  | none => exact h
  | some d => exact h.put (by simpa [dstOk] using hd) v

/-- does it look at memory? -/
def rdm : Op → Bool
  | .move _ | .assign _ | .pick .. | .build .. | .nilCheck _ | .binOp .. | .unOp .. | .makeFunc .. | .slice .. | .fieldAddr .. | .field .. | .indexAddr .. | .index .. | .extract .. => false
  | _ => true
/-- an operation that only reads: in every world that keeps w (if it looks at memory at all) it leaves v -/
def Yv (P : Program) (w : World) (op : Op) (vs : List Value) (v : Value) : Prop :=
  (∀ c, op ≠ .defer c) ∧ ∀ (o : Oper) (e : Operand → Value), o.op = op → op.operands.toList.map e = vs → ∀ w', (rdm op = true → Keep w w') → (execOp e o).run P w' = .ok (.value v) w'

def Rn (P : Program) (w : World) (N : Nat) (ops : Array Oper) : List Nat → Env → Env → Prop
  | [], ρ, ρ' => Le ρ' ρ
  | i :: is, ρ, ρ' => (∃ d op vs v, cop N ops ρ i = some (some d, op, vs) ∧ Yv P w op vs v ∧ Rn P w N ops is ((d, v) :: ρ) ρ') ∨ (∃ d, cno N ops ρ i = some (some d) ∧ Rn P w N ops is ((d, undef) :: ρ) ρ')

section
variable {P : Program} {w : World} {N : Nat} {ops : Array Oper} {i d : Nat} {is : List Nat} {ρ ρ' : Env} {op : Op} {vs : List Value} {v : Value}
theorem Rn.nil : Rn P w N ops [] ρ ρ := Le.refl _
theorem Rn.s (hc : cop N ops ρ i = some (some d, op, vs)) (hy : Yv P w op vs v) (k : Rn P w N ops is ((d, v) :: ρ) ρ') : Rn P w N ops (i :: is) ρ ρ' := .inl ⟨d, op, vs, v, hc, hy, k⟩
theorem Rn.no (hc : cno N ops ρ i = some (some d)) (k : Rn P w N ops is ((d, undef) :: ρ) ρ') : Rn P w N ops (i :: is) ρ ρ' := .inr ⟨d, hc, k⟩
theorem Rn.up {ρ0 : Env} (h : Le ρ0 ρ) (k : Rn P w N ops is ρ0 ρ') : Rn P w N ops is ρ ρ' := by
  induction is generalizing ρ0 ρ with
  | nil => exact Le.trans k h
  | cons i is ih =>
    rcases k with ⟨d, op, vs, v, a, b, c⟩ | ⟨d, a, b⟩
    · exact .inl ⟨d, op, vs, v, h.cop a, b, ih (h.cons d v) c⟩
    · exact .inr ⟨d, h.cno a, ih (h.cons d _) b⟩
theorem Rn.app {js : List Nat} {ρ'' : Env} (h : Rn P w N ops is ρ ρ') (k : Rn P w N ops js ρ' ρ'') : Rn P w N ops (is ++ js) ρ ρ'' := by
  induction is generalizing ρ with
  | nil => exact Rn.up h k
  | cons i is ih =>
    rcases h with ⟨d, op, vs, v, a, b, c⟩ | ⟨d, a, b⟩
    · exact .inl ⟨d, op, vs, v, a, b, ih c⟩
    · exact .inr ⟨d, a, ih b⟩
/-- the end of a piece that is walked in two ways: n facts are new, d's is kept -/
theorem Rn.e {ρ1 : Env} (n : Nat) (hv : lk ρ1 d = some v) (h1 : ρ1.drop n = ρ) (h2 : disjK (ρ1.take n) ρ = true := by kernel_rfl) : Rn P w N ops [] ρ1 ((d, v) :: ρ) := (Le.drop n h1 h2).put hv
/-- a && b: t says a; the piece ends in d -/
theorem Rn.and {js : List Nat} {t : Nat} {g b : Bool} (hg : lk ρ t = some (.bool g) := by rfl) (ht : g = true → Rn P w N ops is ((t, .bool true) :: ρ) ((d, .bool b) :: (t, .bool true) :: ρ))
    (hf : g = false → Rn P w N ops is ((t, .bool false) :: ρ) ((d, .bool false) :: (t, .bool false) :: ρ)) (k : Rn P w N ops js ((d, .bool (g && b)) :: ρ) ρ') : Rn P w N ops (is ++ js) ρ ρ' := by
  cases g with
  | true => exact (Rn.up ((Le.refl ρ).put hg) (ht rfl)).app (Rn.up (Le.cons (fun s u hs => by
      rw [lk_cons]
      split
      · rename_i e; subst e; rw [hg] at hs; exact hs
      · exact hs) d (.bool b)) k)
  | false => exact (Rn.up ((Le.refl ρ).put hg) (hf rfl)).app (Rn.up (Le.cons (fun s u hs => by
      rw [lk_cons]
      split
      · rename_i e; subst e; rw [hg] at hs; exact hs
      · exact hs) d (.bool false)) k)
/-- a || b -/
theorem Rn.or {js : List Nat} {t : Nat} {g b : Bool} (hg : lk ρ t = some (.bool g) := by rfl) (hf : g = false → Rn P w N ops is ((t, .bool false) :: ρ) ((d, .bool b) :: (t, .bool false) :: ρ))
    (ht : g = true → Rn P w N ops is ((t, .bool true) :: ρ) ((d, .bool true) :: (t, .bool true) :: ρ)) (k : Rn P w N ops js ((d, .bool (g || b)) :: ρ) ρ') : Rn P w N ops (is ++ js) ρ ρ' := by
  cases g with
  | false => exact (Rn.up ((Le.refl ρ).put hg) (hf rfl)).app (Rn.up (Le.cons (fun s u hs => by
      rw [lk_cons]
      split
      · rename_i e; subst e; rw [hg] at hs; exact hs
      · exact hs) d (.bool b)) k)
  | true => exact (Rn.up ((Le.refl ρ).put hg) (ht rfl)).app (Rn.up (Le.cons (fun s u hs => by
      rw [lk_cons]
      split
      · rename_i e; subst e; rw [hg] at hs; exact hs
      · exact hs) d (.bool true)) k)
end

/-! ### 3. What an operation that acts owes; regions in a fixed order -/
/-- an operation, from this environment and world, comes to K (or leaves by a panic) -/
def Ef (r : Option Nat) (P : Program) (N : Nat) (dst : Option Nat) (op : Op) (vs : List Value) (ρ : Env) (ds : List Deferred) (w : World) (K : Env → World → Prop) (Q : Post) : Prop :=
  dstOk N dst = true → ∀ (o : Oper) (a : Act), o.op = op → o.dst = dst → Rep N a ρ ds → op.operands.toList.map a.eval = vs → o.wpIn (Fr r) 0 P a w (fun a' w' => ∃ ρ', Rep N a' ρ' ds ∧ K ρ' w') (lift N Q)
def WO (r : Option Nat) (P : Program) (N : Nat) (ops : Array Oper) (l : List Nat) (ρ : Env) (ds : List Deferred) (w : World) (Q : Post) : Prop :=
  ∀ a, Rep N a ρ ds → wpOpsIn (Fr r) 0 P ops (lift N Q) l a w

section
variable {r : Option Nat} {P : Program} {N : Nat} {ops : Array Oper} {ρ ρ' : Env} {ds : List Deferred} {w : World} {Q : Post} {i : Nat} {l : List Nat} {id : Nat} {dst : Option Nat} {op : Op} {vs : List Value}
theorem Wp.region (h : WO r P N ops (List.range ops.size) ρ ds w Q) : Wp r P N (.region id ops false) ρ ds w Q := fun a ha => wpIn_region (h a ha)
theorem WO.done (h : Q .normal ρ ds w) : WO r P N ops [] ρ ds w Q := fun a ha => ⟨ρ, ds, ha, h⟩
theorem semAt_plain {o : Oper} (e : Operand → Value) (hd : ∀ c, o.op ≠ .defer c) : o.semAt (Fr r).round e = execOp e o := Oper.semAt_eq _ _ _ hd
theorem WO.run {is : List Nat} (h : Rn P w N ops is ρ ρ') (k : WO r P N ops l ρ' ds w Q) : WO r P N ops (is ++ l) ρ ds w Q := by
  induction is generalizing ρ with
  | nil => exact fun a ha => k a (ha.le h)
  | cons i is ih =>
    intro a ha
    show wpOpsIn (Fr r) 0 P ops (lift N Q) (i :: (is ++ l)) a w
    rcases h with ⟨d, op, vs, v, hc, hy, hrest⟩ | ⟨d, hc, hrest⟩
    · obtain ⟨o, ho, hg, hd, rfl, hN, hv⟩ := cop_spec hc
      simp only [wpOpsIn, ho]
      rw [wanted_of_gd ha hg]
      simp only [if_true]
      refine ⟨fun f hf => trivial, ?_⟩
      rw [semAt_plain _ hy.1, hy.2 o a.eval rfl (evs_spec ha hv) w (fun _ => Keep.refl w)]
      simp only [Oper.uponIn, hd]
      exact ih hrest _ (ha.putE hN v)
    · obtain ⟨o, ho, hg, hd, hN⟩ := cno_spec hc
      simp only [wpOpsIn, ho]
      rw [wanted_of_gd ha hg]
      simp only [Bool.false_eq_true, if_false, hd]
      exact ⟨fun f hf => trivial, ih hrest _ (ha.putE hN undef)⟩
theorem Yv.weak {w0 : World} {v : Value} (hk : Keep w0 w) (h : Yv P w0 op vs v) : Yv P w op vs v := ⟨h.1, fun o e ho hv w' k => h.2 o e ho hv w' (fun hr => hk.trans (k hr))⟩
theorem Rn.weak {w0 : World} {is : List Nat} (hk : Keep w0 w) (h : Rn P w0 N ops is ρ ρ') : Rn P w N ops is ρ ρ' := by
  induction is generalizing ρ with
  | nil => exact h
  | cons i is ih =>
    rcases h with ⟨d, op, vs, v, a, b, c⟩ | ⟨d, a, b⟩
    · exact .inl ⟨d, op, vs, v, a, b.weak hk, ih c⟩
    · exact .inr ⟨d, a, ih b⟩
/-- the whole region reads -/
theorem Wp.reads {ρ' : Env} {w0 : World} {is : List Nat} (hk : Keep w0 w) (h : Rn P w0 N ops is ρ ρ') (k : Q .normal ρ' ds w) (his : List.range ops.size = is := by rfl) : Wp r P N (.region id ops false) ρ ds w Q :=
  Wp.region (by subst his; have := WO.run (r := r) (l := []) (h.weak hk) (WO.done k); simpa using this)
/-- a region as a list of its numbers -/
theorem Wp.regionL {l : List Nat} (h : WO r P N ops l ρ ds w Q) (hl : List.range ops.size = l := by rfl) : Wp r P N (.region id ops false) ρ ds w Q := Wp.region (by rw [hl]; exact h)
/-- some reading ahead -/
theorem WO.rd {w0 : World} {is js : List Nat} (hk : Keep w0 w) (h : Rn P w0 N ops is ρ ρ') (k : WO r P N ops js ρ' ds w Q) (hl : l = is ++ js := by rfl) : WO r P N ops l ρ ds w Q := by
  subst hl
  exact WO.run (h.weak hk) k
theorem WO.act (hc : cop N ops ρ i = some (dst, op, vs) := by rfl) (he : Ef r P N dst op vs ρ ds w (fun ρ' w' => WO r P N ops l ρ' ds w' Q) Q) : WO r P N ops (i :: l) ρ ds w Q := by
  intro a ha
  obtain ⟨o, ho, hg, hd, rfl, hN, hv⟩ := cop_spec hc
  simp only [wpOpsIn, ho]
  rw [wanted_of_gd ha hg]
  simp only [if_true]
  refine Oper.wpIn_mono ?_ (he hN o a rfl hd ha (evs_spec ha hv))
  rintro a' w' ⟨ρ', hr, hk⟩
  exact hk a' hr
theorem WO.no (hc : cno N ops ρ i = some dst := by rfl) (k : WO r P N ops l (putE ρ dst undef) ds w Q) : WO r P N ops (i :: l) ρ ds w Q := by
  intro a ha
  obtain ⟨o, ho, hg, hd, hN⟩ := cno_spec hc
  simp only [wpOpsIn, ho]
  rw [wanted_of_gd ha hg]
  simp only [Bool.false_eq_true, if_false, hd]
  exact ⟨fun f hf => trivial, k _ (ha.putE hN undef)⟩
theorem Ef.mono {K K' : Env → World → Prop} (h : Ef r P N dst op vs ρ ds w K Q) (hk : ∀ ρ' w', K ρ' w' → K' ρ' w') : Ef r P N dst op vs ρ ds w K' Q :=
  fun hN o a ho hd ha hv => Oper.wpIn_mono (fun a' w' ⟨ρ', hr, h'⟩ => ⟨ρ', hr, hk _ _ h'⟩) (h hN o a ho hd ha hv)
/-- an operation whose run is known -/
theorem Ef.of_run {v : Value} {w' : World} {K : Env → World → Prop} (hnd : ∀ c, op ≠ .defer c) (h : ∀ (o : Oper) (e : Operand → Value), o.op = op → op.operands.toList.map e = vs → (execOp e o).run P w = .ok (.value v) w')
    (k : K (putE ρ dst v) w') : Ef r P N dst op vs ρ ds w K Q := by
  rintro hN o a rfl rfl ha hv
  refine ⟨fun f hf => trivial, ?_⟩
  rw [semAt_plain _ hnd, h o a.eval rfl hv]
  exact ⟨_, ha.putE hN v, k⟩
theorem Ef.of_skip {w' : World} {K : Env → World → Prop} (hnd : ∀ c, op ≠ .defer c) (h : ∀ (o : Oper) (e : Operand → Value), o.op = op → op.operands.toList.map e = vs → (execOp e o).run P w = .ok .skip w')
    (k : K (putE ρ dst undef) w') : Ef r P N dst op vs ρ ds w K Q := by
  rintro hN o a rfl rfl ha hv
  refine ⟨fun f hf => trivial, ?_⟩
  rw [semAt_plain _ hnd, h o a.eval rfl hv]
  exact ⟨_, ha.putE hN undef, k⟩
/-- a panic -/
theorem Ef.of_panic {v : Value} {w' : World} {K : Env → World → Prop} (hnd : ∀ c, op ≠ .defer c) (h : ∀ (o : Oper) (e : Operand → Value), o.op = op → op.operands.toList.map e = vs → (execOp e o).run P w = .halt (.panic v) w')
    (k : Q (.panic [{ v, recovered := false }]) ρ ds w') : Ef r P N dst op vs ρ ds w K Q := by
  rintro hN o a rfl rfl ha hv
  refine ⟨fun f hf => trivial, ?_⟩
  rw [semAt_plain _ hnd, h o a.eval rfl hv]
  exact ⟨_, _, ha, k⟩
/-- a call that is entered: its contract -/
def afterCall (ρ : Env) (ds : List Deferred) (dst : Option Nat) (K : Env → World → Prop) (Q : Post) : Ending → World → Prop
  | .returned v, w' => K (putE ρ dst v) w'
  | .panicked ch, w' => Q (.panic ch) ρ ds w'
  | .outgrown, _ => False
theorem Ef.of_enter {f : FuncId} {args : Array Value} {K : Env → World → Prop} (hnd : ∀ c, op ≠ .defer c) (h : ∀ (o : Oper) (e : Operand → Value), o.op = op → op.operands.toList.map e = vs → (execOp e o).run P w = .ok (.enter f args) w)
    (hc : Calls P f args w (afterCall ρ ds dst K Q)) : Ef r P N dst op vs ρ ds w K Q := by
  rintro hN o a rfl rfl ha hv
  refine ⟨fun f hf => trivial, ?_⟩
  rw [semAt_plain _ hnd, h o a.eval rfl hv]
  simp only [Oper.uponIn]
  refine ⟨fun hc => by simp [Fence.wide] at hc, ?_⟩
  have hcc : CallsIn (Fr r) (0 - 1) P f args w _ := (callsIn_wide (n := 0 - 1)).2 hc
  refine hcc.mono ?_
  intro e w' he
  cases e with
  | returned v => exact ⟨_, ha.putE hN v, he⟩
  | panicked ch => exact ⟨_, _, ha, he⟩
  | outgrown => exact he.elim
/-- a call by name -/
theorem enters_name {P : Program} {f : FuncId} {fn : Func} (hf : P.funcs[f]? = some fn) (hb : fn.body.isSome = true) (hn : (fn.name == "runtime.NumGoroutine") = false) (args : Array Value) (w : World) : (callFunc f args).run P w = .ok (.enter f args) w := by
  have hb' : ¬ fn.body = none := by cases h : fn.body <;> simp_all
  have hn' : ¬ fn.name = "runtime.NumGoroutine" := by simpa using hn
  simp [callFunc, hf, hb', hn']
/-- a function's value is called (by name, or a closure: what it captured comes last) -/
theorem Ef.callv {f : FuncId} {fn : Func} {x : Operand} {args : Array Operand} {ts : Array TypeId} {caps : Array Value} {us : List Value} {K : Env → World → Prop} (hf : P.funcs[f]? = some fn)
    (hc : Calls P f (us.toArray ++ caps) w (afterCall ρ ds dst K Q)) (hb : fn.body.isSome = true := by rfl) (hn : (fn.name == "runtime.NumGoroutine") = false := by kernel_rfl) :
    Ef r P N dst (.call { callee := .value x, args := args, argTypes := ts }) (.func (.func f) #[] caps :: us) ρ ds w K Q := by
  refine Ef.of_enter (by simp) (fun o e ho hv => ?_) hc
  simp only [Op.operands, Call.operands, Array.toList_append, List.map_append, List.singleton_append, List.map_cons, List.map_nil, List.cons.injEq] at hv
  obtain ⟨h1, h2⟩ := hv
  have h3 : args.map e = us.toArray := by
    apply Array.ext'
    simpa using h2
  simp only [execOp, ho, resolve, h1, Sem.run_bind]
  simp [Deferred.ofValue, invoke, h3, enters_name hf hb hn, go_sem]
end
end Go.Proofs.YtgjhbapbomdpbaaDoor.Sh
/- A walk over the model's code with a small environment (generic: over any program). Part C: operations that only read: moves, numbers, texts, fields, elements, loads. -/
set_option linter.unusedVariables false
set_option linter.unusedSimpArgs false
namespace Go.Proofs.YtgjhbapbomdpbaaDoor.Sh
open Go.RowKit

/-! ### 1. Texts as lists -/
abbrev Bs := List UInt8
def S (l : Bs) : Value := .string ⟨⟨l⟩⟩
theorem S_def (l : Bs) : S l = .string ⟨⟨l⟩⟩ := rfl
theorem S_of (s : ByteArray) : Value.string s = S s.data.toList := by cases s with | mk d => cases d with | mk l => rfl
theorem toList_mk (l : Bs) : (⟨⟨l⟩⟩ : ByteArray).toList = l := by
  simp
theorem mk_size (l : Bs) : (⟨⟨l⟩⟩ : ByteArray).size = l.length := rfl
theorem mk_extract (l : Bs) (a b : Nat) : (⟨⟨l⟩⟩ : ByteArray).extract a b = ⟨⟨(l.take b).drop a⟩⟩ := by
  apply ByteArray.ext
  simp [List.drop_take]
theorem mk_get (l : Bs) (n : Nat) (b : UInt8) (h : l[n]? = some b) : (⟨⟨l⟩⟩ : ByteArray)[n]? = some b := by
  obtain ⟨hlt, hb⟩ := List.getElem?_eq_some_iff.1 h
  have hs : n < (⟨⟨l⟩⟩ : ByteArray).size := hlt
  exact (getElem?_pos (⟨⟨l⟩⟩ : ByteArray) n hs).trans (congrArg some hb)
theorem S_inj {l m : Bs} (h : S l = S m) : l = m := by injection h with h; injection h with h; injection h

/-- the i-th of a list -/
def nth {α : Type} [Inhabited α] (l : List α) (i : Int) : α := l.getD i.toNat default
theorem nth_get {α : Type} [Inhabited α] {l : List α} {i : Int} (h0 : 0 ≤ i) (h1 : i < l.length) : l[i.toNat]? = some (nth l i) := by
  have : i.toNat < l.length := by omega
  simp [nth, List.getElem?_eq_getElem this]
theorem nth_nat {α : Type} [Inhabited α] (l : List α) (k : Nat) : nth l (k : Int) = l.getD k default := rfl
theorem nth_of {α : Type} [Inhabited α] {l : List α} {k : Nat} {x : α} (h : l[k]? = some x) : nth l (k : Int) = x := by simp [nth, h]

/-- the i-th byte of a text as a number -/
def byt (s : Bs) (i : Int) : Int := ((nth s i).toNat : Int)
theorem byt_bd (s : Bs) (i : Int) : 0 ≤ byt s i ∧ byt s i ≤ 255 := by
  have := (nth s i).toNat_lt
  unfold byt
  omega
theorem byt_of {s : Bs} {k : Nat} {b : UInt8} (h : s[k]? = some b) : byt s (k : Int) = b.toNat := by rw [byt, nth_of h]

/-! ### 2. What is known of a program's types -/
/-- one cell, no struct and no array -/
def Sc (P : Program) (t : TypeId) : Prop := ∃ d, P.underlying t = some d ∧ (match d with | .struct _ | .array _ _ => False | _ => True)
/-- a struct or an array of n cells -/
def Ag (P : Program) (t : TypeId) (n : Nat) : Prop := (∃ d, P.underlying t = some d ∧ (match d with | .struct _ | .array _ _ => True | _ => False)) ∧ (P.info? t).map (·.size) = some n
/-- a struct's field: where it begins; it is not empty -/
def Fld (P : Program) (t : TypeId) (f off : Nat) : Prop := ∃ fs fd, P.underlying t = some (.struct fs) ∧ fs[f]? = some fd ∧ fd.offset = off ∧ ∃ n, (P.info? fd.type).map (·.size) = some (n + 1)
/-- a slice type, its element's size -/
def Sl (P : Program) (t e : TypeId) (n : Nat) : Prop := P.underlying t = some (.slice e) ∧ (P.info? e).map (·.size) = some n

def scB (P : Program) (t : TypeId) : Bool := match P.underlying t with | some (.struct _) | some (.array _ _) | none => false | _ => true
def agB (P : Program) (t : TypeId) (n : Nat) : Bool := (match P.underlying t with | some (.struct _) | some (.array _ _) => true | _ => false) && (match P.info? t with | some i => Nat.beq i.size n | none => false)
def fldB (P : Program) (t : TypeId) (f off : Nat) : Bool := match P.underlying t with
  | some (.struct fs) => match fs[f]? with
    | some fd => Nat.beq fd.offset off && (match P.info? fd.type with | some i => Nat.blt 0 i.size | none => false)
    | none => false
  | _ => false
def slB (P : Program) (t e : TypeId) (n : Nat) : Bool := match P.underlying t with
  | some (.slice e') => Nat.beq e' e && (match P.info? e with | some i => Nat.beq i.size n | none => false)
  | _ => false
def strB (P : Program) (t : TypeId) : Bool := match P.underlying t with | some .string => true | _ => false
def sizeB (P : Program) (t : TypeId) (n : Nat) : Bool := match P.info? t with | some i => Nat.beq i.size n | none => false
theorem sizeB_of {P : Program} {t : TypeId} {n : Nat} (h : sizeB P t n = true) : (P.info? t).map (·.size) = some n := by
  unfold sizeB at h
  cases hi : P.info? t with
  | none => rw [hi] at h; cases h
  | some i => rw [hi] at h; simpa using h
theorem scB_of {P : Program} {t : TypeId} (h : scB P t = true) : Sc P t := by
  unfold scB at h
  cases hd : P.underlying t with
  | none => rw [hd] at h; cases h
  | some d => refine ⟨d, hd, ?_⟩; rw [hd] at h; cases d <;> simp_all
theorem agB_of {P : Program} {t : TypeId} {n : Nat} (h : agB P t n = true) : Ag P t n := by
  unfold agB at h
  simp only [Bool.and_eq_true] at h
  obtain ⟨h1, h2⟩ := h
  refine ⟨?_, sizeB_of h2⟩
  cases hd : P.underlying t with
  | none => rw [hd] at h1; cases h1
  | some d => refine ⟨d, rfl, ?_⟩; rw [hd] at h1; cases d <;> simp_all
theorem fldB_of {P : Program} {t : TypeId} {f off : Nat} (h : fldB P t f off = true) : Fld P t f off := by
  unfold fldB at h
  cases hd : P.underlying t with
  | none => rw [hd] at h; cases h
  | some d =>
    rw [hd] at h
    cases d with
    | struct fs =>
      simp only at h
      cases hf : fs[f]? with
      | none => rw [hf] at h; cases h
      | some fd =>
        rw [hf] at h
        simp only [Bool.and_eq_true] at h
        obtain ⟨h1, h2⟩ := h
        refine ⟨fs, fd, hd, hf, Nat.eq_of_beq_eq_true h1, ?_⟩
        cases hi : P.info? fd.type with
        | none => rw [hi] at h2; cases h2
        | some i =>
          rw [hi] at h2
          simp only [Nat.blt_eq] at h2
          exact ⟨i.size - 1, by simp; omega⟩
    | _ => cases h
theorem slB_of {P : Program} {t e : TypeId} {n : Nat} (h : slB P t e n = true) : Sl P t e n := by
  unfold slB at h
  cases hd : P.underlying t with
  | none => rw [hd] at h; cases h
  | some d =>
    rw [hd] at h
    cases d with
    | slice e' =>
      simp only [Bool.and_eq_true] at h
      obtain ⟨h1, h2⟩ := h
      obtain rfl := Nat.eq_of_beq_eq_true h1
      exact ⟨hd, sizeB_of h2⟩
    | _ => cases h
theorem strB_of {P : Program} {t : TypeId} (h : strB P t = true) : P.underlying t = some .string := by
  unfold strB at h
  cases hd : P.underlying t with
  | none => rw [hd] at h; cases h
  | some d => rw [hd] at h; cases d <;> simp_all
theorem run_isAgg_sc {P : Program} {t : TypeId} (h : Sc P t) (w : World) : (isAgg t).run P w = .ok false w := by
  obtain ⟨d, hd, hm⟩ := h
  cases d <;> simp_all [isAgg, run_underlying]
theorem run_isAgg_ag {P : Program} {t : TypeId} {n : Nat} (h : Ag P t n) (w : World) : (isAgg t).run P w = .ok true w := by
  obtain ⟨⟨d, hd, hm⟩, _⟩ := h
  cases d <;> simp_all [isAgg, run_underlying]
theorem run_size {P : Program} {t : TypeId} {n : Nat} (h : (P.info? t).map (·.size) = some n) (w : World) : (sizeOf t).run P w = .ok n w := by
  obtain ⟨i, hi, rfl⟩ := Option.map_eq_some_iff.1 h
  simp [sizeOf, typeInfo, hi]
theorem run_cells {P : Program} {w : World} (a : Addr) (vs : List Value) (h : ∀ j v, vs[j]? = some v → w.cell? (a.add j) = some v) (i : Nat) (acc : Array Value) (us : List Value) (hu : vs = vs.take i ++ us) (hi : i ≤ vs.length) :
    (loadCellsFrom a i us.length acc).run P w = .ok (acc ++ us.toArray) w := by
  induction us generalizing i acc with
  | nil => simp [loadCellsFrom]
  | cons u us ih =>
    have hlen : (vs.take i).length = i := by simp; omega
    have hv : vs[i]? = some u := by rw [hu]; rw [List.getElem?_append_right (by omega)]; simp [hlen]
    have hlt : i < vs.length := (List.getElem?_eq_some_iff.1 hv).1
    have := ih (i + 1) (acc.push u) (by rw [List.take_add_one, hv]; simp only [Option.toList, List.append_assoc, List.singleton_append]; exact hu) (by omega)
    simp only [List.length_cons, loadCellsFrom, Sem.run_bind, run_load, h i u hv, Result.andThen_ok, this]
    simp
theorem run_loadVar_ag {P : Program} {w : World} {t : TypeId} {n : Nat} (ht : Ag P t n) (a : Addr) (vs : List Value) (hn : vs.length = n) (h : ∀ j v, vs[j]? = some v → w.cell? (a.add j) = some v) :
    (loadVar t a).run P w = .ok (.agg vs.toArray) w := by
  subst hn
  have := run_cells (P := P) a vs h 0 #[] vs (by simp) (by omega)
  simp [loadVar, run_isAgg_ag ht, run_size ht.2, loadCells, this]
theorem add_off (b o j : Nat) : (⟨b, o, none⟩ : Addr).add j = ⟨b, o + j, none⟩ := by unfold Addr.add; split <;> simp_all

/-! ### 3. One rule for each kind of operation -/
section
variable {P : Program} {w : World} {op : Op} {v : Value}
theorem Yv.mk0 (hd : ∀ c, op ≠ .defer c) (ho : op.operands.toList = []) (h : ∀ (o : Oper) (e : Operand → Value) (w' : World), o.op = op → (rdm op = true → Keep w w') → (execOp e o).run P w' = .ok (.value v) w') : Yv P w op [] v :=
  ⟨hd, fun o e he _ w' k => h o e w' he k⟩
theorem Yv.mk1 {x : Operand} {u : Value} (hd : ∀ c, op ≠ .defer c) (ho : op.operands.toList = [x]) (h : ∀ (o : Oper) (e : Operand → Value) (w' : World), o.op = op → e x = u → (rdm op = true → Keep w w') → (execOp e o).run P w' = .ok (.value v) w') : Yv P w op [u] v :=
  ⟨hd, fun o e he hv w' k => by
    rw [ho] at hv
    simp only [List.map_cons, List.map_nil, List.cons.injEq, and_true] at hv
    exact h o e w' he hv k⟩
theorem Yv.mk2 {x y : Operand} {u t : Value} (hd : ∀ c, op ≠ .defer c) (ho : op.operands.toList = [x, y]) (h : ∀ (o : Oper) (e : Operand → Value) (w' : World), o.op = op → e x = u → e y = t → (rdm op = true → Keep w w') → (execOp e o).run P w' = .ok (.value v) w') : Yv P w op [u, t] v :=
  ⟨hd, fun o e he hv w' k => by
    rw [ho] at hv
    simp only [List.map_cons, List.map_nil, List.cons.injEq, and_true] at hv
    exact h o e w' he hv.1 hv.2 k⟩
theorem Yv.mk3 {x y z : Operand} {u t s : Value} (hd : ∀ c, op ≠ .defer c) (ho : op.operands.toList = [x, y, z]) (h : ∀ (o : Oper) (e : Operand → Value) (w' : World), o.op = op → e x = u → e y = t → e z = s → (rdm op = true → Keep w w') → (execOp e o).run P w' = .ok (.value v) w') : Yv P w op [u, t, s] v :=
  ⟨hd, fun o e he hv w' k => by
    rw [ho] at hv
    simp only [List.map_cons, List.map_nil, List.cons.injEq, and_true] at hv
    exact h o e w' he hv.1 hv.2.1 hv.2.2 k⟩
theorem Yv.mv {x : Operand} {v : Value} : Yv P w (.move x) [v] (v) :=
  Yv.mk1 (x := x) (by simp) rfl fun o e w' hop hx _ => by simp [execOp, hop, hx]
theorem Yv.as {x : Operand} {v : Value} : Yv P w (.assign x) [v] (v) :=
  Yv.mk1 (x := x) (by simp) rfl fun o e w' hop hx _ => by simp [execOp, hop, hx]
theorem Yv.pick_t {c x y : Operand} {v u : Value} : Yv P w (.pick c x y) [.bool true, v, u] v :=
  Yv.mk3 (x := c) (y := x) (z := y) (by simp) rfl fun o e w' hop hc hx hy _ => by simp [execOp, hop, hc, hx, asBool]
theorem Yv.pick_f {c x y : Operand} {v u : Value} : Yv P w (.pick c x y) [.bool false, v, u] u :=
  Yv.mk3 (x := c) (y := x) (z := y) (by simp) rfl fun o e w' hop hc hx hy _ => by simp [execOp, hop, hc, hy, asBool]
theorem Yv.ex {x : Operand} {vs : Array Value} {n : Nat} {v : Value} (hv : vs[n]? = some v := by rfl) : Yv P w (.extract x n) [(.tuple vs)] (v) :=
  Yv.mk1 (x := x) (by simp) rfl fun o e w' hop hx _ => by simp [execOp, hop, hx, Instr.extract, hv]
theorem Yv.nc {x : Operand} {a : Addr} : Yv P w (.nilCheck x) [(.pointer (some a))] (.pointer (some a)) :=
  Yv.mk1 (x := x) (by simp) rfl fun o e w' hop hx _ => by simp [execOp, hop, hx]
theorem Yv.mf {f : Fn} {captured : Array Operand} {us : List Value} : Yv P w (.makeFunc f #[] captured) us (.func f #[] us.toArray) :=
  ⟨by simp, fun o e hop hv w' _ => by
    have h : captured.map e = us.toArray := by apply Array.ext'; simpa [Op.operands] using hv
    simp [execOp, hop, Instr.makeFunc, h]⟩
theorem Yv.mf1 {f : Fn} {x : Operand} {u : Value} : Yv P w (.makeFunc f #[x] #[]) [u] (.func f #[u] #[]) :=
  Yv.mk1 (x := x) (by simp) rfl fun o e w' hop hx _ => by simp [execOp, hop, Instr.makeFunc, hx]

/-! numbers of the kind int -/
/-- an int as it wraps -/
def w64 (x : Int) : Int := (x + 9223372036854775808) % 18446744073709551616 - 9223372036854775808
def inI (x : Int) : Prop := -9223372036854775808 ≤ x ∧ x ≤ 9223372036854775807
theorem wrapI {x : Int} (h : inI x) : IntKind.i64.wrap x = x := by
  rw [IntKind.wrap_i64]
  unfold inI at h
  omega
theorem Yv.add {t u : TypeId} {x y : Operand} {a b : Int} (hr : inI (a + b)) : Yv P w (.binOp .add t x y u) [(.int .i64 a), (.int .i64 b)] (.int .i64 (a + b)) :=
  Yv.mk2 (x := x) (y := y) (by simp) rfl fun o e w' hop hx hy _ => by simp [execOp, hop, hx, hy, binOp, eqGuard, Op.intArith, wrapI hr]
theorem Yv.addw {t u : TypeId} {x y : Operand} {a b : Int} : Yv P w (.binOp .add t x y u) [(.int .i64 a), (.int .i64 b)] (.int .i64 (w64 (a + b))) :=
  Yv.mk2 (x := x) (y := y) (by simp) rfl fun o e w' hop hx hy _ => by
    simp [execOp, hop, hx, hy, binOp, eqGuard, Op.intArith, IntKind.wrap_i64]
    rfl
theorem Yv.sub {t u : TypeId} {x y : Operand} {a b : Int} (hr : inI (a - b)) : Yv P w (.binOp .sub t x y u) [(.int .i64 a), (.int .i64 b)] (.int .i64 (a - b)) :=
  Yv.mk2 (x := x) (y := y) (by simp) rfl fun o e w' hop hx hy _ => by simp [execOp, hop, hx, hy, binOp, eqGuard, Op.intArith, wrapI hr]
theorem Yv.subw {t u : TypeId} {x y : Operand} {a b : Int} : Yv P w (.binOp .sub t x y u) [(.int .i64 a), (.int .i64 b)] (.int .i64 (w64 (a - b))) :=
  Yv.mk2 (x := x) (y := y) (by simp) rfl fun o e w' hop hx hy _ => by
    simp [execOp, hop, hx, hy, binOp, eqGuard, Op.intArith, IntKind.wrap_i64]
    rfl
theorem Yv.mul {t u : TypeId} {x y : Operand} {a b : Int} (hr : inI (a * b)) : Yv P w (.binOp .mul t x y u) [(.int .i64 a), (.int .i64 b)] (.int .i64 (a * b)) :=
  Yv.mk2 (x := x) (y := y) (by simp) rfl fun o e w' hop hx hy _ => by simp [execOp, hop, hx, hy, binOp, eqGuard, Op.intArith, wrapI hr]
/-- tests between numbers of one kind: c is what the test says -/
def icmp : BinOp → Int → Int → Option Bool
  | .eql, a, b => some (a == b) | .neq, a, b => some (a != b) | .lss, a, b => some (decide (a < b)) | .leq, a, b => some (decide (a ≤ b)) | .gtr, a, b => some (decide (b < a)) | .geq, a, b => some (decide (b ≤ a)) | _, _, _ => none
theorem Yv.cmp {q : BinOp} {kd : IntKind} {t u : TypeId} {x y : Operand} {a b : Int} (c : Bool) (hc : icmp q a b = some c) : Yv P w (.binOp q t x y u) [(.int kd a), (.int kd b)] (.bool c) :=
  Yv.mk2 (x := x) (y := y) (by simp) rfl fun o e w' hop hx hy _ => by
    cases q <;> simp only [icmp, Option.some.injEq] at hc <;> try cases hc
    all_goals (try subst hc)
    all_goals simp [execOp, hop, hx, hy, binOp, eqGuard, Op.intCmp]
theorem lt_t {a b : Int} (h : a < b) : icmp .lss a b = some true := by simp [icmp, h]
theorem lt_f {a b : Int} (h : b ≤ a) : icmp .lss a b = some false := by simp [icmp]; omega
theorem le_t {a b : Int} (h : a ≤ b) : icmp .leq a b = some true := by simp [icmp, h]
theorem le_f {a b : Int} (h : b < a) : icmp .leq a b = some false := by simp [icmp]; omega
theorem gt_t {a b : Int} (h : b < a) : icmp .gtr a b = some true := by simp [icmp, h]
theorem gt_f {a b : Int} (h : a ≤ b) : icmp .gtr a b = some false := by simp [icmp]; omega
theorem ge_t {a b : Int} (h : b ≤ a) : icmp .geq a b = some true := by simp [icmp, h]
theorem ge_f {a b : Int} (h : a < b) : icmp .geq a b = some false := by simp [icmp]; omega
theorem eq_t {a b : Int} (h : a = b) : icmp .eql a b = some true := by simp [icmp, h]
theorem eq_f {a b : Int} (h : a ≠ b) : icmp .eql a b = some false := by simp [icmp, h]
theorem ne_t {a b : Int} (h : a ≠ b) : icmp .neq a b = some true := by simp [icmp, h]
theorem ne_f {a b : Int} (h : a = b) : icmp .neq a b = some false := by simp [icmp, h]
theorem Yv.not {x : Operand} {b : Bool} {t : TypeId} : Yv P w (.unOp .not t x) [(.bool b)] (.bool (!b)) :=
  Yv.mk1 (x := x) (by simp) rfl fun o e w' hop hx _ => by simp [execOp, hop, hx, Op.unary]
/-! texts -/
def scmp : BinOp → Bs → Bs → Option Bool
  | .eql, a, b => some (a == b) | .neq, a, b => some (a != b) | .lss, a, b => some (Op.bytesLess a b) | .leq, a, b => some (Op.bytesLess a b || a == b) | .gtr, a, b => some (!(Op.bytesLess a b || a == b)) | .geq, a, b => some (!Op.bytesLess a b) | _, _, _ => none
theorem Yv.scm {q : BinOp} {t u : TypeId} {x y : Operand} {a b : Bs} (c : Bool) (hc : scmp q a b = some c) : Yv P w (.binOp q t x y u) [(S a), (S b)] (.bool c) :=
  Yv.mk2 (x := x) (y := y) (by simp) rfl fun o e w' hop hx hy _ => by
    cases q <;> simp only [scmp, Option.some.injEq] at hc <;> try cases hc
    all_goals (try subst hc)
    all_goals simp [execOp, hop, hx, hy, S, binOp, eqGuard, Op.stringOp, bne]
theorem seq_t {a b : Bs} (h : a = b) : scmp .eql a b = some true := by simp [scmp, h]
theorem seq_f {a b : Bs} (h : a ≠ b) : scmp .eql a b = some false := by simp [scmp, h]
theorem sne_t {a b : Bs} (h : a ≠ b) : scmp .neq a b = some true := by simp [scmp, h]
theorem sne_f {a b : Bs} (h : a = b) : scmp .neq a b = some false := by simp [scmp, h]
theorem Yv.cat {t u : TypeId} {x y : Operand} {a b : Bs} (hr : a.length + b.length ≤ 9223372036854775807) : Yv P w (.binOp .add t x y u) [(S a), (S b)] (S (a ++ b)) :=
  Yv.mk2 (x := x) (y := y) (by simp) rfl fun o e w' hop hx hy _ => by
    have h1 : (Op.stringOp .add (⟨⟨a⟩⟩ : ByteArray) ⟨⟨b⟩⟩).run P w' = .ok (.string (⟨⟨a⟩⟩ ++ ⟨⟨b⟩⟩)) w' := run_string_add_sum _ _ _ (by simpa [ByteArray.size] using hr)
    have h2 : (⟨⟨a⟩⟩ ++ ⟨⟨b⟩⟩ : ByteArray) = ⟨⟨a ++ b⟩⟩ := by rw [ByteArray.mk_append_mk]
    simp only [execOp, hop, hx, hy, S, binOp, eqGuard]
    rw [h2] at h1
    simp [h1]
theorem Yv.len_s {t : TypeId} {x : Operand} {l : Bs} (ht : strB P t = true := by kernel_rfl) : Yv P w (.call { callee := .builtin .len, args := #[x], argTypes := #[t] }) [(S l)] (.int .i64 (l.length : Int)) :=
  Yv.mk1 (x := x) (by simp) rfl fun o e w' hop hx _ => by
    simp only [execOp, hop, resolve, invoke, builtin, Sem.run_bind, Sem.run_pure, Result.andThen_ok, List.map_toArray, List.map_cons, List.map_nil, hx]
    simp [S, Builtin.len_, run_underlying (strB_of ht), goInt, mk_size]
theorem Yv.len_v {t e : TypeId} {x : Operand} {A : Option Addr} {n c m : Nat} (ht : slB P t e m = true := by kernel_rfl) : Yv P w (.call { callee := .builtin .len, args := #[x], argTypes := #[t] }) [(.slice A n c)] (.int .i64 (n : Int)) :=
  Yv.mk1 (x := x) (by simp) rfl fun o e w' hop hx _ => by
    simp only [execOp, hop, resolve, invoke, builtin, Sem.run_bind, Sem.run_pure, Result.andThen_ok, List.map_toArray, List.map_cons, List.map_nil, hx]
    simp [Builtin.len_, run_underlying (slB_of ht).1, goInt]
theorem Yv.ix {t : TypeId} {x y : Operand} {l : Bs} {n : Int} {kd : IntKind} (h0 : 0 ≤ n) (h1 : n < l.length) (ht : strB P t = true := by kernel_rfl) : Yv P w (.index t x y) [(S l), (.int kd n)] (.int .u8 (byt l n)) :=
  Yv.mk2 (x := x) (y := y) (by simp) rfl fun o e w' hop hx hy _ => by
    have h1 := mk_get l _ _ (nth_get h0 h1)
    simp [execOp, hop, hx, hy, S, Instr.index, asIntOf, run_underlying (strB_of ht), h0, h1, byt]
theorem Yv.ss_ft {t : TypeId} {x y z : Operand} {l : Bs} {a b : Int} {k1 k2 : IntKind} (h0 : 0 ≤ a) (h1 : a ≤ b) (h2 : b ≤ l.length) (ht : strB P t = true := by kernel_rfl) : Yv P w (.slice t x (some y) (some z) none) [(S l), (.int k1 a), (.int k2 b)] (S ((l.take b.toNat).drop a.toNat)) :=
  Yv.mk3 (x := x) (y := y) (z := z) (by simp) rfl fun o e w' hop hx hy hz _ => by
    have h3 : (a.toNat : Int) ≤ b := by omega
    have h4 : (0 : Int) ≤ b := by omega
    have h5 : max b 0 = b := by omega
    simp [execOp, hop, hx, hy, hz, S, Instr.sliceAt, Instr.slice, Instr.sliceBounds, Instr.sliceBound, asIntOf, run_underlying (strB_of ht), mk_size, mk_extract, h0, h1, h2, h4, h5]
theorem Yv.ss_f {t : TypeId} {x y : Operand} {l : Bs} {a : Int} {k1 : IntKind} (h0 : 0 ≤ a) (h1 : a ≤ l.length) (ht : strB P t = true := by kernel_rfl) : Yv P w (.slice t x (some y) none none) [(S l), (.int k1 a)] (S (l.drop a.toNat)) :=
  Yv.mk2 (x := x) (y := y) (by simp) rfl fun o e w' hop hx hy _ => by
    simp [execOp, hop, hx, hy, S, Instr.sliceAt, Instr.slice, Instr.sliceBounds, Instr.sliceBound, asIntOf, run_underlying (strB_of ht), mk_size, mk_extract, h0, h1]
theorem Yv.ss_t {t : TypeId} {x z : Operand} {l : Bs} {b : Int} {k2 : IntKind} (h1 : 0 ≤ b) (h2 : b ≤ l.length) (ht : strB P t = true := by kernel_rfl) : Yv P w (.slice t x none (some z) none) [(S l), (.int k2 b)] (S (l.take b.toNat)) :=
  Yv.mk2 (x := x) (y := z) (by simp) rfl fun o e w' hop hx hz _ => by
    simp [execOp, hop, hx, hz, S, Instr.sliceAt, Instr.slice, Instr.sliceBounds, Instr.sliceBound, asIntOf, run_underlying (strB_of ht), mk_size, mk_extract, h1, h2]
/-! addresses, loads, fields, elements -/
theorem Yv.fa {t : TypeId} {x : Operand} {f off b q : Nat} (hf : fldB P t f off = true := by kernel_rfl) : Yv P w (.fieldAddr t x f) [(.pointer (some ⟨b, q, none⟩))] (.pointer (some ⟨b, q + off, none⟩)) :=
  Yv.mk1 (x := x) (by simp) rfl fun o e w' hop hx _ => by
    obtain ⟨fs, fd, h1, h2, rfl, n, h3⟩ := fldB_of hf
    simp [execOp, hop, hx, Instr.fieldAt, run_underlying h1, h2, Instr.sureAddr, fieldPlace, run_size h3, add_off]
theorem Yv.ld {t : TypeId} {x : Operand} {b q : Nat} {v : Value} (hc : w.cell? ⟨b, q, none⟩ = some v) (ht : scB P t = true := by kernel_rfl) : Yv P w (.load t x) [(.pointer (some ⟨b, q, none⟩))] (v) :=
  Yv.mk1 (x := x) (by simp) rfl fun o e w' hop hx hk => by simp [execOp, hop, hx, Instr.loadAt, Instr.sureAddr, loadVar, run_isAgg_sc (scB_of ht), (hk rfl).cell hc]
theorem Yv.lds {t : TypeId} {x : Operand} {b q n : Nat} {vs : List Value} (hn : vs.length = n) (hc : ∀ j v, vs[j]? = some v → w.cell? ⟨b, q + j, none⟩ = some v) (ht : agB P t n = true := by kernel_rfl) : Yv P w (.load t x) [(.pointer (some ⟨b, q, none⟩))] (.agg vs.toArray) :=
  Yv.mk1 (x := x) (by simp) rfl fun o e w' hop hx hk => by
    simp [execOp, hop, hx, Instr.loadAt, Instr.sureAddr, run_loadVar_ag (agB_of ht) ⟨b, q, none⟩ vs hn (fun j v hj => by rw [add_off]; exact (hk rfl).cell (hc j v hj))]
end
end Go.Proofs.YtgjhbapbomdpbaaDoor.Sh
/- A walk over the model's code with a small environment (generic: over any program). Part D: memory: who owns which blocks; slices that are read; boxes, variables, stores. -/
set_option linter.unusedVariables false
set_option linter.unusedSimpArgs false
namespace Go.Proofs.YtgjhbapbomdpbaaDoor.Sh
open Go.RowKit

/-! ### 1. Blocks -/
/-- outside of the blocks M the world is as it was -/
structure Chg (M : List Nat) (w w' : World) : Prop where
  os : w'.os = w.os
  tape : w'.tape = w.tape
  output : w'.output = w.output
  size : w.heap.size ≤ w'.heap.size
  block : ∀ b, b < w.heap.size → b ∉ M → w'.heap[b]? = w.heap[b]?
theorem Chg.refl (M : List Nat) (w : World) : Chg M w w := ⟨rfl, rfl, rfl, Nat.le_refl _, fun _ _ _ => rfl⟩
theorem Chg.of_keep {w w' : World} (M : List Nat) (h : Keep w w') : Chg M w w' := ⟨h.os, h.tape, h.output, h.size, fun b hb _ => h.block b hb⟩
theorem Chg.keep {w w' : World} (h : Chg [] w w') : Keep w w' := ⟨h.os, h.tape, h.output, h.size, fun b hb => h.block b hb (by simp)⟩
theorem Chg.trans {M M' : List Nat} {a b c : World} (h : Chg M a b) (k : Chg M' b c) (hM : ∀ x ∈ M', x ∈ M ∨ a.heap.size ≤ x) : Chg M a c :=
  ⟨k.os.trans h.os, k.tape.trans h.tape, k.output.trans h.output, Nat.le_trans h.size k.size, fun x hx hn =>
    (k.block x (Nat.lt_of_lt_of_le hx h.size) (fun hm => by rcases hM x hm with h' | h'; exact hn h'; omega)).trans (h.block x hx hn)⟩
theorem Chg.of_grownBy {w w' : World} {row : Option Nat} (h : w.grownBy w' row) : Chg row.toList w w' := ⟨h.os, h.tape, h.output, h.size, fun b hb hn => h.block b hb (fun e => hn (by rw [← e]; simp))⟩

/-- a piece of memory: its blocks, and what is known of them -/
structure Chunk where
  bs : List Nat
  ok : World → Prop
  loc : ∀ w w', (∀ b ∈ bs, w'.heap[b]? = w.heap[b]?) → ok w → ok w'
structure St (w0 : World) (M : List Nat) (w : World) (D : List Chunk) : Prop where
  chg : Chg M w0 w
  ok : ∀ C ∈ D, C.ok w
  rng : ∀ C ∈ D, ∀ b ∈ C.bs, (b ∈ M ∨ w0.heap.size ≤ b) ∧ b < w.heap.size
  dis : D.Pairwise fun C E => ∀ b ∈ C.bs, b ∉ E.bs
section
variable {w0 w w' : World} {M : List Nat} {C C' : Chunk} {D D' : List Chunk}
theorem St.init (w : World) : St w [] w [] := ⟨.refl _ _, by simp, by simp, .nil⟩
theorem St.keep (h : St w0 [] w D) : Keep w0 w := h.chg.keep
theorem St.at_ (h : St w0 M w D) (i : Nat) (hC : D[i]? = some C := by rfl) : C.ok w := h.ok C (List.mem_of_getElem? hC)
theorem St.quiet (h : St w0 M w D) (k : Keep w w') : St w0 M w' D :=
  ⟨h.chg.trans (Chg.of_keep [] k) (by simp), fun C hC => C.loc w w' (fun b hb => k.block b (h.rng C hC b hb).2) (h.ok C hC),
    fun C hC b hb => ⟨(h.rng C hC b hb).1, Nat.lt_of_lt_of_le (h.rng C hC b hb).2 k.size⟩, h.dis⟩
theorem St.sub (h : St w0 M w D) (hs : D'.Sublist D) : St w0 M w D' := ⟨h.chg, fun C hC => h.ok C (hs.subset hC), fun C hC => h.rng C (hs.subset hC), h.dis.sublist hs⟩
theorem St.drop (h : St w0 M w (C :: D)) : St w0 M w D := h.sub (List.sublist_cons_self C D)
theorem St.perm (h : St w0 M w D) (hp : D.Perm D') : St w0 M w D' :=
  ⟨h.chg, fun C hC => h.ok C (hp.mem_iff.2 hC), fun C hC => h.rng C (hp.mem_iff.2 hC), (hp.pairwise_iff (fun h b hb hb' => h b hb' hb)).1 h.dis⟩
theorem perm_pull : ∀ {D : List Chunk} (i : Nat), D[i]? = some C → D.Perm (C :: D.eraseIdx i)
  | [], i, h => by simp at h
  | x :: xs, 0, h => by simp at h; subst h; exact .refl _
  | x :: xs, i + 1, h => ((perm_pull i (by simpa using h)).cons x).trans (.swap _ _ _)
theorem St.pull (h : St w0 M w D) (i : Nat) (hC : D[i]? = some C := by rfl) : St w0 M w (C :: D.eraseIdx i) := h.perm (perm_pull i hC)
/-- new blocks -/
theorem St.new (h : St w0 M w D) (k : Keep w w') (hC : C.ok w') (hb : ∀ b ∈ C.bs, w.heap.size ≤ b ∧ b < w'.heap.size) : St w0 M w' (C :: D) := by
  have h' := h.quiet k
  refine ⟨h'.chg, fun E hE => ?_, fun E hE => ?_, ?_⟩
  · rcases List.mem_cons.1 hE with rfl | hE
    · exact hC
    · exact h'.ok E hE
  · rcases List.mem_cons.1 hE with rfl | hE
    · exact fun b hm => ⟨.inr (Nat.le_trans h.chg.size (hb b hm).1), (hb b hm).2⟩
    · exact h'.rng E hE
  · refine List.Pairwise.cons (fun E hE b hm hm' => ?_) h'.dis
    have := (h.rng E hE b hm').2
    have := (hb b hm).1
    omega
/-- what owns chunks is called: the frame -/
theorem St.call {A : List Chunk} (h : St w0 M w (A ++ D)) (k : St w (A.flatMap (·.bs)) w' D') : St w0 M w' (D' ++ D) := by
  have hdis := List.pairwise_append.1 h.dis
  have hA : ∀ b ∈ A.flatMap (·.bs), (b ∈ M ∨ w0.heap.size ≤ b) := fun b hb => by
    obtain ⟨C, hC, hb⟩ := List.mem_flatMap.1 hb
    exact (h.rng C (List.mem_append_left _ hC) b hb).1
  have hD : ∀ E ∈ D, ∀ b ∈ E.bs, b ∉ A.flatMap (·.bs) := fun E hE b hb hm => by
    obtain ⟨C, hC, hb'⟩ := List.mem_flatMap.1 hm
    exact hdis.2.2 C hC E hE b hb' hb
  refine ⟨h.chg.trans k.chg hA, fun E hE => ?_, fun E hE b hb => ?_, List.pairwise_append.2 ⟨k.dis, hdis.2.1, fun C hC E hE b hb hb' => ?_⟩⟩
  · rcases List.mem_append.1 hE with hE | hE
    · exact k.ok E hE
    · exact E.loc w w' (fun b hb => k.chg.block b (h.rng E (List.mem_append_right _ hE) b hb).2 (hD E hE b hb)) (h.ok E (List.mem_append_right _ hE))
  · rcases List.mem_append.1 hE with hE | hE
    · obtain ⟨h1, h2⟩ := k.rng E hE b hb
      refine ⟨?_, h2⟩
      rcases h1 with h1 | h1
      · exact hA b h1
      · exact .inr (Nat.le_trans h.chg.size h1)
    · obtain ⟨h1, h2⟩ := h.rng E (List.mem_append_right _ hE) b hb
      exact ⟨h1, Nat.lt_of_lt_of_le h2 k.chg.size⟩
  · rcases (k.rng C hC b hb).1 with h1 | h1
    · exact hD E hE b hb' h1
    · have := (h.rng E (List.mem_append_right _ hE) b hb').2
      omega
theorem St.call0 (h : St w0 M w D) (k : St w [] w' D') : St w0 M w' (D' ++ D) := St.call (A := []) h k
/-- some chunks are handed in: the callee begins with them -/
theorem St.enter {A : List Chunk} (h : St w0 M w (A ++ D)) : St w (A.flatMap (·.bs)) w A := by
  have hdis := List.pairwise_append.1 h.dis
  refine ⟨.refl _ _, fun C hC => h.ok C (List.mem_append_left _ hC), fun C hC b hb => ⟨.inl (List.mem_flatMap.2 ⟨C, hC, hb⟩), (h.rng C (List.mem_append_left _ hC) b hb).2⟩, hdis.1⟩
/-- the first chunk is turned in place (new blocks may join it) -/
theorem St.upd (h : St w0 M w (C :: D)) (k : Chg C.bs w w') (hC : C'.ok w') (hb : ∀ b ∈ C'.bs, (b ∈ C.bs ∨ w.heap.size ≤ b) ∧ b < w'.heap.size) : St w0 M w' (C' :: D) := by
  have h1 : St w ([C].flatMap (·.bs)) w' [C'] := ⟨by simpa using k, by simpa using hC, by simpa using hb, .cons (by simp) .nil⟩
  exact St.call (A := [C]) h h1
end

/-! ### 2. Cells of one block -/
def Ch.cells (b : Nat) (T : TypeId) (vs : List Value) : Chunk :=
  ⟨[b], fun w => w.heap[b]? = some (.cells vs.toArray T (0, 0)), fun w w' h hk => (h b (by simp)).trans hk⟩
theorem cells_cell {w : World} {b : Nat} {T : TypeId} {vs : List Value} (h : (Ch.cells b T vs).ok w) (j : Nat) (v : Value) (hv : vs[j]? = some v := by rfl) : w.cell? ⟨b, j, none⟩ = some v := by
  have h' : w.heap[b]? = some (.cells vs.toArray T (0, 0)) := h
  simp [World.cell?, h', hv]
theorem cells_frozen {w : World} {b : Nat} {T : TypeId} {vs : List Value} (h : (Ch.cells b T vs).ok w) (j : Nat) : w.frozen? ⟨b, j, none⟩ = false := by
  have h' : w.heap[b]? = some (.cells vs.toArray T (0, 0)) := h
  simp [World.frozen?, h']
section
variable {w0 w w' : World} {M : List Nat} {C : Chunk} {D D' : List Chunk}
theorem St.cell (h : St w0 M w D) (i : Nat) {b : Nat} {T : TypeId} {vs : List Value} (j : Nat) {v : Value} (hC : D[i]? = some (Ch.cells b T vs) := by rfl) (hv : vs[j]? = some v := by rfl) : w.cell? ⟨b, j, none⟩ = some v :=
  cells_cell (h.at_ i hC) j v hv
theorem St.allocCells (h : St w0 M w D) (T : TypeId) (vs : List Value) : St w0 M (w.alloc (.cells vs.toArray T)) (Ch.cells w.heap.size T vs :: D) :=
  h.new (Keep.alloc _ _) (heap_alloc_new w _) (fun b hb => by simp [Ch.cells] at hb; subst hb; simp)
end
/-- storing cell after cell into one block -/
theorem run_storeCells_one {P : Program} {T : TypeId} {b : Nat} (us : List Value) (h1 : ∀ u ∈ us, u.oneCell' = true) : ∀ (i q : Nat) (vs : List Value) (w : World), w.heap[b]? = some (.cells vs.toArray T (0, 0)) → q + i + us.length ≤ vs.length →
    ∃ w', (storeCells ⟨b, q, none⟩ us i).run P w = .ok () w' ∧ w'.heap[b]? = some (.cells (vs.take (q + i) ++ us ++ vs.drop (q + i + us.length)).toArray T (0, 0)) ∧ Chg [b] w w' ∧ w'.heap.size = w.heap.size := by
  induction us with
  | nil => intro i q vs w h hl; exact ⟨w, rfl, by simpa using h, .refl _ _, rfl⟩
  | cons u us ih =>
    intro i q vs w h hl
    simp only [List.length_cons] at hl
    have hc : w.cell? ⟨b, q + i, none⟩ = some (vs[q + i]'(by omega)) := by
      simp [World.cell?, h, List.getElem?_eq_getElem (show q + i < vs.length by omega)]
    have hf : w.frozen? ⟨b, q + i, none⟩ = false := by simp [World.frozen?, h]
    have hset : (w.setCell ⟨b, q + i, none⟩ u).heap[b]? = some (.cells (vs.set (q + i) u).toArray T (0, 0)) := by
      simp [World.setCell, Array.getElem?_modify, h]
    obtain ⟨w', hr, hh, hk, hs⟩ := ih (fun x hx => h1 x (List.mem_cons_of_mem _ hx)) (i + 1) q (vs.set (q + i) u) (w.setCell ⟨b, q + i, none⟩ u) hset (by simp; omega)
    refine ⟨w', ?_, ?_, ?_, by rw [hs]; simp⟩
    · simp only [storeCells, Sem.run_bind, add_off, run_store P w _ u _ (h1 u (by simp)), hc, hf]
      simpa [add_off] using hr
    · rw [hh]
      congr 3
      have e1 : (vs.set (q + i) u).take (q + (i + 1)) = vs.take (q + i) ++ [u] := by
        rw [List.set_eq_take_append_cons_drop, if_pos (by omega), show q + (i + 1) = q + i + 1 by omega, List.append_cons]
        exact List.take_left' (by simp; omega)
      have e2 : (vs.set (q + i) u).drop (q + (i + 1) + us.length) = vs.drop (q + i + (us.length + 1)) := by
        rw [show q + (i + 1) + us.length = q + i + (us.length + 1) by omega, List.drop_set, if_pos (by omega)]
      rw [e1, e2]
      simp
    · refine Chg.trans (b := w.setCell ⟨b, q + i, none⟩ u) (M' := [b]) ⟨rfl, rfl, rfl, by simp, fun x hx hn => Below.heap_setCell _ _ _ _ (by simpa using hn)⟩ hk (by simp)

/-! ### 3. Slices whose elements are read -/
structure Enc (α : Type) where
  n : Nat
  cells : α → List Value
  len : ∀ x, (cells x).length = n
def pb (A : Option Addr) : Nat := match A with | some a => a.block | none => 0
def pq (A : Option Addr) : Nat := match A with | some a => a.off | none => 0
/-- from A on the list xs is to be read -/
structure Rd {α : Type} (E : Enc α) (w : World) (A : Option Addr) (xs : List α) : Prop where
  adr : 0 < xs.length → A = some ⟨pb A, pq A, none⟩
  cell : ∀ j x, xs[j]? = some x → ∀ k u, (E.cells x)[k]? = some u → w.cell? ⟨pb A, pq A + j * E.n + k, none⟩ = some u
section
variable {α : Type} {E : Enc α} {w w' : World} {A : Option Addr} {xs : List α}
theorem Rd.keep (h : Rd E w A xs) (k : Keep w w') : Rd E w' A xs := ⟨h.adr, fun j x hx i u hu => k.cell (h.cell j x hx i u hu)⟩
theorem Rd.ld [Inhabited α] (h : Rd E w A xs) {i : Int} (f : Nat) {u : Value} (h0 : 0 ≤ i) (h1 : i < xs.length) (hu : (E.cells (nth xs i))[f]? = some u := by rfl) :
    w.cell? ⟨pb A, pq A + i.toNat * E.n + f, none⟩ = some u := h.cell _ _ (nth_get h0 h1) f u hu
/-- the address of an element -/
theorem Yv.ia {P : Program} {w1 : World} {t e : TypeId} {m c : Nat} {x y : Operand} {j : Int} {kd : IntKind} (h : Rd E w A xs) (h0 : 0 ≤ j) (h1 : j < xs.length) (hm : m = xs.length := by rfl) (ht : slB P t e E.n = true := by kernel_rfl) :
    Yv P w1 (.indexAddr t x y) [(.slice A m c), (.int kd j)] (.pointer (some ⟨pb A, pq A + j.toNat * E.n, none⟩)) :=
  Yv.mk2 (x := x) (y := y) (by simp) rfl fun o e w' hop hx hy _ => by
    subst hm
    rw [h.adr (by omega)] at hx ⊢
    simp [execOp, hop, hx, hy, Instr.indexAt, asIntOf, run_underlying (slB_of ht).1, h0, h1, run_size (slB_of ht).2, add_off, pb, pq]
end

/-! ### 4. Operations that make or write -/
section
variable {r : Option Nat} {P : Program} {N : Nat} {ρ : Env} {ds : List Deferred} {w0 w : World} {M : List Nat} {D : List Chunk} {K : Env → World → Prop} {Q : Post} {dst : Option Nat}
theorem Ef.box {t : TypeId} {x : Operand} {v : Value} (h : St w0 M w D) (k : ∀ b w', Keep w w' → St w0 M w' (Ch.cells b t v.cells.toList :: D) → K (putE ρ dst (.pointer (some ⟨b, 0, none⟩))) w') : Ef r P N dst (.box t x) [v] ρ ds w K Q :=
  Ef.of_run (v := .pointer (some ⟨w.heap.size, 0, none⟩)) (w' := w.alloc (.cells v.cells.toList.toArray t)) (by simp)
    (fun o e ho hv => by
      have hx : e x = v := by simpa [Op.operands] using hv
      simp [execOp, ho, hx, Instr.box, newVar, newRow]) (k _ _ (Keep.alloc _ _) (h.allocCells t _))
theorem Ef.alloc {t : TypeId} {z : Value} (hz : (P.info? t).map (·.zero) = some (some z)) (h : St w0 M w D) (k : ∀ b w', Keep w w' → St w0 M w' (Ch.cells b t z.cells.toList :: D) → K (putE ρ dst (.pointer (some ⟨b, 0, none⟩))) w') : Ef r P N dst (.alloc t) [] ρ ds w K Q := by
  obtain ⟨i, hi, hz'⟩ := Option.map_eq_some_iff.1 hz
  exact Ef.of_run (v := .pointer (some ⟨w.heap.size, 0, none⟩)) (w' := w.alloc (.cells z.cells.toList.toArray t)) (by simp)
    (fun o e ho hv => by simp [execOp, ho, Instr.alloc, zeroValue, typeInfo, hi, hz', newVar, newRow]) (k _ _ (Keep.alloc _ _) (h.allocCells t _))
/-- a store of one cell into the i-th chunk -/
theorem Ef.store {t T : TypeId} {x y : Operand} {b q : Nat} {vs : List Value} {v : Value} (h : St w0 M w D) (i : Nat) (k : ∀ w', St w0 M w' (Ch.cells b T (vs.set q v) :: D.eraseIdx i) → K (putE ρ dst undef) w')
    (hC : D[i]? = some (Ch.cells b T vs) := by rfl) (hq : Nat.blt q vs.length = true := by rfl) (h1 : v.oneCell' = true := by rfl) (hv : v.cells = #[v] := by rfl) (hs : sizeB P t 1 = true := by kernel_rfl) : Ef r P N dst (.store t x y) [.pointer (some ⟨b, q, none⟩), v] ρ ds w K Q := by
  have hp := h.pull i hC
  have hb : w.heap[b]? = some (.cells vs.toArray T (0, 0)) := h.at_ i hC
  have hq : q < vs.length := by simpa using hq
  obtain ⟨w', hr, hh, hk, hsz⟩ := run_storeCells_one (P := P) [v] (by simpa using h1) 0 q vs w hb (by simp; omega)
  refine Ef.of_skip (w' := w') (by simp) (fun o e ho he => ?_) (k w' (hp.upd hk ?_ ?_))
  · have h2 : e x = .pointer (some ⟨b, q, none⟩) ∧ e y = v := by simpa [Op.operands] using he
    simp [execOp, ho, h2.1, h2.2, Instr.storeAt, Instr.sureAddr, storeVar, hv, run_size (sizeB_of hs), hr]
  · show w'.heap[b]? = some _
    rw [hh]
    congr 3
    simp [List.set_eq_take_append_cons_drop, hq]
  · intro x hx
    simp [Ch.cells] at hx
    subst hx
    exact ⟨.inl (by simp [Ch.cells]), by rw [hsz]; exact (Array.getElem?_eq_some_iff.1 hb).1⟩
/-- a store of a whole struct into the i-th chunk -/
theorem Ef.stores {t T : TypeId} {x y : Operand} {b q n : Nat} {vs us : List Value} (h : St w0 M w D) (i : Nat) (k : ∀ w', St w0 M w' (Ch.cells b T (vs.take q ++ us ++ vs.drop (q + n)) :: D.eraseIdx i) → K (putE ρ dst undef) w')
    (hC : D[i]? = some (Ch.cells b T vs) := by rfl) (hn : us.length = n := by rfl) (hq : Nat.ble (q + n) vs.length = true := by rfl) (h1 : us.all (·.oneCell') = true := by rfl) (ht : agB P t n = true := by kernel_rfl) : Ef r P N dst (.store t x y) [.pointer (some ⟨b, q, none⟩), .agg us.toArray] ρ ds w K Q := by
  have hp := h.pull i hC
  have hb : w.heap[b]? = some (.cells vs.toArray T (0, 0)) := h.at_ i hC
  have hq := Nat.le_of_ble_eq_true hq
  subst hn
  obtain ⟨w', hr, hh, hk, hsz⟩ := run_storeCells_one (P := P) us (by simpa using h1) 0 q vs w hb (by simpa using hq)
  refine Ef.of_skip (w' := w') (by simp) (fun o e ho he => ?_) (k w' (hp.upd hk ?_ ?_))
  · have h2 : e x = .pointer (some ⟨b, q, none⟩) ∧ e y = .agg us.toArray := by simpa [Op.operands] using he
    simp [execOp, ho, h2.1, h2.2, Instr.storeAt, Instr.sureAddr, storeVar, Value.cells, run_size (agB_of ht).2, hr]
  · show w'.heap[b]? = some _
    rw [hh]
    simp
  · intro x hx
    simp [Ch.cells] at hx
    subst hx
    exact ⟨.inl (by simp [Ch.cells]), by rw [hsz]; exact (Array.getElem?_eq_some_iff.1 hb).1⟩
end
end Go.Proofs.YtgjhbapbomdpbaaDoor.Sh
/- A walk over the model's code with a small environment (generic: over any program). Part E: regions whose order of evaluation is drawn: what only reads may be taken first. -/
set_option linter.unusedVariables false
set_option linter.unusedSimpArgs false
namespace Go.Proofs.YtgjhbapbomdpbaaDoor.Sh
open Go.RowKit

/-- in every world that keeps w0 (if the operation looks at memory), from the frame a, the operation leaves v (or is passed over) -/
def Hv (P : Program) (ops : Array Oper) (w0 : World) (o : Oper) (v : Value) (a : Act) : Prop :=
  (Region.wanted o (yielded ops a.tmps) = true ∧ ∀ w', (rdm o.op = true → Keep w0 w') → (execOp a.eval o).run P w' = .ok (.value v) w') ∨ (Region.wanted o (yielded ops a.tmps) = false ∧ v = undef)
def calmOp (o : Oper) : Bool := match o.op with | .select .. | .defer _ => false | _ => true
theorem calmOp_sel {o : Oper} (h : calmOp o = true) : ∀ cs b, o.op ≠ .select cs b := fun cs b e => by simp [calmOp, e] at h
theorem calmOp_def {o : Oper} (h : calmOp o = true) : ∀ c, o.op ≠ .defer c := fun c e => by simp [calmOp, e] at h
theorem Hv.same {P : Program} {ops : Array Oper} {w0 : World} {o : Oper} {v : Value} {a a' : Act} (h : Hv P ops w0 o v a) (he : execOp a'.eval o = execOp a.eval o) (hw : Region.wanted o (yielded ops a'.tmps) = Region.wanted o (yielded ops a.tmps)) : Hv P ops w0 o v a' := by
  unfold Hv at *
  rw [he, hw]
  exact h

section
variable {r : Option Nat} {P : Program} {ops : Array Oper} {Qa : Exit → Act → World → Prop} {w0 : World}
theorem Hv.op {i : Nat} {o : Oper} {v : Value} {a : Act} (hi : ops[i]? = some o) (hc : calmOp o = true) (hv : Hv P ops w0 o v a) {K : Act → World → Prop} {w : World} (hk : rdm o.op = true → Keep w0 w) (h : K (a.put o.dst v) w) : wpOpIn (Fr r) 0 P ops Qa i K a w := by
  unfold Go.wpOpIn
  simp only [hi]
  rcases hv with ⟨hw, hv⟩ | ⟨hw, rfl⟩
  · simp only [hw, if_true]
    refine ⟨fun f hf => trivial, ?_⟩
    rw [semAt_plain _ (calmOp_def hc), hv w hk]
    exact h
  · simp only [hw, Bool.false_eq_true, if_false]
    exact ⟨fun f hf => trivial, h⟩
/-- an operation beside one that only reads: whether that one's value is there already makes no difference to it, and it makes none to that one -/
theorem comm {j : Nat} {oi oj : Oper} {v : Value} (hj : ops[j]? = some oj) (hap : oi.apart ops oj = true) (hci : calmOp oi = true) (hcj : calmOp oj = true) (hQ : ∀ c a w, Qa (.panic c) (a.put oi.dst v) w → Qa (.panic c) a w)
    {K : Act → World → Prop} {a : Act} {w : World} (hy : Hv P ops w0 oi v a) (h : wpOpIn (Fr r) 0 P ops Qa j K (a.put oi.dst v) w) : wpOpIn (Fr r) 0 P ops Qa j (fun a' w' => Hv P ops w0 oi v a' ∧ K (a'.put oi.dst v) w') a w := by
  obtain ⟨h1, h2, h3⟩ := Oper.apart_spec hap
  have keep : ∀ u, Hv P ops w0 oi v (a.put oj.dst u) := fun u => hy.same (execOp_put oi (calmOp_sel hci) a oj.dst u h3) (wanted_put oi a oj.dst u h3)
  unfold wpOpIn at *
  simp only [hj] at *
  rw [wanted_put oj a oi.dst v h1] at h
  split
  · rename_i hw
    simp only [hw, if_true] at h
    unfold Oper.wpIn at *
    refine ⟨fun f hf => trivial, ?_⟩
    have h := h.2
    rw [semAt_plain _ (calmOp_def hcj), execOp_put oj (calmOp_sel hcj) a oi.dst v h1] at h
    rw [semAt_plain _ (calmOp_def hcj)]
    generalize (execOp a.eval oj).run P w = res at *
    have sw : ∀ u, (a.put oi.dst v).put oj.dst u = (a.put oj.dst u).put oi.dst v := fun u => Act.put_comm a v u h2
    cases res with
    | ok x w' =>
      cases x <;> simp only [Oper.uponIn] at h ⊢
      case value u => exact ⟨keep u, by rw [← sw]; exact h⟩
      case skip => exact ⟨keep _, by rw [← sw]; exact h⟩
      case defer dd =>
        refine ⟨Hv.same (a := a.put oj.dst undef) (keep _) ?_ ?_, ?_⟩
        · cases oj.dst <;> rfl
        · cases oj.dst <;> rfl
        · have e : ({ a with defers := dd :: a.defers }.put oj.dst undef).put oi.dst v = ({ a.put oi.dst v with defers := dd :: (a.put oi.dst v).defers }).put oj.dst undef := by
            rw [Act.put_defers, Act.put_comm _ v undef h2]
          rw [e]
          exact h
      case enter f args =>
        refine ⟨h.1, CallsIn.mono h.2 fun e w'' he => ?_⟩
        cases e with
        | returned u => exact ⟨keep u, by rw [← sw]; exact he⟩
        | panicked c => exact hQ _ _ _ he
        | outgrown => exact he
      case row row args => exact ⟨h.1, RowsIn.mono h.2 fun u w'' he => ⟨keep u, by rw [← sw]; exact he⟩⟩
      case round l f tmps assign body =>
        refine ⟨h.1, RoundIn.mono h.2 fun e w'' he => ?_⟩
        cases e with
        | returned u => exact ⟨keep u, by rw [← sw]; exact he⟩
        | panicked c => exact hQ _ _ _ he
        | outgrown => exact he
    | halt x w' =>
      cases x <;> simp only [Oper.uponIn] at h ⊢
      case panic u => exact hQ _ _ _ h
  · rename_i hw
    simp only [hw] at h
    exact ⟨fun f hf => trivial, keep _, by rw [← Act.put_comm a v undef h2]; exact h.2⟩

/-- whatever order is drawn from here on; an operation that is none of 'tail' keeps the world that it finds -/
def Any (r : Option Nat) (P : Program) (ops : Array Oper) (Qa : Exit → Act → World → Prop) (tail : List Nat) : Nat → Array Bool → Act → World → Prop
  | 0, listed, a, w => Region.ready .any ops listed = [] ∧ Qa .normal a w
  | fuel + 1, listed, a, w => (Region.ready .any ops listed = [] → Qa .normal a w) ∧
    ∀ i ∈ Region.ready .any ops listed, wpOpIn (Fr r) 0 P ops Qa i (fun a' w' => (i ∉ tail → Keep w w') ∧ Any r P ops Qa tail fuel (listed.setIfInBounds i true) a' w') a w
theorem Any.sound {tail : List Nat} : ∀ (fuel : Nat) (listed : Array Bool) (a : Act) (w : World), Any r P ops Qa tail fuel listed a w → wpAnyIn (Fr r) 0 P .any ops Qa fuel listed a w
  | 0, _, _, _, h => h
  | fuel + 1, _, _, _, h => ⟨h.1, fun i hi => wpOpIn_mono (fun a' w' h' => Any.sound fuel _ a' w' h'.2) (h.2 i hi)⟩
/-- does number t wait for number s, straight or through others? -/
def reachB (ops : Array Oper) : Nat → Nat → Nat → Bool
  | 0, _, _ => false
  | k + 1, t, s => match ops[t]? with
    | some o => o.after.any fun e => Region.binds .any e && (e.on == s || reachB ops k e.on s)
    | none => false
/-- whatever is listed has been waited for -/
def DC (ops : Array Oper) (listed : Array Bool) : Prop := ∀ i o, ops[i]? = some o → listed.getD i false = true → ∀ e ∈ o.after, Region.binds .any e = true → listed.getD e.on false = true
def dcB (ops : Array Oper) (listed : Array Bool) : Bool := (List.range ops.size).all fun i => !(listed.getD i false) || match ops[i]? with
  | some o => o.after.all fun e => !(Region.binds .any e) || listed.getD e.on false
  | none => true
theorem dcB_of {listed : Array Bool} (h : dcB ops listed = true) : DC ops listed := by
  intro i o hi hl e he hb
  have h1 := List.all_eq_true.1 h i (List.mem_range.2 (Array.getElem?_eq_some_iff.1 hi).1)
  rw [hl, hi] at h1
  simp only [Bool.not_true, Bool.false_or] at h1
  have h2 := Array.all_eq_true_iff_forall_mem.1 h1 e he
  rw [hb] at h2
  simpa using h2
theorem getD_mark {listed : Array Bool} {x j : Nat} (h : listed.getD x false = true) : (listed.setIfInBounds j true).getD x false = true := by
  simp only [Array.getD_eq_getD_getElem?] at h ⊢
  by_cases hxj : j = x
  · subst hxj
    rcases Nat.lt_or_ge j listed.size with hj | hj
    · simp [Array.getElem?_setIfInBounds_self_of_lt hj]
    · simp [Array.getElem?_eq_none hj] at h
  · rw [Array.getElem?_setIfInBounds_ne hxj]; exact h
theorem getD_marked {listed : Array Bool} {x j : Nat} (h : (listed.setIfInBounds j true).getD x false = true) : x = j ∨ listed.getD x false = true := by
  by_cases hxj : j = x
  · exact .inl hxj.symm
  · right
    simp only [Array.getD_eq_getD_getElem?] at h ⊢
    rwa [Array.getElem?_setIfInBounds_ne hxj] at h
theorem DC.mark {listed : Array Bool} {j : Nat} (h : DC ops listed) (hj : j ∈ Region.ready .any ops listed) : DC ops (listed.setIfInBounds j true) := by
  intro i o hi hl e he hb
  rcases getD_marked hl with rfl | hl
  · obtain ⟨-, oj, hoj, hall⟩ := mem_ready.1 hj
    obtain rfl := Option.some.inj (hi.symm.trans hoj)
    exact getD_mark (hall e he hb)
  · exact getD_mark (h i o hi hl e he hb)
theorem DC.reach {listed : Array Bool} (h : DC ops listed) : ∀ (k t s : Nat) (o : Oper), ops[t]? = some o → (∀ e ∈ o.after, Region.binds .any e = true → listed.getD e.on false = true) → reachB ops k t s = true → listed.getD s false = true
  | 0, _, _, _, _, _, hr => by cases hr
  | k + 1, t, s, o, ho, hall, hr => by
    simp only [reachB, ho] at hr
    obtain ⟨e, he, hb⟩ := Array.any_eq_true'.1 hr
    simp only [Bool.and_eq_true, Bool.or_eq_true, beq_iff_eq] at hb
    obtain ⟨hb, hs⟩ := hb
    have hl := hall e he hb
    rcases hs with rfl | hs
    · exact hl
    · cases hx : ops[e.on]? with
      | none =>
        cases k with
        | zero => cases hs
        | succ k => simp [reachB, hx] at hs
      | some oe => exact h.reach k e.on s oe hx (h e.on oe hx hl) hs
/-- the tail waits for whatever looks at memory -/
def tailOk (ops : Array Oper) (tail : List Nat) : Bool :=
  tail.all fun t => match ops[t]? with
    | none => false
    | some o => (List.range ops.size).all fun s => tail.contains s || (match ops[s]? with
      | some os => !rdm os.op || reachB ops ops.size t s
      | none => true)
theorem tailOk_spec {tail : List Nat} (h : tailOk ops tail = true) {t s : Nat} {ot os : Oper} (ht : t ∈ tail) (hot : ops[t]? = some ot) (hs : s ∉ tail) (hos : ops[s]? = some os) (hr : rdm os.op = true) : reachB ops ops.size t s = true := by
  have h1 := List.all_eq_true.1 h t ht
  rw [hot] at h1
  have h2 := List.all_eq_true.1 h1 s (List.mem_range.2 (Array.getElem?_eq_some_iff.1 hos).1)
  rw [hos] at h2
  have hc : tail.contains s = false := by
    cases hcc : tail.contains s with
    | false => rfl
    | true => exact absurd (List.contains_iff_mem.1 hcc) hs
  simpa only [hc, hr, Bool.false_or, Bool.not_true] using h2
theorem Any.first {tail : List Nat} {i : Nat} {oi : Oper} {v : Value} (hi : ops[i]? = some oi) (hit : i ∉ tail) (htail : tailOk ops tail = true) (hcalm : ops.all calmOp = true) (hQ : ∀ c a w, Qa (.panic c) (a.put oi.dst v) w → Qa (.panic c) a w) :
    ∀ (fuel : Nat) (listed : Array Bool) (a : Act) (w : World), DC ops listed →
      (∀ j oj, ops[j]? = some oj → j ≠ i → listed.getD j true = false → (∀ e ∈ oj.after, Region.binds .any e = true → e.on ≠ i) → oi.apart ops oj = true) →
      i ∈ Region.ready .any ops listed → Hv P ops w0 oi v a → Keep w0 w → Any r P ops Qa tail fuel (listed.setIfInBounds i true) (a.put oi.dst v) w → Any r P ops Qa tail (fuel + 1) listed a w := by
  have calm : ∀ (k : Nat) (ok : Oper), ops[k]? = some ok → calmOp ok = true := fun k ok hk => Array.all_eq_true_iff_forall_mem.1 hcalm ok (Array.mem_of_getElem? hk)
  suffices main : ∀ (fuel : Nat) (listed : Array Bool) (a : Act) (w : World), DC ops listed →
      (∀ j oj, ops[j]? = some oj → j ≠ i → listed.getD j true = false → (∀ e ∈ oj.after, Region.binds .any e = true → e.on ≠ i) → oi.apart ops oj = true) →
      i ∈ Region.ready .any ops listed → Hv P ops w0 oi v a → (rdm oi.op = true → Keep w0 w) → Any r P ops Qa tail fuel (listed.setIfInBounds i true) (a.put oi.dst v) w → Any r P ops Qa tail (fuel + 1) listed a w by
    exact fun fuel listed a w h0 h1 h2 h3 h4 h5 => main fuel listed a w h0 h1 h2 h3 (fun _ => h4) h5
  intro fuel
  induction fuel with
  | zero =>
    intro listed a w _ _ hr hy hk H
    refine ⟨fun h => (by rw [h] at hr; cases hr), fun j hj => ?_⟩
    by_cases hji : j = i
    · subst hji; exact hy.op hi (calm _ _ hi) hk ⟨fun _ => Keep.refl w, H⟩
    · have := ready_mono hj hji
      rw [H.1] at this
      cases this
  | succ fuel ih =>
    intro listed a w hdc hfree hr hy hk H
    refine ⟨fun h => (by rw [h] at hr; cases hr), fun j hj => ?_⟩
    by_cases hji : j = i
    · subst hji; exact hy.op hi (calm _ _ hi) hk ⟨fun _ => Keep.refl w, H⟩
    · have hH := H.2 j (ready_mono hj hji)
      obtain ⟨hjun, oj, hoj, hall⟩ := mem_ready.1 hj
      have hiun := (mem_ready.1 hr).1
      have hilt : listed.getD i false = false := by
        rcases Nat.lt_or_ge i listed.size with h' | h'
        · simpa [h'] using hiun
        · simp [Array.getElem?_eq_none h']
      have hnot : ∀ e ∈ oj.after, Region.binds .any e = true → e.on ≠ i := fun e he hb heq => by
        have h1 := hall e he hb
        rw [heq, hilt] at h1
        cases h1
      have hc := comm hoj (hfree j oj hoj hji hjun hnot) (calm _ _ hi) (calm _ _ hoj) hQ hy hH
      have hfree' : ∀ k ok, ops[k]? = some ok → k ≠ i → (listed.setIfInBounds j true).getD k true = false → (∀ e ∈ ok.after, Region.binds .any e = true → e.on ≠ i) → oi.apart ops ok = true := fun k ok hk' hki hun hno => by
        refine hfree k ok hk' hki ?_ hno
        by_cases hjk : j = k
        · subst hjk; exact hjun
        · rw [getD_set_ne true hjk] at hun; exact hun
      refine wpOpIn_mono (fun a' w' h3 => ?_) hc
      obtain ⟨hy', h3⟩ := h3
      refine ⟨h3.1, ih _ a' w' (hdc.mark hj) hfree' (ready_mono hr (Ne.symm hji)) hy' (fun hrd => ?_) ?_⟩
      · have hjt : j ∉ tail := fun hjt => by
          have hre := tailOk_spec htail hjt hoj hit hi hrd
          have := hdc.reach _ j i oj hoj hall hre
          rw [hilt] at this
          cases this
        exact (hk hrd).trans (h3.1 hjt)
      · rw [Array.setIfInBounds_comm _ _ hji]
        exact h3.2

/-! ### over environments -/
/-- how many are still to come -/
def still (listed : Array Bool) : Nat := listed.toList.countP (!·)
theorem still_set {listed : Array Bool} {i : Nat} (h : listed.getD i true = false) : still listed = still (listed.setIfInBounds i true) + 1 := by
  obtain ⟨l⟩ := listed
  unfold still
  simp only [Array.getD_eq_getD_getElem?, List.getElem?_toArray] at h
  simp only [List.setIfInBounds_toArray]
  induction l generalizing i with
  | nil => simp at h
  | cons x l ih =>
    cases i with
    | zero => simp at h; subst h; simp
    | succ i =>
      have := ih (i := i) (by simpa using h)
      cases x <;> simp_all <;> omega
theorem still_new (n : Nat) : still (Array.replicate n false) = n := by
  simp only [still, Array.toList_replicate]
  induction n with
  | zero => rfl
  | succ n ih => rw [List.replicate_succ, List.countP_cons_of_pos (by rfl), ih]
def WD (r : Option Nat) (P : Program) (N : Nat) (ops : Array Oper) (tail : List Nat) (listed : Array Bool) (ρ : Env) (ds : List Deferred) (w : World) (Q : Post) : Prop :=
  ∀ a, Rep N a ρ ds → Any r P ops (lift N Q) tail (still listed) listed a w
/-- the post of a panic does not hang on the environment -/
def Pf (Q : Post) : Prop := ∀ c ρ ρ' ds w, Q (.panic c) ρ ds w → Q (.panic c) ρ' ds w
theorem Pf.thn {K : Env → List Deferred → World → Prop} {Q : Post} (h : Pf Q) : Pf (thn K Q) := h
theorem Pf.blk {id : Nat} {Q : Post} (h : Pf Q) : Pf (blk id Q) := h
theorem Pf.fin {fn : Func} {N : Nat} {R : Ending → World → Prop} : Pf (Fin P fn N R) := fun _ _ _ _ _ h => h
theorem Pf.lift {N : Nat} {Q : Post} (h : Pf Q) (dst : Option Nat) (v : Value) (c : List PanicEntry) (a : Act) (w : World) (hh : Sh.lift N Q (.panic c) (a.put dst v) w) : Sh.lift N Q (.panic c) a w := by
  obtain ⟨ρ, ds, hr, hq⟩ := hh
  refine ⟨[], ds, ⟨?_, fun t v ht => by simp [lk] at ht, ?_⟩, h c ρ [] ds w hq⟩
  · have := hr.size
    cases dst <;> simpa [Act.put] using this
  · have := hr.defers
    cases dst <;> simpa [Act.put] using this
/-- may number i be taken now? -/
def mayTake (ops : Array Oper) (tail : List Nat) (listed : Array Bool) (i : Nat) : Bool :=
  (Region.ready .any ops listed).contains i && Region.free .any ops listed i && !tail.contains i
def marks (listed : Array Bool) : List Nat → Array Bool
  | [] => listed
  | i :: is => marks (listed.setIfInBounds i true) is
def mayTakes (ops : Array Oper) (tail : List Nat) : Array Bool → List Nat → Bool
  | _, [] => true
  | listed, i :: is => mayTake ops tail listed i && mayTakes ops tail (listed.setIfInBounds i true) is
section
variable {N : Nat} {ρ ρ' : Env} {ds : List Deferred} {w : World} {Q : Post} {id : Nat} {tail : List Nat} {listed : Array Bool}
def regOk (ops : Array Oper) (tail : List Nat) : Bool := ops.all calmOp && tailOk ops tail
theorem ready_un {i : Nat} (h : i ∈ Region.ready .any ops listed) : listed.getD i true = false := by
  obtain ⟨h1, oj, hoj, h2⟩ := mem_ready.1 h
  exact h1
theorem Wp.draws (tail : List Nat) (hm : P.follows .mixedOrders = true) (h : WD r P N ops tail (Array.replicate ops.size false) ρ ds w.drew Q) : Wp r P N (.region id ops true) ρ ds w Q :=
  fun a ha => wpIn_region_any hm (Any.sound _ _ _ _ (by have := h a ha; rwa [still_new] at this))
theorem WD.takes (is : List Nat) (hQ : Pf Q) (hdc : DC ops listed) (h : Rn P w N ops is ρ ρ') (hok : regOk ops tail = true) (hl : mayTakes ops tail listed is = true) (k : WD r P N ops tail (marks listed is) ρ' ds w Q) : WD r P N ops tail listed ρ ds w Q := by
  have hok' := hok
  simp only [regOk, Bool.and_eq_true] at hok
  induction is generalizing ρ listed with
  | nil => exact fun a ha => k a (ha.le h)
  | cons i is ih =>
    intro a ha
    simp only [mayTakes, Bool.and_eq_true] at hl
    obtain ⟨ht, hl⟩ := hl
    simp only [mayTake, Bool.and_eq_true, Bool.not_eq_true'] at ht
    obtain ⟨⟨hrd, hfr⟩, htl⟩ := ht
    have hit : i ∉ tail := fun hm => by simp [hm] at htl
    have hrd' : i ∈ Region.ready .any ops listed := by simpa using hrd
    rw [still_set (ready_un hrd')]
    rcases h with ⟨d, op, vs, v, hc, hy, hrest⟩ | ⟨d, hc, hrest⟩
    · obtain ⟨o, ho, hg, hd, rfl, hN, hv⟩ := cop_spec hc
      have hnext := ih (hdc.mark hrd') hrest hl k
      refine Any.first ho hit hok.2 hok.1 (fun c a w hh => hQ.lift _ _ _ _ _ hh) _ _ _ _ hdc (Region.free_spec ho hfr) hrd' (v := v) (.inl ⟨wanted_of_gd ha hg, fun w' hk => hy.2 o a.eval rfl (evs_spec ha hv) w' hk⟩) (Keep.refl w) ?_
      rw [hd]
      exact hnext _ (ha.putE hN v)
    · obtain ⟨o, ho, hg, hd, hN⟩ := cno_spec hc
      have hnext := ih (hdc.mark hrd') hrest hl k
      refine Any.first ho hit hok.2 hok.1 (fun c a w hh => hQ.lift _ _ _ _ _ hh) _ _ _ _ hdc (Region.free_spec ho hfr) hrd' (v := undef) (w0 := w) (.inr ⟨wanted_of_gd ha hg, rfl⟩) (Keep.refl w) ?_
      rw [hd]
      exact hnext _ (ha.putE hN undef)
/-- some reading ahead -/
theorem WD.rd {w0 : World} {is : List Nat} (hQ : Pf Q) (hk : Keep w0 w) (h : Rn P w0 N ops is ρ ρ') (k : WD r P N ops tail (marks listed is) ρ' ds w Q) (hok : regOk ops tail = true := by kernel_rfl) (hl : mayTakes ops tail listed is = true := by kernel_rfl) (hdc : dcB ops listed = true := by kernel_rfl) : WD r P N ops tail listed ρ ds w Q :=
  WD.takes is hQ (dcB_of hdc) (h.weak hk) hok hl k
theorem WD.done (h : Q .normal ρ ds w) (hl : Region.ready .any ops listed = [] := by kernel_rfl) : WD r P N ops tail listed ρ ds w Q := fun a ha => by
  cases still listed with
  | zero => exact ⟨hl, ρ, ds, ha, h⟩
  | succ n => exact ⟨fun _ => ⟨ρ, ds, ha, h⟩, by rw [hl]; simp⟩
/-- one operation alone may come up -/
theorem WD.act (i : Nat) {dst : Option Nat} {op : Op} {vs : List Value} (hc : cop N ops ρ i = some (dst, op, vs) := by rfl)
    (he : Ef r P N dst op vs ρ ds w (fun ρ' w' => (i ∉ tail → Keep w w') ∧ WD r P N ops tail (listed.setIfInBounds i true) ρ' ds w' Q) Q) (hl : Region.ready .any ops listed = [i] := by kernel_rfl) : WD r P N ops tail listed ρ ds w Q := by
  intro a ha
  have hi : i ∈ Region.ready .any ops listed := by rw [hl]; simp
  rw [still_set (ready_un hi)]
  refine ⟨fun h => (by rw [hl] at h; cases h), fun j hj => ?_⟩
  rw [hl] at hj
  obtain rfl : j = i := by simpa using hj
  obtain ⟨o, ho, hg, hd, rfl, hN, hv⟩ := cop_spec hc
  unfold wpOpIn
  simp only [ho]
  rw [wanted_of_gd ha hg]
  simp only [if_true]
  refine Oper.wpIn_mono ?_ (he hN o a rfl hd ha (evs_spec ha hv))
  rintro a' w' ⟨ρ', hr, hk⟩
  exact ⟨hk.1, hk.2 a' hr⟩
theorem WD.no (i : Nat) {dst : Option Nat} (hc : cno N ops ρ i = some dst := by rfl)
    (k : WD r P N ops tail (listed.setIfInBounds i true) (putE ρ dst undef) ds w Q) (hl : Region.ready .any ops listed = [i] := by kernel_rfl) : WD r P N ops tail listed ρ ds w Q := by
  intro a ha
  have hi : i ∈ Region.ready .any ops listed := by rw [hl]; simp
  rw [still_set (ready_un hi)]
  refine ⟨fun h => (by rw [hl] at h; cases h), fun j hj => ?_⟩
  rw [hl] at hj
  obtain rfl : j = i := by simpa using hj
  obtain ⟨o, ho, hg, hd, hN⟩ := cno_spec hc
  unfold wpOpIn
  simp only [ho]
  rw [wanted_of_gd ha hg]
  simp only [Bool.false_eq_true, if_false, hd]
  exact ⟨fun f hf => trivial, fun _ => Keep.refl w, k _ (ha.putE hN undef)⟩
/-- one of two may come up -/
theorem WD.act2 (i j : Nat) {di dj : Option Nat} {oi oj : Op} {vi vj : List Value} (hci : cop N ops ρ i = some (di, oi, vi) := by rfl) (hcj : cop N ops ρ j = some (dj, oj, vj) := by rfl)
    (hi : Ef r P N di oi vi ρ ds w (fun ρ' w' => (i ∉ tail → Keep w w') ∧ WD r P N ops tail (listed.setIfInBounds i true) ρ' ds w' Q) Q) (hj : Ef r P N dj oj vj ρ ds w (fun ρ' w' => (j ∉ tail → Keep w w') ∧ WD r P N ops tail (listed.setIfInBounds j true) ρ' ds w' Q) Q) (hl : Region.ready .any ops listed = [i, j] := by kernel_rfl) : WD r P N ops tail listed ρ ds w Q := by
  intro a ha
  have hri : i ∈ Region.ready .any ops listed := by rw [hl]; simp
  have hrj : j ∈ Region.ready .any ops listed := by rw [hl]; simp
  rw [still_set (ready_un hri)]
  have hji : still (listed.setIfInBounds i true) = still (listed.setIfInBounds j true) := by
    have h1 := still_set (ready_un hri)
    have h2 := still_set (ready_un hrj)
    omega
  refine ⟨fun h => (by rw [hl] at h; cases h), fun k hk => ?_⟩
  rw [hl] at hk
  simp only [List.mem_cons, List.not_mem_nil, or_false] at hk
  rcases hk with rfl | rfl
  · obtain ⟨o, ho, hg, hd, rfl, hN, hv⟩ := cop_spec hci
    unfold wpOpIn
    simp only [ho]
    rw [wanted_of_gd ha hg]
    simp only [if_true]
    refine Oper.wpIn_mono ?_ (hi hN o a rfl hd ha (evs_spec ha hv))
    rintro a' w' ⟨ρ', hr, hk⟩
    exact ⟨hk.1, hk.2 a' hr⟩
  · obtain ⟨o, ho, hg, hd, rfl, hN, hv⟩ := cop_spec hcj
    unfold wpOpIn
    simp only [ho]
    rw [wanted_of_gd ha hg]
    simp only [if_true]
    refine Oper.wpIn_mono ?_ (hj hN o a rfl hd ha (evs_spec ha hv))
    rintro a' w' ⟨ρ', hr, hk⟩
    refine ⟨hk.1, ?_⟩
    rw [hji]
    exact hk.2 a' hr
theorem dc_new (ops : Array Oper) : dcB ops (Array.replicate ops.size false) = true := by
  rw [dcB, List.all_eq_true]
  intro i hi
  have : (Array.replicate ops.size false).getD i false = false := by
    simp only [Array.getD_eq_getD_getElem?, Array.getElem?_replicate]
    split <;> rfl
  rw [this]
  rfl
/-- a region that draws its order and only reads -/
theorem Wp.readsD (hm : P.follows .mixedOrders = true) (hQ : Pf Q) {ρ' : Env} {w0 : World} {is : List Nat} (hk : Keep w0 w) (h : Rn P w0 N ops is ρ ρ') (k : Q .normal ρ' ds w.drew)
    (hok : regOk ops [] = true := by kernel_rfl) (hl : mayTakes ops [] (Array.replicate ops.size false) is = true := by kernel_rfl) (hr : Region.ready .any ops (marks (Array.replicate ops.size false) is) = [] := by kernel_rfl) : Wp r P N (.region id ops true) ρ ds w Q :=
  Wp.draws [] hm (WD.takes is hQ (dcB_of (dc_new ops)) (h.weak (hk.trans (Keep.drew w))) hok hl (WD.done k hr))
end
end
end Go.Proofs.YtgjhbapbomdpbaaDoor.Sh
/- A walk over the model's code with a small environment (generic: over any program). Part F: rows that are owned: append, lists written out, cuts, elements written. -/
set_option linter.unusedVariables false
set_option linter.unusedSimpArgs false
namespace Go.Proofs.YtgjhbapbomdpbaaDoor.Sh
open Go.RowKit

/-! ### 1. append, with what is told of the block -/
def rowB (P : Program) (t e : TypeId) (n : Nat) : Bool :=
  slB P t e n && (match P.info? e with | some i => (match i.zero with | some z => Nat.beq z.cells.size n | none => false) && Nat.ble i.bytes 32768 | none => false) && Nat.blt 0 n
theorem rowB_of {P : Program} {t e : TypeId} {n : Nat} (h : rowB P t e n = true) : P.underlying t = some (.slice e) ∧ 0 < n ∧ ∃ i z, P.info? e = some i ∧ i.zero = some z ∧ i.size = n ∧ z.cells.size = n ∧ i.bytes ≤ 32768 := by
  unfold rowB at h
  simp only [Bool.and_eq_true] at h
  obtain ⟨⟨h1, h2⟩, h3⟩ := h
  obtain ⟨h4, h5⟩ := slB_of h1
  obtain ⟨i, hi, hn⟩ := Option.map_eq_some_iff.1 h5
  rw [hi] at h2
  simp only [Bool.and_eq_true] at h2
  cases hz : i.zero with
  | none => rw [hz] at h2; simp at h2
  | some z =>
    rw [hz] at h2
    exact ⟨h4, by simpa using h3, i, z, hi, hz, hn, by simpa using h2.1, by simpa using h2.2⟩
theorem ownsRow_nil_inv {w : World} {e : TypeId} {size c n : Nat} {xs : List Value} (h : w.ownsRow 0 e size (.slice none n c) n xs) : n = 0 ∧ c = 0 ∧ xs = [] := by
  rcases h.2 with ⟨h1, rfl⟩ | ⟨g, cap, cur, h1, _⟩
  · injection h1 with _ _ h2
    exact ⟨rfl, h2, List.eq_nil_of_length_eq_zero (by simpa using h.1)⟩
  · simp at h1
theorem ownsRow_some_inv {w : World} {e : TypeId} {size c n : Nat} {a : Addr} {xs : List Value} (h : w.ownsRow 0 e size (.slice (some a) n c) n xs) : ∃ g cur, a = ⟨g, 0, none⟩ ∧ w.heap[g]? = some (.cells cur e (0, 0)) ∧ n ≤ c ∧ c ≤ maxLen ∧ cur.size = c * size ∧ cur.toList.take (n * size) = xs := by
  rcases h.2 with ⟨h1, rfl⟩ | ⟨g, cap, cur, h1, _, h2, h3, h4, h5, h6⟩
  · simp at h1
  · injection h1 with h7 h8 h9
    injection h7 with h7
    subst h9
    exact ⟨g, cur, h7, h2, h3, h4, h5, h6⟩
/-- so many elements may stand in one row: at most 2^32 of them, or 2^47 bytes of them -/
def limB (P : Program) (T : TypeId) (lim : Nat) : Bool := match P.info? T with
  | some i => decide (1 ≤ i.bytes) && decide (lim * i.bytes ≤ 140737488355328)
  | none => false
def Fits (P : Program) (T : TypeId) (n : Nat) : Prop := n ≤ 4294967296 ∨ ∃ lim, limB P T lim = true ∧ n ≤ lim
theorem Fits.le {P : Program} {T : TypeId} {n : Nat} {i : TypeInfo} (hi : P.info? T = some i) (hby : i.bytes ≤ 32768) (h : Fits P T n) : n * i.bytes ≤ 140737488355328 ∧ n ≤ 140737488355328 := by
  rcases h with h | ⟨lim, h1, h2⟩
  · exact ⟨Nat.le_trans (Nat.mul_le_mul h hby) (by decide), by omega⟩
  · simp only [limB, hi, Bool.and_eq_true, decide_eq_true_eq] at h1
    have h3 := Nat.le_trans (Nat.mul_le_mul_right i.bytes h2) h1.2
    exact ⟨h3, Nat.le_trans (by have := Nat.mul_le_mul_left n h1.1; omega) h3⟩
theorem run_app {P : Program} {w : World} {t e ty : TypeId} {size n m c d : Nat} {A B : Option Addr} {xs news : List Value} (ht : rowB P t e size = true) (hown : w.ownsRow 0 e size (.slice A n c) n xs)
    (hl : news.length = m * size) (hB : B = none → m = 0 ∧ d = 0) (hnews : ∀ b, B = some b → ∀ j u, news[j]? = some u → w.cell? (b.add j) = some u) (h1 : ∀ u ∈ news, u.oneCell' = true) (hnm0 : Fits P e (n + m)) :
    ∃ A' c' w', (Builtin.append_ #[t, t] ty #[.slice A n c, .slice B m d]).run P w = .ok (.slice A' (n + m) c') w' ∧ w'.ownsRow 0 e size (.slice A' (n + m) c') (n + m) (xs ++ news) ∧
      ((A' = A ∧ c' = c ∧ w.grownBy w' (A.map (·.block)) ∧ w'.heap.size = w.heap.size) ∨ (A' = some ⟨w.heap.size, 0, none⟩ ∧ w'.heap.size = w.heap.size + 1 ∧ Keep w w')) := by
  obtain ⟨hu, h0, i, z, hi, hz, rfl, hzs, hby⟩ := rowB_of ht
  cases B with
  | none =>
    obtain ⟨rfl, rfl⟩ := hB rfl
    have hn : news = [] := List.eq_nil_of_length_eq_zero (by simpa using hl)
    subst hn
    refine ⟨A, c, w, ?_, by simpa using hown, .inl ⟨rfl, rfl, ⟨rfl, rfl, rfl, Nat.le_refl _, fun _ _ _ => rfl⟩, rfl⟩⟩
    exact run_append_owned_none w 0 t ty e i i.size hu hi _ n xs hown
  | some b =>
    have hb' : (n + m) * i.bytes ≤ 140737488355328 := (hnm0.le hi hby).1
    have hnm : n + m ≤ 140737488355328 := (hnm0.le hi hby).2
    have hlen : (xs ++ news).length = (n + m) * i.size := by rw [List.length_append, hown.1, hl, Nat.add_mul]
    have grown : ∀ (old : Nat),
        (w.drew.alloc (.cells (xs.toArray ++ news.toArray ++ Builtin.zeroCells z.cells (grownCap w (n + m) old e - (n + m))) e)).ownsRow 0 e i.size
          (.slice (some ⟨w.heap.size, 0, none⟩) (n + m) (grownCap w (n + m) old e)) (n + m) (xs ++ news) := by
      intro old
      have hge := grownCap_ge w (n + m) old e
      have hcm : grownCap w (n + m) old e ≤ maxLen := grownCap_le_maxLen w (n + m) old e (by simp only [maxLen]; omega)
      refine ⟨hlen, .inr ⟨w.heap.size, _, _, rfl, Nat.zero_le _, heap_alloc_new w.drew _, hge, hcm, ?_, ?_⟩⟩
      · simp only [Array.size_append, List.size_toArray, size_zeroCells, hzs, hown.1, hl, ← Nat.add_mul]
        congr 1
        omega
      · simp only [Array.toList_append, List.append_assoc]
        rw [← List.append_assoc, ← hlen]
        exact List.take_left
    have kk : ∀ o, Keep w (w.drew.alloc o) := fun o => (Keep.drew w).trans (Keep.alloc _ _)
    cases A with
    | none =>
      obtain ⟨rfl, rfl, rfl⟩ := ownsRow_nil_inv hown
      by_cases hm : m = 0
      · subst hm
        have hn : news = [] := List.eq_nil_of_length_eq_zero (by simpa using hl)
        subst hn
        refine ⟨none, 0, w, ?_, World.ownsRow_nil w 0 e i.size, .inl ⟨rfl, rfl, ⟨rfl, rfl, rfl, Nat.le_refl _, fun _ _ _ => rfl⟩, rfl⟩⟩
        simp [Builtin.append_, run_underlying hu, sizeOf, typeInfo, hi, Builtin.lenOf, Builtin.firstCells, loadCells, loadCellsFrom]
      · have hr := run_append_nil (P := P) w t ty e i z hu hi hz b m d news hl (hnews b rfl) (by omega) (by omega) (by have := hb'; simp only [Nat.zero_add] at this; omega)
        have hgr := grown 0
        simp only [Nat.zero_add, List.nil_append, Array.empty_append] at hgr ⊢
        exact ⟨_, _, _, hr, hgr, .inr ⟨rfl, by simp, kk _⟩⟩
    | some a =>
      obtain ⟨g, cur, rfl, hg, hnc, hcm, hcs, htake⟩ := ownsRow_some_inv hown
      by_cases hroom : n + m ≤ c
      · have hfit : n * i.size + news.length ≤ cur.size := by rw [hl, hcs, ← Nat.add_mul]; exact Nat.mul_le_mul_right _ hroom
        have hr := run_append_room (P := P) w t ty e i hu hi g n c cur hg b m d news hl (hnews b rfl) h1 hroom hfit
        refine ⟨_, _, _, hr, ⟨hlen, .inr ⟨g, c, _, rfl, Nat.zero_le _, setRow_heap w g cur _ e _ hg, hroom, hcm, ?_, ?_⟩⟩, .inl ⟨rfl, rfl, ⟨rfl, rfl, rfl, by simp, fun k _ hk => setRow_other w g k _ (fun e => hk (by simp [e]))⟩, by simp⟩⟩
        · simp only [List.size_toArray, List.length_append, List.length_take, List.length_drop, Array.length_toList]
          omega
        · rw [htake, ← hlen]
          exact List.take_left
      · have holds : ∀ j u, xs[j]? = some u → w.cell? ((⟨g, 0, none⟩ : Addr).add j) = some u := hown.cells (g := g) rfl
        have hr := run_append_grow (P := P) w t ty e i z hu hi hz ⟨g, 0, none⟩ n c xs hown.1 holds b m d news hl (hnews b rfl) (by omega) (by omega) (growslice_fits (by omega) hb')
        exact ⟨_, _, _, hr, grown c, .inr ⟨rfl, by simp, kk _⟩⟩

/-! ### 2. Rows -/
section
variable {α : Type}
def Ch.row (E : Enc α) (T : TypeId) (A : Option Addr) (c : Nat) (xs : List α) : Chunk :=
  ⟨(A.map (·.block)).toList, fun w => w.ownsRow 0 T E.n (.slice A xs.length c) xs.length (xs.flatMap E.cells), fun w w' h hk => by
    refine ⟨hk.1, ?_⟩
    rcases hk.2 with h1 | ⟨g, cap, cur, h1, h2, h3, h4⟩
    · exact .inl h1
    · refine .inr ⟨g, cap, cur, h1, h2, ?_, h4⟩
      injection h1 with h5
      subst h5
      rw [h g (by simp)]
      exact h3⟩
variable {E : Enc α} {T : TypeId} {A : Option Addr} {c : Nat} {xs : List α} {w : World}
theorem length_flat (xs : List α) : (xs.flatMap E.cells).length = xs.length * E.n := by
  induction xs with
  | nil => simp
  | cons x xs ih => simp [ih, E.len, Nat.add_mul]; omega
theorem flat_get (xs : List α) : ∀ (j k : Nat) (x : α) (u : Value), xs[j]? = some x → (E.cells x)[k]? = some u → (xs.flatMap E.cells)[j * E.n + k]? = some u := by
  induction xs with
  | nil => intro j k x u h; simp at h
  | cons y xs ih =>
    intro j k x u h hu
    cases j with
    | zero =>
      simp at h
      subst h
      have hk : k < (E.cells y).length := (List.getElem?_eq_some_iff.1 hu).1
      simp only [List.flatMap_cons, Nat.zero_mul, Nat.zero_add]
      rw [List.getElem?_append_left hk, hu]
    | succ j =>
      have := ih j k x u (by simpa using h) hu
      simp only [List.flatMap_cons]
      rw [List.getElem?_append_right (by rw [E.len, Nat.add_mul]; omega), E.len]
      rw [show (j + 1) * E.n + k - E.n = j * E.n + k by rw [Nat.add_mul]; omega]
      exact this
theorem row_rd (h : (Ch.row E T A c xs).ok w) : Rd E w A xs := by
  have h : w.ownsRow 0 T E.n (.slice A xs.length c) xs.length (xs.flatMap E.cells) := h
  cases A with
  | none =>
    obtain ⟨h1, -, -⟩ := ownsRow_nil_inv h
    have : xs = [] := List.eq_nil_of_length_eq_zero h1
    subst this
    exact ⟨by simp, by simp⟩
  | some a =>
    obtain ⟨g, cur, rfl, hg, hnc, hcm, hcs, htake⟩ := ownsRow_some_inv h
    refine ⟨fun _ => rfl, fun j x hj k u hu => ?_⟩
    have h1 := flat_get xs j k x u hj hu
    have h2 := h.cells (g := g) rfl _ _ h1
    rw [add_off] at h2
    simp only [pb, pq]
    rw [show 0 + j * E.n + k = 0 + (j * E.n + k) by omega]
    exact h2
theorem row_cap (h : (Ch.row E T A c xs).ok w) : xs.length ≤ c := by
  have h : w.ownsRow 0 T E.n (.slice A xs.length c) xs.length (xs.flatMap E.cells) := h
  cases A with
  | none => obtain ⟨h1, -, -⟩ := ownsRow_nil_inv h; omega
  | some a => obtain ⟨g, cur, rfl, hg, hnc, hcm, hcs, htake⟩ := ownsRow_some_inv h; exact hnc
theorem row_nil : (Ch.row E T none 0 []).ok w := World.ownsRow_nil w 0 T E.n
section
variable {w0 : World} {M : List Nat} {D : List Chunk}
theorem St.rd (h : St w0 M w D) (i : Nat) (hC : D[i]? = some (Ch.row E T A c xs) := by rfl) : Rd E w A xs := row_rd (h.at_ i hC)
theorem St.cap (h : St w0 M w D) (i : Nat) (hC : D[i]? = some (Ch.row E T A c xs) := by rfl) : xs.length ≤ c := row_cap (h.at_ i hC)
/-- a nil row may be had for nothing -/
theorem St.nilrow (h : St w0 M w D) (E : Enc α) (T : TypeId) : St w0 M w (Ch.row E T none 0 [] :: D) :=
  h.new (Keep.refl w) row_nil (by simp [Ch.row])
end

/-! ### 3. Operations on rows -/
section
variable {r : Option Nat} {P : Program} {N : Nat} {ρ : Env} {ds : List Deferred} {w0 : World} {M : List Nat} {D : List Chunk} {K : Env → World → Prop} {Q : Post} {dst : Option Nat}
theorem St.row_upd {w' : World} {A' : Option Addr} {c' : Nat} {ys : List α} (h : St w0 M w (Ch.row E T A c xs :: D)) (ho : w'.ownsRow 0 T E.n (.slice A' ys.length c') ys.length (ys.flatMap E.cells))
    (hk : (A' = A ∧ c' = c ∧ w.grownBy w' (A.map (·.block)) ∧ w'.heap.size = w.heap.size) ∨ (A' = some ⟨w.heap.size, 0, none⟩ ∧ w'.heap.size = w.heap.size + 1 ∧ Keep w w')) : St w0 M w' (Ch.row E T A' c' ys :: D) := by
  refine h.upd (C' := Ch.row E T A' c' ys) ?_ ho ?_
  · rcases hk with ⟨_, _, hg, _⟩ | ⟨_, _, hg⟩
    · exact Chg.of_grownBy hg
    · exact Chg.of_keep _ hg
  · intro b hb
    rcases hk with ⟨rfl, rfl, hg, hs⟩ | ⟨rfl, hs, hg⟩
    · have := (h.rng _ (List.mem_cons_self ..) b hb).2
      exact ⟨.inl hb, by omega⟩
    · simp [Ch.row] at hb
      subst hb
      exact ⟨.inr (Nat.le_refl _), by omega⟩
theorem run_append_call {o : Oper} {e : Operand → Value} {s x : Operand} {t : TypeId} {u v : Value} (ho : o.op = .call { callee := .builtin .append, args := #[s, x], argTypes := #[t, t] }) (h1 : e s = u) (h2 : e x = v) {res : Value} {w' : World}
    (hr : (Builtin.append_ #[t, t] o.type #[u, v]).run P w = .ok res w') : (execOp e o).run P w = .ok (.value res) w' := by
  simp only [execOp, ho, resolve, invoke, builtin, Sem.run_bind, Sem.run_pure, Result.andThen_ok, List.map_toArray, List.map_cons, List.map_nil, h1, h2, hr]
theorem Ef.append {s x : Operand} {t : TypeId} {B : Option Addr} {d : Nat} {ys : List α} (h : St w0 M w D) (i : Nat) (hB : Rd E w B ys) (hd : B = none → d = 0) (hlen : Fits P T (xs.length + ys.length))
    (k : ∀ A' c' w', St w0 M w' (Ch.row E T A' c' (xs ++ ys) :: D.eraseIdx i) → K (putE ρ dst (.slice A' (xs ++ ys).length c')) w') (hC : D[i]? = some (Ch.row E T A c xs) := by rfl) (hone : ∀ z, (E.cells z).all (·.oneCell') = true := by exact fun _ => rfl) (ht : rowB P t T E.n = true := by kernel_rfl) :
    Ef r P N dst (.call { callee := .builtin .append, args := #[s, x], argTypes := #[t, t] }) [.slice A xs.length c, .slice B ys.length d] ρ ds w K Q := by
  have hp := h.pull i hC
  have ho : w.ownsRow 0 T E.n (.slice A xs.length c) xs.length (xs.flatMap E.cells) := h.at_ i hC
  have hnil : B = none → ys.length = 0 ∧ d = 0 := by
    intro hb
    refine ⟨?_, hd hb⟩
    cases hy : ys.length with
    | zero => rfl
    | succ n =>
      have := hB.adr (by omega)
      rw [hb] at this
      cases this
  have hall : ∀ u ∈ ys.flatMap E.cells, u.oneCell' = true := fun u hu => by
    obtain ⟨z, _, hz⟩ := List.mem_flatMap.1 hu
    exact List.all_eq_true.1 (hone z) u hz
  have hcells : ∀ b, B = some b → ∀ j u, (ys.flatMap E.cells)[j]? = some u → w.cell? (b.add j) = some u := by
    intro b hb j u hj
    have hjl : j < ys.length * E.n := by
      have := (List.getElem?_eq_some_iff.1 hj).1
      rwa [length_flat] at this
    have hn : 0 < E.n := (rowB_of ht).2.1
    have hq : j / E.n < ys.length := (Nat.div_lt_iff_lt_mul hn).2 hjl
    have hdm := Nat.div_add_mod j E.n
    have hml := Nat.mod_lt j hn
    obtain ⟨z, hz⟩ : ∃ z, ys[j / E.n]? = some z := ⟨_, List.getElem?_eq_getElem hq⟩
    obtain ⟨u', hu'⟩ : ∃ u', (E.cells z)[j % E.n]? = some u' := ⟨_, List.getElem?_eq_getElem (by rw [E.len]; exact hml)⟩
    have hf := flat_get ys _ _ _ _ hz hu'
    have hjj : j / E.n * E.n + j % E.n = j := by rw [Nat.mul_comm]; exact hdm
    rw [hjj, hj] at hf
    injection hf with hf
    subst hf
    have hc := hB.cell _ _ hz _ _ hu'
    have ha := hB.adr (Nat.lt_of_le_of_lt (Nat.zero_le _) hq)
    rw [hb] at ha
    injection ha with ha
    rw [ha, add_off]
    simp only [pb, pq, hb]
    simp only [pb, pq, hb] at hc
    rw [Nat.add_assoc, hjj] at hc
    exact hc
  obtain ⟨A', c', w', hr, ho', hk⟩ := run_app (P := P) (ty := 0) (d := d) ht ho (length_flat ys) hnil hcells hall hlen
  rintro hN o a hop hdst ha hv
  obtain ⟨A', c', w', hr, ho', hk⟩ := run_app (P := P) (ty := o.type) (d := d) ht ho (length_flat ys) hnil hcells hall hlen
  refine ⟨fun f hf => trivial, ?_⟩
  rw [semAt_plain _ (by rw [hop]; simp)]
  have h2 : a.eval s = .slice A xs.length c ∧ a.eval x = .slice B ys.length d := by simpa [Op.operands, Call.operands] using hv
  rw [run_append_call hop h2.1 h2.2 hr]
  rw [← List.length_append, ← List.flatMap_append] at ho'
  subst hdst
  refine ⟨_, ?_, k A' c' w' (hp.row_upd ho' hk)⟩
  have := ha.putE hN (.slice A' (xs.length + ys.length) c')
  rw [List.length_append]
  exact this
end
end
end Go.Proofs.YtgjhbapbomdpbaaDoor.Sh
/- A walk over the model's code with a small environment (generic: over any program). Part G: maps as lists of pairs. -/
set_option linter.unusedVariables false
set_option linter.unusedSimpArgs false
set_option linter.unusedSectionVars false
namespace Go.Proofs.YtgjhbapbomdpbaaDoor.Sh
open Go.RowKit Go.MapKept

/-! ### 1. Lists of pairs -/
section
variable {κ β : Type} [DecidableEq κ]
def alook (k : κ) : List (κ × β) → Option β
  | [] => none
  | (a, v) :: l => if a = k then some v else alook k l
def aput (k : κ) (v : β) : List (κ × β) → List (κ × β)
  | [] => [(k, v)]
  | (a, u) :: l => if a = k then (k, v) :: l else (a, u) :: aput k v l
def adel (k : κ) : List (κ × β) → List (κ × β)
  | [] => []
  | (a, u) :: l => if a = k then l else (a, u) :: adel k l
theorem alook_aput (k k' : κ) (v : β) (l : List (κ × β)) : alook k' (aput k v l) = if k = k' then some v else alook k' l := by
  induction l with
  | nil => simp [aput, alook]
  | cons p l ih =>
    obtain ⟨a, u⟩ := p
    simp only [aput]
    by_cases h : a = k
    · subst h
      simp only [if_true, alook]
      split <;> rfl
    · rw [if_neg h]
      simp only [alook, ih]
      by_cases h1 : a = k'
      · subst h1
        have h' : ¬ k = a := fun e => h e.symm
        simp [h']
      · simp [h1]
end

/-! ### 2. Kinds of keys -/
structure Ky (κ : Type) where
  d : TypeDesc
  enc : κ → Value
  isk : ∀ a, IsKey d (enc a)
  inj : ∀ a b, enc a = enc b → a = b
abbrev KyS : Ky Bs := ⟨.string, S, fun _ => trivial, fun _ _ h => S_inj h⟩
abbrev KyI : Ky Int := ⟨.int .i64, .int .i64, fun _ => rfl, fun _ _ h => by injection h⟩
def mapB (P : Program) (t : TypeId) (d : TypeDesc) : Bool := match P.underlying t with
  | some (.map k _) => match P.underlying k, d with
    | some .string, .string => true
    | some (.int .i64), .int .i64 => true
    | _, _ => false
  | _ => false
theorem mapB_of {P : Program} {t : TypeId} {d : TypeDesc} (h : mapB P t d = true) : ∃ k e, P.underlying t = some (.map k e) ∧ P.underlying k = some d := by
  unfold mapB at h
  cases hd : P.underlying t with
  | none => rw [hd] at h; cases h
  | some x =>
    rw [hd] at h
    cases x with
    | map k e =>
      refine ⟨k, e, rfl, ?_⟩
      simp only at h
      cases hk : P.underlying k with
      | none => rw [hk] at h; cases h
      | some y =>
        rw [hk] at h
        cases y with
        | string => cases d <;> first | rfl | cases h
        | int kd =>
          cases kd <;> cases d <;> try cases h
          rename_i kd2
          cases kd2 <;> first | rfl | cases h
        | _ => cases h
    | _ => cases h
def zeroOf (P : Program) (t : TypeId) : Option Value := match P.underlying t with
  | some (.map _ e) => (P.info? e).bind (·.zero)
  | _ => none

/-! ### 3. A map's block -/
section
variable {κ β : Type} [DecidableEq κ] {Y : Ky κ} {V : β → Value}
def Ch.mp (Y : Ky κ) (V : β → Value) (b : Nat) (l : List (κ × β)) : Chunk :=
  ⟨[b], fun w => ∃ es clock, w.heap[b]? = some (.map es clock) ∧ es.toList.map (fun e => (e.key, e.val)) = l.map (fun p => (Y.enc p.1, V p.2)), fun w w' h ⟨es, clock, h1, h2⟩ => ⟨es, clock, (h b (by simp)).trans h1, h2⟩⟩
theorem keys_ok {es : Array MapEntry} {l : List (κ × β)} (h : es.toList.map (fun e => (e.key, e.val)) = l.map (fun p => (Y.enc p.1, V p.2))) : ∀ x ∈ es.toList, IsKey Y.d x.key := by
  intro x hx
  have : (x.key, x.val) ∈ l.map (fun p => (Y.enc p.1, V p.2)) := h ▸ List.mem_map.2 ⟨x, hx, rfl⟩
  obtain ⟨p, _, hp⟩ := List.mem_map.1 this
  injection hp with h1 h2
  rw [← h1]
  exact Y.isk _
theorem findNow_list (k : κ) : ∀ (es : List MapEntry) (l : List (κ × β)) (i : Nat), es.map (fun e => (e.key, e.val)) = l.map (fun p => (Y.enc p.1, V p.2)) →
    (alook k l = none ∧ Instr.findNow Y.d (Y.enc k) es i = some none ∧ aput k (β := β) = aput k ∧ (∀ x ∈ es, x.key ≠ Y.enc k) ∧ (∀ v : β, aput k v l = l ++ [(k, v)]) ∧ adel k l = l) ∨
    (∃ j v e, alook k l = some v ∧ Instr.findNow Y.d (Y.enc k) es i = some (some (i + j, V v)) ∧ es[j]? = some e ∧ e.key = Y.enc k ∧ (∀ u : β, aput k u l = l.set j (k, u)) ∧ adel k l = l.eraseIdx j)
  | [], [], i, _ => .inl ⟨rfl, rfl, rfl, by simp, fun _ => rfl, rfl⟩
  | [], _ :: _, i, h => by simp at h
  | _ :: _, [], i, h => by simp at h
  | e :: es, (a, u) :: l, i, h => by
    simp only [List.map_cons, List.cons.injEq, Prod.mk.injEq] at h
    obtain ⟨⟨h1, h2⟩, h3⟩ := h
    obtain ⟨r, hr, hiff⟩ := sameNow_of_keys (Y.isk k) (h1 ▸ Y.isk a : IsKey Y.d e.key)
    by_cases hak : a = k
    · subst hak
      have : r = true := hiff.2 (by rw [h1])
      subst this
      refine .inr ⟨0, u, e, by simp [alook], ?_, rfl, h1, fun _ => by simp [aput], by simp [adel]⟩
      simp [Instr.findNow, hr, h2]
    · have : r = false := by
        cases r with
        | false => rfl
        | true => exact absurd (Y.inj _ _ (by rw [← h1]; exact (hiff.1 rfl).symm)) hak
      subst this
      rcases findNow_list k es l (i + 1) h3 with ⟨q1, q2, q3, q4, q5, q6⟩ | ⟨j, v, e', q1, q2, q3, q4, q5, q6⟩
      · refine .inl ⟨by simp [alook, hak, q1], by simp [Instr.findNow, hr, q2], rfl, ?_, fun v => by simp [aput, hak, q5], by simp [adel, hak, q6]⟩
        intro x hx
        rcases List.mem_cons.1 hx with rfl | hx
        · rw [h1]; exact fun e => hak (Y.inj _ _ e)
        · exact q4 x hx
      · refine .inr ⟨j + 1, v, e', by simp [alook, hak, q1], ?_, by simpa using q3, q4, fun u' => by simp [aput, hak, q5], by simp [adel, hak, q6]⟩
        rw [show i + (j + 1) = i + 1 + j by omega]
        simp [Instr.findNow, hr, q2]
variable {P : Program} {w : World} {b : Nat} {l : List (κ × β)}
theorem run_look {t : TypeId} (ht : mapB P t Y.d = true) (h : (Ch.mp Y V b l).ok w) (k : κ) (z : β) (hz : zeroOf P t = some (V z)) (ok : Bool) :
    (Instr.lookup t (.map (some b)) (Y.enc k) ok).run P w = .ok (if ok then .tuple #[V ((alook k l).getD z), .bool (alook k l).isSome] else V ((alook k l).getD z)) w := by
  obtain ⟨kt, et, hm, hk⟩ := mapB_of ht
  obtain ⟨es, clock, hb, hl⟩ := h
  have hz' : (zeroValue et).run P w = .ok (V z) w := by
    simp only [zeroOf, hm] at hz
    obtain ⟨i, hi, hi'⟩ := Option.bind_eq_some_iff.1 hz
    simp [zeroValue, typeInfo, hi, hi']
  rcases findNow_list (Y := Y) (V := V) k es.toList l 0 hl with ⟨q1, q2, -⟩ | ⟨j, v, e, q1, q2, -⟩
  · simp [Instr.lookup, run_underlying hm, MapKept.run_getObj_map hb, run_checkKey hk (Y.isk k), run_findKey hk q2, Result.andThen, hz', q1]
  · simp [Instr.lookup, run_underlying hm, MapKept.run_getObj_map hb, run_checkKey hk (Y.isk k), run_findKey hk q2, Result.andThen, q1]
theorem run_mapput {t : TypeId} (ht : mapB P t Y.d = true) (h : (Ch.mp Y V b l).ok w) (k : κ) (v : β) :
    ∃ w', (Instr.mapUpdate t (.map (some b)) (Y.enc k) (V v)).run P w = .ok () w' ∧ (Ch.mp Y V b (aput k v l)).ok w' ∧ Chg [b] w w' ∧ w'.heap.size = w.heap.size := by
  obtain ⟨kt, et, hm, hk⟩ := mapB_of ht
  obtain ⟨es, clock, hb, hl⟩ := h
  have chg : ∀ o, Chg [b] w { w with heap := w.heap.setIfInBounds b o } := fun o => ⟨rfl, rfl, rfl, by simp, fun x hx hn => (heap_set hb).2 x (by simpa using hn)⟩
  rcases findNow_list (Y := Y) (V := V) k es.toList l 0 hl with ⟨q1, q2, q3, q4, q5, q6⟩ | ⟨j, u, e, q1, q2, q3, q4, q5, q6⟩
  · refine ⟨{ w with heap := w.heap.setIfInBounds b (.map (es.push ⟨Y.enc k, V v, clock⟩) (clock + 1)) }, ?_, ⟨_, _, (heap_set hb).1, ?_⟩, chg _, by simp⟩
    · simp [Instr.mapUpdate, run_underlying hm, MapKept.run_getObj_map hb, run_checkKey hk (Y.isk k), run_findKey hk q2, MapKept.run_setObj_map _ hb, Result.andThen]
    · rw [q5]
      simp [hl]
  · have hj : es[j]? = some e := by simpa using q3
    refine ⟨{ w with heap := w.heap.setIfInBounds b (.map (es.modify j (fun e' => { e' with key := Y.enc k, val := V v })) clock) }, ?_, ⟨_, _, (heap_set hb).1, ?_⟩, chg _, by simp⟩
    · simp [Instr.mapUpdate, run_underlying hm, MapKept.run_getObj_map hb, run_checkKey hk (Y.isk k), run_findKey hk q2, hj, q4, run_keyThatStays (Y.isk k), MapKept.run_setObj_map _ hb, Result.andThen]
    · rw [q5, List.map_set, ← hl, Array.toList_modify]
      apply List.ext_getElem?
      intro i
      simp only [List.getElem?_map, List.getElem?_modify, List.getElem?_set, List.length_map]
      by_cases hij : j = i
      · subst hij
        have : j < es.toList.length := (List.getElem?_eq_some_iff.1 q3).1
        simp [q3, this]
        have := (Array.getElem?_eq_some_iff.1 hj).1
        omega
      · simp [hij]
/-! ### 4. Operations on maps -/
variable {r : Option Nat} {N : Nat} {ρ : Env} {ds : List Deferred} {w0 : World} {M : List Nat} {D : List Chunk} {K : Env → World → Prop} {Q : Post} {dst : Option Nat}
theorem mp_keep {w' : World} (k : Keep w w') (h : (Ch.mp Y V b l).ok w) : (Ch.mp Y V b l).ok w' := by
  obtain ⟨es, clock, h1, h2⟩ := h
  exact ⟨es, clock, k.blk h1, h2⟩
theorem Yv.look {t : TypeId} {x y : Operand} {k : κ} (h : (Ch.mp Y V b l).ok w) (z : β) (ht : mapB P t Y.d = true := by kernel_rfl) (hz : zeroOf P t = some (V z) := by kernel_rfl) :
    Yv P w (.lookup t x y false) [.map (some b), Y.enc k] (V ((alook k l).getD z)) :=
  Yv.mk2 (x := x) (y := y) (by simp) rfl fun o e w' hop hx hy hk => by
    have := run_look (P := P) ht (mp_keep (hk rfl) h) k z hz false
    simp [execOp, hop, hx, hy, this]
theorem Yv.look2 {t : TypeId} {x y : Operand} {k : κ} (h : (Ch.mp Y V b l).ok w) (z : β) (ht : mapB P t Y.d = true := by kernel_rfl) (hz : zeroOf P t = some (V z) := by kernel_rfl) :
    Yv P w (.lookup t x y true) [.map (some b), Y.enc k] (.tuple #[V ((alook k l).getD z), .bool (alook k l).isSome]) :=
  Yv.mk2 (x := x) (y := y) (by simp) rfl fun o e w' hop hx hy hk => by
    have := run_look (P := P) ht (mp_keep (hk rfl) h) k z hz true
    simp [execOp, hop, hx, hy, this]
theorem Ef.makeMap {t : TypeId} (Y : Ky κ) (V : β → Value) (h : St w0 M w D) (k : ∀ b w', Keep w w' → St w0 M w' (Ch.mp Y V b [] :: D) → K (putE ρ dst (.map (some b))) w') : Ef r P N dst (.makeMap t none) [] ρ ds w K Q :=
  Ef.of_run (v := .map (some w.heap.size)) (w' := w.alloc (.map #[] 0)) (by simp)
    (fun o e ho hv => by simp [execOp, ho, run_makeMap]) (k _ _ (Keep.alloc _ _) (h.new (Keep.alloc _ _) ⟨#[], 0, heap_alloc_new w _, rfl⟩ (fun x hx => by simp [Ch.mp] at hx; subst hx; simp)))
theorem Ef.mapput {t : TypeId} {x y z : Operand} {key : κ} {v : β} (h : St w0 M w D) (i : Nat) (k : ∀ w', St w0 M w' (Ch.mp Y V b (aput key v l) :: D.eraseIdx i) → K (putE ρ dst undef) w')
    (hC : D[i]? = some (Ch.mp Y V b l) := by rfl) (ht : mapB P t Y.d = true := by kernel_rfl) : Ef r P N dst (.mapUpdate t x y z) [.map (some b), Y.enc key, V v] ρ ds w K Q := by
  have hp := h.pull i hC
  obtain ⟨w', hr, hok, hk, hs⟩ := run_mapput (P := P) ht (hp.at_ 0) key v
  refine Ef.of_skip (w' := w') (by simp) (fun o e ho he => ?_) (k w' (hp.upd hk hok ?_))
  · have h2 : e x = .map (some b) ∧ e y = Y.enc key ∧ e z = V v := by simpa [Op.operands] using he
    simp [execOp, ho, h2.1, h2.2.1, h2.2.2, hr]
  · intro x hx
    refine ⟨.inl hx, ?_⟩
    have := (hp.rng _ (List.mem_cons_self ..) x hx).2
    omega
end
end Go.Proofs.YtgjhbapbomdpbaaDoor.Sh
