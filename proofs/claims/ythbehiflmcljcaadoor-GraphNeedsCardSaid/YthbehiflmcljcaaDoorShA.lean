/- A walk over the model's code with a small environment (generic: over any program). Part A: environments, the walk's own wp, the rules of control, runs of operations that only read, regions in a fixed order. -/
import Derived.CallsIn
import Derived.OrdersIn
import Derived.Below
import Derived.Laws.World
import Derived.Tactics
import Derived.WalkKit
import Derived.RowKit3
import Derived.OwnWalkIn
import Derived.TacticsInMore
import Derived.RangeFuncLeaves
import Derived.RangeFuncRecord
set_option linter.unusedVariables false
namespace Go.Proofs.YthbehiflmcljcaaDoor.Sh
open Go.RowKit

/-! ### 1. The fence, environments -/
abbrev Fr (r : Option Nat) : Fence := { Fence.wide with round := r }
abbrev Env := List (Nat × Value)
def lk : Env → Nat → Option Value
  | [], _ => none
  | (k, v) :: ρ, t => bif Nat.beq k t then some v else lk ρ t
def ev (ρ : Env) : Operand → Option Value
  | .tmp t => lk ρ t
  | .const v => some v
  | .global g => some (.pointer (some ⟨g, 0, none⟩))
  | .func f => some (.func (.func f) #[] #[])
structure Rep (N : Nat) (a : Act) (ρ : Env) (ds : List Deferred) : Prop where
  size : a.tmps.size = N
  val : ∀ t v, lk ρ t = some v → a.tmps.getD t undef = v
  defers : a.defers = ds
theorem Rep.ev {N : Nat} {a : Act} {ρ : Env} {ds : List Deferred} (h : Rep N a ρ ds) {x : Operand} {v : Value} (hx : ev ρ x = some v) : a.eval x = v := by
  cases x with
  | tmp t => exact h.val t v hx
  | const c => exact Option.some.inj hx
  | global g => exact Option.some.inj hx
  | func f => exact Option.some.inj hx
theorem lk_cons (k : Nat) (v : Value) (ρ : Env) (t : Nat) : lk ((k, v) :: ρ) t = if k = t then some v else lk ρ t := by
  show (bif Nat.beq k t then some v else lk ρ t) = _
  by_cases h : k = t
  · subst h; simp
  · have : Nat.beq k t = false := by cases hb : Nat.beq k t with | false => rfl | true => exact absurd (Nat.eq_of_beq_eq_true hb) h
    simp [this, h]
theorem Rep.put {N : Nat} {a : Act} {ρ : Env} {ds : List Deferred} (h : Rep N a ρ ds) {d : Nat} (hd : d < N) (v : Value) : Rep N (a.put (some d) v) ((d, v) :: ρ) ds := by
  refine ⟨by simp [Act.put, h.size], fun t u ht => ?_, h.defers⟩
  rw [lk_cons] at ht
  by_cases hdt : d = t
  · subst hdt
    simp only [if_true, Option.some.injEq] at ht
    subst ht
    have : d < a.tmps.size := by rw [h.size]; exact hd
    simp [Act.put, this]
  · rw [if_neg hdt] at ht
    have := h.val t u ht
    simpa [Act.put, Array.getElem?_setIfInBounds_ne hdt] using this
theorem Rep.noPut {N : Nat} {a : Act} {ρ : Env} {ds : List Deferred} (h : Rep N a ρ ds) (v : Value) : Rep N (a.put none v) ρ ds := h
/-- what a smaller environment says the greater one says -/
def Sub : Env → Env → Prop
  | [], _ => True
  | (t, v) :: r, ρ => lk ρ t = some v ∧ Sub r ρ
theorem Sub.lk {r ρ : Env} (h : Sub r ρ) : ∀ {t v}, lk r t = some v → Sh.lk ρ t = some v := by
  induction r with
  | nil => intro t v ht; simp [Sh.lk] at ht
  | cons x r ih =>
    obtain ⟨k, u⟩ := x
    intro t v ht
    rw [lk_cons] at ht
    by_cases hk : k = t
    · subst hk
      simp only [if_true, Option.some.injEq] at ht
      subst ht
      exact h.1
    · rw [if_neg hk] at ht
      exact ih h.2 ht
/-- every fact of the one is a fact of the other -/
def Le (r ρ : Env) : Prop := ∀ t v, lk r t = some v → lk ρ t = some v
theorem Le.refl (ρ : Env) : Le ρ ρ := fun _ _ h => h
theorem Le.trans {a b c : Env} (h : Le a b) (k : Le b c) : Le a c := fun t v ht => k t v (h t v ht)
theorem Sub.le {r ρ : Env} (h : Sub r ρ) : Le r ρ := fun _ _ ht => h.lk ht
theorem Le.cons {r ρ : Env} (h : Le r ρ) (k : Nat) (v : Value) : Le ((k, v) :: r) ((k, v) :: ρ) := fun t u ht => by
  rw [lk_cons] at ht ⊢
  split at ht
  · rename_i hk; rw [if_pos hk]; exact ht
  · rename_i hk; rw [if_neg hk]; exact h t u ht
/-- a fact that is there already -/
theorem Le.put {r ρ : Env} {k : Nat} {v : Value} (h : Le r ρ) (hv : lk ρ k = some v) : Le ((k, v) :: r) ρ := fun t u ht => by
  rw [lk_cons] at ht
  split at ht
  · rename_i hk; subst hk; rw [hv]; exact ht
  · exact h t u ht
theorem Rep.le {N : Nat} {a : Act} {ρ r : Env} {ds : List Deferred} (h : Rep N a ρ ds) (hs : Le r ρ) : Rep N a r ds := ⟨h.size, fun t v ht => h.val t v (hs t v ht), h.defers⟩
def hasK : Env → Nat → Bool
  | [], _ => false
  | (k, _) :: ρ, t => bif Nat.beq k t then true else hasK ρ t
def disjK : Env → Env → Bool
  | [], _ => true
  | (k, _) :: l, ρ => bif hasK ρ k then false else disjK l ρ
theorem hasK_lk {ρ : Env} {t : Nat} (h : hasK ρ t = false) : lk ρ t = none := by
  induction ρ with
  | nil => rfl
  | cons x ρ ih =>
    obtain ⟨k, v⟩ := x
    simp only [hasK, cond_eq_ite] at h
    split at h
    · cases h
    · rename_i hk
      rw [lk_cons, if_neg (fun e => hk (by subst e; simp))]
      exact ih h
theorem Le.of_disj (l ρ : Env) (h : disjK l ρ = true) : Le ρ (l ++ ρ) := by
  induction l with
  | nil => exact Le.refl _
  | cons x l ih =>
    obtain ⟨k, v⟩ := x
    simp only [disjK, cond_eq_ite] at h
    split at h
    · cases h
    · rename_i hk
      intro t u ht
      rw [List.cons_append, lk_cons]
      split
      · rename_i e; subst e
        rw [hasK_lk (by simpa using hk)] at ht
        cases ht
      · exact ih h t u ht
/-- n new facts ahead -/
theorem Le.drop {ρ ρ1 : Env} (n : Nat) (h1 : ρ1.drop n = ρ := by rfl) (h2 : disjK (ρ1.take n) ρ = true := by kernel_rfl) : Le ρ ρ1 := by
  have := Le.of_disj (ρ1.take n) ρ h2
  rw [← h1, List.take_append_drop] at this
  rw [← h1]
  exact this
theorem Rep.sub {N : Nat} {a : Act} {ρ r : Env} {ds : List Deferred} (h : Rep N a ρ ds) (hs : Sub r ρ) : Rep N a r ds := ⟨h.size, fun t v ht => h.val t v (hs.lk ht), h.defers⟩

/-! ### 2. wp over environments -/
abbrev Post := Exit → Env → List Deferred → World → Prop
def lift (N : Nat) (Q : Post) : Exit → Act → World → Prop := fun e a w => ∃ ρ ds, Rep N a ρ ds ∧ Q e ρ ds w
def Wp (r : Option Nat) (P : Program) (N : Nat) (c : Code) (ρ : Env) (ds : List Deferred) (w : World) (Q : Post) : Prop :=
  ∀ a, Rep N a ρ ds → c.wpIn (Fr r) 0 P (lift N Q) a w

section control
variable {r : Option Nat} {P : Program} {N : Nat} {ρ : Env} {ds : List Deferred} {w : World} {Q : Post}
theorem Wp.mono {c : Code} {Q' : Post} (h : Wp r P N c ρ ds w Q) (hq : ∀ e ρ' ds' w', Q e ρ' ds' w' → Q' e ρ' ds' w') : Wp r P N c ρ ds w Q' :=
  fun a ha => wpIn_mono (h a ha) fun e a' w' ⟨ρ', ds', hr, hQ⟩ => ⟨ρ', ds', hr, hq _ _ _ _ hQ⟩
theorem Wp.forget {c : Code} (r' : Env) (h : Wp r P N c r' ds w Q) (hs : Sub r' ρ) : Wp r P N c ρ ds w Q := fun a ha => h a (ha.sub hs)
theorem Wp.le {c : Code} {r' : Env} (h : Wp r P N c r' ds w Q) (hs : Le r' ρ) : Wp r P N c ρ ds w Q := fun a ha => h a (ha.le hs)
theorem Wp.skip (h : Q .normal ρ ds w) : Wp r P N .skip ρ ds w Q := fun _ ha => wpIn_skip ⟨ρ, ds, ha, h⟩
theorem Wp.exit {id : Nat} (h : Q (.exit id) ρ ds w) : Wp r P N (.exit id) ρ ds w Q := fun _ ha => wpIn_exit ⟨ρ, ds, ha, h⟩
theorem Wp.ret (h : Q .ret ρ ds w) : Wp r P N .ret ρ ds w Q := fun _ ha => wpIn_ret ⟨ρ, ds, ha, h⟩
/-- what follows a piece of code -/
def thn (K : Env → List Deferred → World → Prop) (Q : Post) : Post
  | .normal, ρ, ds, w => K ρ ds w
  | e, ρ, ds, w => Q e ρ ds w
def blk (id : Nat) (Q : Post) : Post
  | .exit id', ρ, ds, w => if id' = id then Q .normal ρ ds w else Q (.exit id') ρ ds w
  | e, ρ, ds, w => Q e ρ ds w
theorem lift_thn {x : Code} {a : Act} {K : Env → List Deferred → World → Prop} {K' : Act → World → Prop} (hK : ∀ a' ρ' ds' w', Rep N a' ρ' ds' → K ρ' ds' w' → K' a' w')
    (h : x.wpIn (Fr r) 0 P (lift N (thn K Q)) a w) : x.wpIn (Fr r) 0 P (Exit.then K' (lift N Q)) a w :=
  wpIn_mono h fun e a' w' ⟨ρ', ds', hr, hq⟩ => by
    cases e with
    | normal => exact hK _ _ _ _ hr hq
    | _ => exact ⟨ρ', ds', hr, hq⟩
theorem Wp.seq {x y : Code} (h : Wp r P N x ρ ds w (thn (fun ρ' ds' w' => Wp r P N y ρ' ds' w' Q) Q)) : Wp r P N (.seq x y) ρ ds w Q :=
  fun a ha => wpIn_seq (lift_thn (fun a' _ _ _ hr hk => hk a' hr) (h a ha))
/-- the same with a relation between: what follows is walked once, from a relation's states -/
theorem Wp.cut {x y : Code} (R : Env → List Deferred → World → Prop) (h : Wp r P N x ρ ds w (thn R Q)) (k : ∀ ρ' ds' w', R ρ' ds' w' → Wp r P N y ρ' ds' w' Q) : Wp r P N (.seq x y) ρ ds w Q :=
  Wp.seq (h.mono fun e ρ' ds' w' hq => by cases e <;> first | exact k _ _ _ hq | exact hq)
/-- a relation between a piece of code and what follows it -/
theorem Wp.mid {c : Code} (R : Env → List Deferred → World → Prop) (h : Wp r P N c ρ ds w (thn R Q)) (k : ∀ ρ' ds' w', R ρ' ds' w' → Q .normal ρ' ds' w') : Wp r P N c ρ ds w Q :=
  h.mono fun e ρ' ds' w' hq => by cases e <;> first | exact k _ _ _ hq | exact hq
theorem Wp.cond {c : Operand} {x y : Code} {t : Bool} (hc : ev ρ c = some (.bool t)) (ht : t = true → Wp r P N x ρ ds w Q) (hf : t = false → Wp r P N y ρ ds w Q) : Wp r P N (.cond c x y) ρ ds w Q :=
  fun a ha => wpIn_cond_split (ha.ev hc) (fun h => ht h a ha) (fun h => hf h a ha)
theorem Wp.cond_t {c : Operand} {x y : Code} (hc : ev ρ c = some (.bool true) := by rfl) (h : Wp r P N x ρ ds w Q) : Wp r P N (.cond c x y) ρ ds w Q := Wp.cond hc (fun _ => h) (fun h' => by cases h')
theorem Wp.cond_f {c : Operand} {x y : Code} (hc : ev ρ c = some (.bool false) := by rfl) (h : Wp r P N y ρ ds w Q) : Wp r P N (.cond c x y) ρ ds w Q := Wp.cond hc (fun h' => by cases h') (fun _ => h)
theorem Wp.block {id : Nat} {c : Code} (h : Wp r P N c ρ ds w (blk id Q)) : Wp r P N (.block id c) ρ ds w Q :=
  fun a ha => wpIn_block (wpIn_mono (h a ha) fun e a' w' ⟨ρ', ds', hr, hq⟩ => by
    cases e with
    | exit id' =>
      simp only [Exit.inBlock]
      simp only [blk] at hq
      by_cases hid : id' = id
      · rw [if_pos hid] at hq ⊢; exact ⟨ρ', ds', hr, hq⟩
      · rw [if_neg hid] at hq ⊢; exact ⟨ρ', ds', hr, hq⟩
    | _ => exact ⟨ρ', ds', hr, hq⟩)
/-- a loop: the relation names a state x; each round ends in a state of lesser measure, or leaves -/
theorem Wp.loop {α : Type} {c : Code} (I : α → Env → List Deferred → World → Prop) (μ : α → Nat) (x : α) (h0 : I x ρ ds w)
    (round : ∀ x ρ' ds' w', I x ρ' ds' w' → Wp r P N c ρ' ds' w' (thn (fun ρ'' ds'' w'' => ∃ y, I y ρ'' ds'' w'' ∧ μ y < μ x) Q)) : Wp r P N (.loop c) ρ ds w Q := by
  intro a ha b k cs hro hb hr
  have key : ∀ j x a w ρ ds, μ x = j → Rep N a ρ ds → I x ρ ds w →
      ∃ e a' w', lift N Q e a' w' ∧ ArrivesIn (Machine.fenced P (Fr r)) P (lone (b.atR a (.code c :: .inLoop c :: k)) cs w) b k cs e a' w' := by
    intro j
    induction j using Nat.strongRecOn with
    | _ j ih =>
      intro x a w ρ ds hx ha hI
      obtain ⟨e, a₁, w₁, ⟨ρ₁, ds₁, hr₁, hq⟩, harr⟩ := round x ρ ds w hI a ha b (.inLoop c :: k) cs hro hb hr
      cases e with
      | normal =>
        obtain ⟨y, hI₁, hlt⟩ := hq
        obtain ⟨e₂, a₂, w₂, hq₂, harr₂⟩ := ih (μ y) (hx ▸ hlt) y a₁ w₁ ρ₁ ds₁ rfl hr₁ hI₁
        exact ⟨e₂, a₂, w₂, hq₂, .of_steps (StepsIn.trans harr (.one (fenced_calm hb hr rfl) stepR_inLoop)) harr₂⟩
      | exit id => exact ⟨_, a₁, w₁, ⟨ρ₁, ds₁, hr₁, hq⟩, .pass (x := .inLoop c) rfl (fun _ _ => .inl (by simp)) harr⟩
      | goto l => exact ⟨_, a₁, w₁, ⟨ρ₁, ds₁, hr₁, hq⟩, .pass (x := .inLoop c) rfl (fun _ _ => .inl (by simp)) harr⟩
      | ret => exact ⟨_, a₁, w₁, ⟨ρ₁, ds₁, hr₁, hq⟩, .pass (x := .inLoop c) rfl (fun _ _ => .inl (by simp)) harr⟩
      | panic ch => exact ⟨_, a₁, w₁, ⟨ρ₁, ds₁, hr₁, hq⟩, .pass (x := .inLoop c) rfl (fun _ _ => .inl (by simp)) harr⟩
      | outgrown => exact ⟨_, a₁, w₁, ⟨ρ₁, ds₁, hr₁, hq⟩, .pass (x := .inLoop c) rfl (fun _ _ => .inl (by simp)) harr⟩
  obtain ⟨e, a', w', hq, harr⟩ := key _ x a w ρ ds rfl ha h0
  exact ⟨e, a', w', hq, .of_steps (.one (fenced_calm hb hr rfl) stepR_loop) harr⟩
end control

/-! ### 3. Entering a function -/
def argsEnv : List Value → Nat → Env
  | [], _ => []
  | v :: vs, i => (i, v) :: argsEnv vs (i + 1)
theorem lk_argsEnv (vs : List Value) : ∀ i t v, lk (argsEnv vs i) t = some v → i ≤ t ∧ vs[t - i]? = some v := by
  induction vs with
  | nil => intro i t v h; simp [argsEnv, lk] at h
  | cons u vs ih =>
    intro i t v h
    rw [argsEnv, lk_cons] at h
    by_cases hi : i = t
    · subst hi; simp at h; subst h; simp
    · rw [if_neg hi] at h
      obtain ⟨h1, h2⟩ := ih _ _ _ h
      refine ⟨by omega, ?_⟩
      obtain ⟨k, hk⟩ : ∃ k, t - i = k + 1 := ⟨t - i - 1, by omega⟩
      rw [hk]
      have : t - (i + 1) = k := by omega
      rw [this] at h2
      simpa using h2
/-- what a function hands back, out of an environment -/
def Res (P : Program) (fn : Func) (N : Nat) (ρ : Env) (w : World) (v : Value) : Prop := ∀ a ds, Rep N a ρ ds → (results fn a.tmps).run P w = .ok v w
/-- marks of ranges over functions, whose rounds have deferred nothing, are taken on the way out -/
def Lv : List Deferred → (World → Prop) → World → Prop
  | [], K, w => K w
  | d :: ds, K, w => ∃ b, d.target = .collected b ∧ w.heap[b]? = some (.deferred (some [])) ∧ Lv ds K (w.putObj b (.deferred none))
structure FinR (P : Program) (fn : Func) (N : Nat) (R : Ending → World → Prop) (ρ : Env) (ds : List Deferred) (w : World) : Prop where
  lv : Lv ds (fun w' => ∃ v, Res P fn N ρ w' v ∧ R (.returned v) w') w
structure FinP (R : Ending → World → Prop) (ch : List PanicEntry) (ds : List Deferred) (w : World) : Prop where
  lv : Lv ds (fun w' => R (.panicked ch) w') w
def Fin (P : Program) (fn : Func) (N : Nat) (R : Ending → World → Prop) : Post
  | .normal, ρ, ds, w | .ret, ρ, ds, w => FinR P fn N R ρ ds w
  | .panic ch, _, ds, w => FinP R ch ds w
  | _, _, _, _ => False
theorem lv_leaves {P : Program} {fn : Func} {tmps : Array Value} {R : Ending → World → Prop} {u : FrameMode} (hu : u ≠ .run) {K : World → Prop} (hK : ∀ w, K w → LeavesInM (Fr none) 0 P fn tmps R [] u w) : ∀ (ds : List Deferred) (w : World), Lv ds K w → LeavesInM (Fr none) 0 P fn tmps R ds u w
  | [], w, h => hK w h
  | d :: ds, w, ⟨b, h1, h2, h3⟩ => ⟨hu, .inl ⟨b, _, h1, run_takeDeferred h2, lv_leaves hu hK ds _ h3⟩⟩
/-- a function, from its body: whatever its deferred calls are -/
theorem calls_of_WpM {P : Program} {f : FuncId} {fn : Func} {c : Code} {vs : List Value} {w : World} {R : Ending → World → Prop} {N : Nat} {Q : Post} (hf : P.funcs[f]? = some fn) (h : Wp none P N c (argsEnv vs 0) [] w Q)
    (hQ : ∀ e ρ ds a w', Rep N a ρ ds → Q e ρ ds w' → bodyPostM (Fr none) 0 P fn R e a w') (hb : fn.body = some c := by rfl) (hN : fn.ntmps = N := by rfl) (hn : Nat.ble vs.length N = true := by rfl) : Calls P f vs.toArray w R := by
  subst hN
  have hn := Nat.le_of_ble_eq_true hn
  refine (callsIn_wide (n := 0)).1 (callsIn_of_wp_marks (F := Fr none) hf hb trivial ?_)
  refine wpIn_mono (h _ ⟨by simp; omega, fun t v ht => ?_, rfl⟩) ?_
  · obtain ⟨-, h2⟩ := lk_argsEnv _ _ _ _ ht
    rw [Nat.sub_zero] at h2
    obtain ⟨hlt, hv⟩ := List.getElem?_eq_some_iff.1 h2
    simp [Array.getElem?_append, hlt, hv]
  · intro e a w' ⟨ρ, ds, hr, hq⟩
    exact hQ e ρ ds a w' hr hq
theorem calls_of_Wp {P : Program} {f : FuncId} {fn : Func} {c : Code} {vs : List Value} {w : World} {R : Ending → World → Prop} {N : Nat} (hf : P.funcs[f]? = some fn) (h : Wp none P N c (argsEnv vs 0) [] w (Fin P fn N R)) (hb : fn.body = some c := by rfl) (hN : fn.ntmps = N := by rfl)
    (hn : Nat.ble vs.length N = true := by rfl) : Calls P f vs.toArray w R := by
  refine calls_of_WpM hf h ?_ hb hN hn
  intro e ρ ds a w' hr hq
  have fin : Lv ds (fun w' => ∃ v, Res P fn N ρ w' v ∧ R (.returned v) w') w' → LeavesInM (Fr none) 0 P fn a.tmps R a.defers .returning w' := fun hq => by
    rw [hr.defers]
    exact lv_leaves (by simp) (fun w2 ⟨v, h1, h2⟩ => ⟨v, h1 a ds hr, h2⟩) ds w' hq
  cases e with
  | normal => exact fin hq.lv
  | ret => exact fin hq.lv
  | panic ch =>
    show LeavesInM (Fr none) 0 P fn a.tmps R a.defers (.panicking ch) w'
    rw [hr.defers]
    exact lv_leaves (by simp) (fun w2 h2 => h2) ds w' hq.lv
  | _ => exact hq.elim
theorem Res.none {P : Program} {fn : Func} {N : Nat} {ρ : Env} {w : World} (h : fn.results = #[]) : Res P fn N ρ w (.tuple #[]) := fun a _ _ => results_none h a.tmps P w
theorem Res.one {P : Program} {fn : Func} {N : Nat} {ρ : Env} {w : World} {t : Nat} {v : Value} (h : fn.results = #[.tmp t]) (hv : lk ρ t = some v) : Res P fn N ρ w v := fun a ds ha => by
  rw [results_tmp h, ha.val t v hv]
theorem Res.two {P : Program} {fn : Func} {N : Nat} {ρ : Env} {w : World} {t u : Nat} {v x : Value} (h : fn.results = #[.tmp t, .tmp u]) (hv : lk ρ t = some v) (hx : lk ρ u = some x) : Res P fn N ρ w (.tuple #[v, x]) := fun a ds ha => by
  rw [results_tmp2 h, ha.val t v hv, ha.val u x hx]
theorem Res.three {P : Program} {fn : Func} {N : Nat} {ρ : Env} {w : World} {t u s : Nat} {v x y : Value} (h : fn.results = #[.tmp t, .tmp u, .tmp s]) (hv : lk ρ t = some v) (hx : lk ρ u = some x) (hy : lk ρ s = some y) : Res P fn N ρ w (.tuple #[v, x, y]) := fun a ds ha => by
  have e1 := ha.val t v hv
  have e2 := ha.val u x hx
  have e3 := ha.val s y hy
  simp only [results, h]
  simp at e1 e2 e3
  simp [e1, e2, e3]
theorem Fin.ret {P : Program} {fn : Func} {N : Nat} {R : Ending → World → Prop} {ρ : Env} {w : World} {v : Value} (h : Res P fn N ρ w v) (hR : R (.returned v) w) : FinR P fn N R ρ [] w := ⟨⟨v, h, hR⟩⟩
theorem Fin.retM {P : Program} {fn : Func} {N : Nat} {R : Ending → World → Prop} {ρ : Env} {ds : List Deferred} {w : World} (h : Lv ds (fun w' => ∃ v, Res P fn N ρ w' v ∧ R (.returned v) w') w) : FinR P fn N R ρ ds w := ⟨h⟩
theorem Fin.normal {P : Program} {fn : Func} {N : Nat} {R : Ending → World → Prop} {ρ : Env} {w : World} {v : Value} (h : Res P fn N ρ w v) (hR : R (.returned v) w) : FinR P fn N R ρ [] w := ⟨⟨v, h, hR⟩⟩
end Go.Proofs.YthbehiflmcljcaaDoor.Sh
