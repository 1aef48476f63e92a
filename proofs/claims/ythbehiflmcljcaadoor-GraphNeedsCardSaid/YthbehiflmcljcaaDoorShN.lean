/- A walk over the model's code with a small environment (generic: over any program). Part N: ranges over functions that keep a state of their own; deferred closures that recover. -/
import Derived.Test.YthbehiflmcljcaaDoorShM
import Derived.RecoverIn
import Derived.WalkSmall
set_option linter.unusedVariables false
set_option linter.unusedSimpArgs false
namespace Go.Proofs.YthbehiflmcljcaaDoor.Sh
open Go.RowKit
theorem Wp.label {r : Option Nat} {P : Program} {N : Nat} {ρ : Env} {ds : List Deferred} {w : World} {Q : Post} {l : Nat} (h : Q .normal ρ ds w) : Wp r P N (.label l) ρ ds w Q := fun _ ha => wpIn_label ⟨ρ, ds, ha, h⟩
def nog (Q : Post) : Post
  | .goto _, _, _, _ => False
  | e, ρ, ds, w => Q e ρ ds w
section
variable {P : Program} {b : Frame} {a : Act} {k : List Item} {cs : List Frame} {w : World}
theorem stepR_scope {c : Code} : step P (lone (b.atR a (.code (.scope c) :: k)) cs w) = .next (lone (b.atR a (.code c :: .inScope c :: k)) cs w) :=
  step_lone_go (by simp [stepG, stepG.exec, Frame.atR])
theorem stepR_inScope {c : Code} : step P (lone (b.atR a (.inScope c :: k)) cs w) = .next (lone (b.atR a k) cs w) :=
  step_lone_go (by simp [stepG, stepG.exec, Frame.atR])
end
/-- a piece in which nothing jumps to a label -/
theorem Wp.scope {r : Option Nat} {P : Program} {N : Nat} {ρ : Env} {ds : List Deferred} {w : World} {Q : Post} {c : Code} (h : Wp r P N c ρ ds w (nog Q)) : Wp r P N (.scope c) ρ ds w Q := by
  intro a ha b k cs hro hb hr
  have h0 : (lone (b.atR a (.code (.scope c) :: k)) cs w).fenced P (Fr r) := fenced_calm hb hr rfl
  obtain ⟨e, a₁, w₁, ⟨ρ₁, ds₁, hr₁, hq⟩, harr⟩ := h a ha b (.inScope c :: k) cs hro hb hr
  cases e with
  | normal => exact ⟨.normal, a₁, w₁, ⟨ρ₁, ds₁, hr₁, hq⟩, .head h0 stepR_scope (StepsIn.trans harr (.one (fenced_calm hb hr rfl) stepR_inScope))⟩
  | exit id =>
    exact ⟨.exit id, a₁, w₁, ⟨ρ₁, ds₁, hr₁, hq⟩, fun k' hk => .head h0 stepR_scope (harr.1 k' (by simpa [exitTo] using hk)),
      fun hr' hk => let ⟨k₁, h1, h2⟩ := harr.2 hr' (by simpa [exitTo] using hk); ⟨k₁, h1, .head h0 stepR_scope h2⟩⟩
  | goto l => exact hq.elim
  | ret => exact ⟨_, a₁, w₁, ⟨ρ₁, ds₁, hr₁, hq⟩, .of_steps (.one h0 stepR_scope) harr⟩
  | panic ch => exact ⟨_, a₁, w₁, ⟨ρ₁, ds₁, hr₁, hq⟩, .of_steps (.one h0 stepR_scope) harr⟩
  | outgrown => exact ⟨_, a₁, w₁, ⟨ρ₁, ds₁, hr₁, hq⟩, .of_steps (.one h0 stepR_scope) harr⟩
/-- some of the chunks, in whatever order -/
theorem St.pick {w0 w : World} {M : List Nat} {D : List Chunk} (h : St w0 M w D) (is : List Nat) (hn : is.Nodup := by decide) : St w0 M w (is.filterMap (D[·]?)) := by
  have hm : ∀ C ∈ is.filterMap (D[·]?), C ∈ D := fun C hC => by
    obtain ⟨i, _, hi⟩ := List.mem_filterMap.1 hC
    exact List.mem_of_getElem? hi
  refine ⟨h.chg, fun C hC => h.ok C (hm C hC), fun C hC => h.rng C (hm C hC), ?_⟩
  rw [List.pairwise_filterMap]
  refine List.Pairwise.imp ?_ hn
  intro i j hij C hC E hE b hb hb'
  have hd := List.pairwise_iff_getElem.1 h.dis
  obtain ⟨hi, rfl⟩ := List.getElem?_eq_some_iff.1 hC
  obtain ⟨hj, rfl⟩ := List.getElem?_eq_some_iff.1 hE
  rcases Nat.lt_or_ge i j with h1 | h1
  · exact hd i j hi hj h1 b hb hb'
  · exact hd j i hj hi (by omega) b hb' hb
/-- one chunk alone, to be written -/
theorem St.own {w : World} {C : Chunk} {M : List Nat} (h : C.ok w) (hb : ∀ b ∈ C.bs, b ∈ M ∧ b < w.heap.size) : St w M w [C] :=
  ⟨.refl _ _, by simpa using h, by simpa using fun b hm => ⟨.inl (hb b hm).1, (hb b hm).2⟩, .cons (by simp) .nil⟩
/-! ### 1. iterators with a state of their own -/
/-- a function gf, with what it has captured, tells the values xs, one after another; O k is its own state when k have been told -/
def TellsO (P : Program) (gf : FuncId) (lb : List Value) {α : Type} (encs : α → List Value) (xs : List α) (O : Nat → Chunk) (F : World → Prop) : Prop :=
  ∀ (l : Nat) (J : Nat → Nat → World → Prop) (Jx : Nat → World → Prop) (W : World), (∀ k j W W', Keep W W' → J k j W → J k j W') → (∀ k W W', Keep W W' → Jx k W → Jx k W') →
    (∀ k j W, J k j W → F W) → (∀ k j W, J k j W → (O j).ok W ∧ (∀ b ∈ (O j).bs, b < W.heap.size) ∧ ∀ j' W', Chg (O j).bs W W' → (O j').ok W' → J k j' W') →
    (∀ k x W1, xs[k]? = some x → J k k W1 → YieldTo P l (encs x).toArray W1 fun e W' => (e = .returned (.bool true) ∧ J (k + 1) k W') ∨ (e = .returned (.bool false) ∧ Jx k W')) →
    J 0 0 W → Calls P gf ((Value.func (.yield l) #[] #[]) :: lb).toArray W fun e W' => (∃ v, e = .returned v) ∧ (J xs.length xs.length W' ∨ ∃ k, Jx k W')
section
variable {P : Program} {N : Nat} {ρ : Env} {ds : List Deferred} {w w0 : World} {M : List Nat} {D : List Chunk} {Q : Post} {α : Type}
/-- a range over a function that tells xs and keeps a state O of its own; not inside of another one's round -/
theorem Wp.rangesO {g : Operand} {ps : Array Tmp} {assign body : Code} {gf : FuncId} {fn : Func} {lb : List Value} {encs : α → List Value} {xs : List α} {O : Nat → Chunk} {F : World → Prop} (hst : St w0 M w (O 0 :: D)) (ht : TellsO P gf lb encs xs O F) (hO : ∀ j k, (O j).bs = (O k).bs) (I : Nat → List Chunk → Prop) (X : Code → List Chunk → Prop)
    (hF : ∀ k j D' W, I k D' → St w0 M W (O j :: D') → F W) (h0 : I 0 D)
    (hround : ∀ k x l kb busy D' W, xs[k]? = some x → I k D' → St w0 M W (O k :: D') →
      Wp (some l) P N assign (putAll ps.toList (encs x) ρ) [] W (onOn fun ρ' W' => Keep W W' ∧ ∀ W2, (St w0 M W2 (Ch.obj l busy :: Ch.obj kb (.deferred (some [])) :: O k :: D')) → Wp (some l) P N body ρ' [] W2 (roundEnd w0 M l kb busy (.deferred (some [])) (fun D2 => ∃ D3, D2 = O k :: D3 ∧ I (k + 1) D3) X)))
    (hdone : ∀ kb D' W, I xs.length D' → St w0 M W (Ch.obj kb (.deferred (some [])) :: O xs.length :: D') → Q .normal ρ ({ target := .collected kb, args := #[] } :: ds) W)
    (hstop : ∀ kb c D' W, X c D' → St w0 M W (Ch.obj kb (.deferred (some [])) :: D') → Wp none P N c ρ ({ target := .collected kb, args := #[] } :: ds) W Q)
    (hg : ev ρ g = some (.func (.func gf) #[] lb.toArray) := by rfl) (hf : P.funcs[gf]? = some fn) (hb : fn.body.isSome = true := by rfl) (hn : (fn.name == "runtime.NumGoroutine") = false := by kernel_rfl)
    (hps : ps.toList.all (fun p => Nat.blt p N) = true := by rfl) (hsz : ∀ x, (encs x).length = ps.size := by exact fun _ => rfl) : Wp none P N (.rangeFunc g ps assign body) ρ ds w Q := by
  intro a ha
  refine wpIn_rangeFunc ?_
  intro f0 hf0
  obtain ⟨rec, hrec⟩ : ∃ rec : LoopState → Option Code → Obj, rec = fun st p => recAt (w.heap.size + 1) f0 a.tmps ps assign body w.heap.size st p := ⟨_, rfl⟩
  have hs1 : St w0 M (w.alloc (.deferred (some []))) (Ch.obj w.heap.size (.deferred (some [])) :: O 0 :: D) := hst.allocObj _
  have hs2 := hs1.allocObj (rec .ready none)
  rw [World.size_alloc] at hs2
  have hl2 := hs2.at_ 0
  obtain ⟨W1, hW1⟩ : ∃ W1, W1 = (w.alloc (.deferred (some []))).alloc (rec .ready none) := ⟨_, rfl⟩
  rw [← hW1] at hs2 hl2
  refine ⟨w.heap.size + 1, [{ target := .collected w.heap.size, args := #[] }], W1, { target := .fn (.func gf) lb.toArray, args := #[.func (.yield (w.heap.size + 1)) #[] #[]] }, W1, gf,
    #[.func (.yield (w.heap.size + 1)) #[] #[]] ++ lb.toArray, W1, ?_, ?_, ?_, ?_, fun hc => by simp [Fence.wide] at hc, ?_⟩
  · rw [hW1, hrec]; exact run_enterLoop_outer _ _ _ _ _
  · simp only [resolve, ha.ev hg]
    simp [go_sem]
  · intro f' hf'; exact trivial
  · simp [invoke, go_sem, enters_name hf hb hn]
  · refine (callsIn_wide (n := 0 - 1)).2 ?_
    have harr : #[Value.func (.yield (w.heap.size + 1)) #[] #[]] ++ lb.toArray = ((Value.func (.yield (w.heap.size + 1)) #[] #[]) :: lb).toArray := by simp
    rw [harr]
    refine Calls.mono (ht (w.heap.size + 1)
      (fun k j W => ∃ D', I k D' ∧ St w0 M W (O j :: Ch.obj (w.heap.size + 1) (rec .ready none) :: Ch.obj w.heap.size (.deferred (some [])) :: D'))
      (fun k W => ∃ c D', X c D' ∧ St w0 M W (Ch.obj (w.heap.size + 1) (rec .done (some c)) :: Ch.obj w.heap.size (.deferred (some [])) :: D'))
      _ ?_ ?_ ?_ ?_ ?_ ⟨D, h0, by rw [hrec] at hs2 ⊢; exact hs2.perm ((List.Perm.swap _ _ _).cons _ |>.trans (.swap _ _ _))⟩) ?_
    · rintro k j W W' hk ⟨D', hi, h⟩; exact ⟨D', hi, h.quiet hk⟩
    · rintro k W W' hk ⟨c, D', hi, h⟩; exact ⟨c, D', hi, h.quiet hk⟩
    · rintro k j W ⟨D', hi, h⟩; exact hF k j D' W hi (h.perm (((List.Perm.swap _ _ _).trans ((List.Perm.swap _ _ _).cons _)))).drop.drop
    · rintro k j W ⟨D', hi, h⟩
      refine ⟨h.at_ 0, fun b hb => (h.rng _ (List.mem_cons_self ..) b hb).2, fun j' W' hc hok => ⟨D', hi, h.upd hc hok ?_⟩⟩
      intro b hb
      rw [hO j' j] at hb
      exact ⟨.inl hb, Nat.lt_of_lt_of_le (h.rng _ (List.mem_cons_self ..) b hb).2 hc.size⟩
    · rintro k x W hx ⟨D', hi, h⟩
      have hl : W.heap[w.heap.size + 1]? = some (rec .ready none) := h.at_ 1
      rw [hrec] at hl
      have hy := run_yield (P := P) (args := (encs x).toArray) hl (by simpa using hsz x)
      refine ⟨_, _, _, _, hy, roundIn_of_wpIn trivial ?_⟩
      clear hy
      have hr0 : Rep N { tmps := (ps.zip (encs x).toArray).foldl (fun t (p, v) => t.setIfInBounds p v) a.tmps, defers := [] } (putAll ps.toList (encs x) ρ) [] := by
        have := Rep.putAll (ds := []) ps.toList (encs x) ρ { a with defers := [] } ⟨ha.size, ha.val, rfl⟩ hps
        have e : (ps.zip (encs x).toArray).foldl (fun t (p, v) => t.setIfInBounds p v) a.tmps = (ps.toList.zip (encs x)).foldl (fun t (p, v) => t.setIfInBounds p v) a.tmps := by
          rw [← Array.foldl_toList, Array.toList_zip]
        rw [e]
        exact this
      have hp : St w0 M W (Ch.obj (w.heap.size + 1) (rec .ready none) :: Ch.obj w.heap.size (.deferred (some [])) :: O k :: D') := h.perm ((List.Perm.swap _ _ _).trans ((List.Perm.swap _ _ _).cons _))
      have hro := hround k x (w.heap.size + 1) w.heap.size (rec .busy none) D' W hx hi hp.drop.drop _ hr0
      refine wpIn_mono hro ?_
      rintro e a' W' ⟨ρ', ds', hr', hq⟩
      cases e with
      | normal =>
        obtain ⟨hds, hk, hbody⟩ := hq
        subst hds
        have h' := hp.quiet hk
        have hl' : W'.heap[w.heap.size + 1]? = some (rec .ready none) := h'.at_ 0
        rw [hrec] at hl'
        refine ⟨_, run_beginRound hl' rfl, ?_⟩
        have h2 := h'.putObj (rec .busy none)
        have hb2 : Wp (some (w.heap.size + 1)) P N body ρ' [] (W'.putObj (w.heap.size + 1) (rec .busy none)) _ := hbody _ h2
        rw [hrec] at hb2
        refine wpIn_mono (hb2 a' hr') ?_
        rintro e3 a3 W3 ⟨ρ3, ds3, hr3, hq3⟩
        have fin : ∀ (jump : Option Code) (D3 : List Chunk), St w0 M W3 (Ch.obj (w.heap.size + 1) (recAt (w.heap.size + 1) f0 a.tmps ps assign body w.heap.size .busy none) :: Ch.obj w.heap.size (.deferred (some [])) :: D3) →
            (Instr.endRound (w.heap.size + 1) jump).run P W3 = .ok (.bool jump.isNone) (W3.putObj (w.heap.size + 1) (recAt (w.heap.size + 1) f0 a.tmps ps assign body w.heap.size (if jump.isNone then .ready else .done) jump)) ∧
            St w0 M (W3.putObj (w.heap.size + 1) (recAt (w.heap.size + 1) f0 a.tmps ps assign body w.heap.size (if jump.isNone then .ready else .done) jump)) (Ch.obj (w.heap.size + 1) (recAt (w.heap.size + 1) f0 a.tmps ps assign body w.heap.size (if jump.isNone then .ready else .done) jump) :: Ch.obj w.heap.size (.deferred (some [])) :: D3) := fun jump D3 h3 =>
          ⟨run_endRound (P := P) jump (h3.at_ 0), h3.putObj _⟩
        rw [hrec]
        cases e3 with
        | normal =>
          obtain ⟨D2, ⟨D3, rfl, hi3⟩, h3⟩ := hq3
          obtain ⟨q1, q2⟩ := fin none _ h3
          exact ⟨_, _, q1, .inl ⟨rfl, D3, hi3, q2.perm (((List.Perm.swap _ _ _).cons _).trans (.swap _ _ _))⟩⟩
        | ret =>
          obtain ⟨D3, hi3, h3⟩ := hq3
          obtain ⟨q1, q2⟩ := fin (some .ret) D3 h3
          exact ⟨_, _, q1, .inr ⟨rfl, _, D3, hi3, q2⟩⟩
        | exit id =>
          obtain ⟨D3, hi3, h3⟩ := hq3
          obtain ⟨q1, q2⟩ := fin (some (.exit id)) D3 h3
          exact ⟨_, _, q1, .inr ⟨rfl, _, D3, hi3, q2⟩⟩
        | goto id =>
          obtain ⟨D3, hi3, h3⟩ := hq3
          obtain ⟨q1, q2⟩ := fin (some (.goto id)) D3 h3
          exact ⟨_, _, q1, .inr ⟨rfl, _, D3, hi3, q2⟩⟩
        | panic ch => exact hq3.elim
        | outgrown => exact hq3.elim
      | _ => exact hq.elim
    · rintro e W2 ⟨⟨v, rfl⟩, (⟨D', hi, h⟩ | ⟨k, c, D', hi, h⟩)⟩
      · have hp : St w0 M W2 (Ch.obj (w.heap.size + 1) (rec .ready none) :: Ch.obj w.heap.size (.deferred (some [])) :: O xs.length :: D') := h.perm ((List.Perm.swap _ _ _).trans ((List.Perm.swap _ _ _).cons _))
        have hl : W2.heap[w.heap.size + 1]? = some (rec .ready none) := hp.at_ 0
        rw [hrec] at hl
        refine ⟨none, _, run_endLoop hl (by simp), ?_⟩
        have h2 := (hp.putObj (o' := .loop { state := .exhausted, pending := none, fn := f0, tmps := a.tmps, params := ps, assign, body, defers := w.heap.size })).drop
        exact ⟨ρ, _, ⟨ha.size, ha.val, by simp [ha.defers]⟩, hdone _ D' _ hi h2⟩
      · have hl : W2.heap[w.heap.size + 1]? = some (rec .done (some c)) := h.at_ 0
        rw [hrec] at hl
        refine ⟨some c, _, run_endLoop hl (by simp), ?_⟩
        have h2 := (h.putObj (o' := .loop { state := .exhausted, pending := some c, fn := f0, tmps := a.tmps, params := ps, assign, body, defers := w.heap.size })).drop
        exact hstop _ c D' _ hi h2 _ ⟨ha.size, ha.val, by simp [ha.defers]⟩
end
/-! ### calls that change what is handed in -/
/-- f, called at vs, hands back v and turns the chunks A into D' -/
def Cu (P : Program) (f : FuncId) (vs : List Value) (v : Value) (A D' : List Chunk) (w : World) : Prop := Calls P f vs.toArray w fun e w' => e = .returned v ∧ St w (A.flatMap (·.bs)) w' D'
theorem Ef.cu {r : Option Nat} {P : Program} {N : Nat} {ρ : Env} {ds : List Deferred} {w w0 : World} {M : List Nat} {A D D' : List Chunk} {Q : Post} {dst : Option Nat} {K : Env → World → Prop} {f : FuncId} {x : Operand} {args : Array Operand} {ts : Array TypeId} {caps : List Value} {us : List Value} {v : Value}
    (h : Cu P f (us ++ caps) v A D' w) (hs : St w0 M w (A ++ D)) (hf : FnOk P f) (k : ∀ w', St w0 M w' (D' ++ D) → K (putE ρ dst v) w') :
    Ef r P N dst (.call { callee := .value x, args := args, argTypes := ts }) (.func (.func f) #[] caps.toArray :: us) ρ ds w K Q := by
  obtain ⟨fn, hf, hb, hn⟩ := hf
  refine Ef.callv hf ?_ hb hn
  have h' := h
  unfold Cu at h'
  simp only [← List.append_toArray] at h'
  refine Calls.mono h' ?_
  rintro e w' ⟨rfl, hk'⟩
  exact k w' (hs.call hk')
/-- f, called at vs, hands back something of which R says what it is, and chunks -/
def Cx (P : Program) (f : FuncId) (vs : List Value) (A : List Chunk) (R : Value → List Chunk → Prop) (w : World) : Prop := Calls P f vs.toArray w fun e w' => ∃ v D', e = .returned v ∧ R v D' ∧ St w (A.flatMap (·.bs)) w' D'
theorem Ef.cx {r : Option Nat} {P : Program} {N : Nat} {ρ : Env} {ds : List Deferred} {w w0 : World} {M : List Nat} {A D : List Chunk} {R : Value → List Chunk → Prop} {Q : Post} {dst : Option Nat} {K : Env → World → Prop} {f : FuncId} {x : Operand} {args : Array Operand} {ts : Array TypeId} {caps : List Value} {us : List Value}
    (h : Cx P f (us ++ caps) A R w) (hs : St w0 M w (A ++ D)) (hf : FnOk P f) (k : ∀ v D' w', R v D' → St w0 M w' (D' ++ D) → K (putE ρ dst v) w') :
    Ef r P N dst (.call { callee := .value x, args := args, argTypes := ts }) (.func (.func f) #[] caps.toArray :: us) ρ ds w K Q := by
  obtain ⟨fn, hf, hb, hn⟩ := hf
  refine Ef.callv hf ?_ hb hn
  have h' := h
  unfold Cx at h'
  simp only [← List.append_toArray] at h'
  refine Calls.mono h' ?_
  rintro e w' ⟨v, D', rfl, hR, hk'⟩
  exact k v D' w' hR (hs.call hk')
/-! ### 2. deferred closures that recover -/
/-- wp of a piece of a deferred call's body: the mode of the frame below is a part of the state -/
def postU (N : Nat) (c₀ : Frame) (cs : List Frame) (Q : FrameMode → Post) : Exit → Act → List Frame → World → Prop := fun e a cs' w => ∃ u', cs' = { c₀ with mode := u' } :: cs ∧ lift N (Q u') e a w
def WpU (P : Program) (N : Nat) (u : FrameMode) (c : Code) (ρ : Env) (ds : List Deferred) (w : World) (Q : FrameMode → Post) : Prop :=
  ∀ (c₀ : Frame) (cs : List Frame), c₀.mode = u → ∀ a, Rep N a ρ ds → c.wpSIn (Fr none) 0 P (postU N c₀ cs Q) a (c₀ :: cs) w
section
variable {P : Program} {N : Nat} {ρ : Env} {ds : List Deferred} {w : World} {u : FrameMode} {Q : FrameMode → Post}
theorem WpU.plain {c : Code} (h : Wp none P N c ρ ds w (Q u)) : WpU P N u c ρ ds w Q := fun c₀ cs hc a ha =>
  wpSIn_of_wpIn rfl (wpIn_mono (h a ha) fun e a' w' hl => ⟨u, by subst hc; rfl, hl⟩)
theorem wpSIn_mono {F : Fence} {n : Nat} {c : Code} {Q Q' : Exit → Act → List Frame → World → Prop} {a : Act} {cs : List Frame} {w : World} (h : c.wpSIn F n P Q a cs w) (hq : ∀ e a' cs' w', Q e a' cs' w' → Q' e a' cs' w') : c.wpSIn F n P Q' a cs w :=
  fun b k h1 h2 h3 h4 => let ⟨e, a', cs', w', l, q, r⟩ := h b k h1 h2 h3 h4; ⟨e, a', cs', w', l, hq _ _ _ _ q, r⟩
theorem WpU.seq {x y : Code} (h : WpU P N u x ρ ds w (fun u' => thn (fun ρ' ds' w' => WpU P N u' y ρ' ds' w' Q) (Q u'))) : WpU P N u (.seq x y) ρ ds w Q := fun c₀ cs hc a ha => by
  refine wpSIn_seq (wpSIn_mono (h c₀ cs hc a ha) ?_)
  rintro e a' cs' w' ⟨u', rfl, ρ', ds', hr, hq⟩
  cases e with
  | normal =>
    show Code.wpSIn _ _ _ _ _ _ _ _
    exact wpSIn_mono (hq { c₀ with mode := u' } cs rfl a' hr) fun e a2 cs2 w2 ⟨u2, h1, h2⟩ => ⟨u2, h1, h2⟩
  | _ => exact ⟨u', rfl, ρ', ds', hr, hq⟩
/-- what recover gives, and the mode behind it -/
def recd : FrameMode → Option (Value × FrameMode)
  | .panicking ({ v, recovered := false, goexit := false } :: older) => some (v, .panicking ({ v, recovered := true } :: older))
  | _ => none
theorem recoverD_some {c₀ : Frame} {cs : List Frame} {v : Value} {u' : FrameMode} (h : recd c₀.mode = some (v, u')) : recoverD (c₀ :: cs) = some (v, { c₀ with mode := u' } :: cs) := by
  unfold recd at h
  simp only [recoverD]
  split at h
  · rename_i hm
    rw [hm]
    simp only [Option.some.injEq, Prod.mk.injEq] at h
    obtain ⟨rfl, rfl⟩ := h
    rfl
  · cases h
theorem recoverD_none {c₀ : Frame} {cs : List Frame} (h : recd c₀.mode = none) : recoverD (c₀ :: cs) = none := by
  unfold recd at h
  simp only [recoverD]
  split at h
  · cases h
  · rename_i hn
    split
    · rename_i v' older hm
      exact absurd hm (hn _ _)
    · rfl
/-- a deferred call's contract, from its body -/
def FinU (P : Program) (fn : Func) (N : Nat) (R : Ending → FrameMode → World → Prop) (u' : FrameMode) : Post := fun e ρ ds w => ds = [] ∧ Fin P fn N (fun e w' => R e u' w') e ρ ds w
theorem callsD_of_WpU {f : FuncId} {fn : Func} {c : Code} {vs : List Value} {R : Ending → FrameMode → World → Prop} {N : Nat} (hf : P.funcs[f]? = some fn)
    (h : WpU P N u c (argsEnv vs 0) [] w (FinU P fn N R))
    (hb : fn.body = some c := by rfl) (hN : fn.ntmps = N := by rfl) (hn : Nat.ble vs.length N = true := by rfl) : CallsDIn (Fr none) 0 P f vs.toArray u w R := by
  subst hN
  have hn := Nat.le_of_ble_eq_true hn
  refine callsDIn_of_wpSIn hf hb trivial fun c₀ cs hc => ?_
  refine wpSIn_mono (h c₀ cs hc _ ⟨by simp; omega, fun t v ht => ?_, rfl⟩) ?_
  · obtain ⟨-, h2⟩ := lk_argsEnv _ _ _ _ ht
    rw [Nat.sub_zero] at h2
    obtain ⟨hlt, hv⟩ := List.getElem?_eq_some_iff.1 h2
    simp [Array.getElem?_append, hlt, hv]
  · rintro e a cs' w' ⟨u', rfl, ρ, ds, hr, rfl, hq⟩
    cases e with
    | normal =>
      obtain ⟨v, h1, h2⟩ := hq.lv
      exact ⟨hr.defers, u', rfl, v, h1 a [] hr, h2⟩
    | ret =>
      obtain ⟨v, h1, h2⟩ := hq.lv
      exact ⟨hr.defers, u', rfl, v, h1 a [] hr, h2⟩
    | panic ch => exact ⟨hr.defers, u', rfl, hq.lv⟩
    | _ => exact hq.elim
/-- how a frame leaves, its deferred calls one by one -/
def LvU (P : Program) (fn : Func) (N : Nat) (R : Ending → World → Prop) (ρ : Env) (ds : List Deferred) (u : FrameMode) (w : World) : Prop := ∀ a ds', Rep N a ρ ds' → LeavesInM (Fr none) 0 P fn a.tmps R ds u w
theorem LvU.nilR {fn : Func} {R : Ending → World → Prop} {v : Value} (h : Res P fn N ρ w v) (k : R (.returned v) w) : LvU P fn N R ρ [] .returning w := fun a ds' ha => ⟨v, h a ds' ha, k⟩
theorem LvU.nilP {fn : Func} {R : Ending → World → Prop} {ch : List PanicEntry} (k : R (.panicked ch) w) : LvU P fn N R ρ [] (.panicking ch) w := fun a ds' ha => k
theorem LvU.fn {fn gfn : Func} {R : Ending → World → Prop} {g : FuncId} {caps : List Value} (hg : P.funcs[g]? = some gfn) (hu : u ≠ .run)
    (h : CallsDIn (Fr none) 0 P g caps.toArray u w fun
      | .returned _, u', w' => LvU P fn N R ρ ds (settle u') w'
      | .panicked chain, u', w' => LvU P fn N R ρ ds (raised u' chain) w'
      | .outgrown, _, _ => False)
    (hb : gfn.body.isSome = true := by rfl) (hn : (gfn.name == "runtime.NumGoroutine") = false := by kernel_rfl) : LvU P fn N R ρ ({ target := .fn (.func g) caps.toArray, args := #[] } :: ds) u w := fun a ds' ha => by
  refine ⟨hu, .inr ⟨fun hc => by simp [Fence.wide] at hc, .func g, caps.toArray, g, caps.toArray, rfl, ?_, fun _ _ => trivial, ?_⟩⟩
  · simp [invoke, go_sem, enters_name hg hb hn]
  · refine CallsDIn.mono h fun e u' w' he => ?_
    cases e with
    | returned v => exact he a ds' ha
    | panicked ch => exact he a ds' ha
    | outgrown => exact he.elim
def FinD (P : Program) (fn : Func) (N : Nat) (R : Ending → World → Prop) : Post
  | .normal, ρ, ds, w | .ret, ρ, ds, w => LvU P fn N R ρ ds .returning w
  | .panic ch, ρ, ds, w => LvU P fn N R ρ ds (.panicking ch) w
  | _, _, _, _ => False
theorem calls_of_WpD {f : FuncId} {fn : Func} {c : Code} {vs : List Value} {R : Ending → World → Prop} (hf : P.funcs[f]? = some fn) (h : Wp none P N c (argsEnv vs 0) [] w (FinD P fn N R)) (hb : fn.body = some c := by rfl) (hN : fn.ntmps = N := by rfl)
    (hn : Nat.ble vs.length N = true := by rfl) : Calls P f vs.toArray w R := by
  refine calls_of_WpM hf h ?_ hb hN hn
  intro e ρ ds a w' hr hq
  cases e with
  | normal => show LeavesInM _ _ _ _ _ _ a.defers _ _; rw [hr.defers]; exact hq a ds hr
  | ret => show LeavesInM _ _ _ _ _ _ a.defers _ _; rw [hr.defers]; exact hq a ds hr
  | panic ch => show LeavesInM _ _ _ _ _ _ a.defers _ _; rw [hr.defers]; exact hq a ds hr
  | _ => exact hq.elim
end
/-! ### values of functions that bear their first arguments -/
theorem Ef.callb {r : Option Nat} {P : Program} {N : Nat} {ρ : Env} {ds : List Deferred} {w : World} {Q : Post} {dst : Option Nat} {K : Env → World → Prop} {f : FuncId} {fn : Func} {x : Operand} {args : Array Operand} {ts : Array TypeId} {first caps : Array Value} {us : List Value} (hf : P.funcs[f]? = some fn)
    (hc : Calls P f (first ++ us.toArray ++ caps) w (afterCall ρ ds dst K Q)) (hb : fn.body.isSome = true := by rfl) (hn : (fn.name == "runtime.NumGoroutine") = false := by kernel_rfl) :
    Ef r P N dst (.call { callee := .value x, args := args, argTypes := ts }) (.func (.func f) first caps :: us) ρ ds w K Q := by
  refine Ef.of_enter (by simp) (fun o e ho hv => ?_) hc
  simp only [Op.operands, Call.operands, Array.toList_append, List.map_append, List.singleton_append, List.map_cons, List.map_nil, List.cons.injEq] at hv
  obtain ⟨h1, h2⟩ := hv
  have h3 : args.map e = us.toArray := by
    apply Array.ext'
    simpa using h2
  simp only [execOp, ho, resolve, h1, Sem.run_bind]
  simp [Deferred.ofValue, invoke, h3, enters_name hf hb hn, go_sem]
/-! ### orders that are drawn: one of three may come up; a reading that is taken when it comes up -/
theorem Ef.rd {r : Option Nat} {P : Program} {N : Nat} {ρ : Env} {ds : List Deferred} {w : World} {Q : Post} {dst : Option Nat} {K : Env → World → Prop} {op : Op} {vs : List Value} {v : Value} (hy : Yv P w op vs v) (k : K (putE ρ dst v) w) : Ef r P N dst op vs ρ ds w K Q :=
  Ef.of_run hy.1 (fun o e ho hv => hy.2 o e ho hv w (fun _ => Keep.refl w)) k
section
variable {r : Option Nat} {P : Program} {N : Nat} {ops : Array Oper} {ρ : Env} {ds : List Deferred} {w : World} {Q : Post} {tail : List Nat} {listed : Array Bool}
theorem WD.acts (is : List Nat) (hl : Region.ready .any ops listed = is) (hne : is ≠ [])
    (h : ∀ i ∈ is, ∃ dst op vs, cop N ops ρ i = some (dst, op, vs) ∧ Ef r P N dst op vs ρ ds w (fun ρ' w' => (i ∉ tail → Keep w w') ∧ WD r P N ops tail (listed.setIfInBounds i true) ρ' ds w' Q) Q) : WD r P N ops tail listed ρ ds w Q := by
  intro a ha
  obtain ⟨i0, is0, his⟩ := List.exists_cons_of_ne_nil hne
  have hr0 : i0 ∈ Region.ready .any ops listed := by rw [hl, his]; simp
  have h0 := still_set (ready_un hr0)
  rw [h0]
  refine ⟨fun h => absurd (hl.symm.trans h) hne, fun k hk => ?_⟩
  have hrk := hk
  rw [hl] at hk
  obtain ⟨dst, op, vs, hc, he⟩ := h k hk
  have hs : still (listed.setIfInBounds i0 true) = still (listed.setIfInBounds k true) := by
    have h1 := still_set (ready_un hrk)
    omega
  obtain ⟨o, ho, hg, hd, rfl, hN, hv⟩ := cop_spec hc
  unfold wpOpIn
  simp only [ho]
  rw [wanted_of_gd ha hg]
  simp only [if_true]
  refine Oper.wpIn_mono ?_ (he hN o a rfl hd ha (evs_spec ha hv))
  rintro a' w' ⟨ρ', hr, hk⟩
  refine ⟨hk.1, ?_⟩
  rw [hs]
  exact hk.2 a' hr
theorem WD.act3 (i j k : Nat) {di dj dk : Option Nat} {oi oj ok : Op} {vi vj vk : List Value} (hci : cop N ops ρ i = some (di, oi, vi) := by rfl) (hcj : cop N ops ρ j = some (dj, oj, vj) := by rfl) (hck : cop N ops ρ k = some (dk, ok, vk) := by rfl)
    (hi : Ef r P N di oi vi ρ ds w (fun ρ' w' => (i ∉ tail → Keep w w') ∧ WD r P N ops tail (listed.setIfInBounds i true) ρ' ds w' Q) Q) (hj : Ef r P N dj oj vj ρ ds w (fun ρ' w' => (j ∉ tail → Keep w w') ∧ WD r P N ops tail (listed.setIfInBounds j true) ρ' ds w' Q) Q)
    (hk : Ef r P N dk ok vk ρ ds w (fun ρ' w' => (k ∉ tail → Keep w w') ∧ WD r P N ops tail (listed.setIfInBounds k true) ρ' ds w' Q) Q) (hl : Region.ready .any ops listed = [i, j, k] := by kernel_rfl) : WD r P N ops tail listed ρ ds w Q :=
  WD.acts [i, j, k] hl (by simp) (by
    intro x hx
    simp only [List.mem_cons, List.not_mem_nil, or_false] at hx
    rcases hx with rfl | rfl | rfl
    · exact ⟨_, _, _, hci, hi⟩
    · exact ⟨_, _, _, hcj, hj⟩
    · exact ⟨_, _, _, hck, hk⟩)
end
/-! ### panics, deferring, recovering -/
theorem Ef.pan {r : Option Nat} {P : Program} {N : Nat} {ρ : Env} {ds : List Deferred} {w : World} {Q : Post} {dst : Option Nat} {K : Env → World → Prop} {x : Operand} {t : TypeId} {v : Value} (k : Q (.panic [{ v := .iface t v, recovered := false }]) ρ ds w) : Ef r P N dst (.panic x) [.iface t v] ρ ds w K Q :=
  Ef.of_panic (by simp) (fun o e ho hv => by
    have hx : e x = .iface t v := by simpa [Op.operands] using hv
    simp [execOp, ho, hx, run_panic_iface]) k
def noIf (P : Program) (t : TypeId) : Bool := match P.underlying t with
  | some (.interface _) => false
  | some _ => true
  | none => false
/-- an interface's value is asserted to be of the type that it is of -/
theorem Yv.ta_t {P : Program} {w : World} {x : Operand} {xt t : TypeId} {v : Value} (h : noIf P t = true := by kernel_rfl) : Yv P w (.typeAssert x xt t true) [.iface t v] (.tuple #[v, .bool true]) :=
  Yv.mk1 (x := x) (by simp) rfl fun o e w' hop hx _ => by
    unfold noIf at h
    cases hu : P.underlying t with
    | none => rw [hu] at h; cases h
    | some d =>
      rw [hu] at h
      cases d <;> first | exact absurd h Bool.false_ne_true | simp [execOp, hop, hx, Instr.typeAssert, run_underlying hu]
theorem Yv.ifn_ne {P : Program} {w : World} {t u tt : TypeId} {x : Operand} {c : Value} {v : Value} (hc : c = .nilIface := by rfl) (hu : ifB P t = true := by kernel_rfl) : Yv P w (.binOp .neq t x (.const c) u) [.iface tt v, .nilIface] (.bool true) :=
  Yv.mk2 (x := x) (y := .const c) (by simp) rfl fun o e w' hop hx hy _ => by
    have heq : (Op.equal t (.iface tt v) .nilIface).run P w' = .ok false w' := eqnil_f hu 9999 w'
    simp [execOp, hop, hx, hy, binOp, eqGuard, heq]
theorem Yv.ifn_nn {P : Program} {w : World} {t u : TypeId} {x : Operand} {c : Value} (hc : c = .nilIface := by rfl) (hu : ifB P t = true := by kernel_rfl) : Yv P w (.binOp .neq t x (.const c) u) [.nilIface, .nilIface] (.bool false) :=
  Yv.mk2 (x := x) (y := .const c) (by simp) rfl fun o e w' hop hx hy _ => by
    have heq : (Op.equal t .nilIface .nilIface).run P w' = .ok true w' := eqnil_t hu 9999 w'
    simp [execOp, hop, hx, hy, binOp, eqGuard, heq]
theorem WO.defer {P : Program} {N : Nat} {ops : Array Oper} {ρ : Env} {ds : List Deferred} {w : World} {Q : Post} {i : Nat} {l : List Nat} {dst : Option Nat} {x : Operand} {f : FuncId} {caps : Array Value} (k : WO none P N ops l (putE ρ dst undef) ({ target := .fn (.func f) caps, args := #[] } :: ds) w Q)
    (hc : cop N ops ρ i = some (dst, .defer { callee := .value x, args := #[], argTypes := #[] }, [.func (.func f) #[] caps]) := by rfl) : WO none P N ops (i :: l) ρ ds w Q := by
  intro a ha
  obtain ⟨o, ho, hg, hd, hop, hN, hv⟩ := cop_spec hc
  have hv := evs_spec ha hv
  simp only [wpOpsIn, ho]
  rw [wanted_of_gd ha hg]
  simp only [if_true]
  have hx : a.eval x = .func (.func f) #[] caps := by simpa [Op.operands, Call.operands] using hv
  have hrun : (o.semAt (Fr none).round a.eval).run P w = .ok (.defer { target := .fn (.func f) caps, args := #[] }) w := by
    have : o.semAt (Fr none).round a.eval = execOp a.eval o := Oper.semAt_none a.eval o
    rw [this]
    simp only [execOp, hop, resolve, hx, Sem.run_bind]
    simp [Deferred.ofValue, go_sem]
  refine ⟨fun f hf => trivial, ?_⟩
  rw [hrun]
  simp only [Oper.uponIn, hd]
  refine k _ ?_
  have h2 := ha.putE hN undef
  refine ⟨?_, ?_, ?_⟩
  · have := h2.size
    cases dst <;> simpa [Act.put] using this
  · intro t v ht
    have := h2.val t v ht
    cases dst <;> simpa [Act.put] using this
  · have := ha.defers
    cases dst <;> simp [Act.put, this]
/-- a region in a deferred call's body -/
def WSO (P : Program) (N : Nat) (ops : Array Oper) (u : FrameMode) (l : List Nat) (ρ : Env) (ds : List Deferred) (w : World) (Q : FrameMode → Post) : Prop :=
  ∀ (c₀ : Frame) (cs : List Frame), c₀.mode = u → ∀ a, Rep N a ρ ds → wpOpsSIn (Fr none) 0 P ops (postU N c₀ cs Q) l a (c₀ :: cs) w
section
variable {P : Program} {N : Nat} {ops : Array Oper} {ρ : Env} {ds : List Deferred} {w : World} {u u' : FrameMode} {Q : FrameMode → Post} {i id : Nat} {l : List Nat} {dst : Option Nat} {v : Value} {op : Op} {vs : List Value}
theorem WpU.region (h : WSO P N ops u (List.range ops.size) ρ ds w Q) : WpU P N u (.region id ops false) ρ ds w Q := fun c₀ cs hc a ha => wpSIn_region (h c₀ cs hc a ha)
theorem WSO.done (h : Q u .normal ρ ds w) : WSO P N ops u [] ρ ds w Q := fun c₀ cs hc a ha => ⟨u, by subst hc; rfl, ρ, ds, ha, h⟩
theorem WSO.rd {d : Nat} (hc : cop N ops ρ i = some (some d, op, vs)) (hy : Yv P w op vs v) (k : WSO P N ops u l ((d, v) :: ρ) ds w Q) : WSO P N ops u (i :: l) ρ ds w Q := fun c₀ cs hm a ha => by
  obtain ⟨o, ho, hg, hd, rfl, hN, hv⟩ := cop_spec hc
  simp only [wpOpsSIn, ho]
  rw [wanted_of_gd ha hg]
  simp only [if_true]
  refine ⟨fun f hf => trivial, ?_⟩
  rw [hy.2 o a.eval rfl (evs_spec ha hv) w (fun _ => Keep.refl w)]
  simp only [hd]
  exact k c₀ cs hm _ (ha.putE hN v)
theorem WSO.rec_some {ts : Array TypeId} (hr : recd u = some (v, u')) (k : WSO P N ops u' l (putE ρ dst v) ds w Q) (hc : cop N ops ρ i = some (dst, .call { callee := .builtin .recover, args := #[], argTypes := ts }, []) := by rfl) : WSO P N ops u (i :: l) ρ ds w Q := fun c₀ cs hm a ha => by
  obtain ⟨o, ho, hg, hd, hop, hN, hv⟩ := cop_spec hc
  simp only [wpOpsSIn, ho]
  rw [wanted_of_gd ha hg]
  simp only [if_true]
  refine ⟨fun f hf => trivial, ?_⟩
  have hrun : (execOp a.eval o).run P w = .ok .recover w := by
    simp only [execOp, hop, resolve, Sem.run_bind]
    simp [invoke, builtin, go_sem]
  rw [hrun]
  simp only
  rw [recoverD_some (by rw [hm]; exact hr)]
  simp only [hd]
  have := k { c₀ with mode := u' } cs rfl _ (ha.putE hN v)
  exact this
theorem WSO.rec_none {ts : Array TypeId} (hr : recd u = none) (k : WSO P N ops u l (putE ρ dst .nilIface) ds w Q) (hc : cop N ops ρ i = some (dst, .call { callee := .builtin .recover, args := #[], argTypes := ts }, []) := by rfl) : WSO P N ops u (i :: l) ρ ds w Q := fun c₀ cs hm a ha => by
  obtain ⟨o, ho, hg, hd, hop, hN, hv⟩ := cop_spec hc
  simp only [wpOpsSIn, ho]
  rw [wanted_of_gd ha hg]
  simp only [if_true]
  refine ⟨fun f hf => trivial, ?_⟩
  have hrun : (execOp a.eval o).run P w = .ok .recover w := by
    simp only [execOp, hop, resolve, Sem.run_bind]
    simp [invoke, builtin, go_sem]
  rw [hrun]
  simp only
  rw [recoverD_none (by rw [hm]; exact hr)]
  simp only [hd]
  exact k c₀ cs hm _ (ha.putE hN _)
end
end Go.Proofs.YthbehiflmcljcaaDoor.Sh
