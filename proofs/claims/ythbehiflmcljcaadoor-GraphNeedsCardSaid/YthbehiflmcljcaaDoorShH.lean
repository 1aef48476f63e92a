/- A walk over the model's code with a small environment (generic: over any program). Part H: ranges over functions. -/
import Derived.Test.YthbehiflmcljcaaDoorShG
import Derived.RangeFuncIn
set_option linter.unusedVariables false
set_option linter.unusedSimpArgs false
namespace Go.Proofs.YthbehiflmcljcaaDoor.Sh
open Go.RowKit

/-- a block that holds one object -/
def Ch.obj (b : Nat) (o : Obj) : Chunk := ⟨[b], fun w => w.heap[b]? = some o, fun w w' h hk => (h b (by simp)).trans hk⟩
section
variable {w0 w : World} {M : List Nat} {D : List Chunk} {b : Nat} {o : Obj}
theorem St.allocObj (h : St w0 M w D) (o : Obj) : St w0 M (w.alloc o) (Ch.obj w.heap.size o :: D) :=
  h.new (Keep.alloc _ _) (heap_alloc_new w _) (fun b hb => by simp [Ch.obj] at hb; subst hb; simp)
theorem St.putObj (h : St w0 M w (Ch.obj b o :: D)) (o' : Obj) : St w0 M (w.putObj b o') (Ch.obj b o' :: D) := by
  have hb : w.heap[b]? = some o := h.at_ 0
  have hlt : b < w.heap.size := (Array.getElem?_eq_some_iff.1 hb).1
  refine h.upd (C' := Ch.obj b o') ⟨rfl, rfl, rfl, by simp, fun x hx hn => World.putObj_heap_other (by simpa [Ch.obj] using hn)⟩ (World.putObj_heap_same hlt) ?_
  intro x hx
  simp [Ch.obj] at hx
  subst hx
  exact ⟨.inl (by simp [Ch.obj]), by simpa using hlt⟩
/-- the mark of a range that is over -/
theorem Lv.one {K : World → Prop} {ds : List Deferred} {d : Nat} (h : St w0 M w D) (i : Nat) (k : ∀ w', St w0 M w' (D.eraseIdx i) → Lv ds K w') (hC : D[i]? = some (Ch.obj d (.deferred (some []))) := by rfl) : Lv ({ target := .collected d, args := #[] } :: ds) K w :=
  ⟨d, rfl, h.at_ i hC, k _ ((h.pull i hC).putObj _).drop⟩
end

/-- what a call of a loop's yield leads to -/
def YieldTo (P : Program) (l : Nat) (args : Array Value) (W : World) (R : Ending → World → Prop) : Prop :=
  ∃ fn tmps assign body, (Instr.yield l args).run P W = .ok (.round l fn tmps assign body) W ∧ RoundIn (Fr none) 0 P l fn tmps assign body W R
/-- a function gf, with what it has captured, tells the values xs, one after another: whatever the round does that keeps J, it comes to J at the end, or to where a round has stopped it; F is what must hold whenever it goes on -/
def Tells (P : Program) (gf : FuncId) (lb : List Value) {α : Type} (encs : α → List Value) (xs : List α) (F : World → Prop) : Prop :=
  ∀ (l : Nat) (J Jx : Nat → World → Prop) (W : World), (∀ k W W', Keep W W' → J k W → J k W') → (∀ k W W', Keep W W' → Jx k W → Jx k W') → (∀ k W, J k W → F W) →
    (∀ k x W1, xs[k]? = some x → J k W1 → YieldTo P l (encs x).toArray W1 fun e W' => (e = .returned (.bool true) ∧ J (k + 1) W') ∨ (e = .returned (.bool false) ∧ Jx k W')) →
    J 0 W → Calls P gf ((Value.func (.yield l) #[] #[]) :: lb).toArray W fun e W' => (∃ v, e = .returned v) ∧ (J xs.length W' ∨ ∃ k, Jx k W')
theorem roundIn_any {P : Program} {l f : Nat} {tmps : Array Value} {assign body : Code} {w : World} {R : Ending → World → Prop} {r r' : Option Nat} {n m : Nat} (h : RoundIn (Fr r) n P l f tmps assign body w R) : RoundIn (Fr r') m P l f tmps assign body w R :=
  ⟨trivial, fun c cs hr => h.2 c cs (by simp [Fence.room, Fence.wide])⟩
section
variable {r : Option Nat} {P : Program} {N : Nat} {ρ : Env} {ds : List Deferred} {w : World} {K : Env → World → Prop} {Q : Post} {dst : Option Nat}
/-- a call of yield, inside the iterator -/
theorem Ef.yield {x : Operand} {args : Array Operand} {ts : Array TypeId} {l : Nat} {us : List Value} {R : Ending → World → Prop} (h : YieldTo P l us.toArray w R) (k : ∀ e w', R e w' → afterCall ρ ds dst K Q e w') :
    Ef r P N dst (.call { callee := .value x, args := args, argTypes := ts }) (.func (.yield l) #[] #[] :: us) ρ ds w K Q := by
  rintro hN o a hop rfl ha hv
  refine ⟨fun f hf => trivial, ?_⟩
  obtain ⟨fn, tmps, assign, body, hy, hr⟩ := h
  rw [semAt_plain _ (by rw [hop]; simp)]
  simp only [Op.operands, Call.operands, Array.toList_append, List.map_append, List.singleton_append, List.map_cons, List.map_nil, List.cons.injEq] at hv
  obtain ⟨h1, h2⟩ := hv
  have h3 : args.map a.eval = us.toArray := by
    apply Array.ext'
    simpa using h2
  have he : (execOp a.eval o).run P w = .ok (.round l fn tmps assign body) w := by
    simp only [execOp, hop, resolve, h1, Sem.run_bind]
    simp [Deferred.ofValue, invoke, h3, hy, go_sem]
  rw [he]
  simp only [Oper.uponIn]
  refine ⟨fun hc => by simp [Fence.wide] at hc, (roundIn_any hr).mono ?_⟩
  intro e w' hR
  have := k e w' hR
  cases e with
  | returned v => exact ⟨_, ha.putE hN v, this⟩
  | panicked ch => exact ⟨_, _, ha, this⟩
  | outgrown => exact this.elim
end
/-- a loop's record, but for its state -/
def recAt (l fn : Nat) (tmps : Array Value) (ps : Array Tmp) (assign body : Code) (d : Nat) (st : LoopState) (p : Option Code) : Obj :=
  .loop { state := st, pending := p, fn, tmps, params := ps, assign, body, defers := d }
def putAll : List Tmp → List Value → Env → Env
  | p :: ps, v :: vs, ρ => putAll ps vs ((p, v) :: ρ)
  | _, _, ρ => ρ
theorem Rep.putAll {N : Nat} {ds : List Deferred} : ∀ (ps : List Tmp) (vs : List Value) (ρ : Env) (a : Act), Rep N a ρ ds → ps.all (fun p => Nat.blt p N) = true →
    Rep N { a with tmps := (ps.zip vs).foldl (fun t (p, v) => t.setIfInBounds p v) a.tmps } (Sh.putAll ps vs ρ) ds
  | [], vs, ρ, a, h, _ => by cases vs <;> exact h
  | p :: ps, [], ρ, a, h, _ => h
  | p :: ps, v :: vs, ρ, a, h, hp => by
    simp only [List.all_cons, Bool.and_eq_true] at hp
    have := Rep.putAll ps vs ((p, v) :: ρ) (a.put (some p) v) (h.put (by simpa using hp.1) v) hp.2
    exact this
section
variable {P : Program} {N : Nat} {ρ : Env} {ds : List Deferred} {w w0 : World} {M : List Nat} {D : List Chunk} {Q : Post} {α : Type}
/-- how a round may end -/
def roundEnd (w0 : World) (M : List Nat) (l kb : Nat) (busy dfr : Obj) (I : List Chunk → Prop) (X : Code → List Chunk → Prop) : Post
  | .normal, _, _, W => ∃ D, I D ∧ St w0 M W (Ch.obj l busy :: Ch.obj kb dfr :: D)
  | .ret, _, _, W => ∃ D, X .ret D ∧ St w0 M W (Ch.obj l busy :: Ch.obj kb dfr :: D)
  | .exit id, _, _, W => ∃ D, X (.exit id) D ∧ St w0 M W (Ch.obj l busy :: Ch.obj kb dfr :: D)
  | .goto t, _, _, W => ∃ D, X (.goto t) D ∧ St w0 M W (Ch.obj l busy :: Ch.obj kb dfr :: D)
  | _, _, _, _ => False
/-- the post of a piece of code that only goes on -/
def onOn (K : Env → World → Prop) : Post
  | .normal, ρ, ds, W => ds = [] ∧ K ρ W
  | _, _, _, _ => False
/-- a range over a function that tells xs; not inside of another one's round -/
theorem Wp.ranges {g : Operand} {ps : Array Tmp} {assign body : Code} {gf : FuncId} {fn : Func} {lb : List Value} {encs : α → List Value} {xs : List α} {F : World → Prop} (hst : St w0 M w D) (ht : Tells P gf lb encs xs F) (I : Nat → List Chunk → Prop) (X : Code → List Chunk → Prop)
    (hF : ∀ k D' W, I k D' → St w0 M W D' → F W) (h0 : I 0 D)
    (hround : ∀ k x l kb busy D' W, xs[k]? = some x → I k D' → St w0 M W D' →
      Wp (some l) P N assign (putAll ps.toList (encs x) ρ) [] W (onOn fun ρ' W' => Keep W W' ∧ ∀ W2, (St w0 M W2 (Ch.obj l busy :: Ch.obj kb (.deferred (some [])) :: D')) → Wp (some l) P N body ρ' [] W2 (roundEnd w0 M l kb busy (.deferred (some [])) (I (k + 1)) X)))
    (hdone : ∀ kb D' W, I xs.length D' → St w0 M W (Ch.obj kb (.deferred (some [])) :: D') → Q .normal ρ ({ target := .collected kb, args := #[] } :: ds) W)
    (hstop : ∀ kb c D' W, X c D' → St w0 M W (Ch.obj kb (.deferred (some [])) :: D') → Wp none P N c ρ ({ target := .collected kb, args := #[] } :: ds) W Q)
    (hg : ev ρ g = some (.func (.func gf) #[] lb.toArray) := by rfl) (hf : P.funcs[gf]? = some fn) (hb : fn.body.isSome = true := by rfl) (hn : (fn.name == "runtime.NumGoroutine") = false := by kernel_rfl)
    (hps : ps.toList.all (fun p => Nat.blt p N) = true := by rfl) (hsz : ∀ x, (encs x).length = ps.size := by exact fun _ => rfl) : Wp none P N (.rangeFunc g ps assign body) ρ ds w Q := by
  intro a ha
  refine wpIn_rangeFunc ?_
  intro f0 hf0
  obtain ⟨rec, hrec⟩ : ∃ rec : LoopState → Option Code → Obj, rec = fun st p => recAt (w.heap.size + 1) f0 a.tmps ps assign body w.heap.size st p := ⟨_, rfl⟩
  have hs1 : St w0 M (w.alloc (.deferred (some []))) (Ch.obj w.heap.size (.deferred (some [])) :: D) := hst.allocObj _
  have hs2 := hs1.allocObj (rec .ready none)
  rw [World.size_alloc] at hs2
  have hl2 := hs2.at_ 0
  obtain ⟨W1, hW1⟩ : ∃ W1, W1 = (w.alloc (.deferred (some []))).alloc (rec .ready none) := ⟨_, rfl⟩
  rw [← hW1] at hs2 hl2
  refine ⟨w.heap.size + 1, [{ target := .collected w.heap.size, args := #[] }], W1, { target := .fn (.func gf) lb.toArray, args := #[.func (.yield (w.heap.size + 1)) #[] #[]] }, W1, gf,
    #[.func (.yield (w.heap.size + 1)) #[] #[]] ++ lb.toArray, W1, ?_, ?_, ?_, ?_, fun hc => by simp [Fence.wide] at hc, ?_⟩
  · rw [hW1, hrec]; exact run_enterLoop_outer _ _ _ _ _
  · simp only [resolve, ha.ev hg]
    simp [go_sem]
  · intro f' hf'; exact trivial
  · simp [invoke, go_sem, enters_name hf hb hn]
  · refine (callsIn_wide (n := 0 - 1)).2 ?_
    have harr : #[Value.func (.yield (w.heap.size + 1)) #[] #[]] ++ lb.toArray = ((Value.func (.yield (w.heap.size + 1)) #[] #[]) :: lb).toArray := by simp
    rw [harr]
    refine Calls.mono (ht (w.heap.size + 1)
      (fun k W => ∃ D', I k D' ∧ St w0 M W (Ch.obj (w.heap.size + 1) (rec .ready none) :: Ch.obj w.heap.size (.deferred (some [])) :: D'))
      (fun k W => ∃ c D', X c D' ∧ St w0 M W (Ch.obj (w.heap.size + 1) (rec .done (some c)) :: Ch.obj w.heap.size (.deferred (some [])) :: D'))
      _ ?_ ?_ ?_ ?_ ⟨D, h0, by rw [hrec] at hs2 ⊢; exact hs2⟩) ?_
    · rintro k W W' hk ⟨D', hi, h⟩; exact ⟨D', hi, h.quiet hk⟩
    · rintro k W W' hk ⟨c, D', hi, h⟩; exact ⟨c, D', hi, h.quiet hk⟩
    · rintro k W ⟨D', hi, h⟩; exact hF k D' W hi h.drop.drop
    · rintro k x W hx ⟨D', hi, h⟩
      have hl : W.heap[w.heap.size + 1]? = some (rec .ready none) := h.at_ 0
      rw [hrec] at hl
      have hy := run_yield (P := P) (args := (encs x).toArray) hl (by simpa using hsz x)
      refine ⟨_, _, _, _, hy, roundIn_of_wpIn trivial ?_⟩
      clear hy
      have hr0 : Rep N { tmps := (ps.zip (encs x).toArray).foldl (fun t (p, v) => t.setIfInBounds p v) a.tmps, defers := [] } (putAll ps.toList (encs x) ρ) [] := by
        have := Rep.putAll (ds := []) ps.toList (encs x) ρ { a with defers := [] } ⟨ha.size, ha.val, rfl⟩ hps
        have e : (ps.zip (encs x).toArray).foldl (fun t (p, v) => t.setIfInBounds p v) a.tmps = (ps.toList.zip (encs x)).foldl (fun t (p, v) => t.setIfInBounds p v) a.tmps := by
          rw [← Array.foldl_toList, Array.toList_zip]
        rw [e]
        exact this
      have hro := hround k x (w.heap.size + 1) w.heap.size (rec .busy none) D' W hx hi h.drop.drop _ hr0
      refine wpIn_mono hro ?_
      rintro e a' W' ⟨ρ', ds', hr', hq⟩
      cases e with
      | normal =>
        obtain ⟨hds, hk, hbody⟩ := hq
        subst hds
        have h' := h.quiet hk
        have hl' : W'.heap[w.heap.size + 1]? = some (rec .ready none) := h'.at_ 0
        rw [hrec] at hl'
        refine ⟨_, run_beginRound hl' rfl, ?_⟩
        have h2 := h'.putObj (rec .busy none)
        have hb2 : Wp (some (w.heap.size + 1)) P N body ρ' [] (W'.putObj (w.heap.size + 1) (rec .busy none)) _ := hbody _ h2
        rw [hrec] at hb2
        refine wpIn_mono (hb2 a' hr') ?_
        rintro e3 a3 W3 ⟨ρ3, ds3, hr3, hq3⟩
        have fin : ∀ (jump : Option Code) (D3 : List Chunk), St w0 M W3 (Ch.obj (w.heap.size + 1) (recAt (w.heap.size + 1) f0 a.tmps ps assign body w.heap.size .busy none) :: Ch.obj w.heap.size (.deferred (some [])) :: D3) →
            (Instr.endRound (w.heap.size + 1) jump).run P W3 = .ok (.bool jump.isNone) (W3.putObj (w.heap.size + 1) (recAt (w.heap.size + 1) f0 a.tmps ps assign body w.heap.size (if jump.isNone then .ready else .done) jump)) ∧
            St w0 M (W3.putObj (w.heap.size + 1) (recAt (w.heap.size + 1) f0 a.tmps ps assign body w.heap.size (if jump.isNone then .ready else .done) jump)) (Ch.obj (w.heap.size + 1) (recAt (w.heap.size + 1) f0 a.tmps ps assign body w.heap.size (if jump.isNone then .ready else .done) jump) :: Ch.obj w.heap.size (.deferred (some [])) :: D3) := fun jump D3 h3 =>
          ⟨run_endRound (P := P) jump (h3.at_ 0), h3.putObj _⟩
        rw [hrec]
        cases e3 with
        | normal =>
          obtain ⟨D3, hi3, h3⟩ := hq3
          obtain ⟨q1, q2⟩ := fin none D3 h3
          exact ⟨_, _, q1, .inl ⟨rfl, D3, hi3, q2⟩⟩
        | ret =>
          obtain ⟨D3, hi3, h3⟩ := hq3
          obtain ⟨q1, q2⟩ := fin (some .ret) D3 h3
          exact ⟨_, _, q1, .inr ⟨rfl, _, D3, hi3, q2⟩⟩
        | exit id =>
          obtain ⟨D3, hi3, h3⟩ := hq3
          obtain ⟨q1, q2⟩ := fin (some (.exit id)) D3 h3
          exact ⟨_, _, q1, .inr ⟨rfl, _, D3, hi3, q2⟩⟩
        | goto id =>
          obtain ⟨D3, hi3, h3⟩ := hq3
          obtain ⟨q1, q2⟩ := fin (some (.goto id)) D3 h3
          exact ⟨_, _, q1, .inr ⟨rfl, _, D3, hi3, q2⟩⟩
        | panic ch => exact hq3.elim
        | outgrown => exact hq3.elim
      | _ => exact hq.elim
    · rintro e W2 ⟨⟨v, rfl⟩, (⟨D', hi, h⟩ | ⟨k, c, D', hi, h⟩)⟩
      · have hl : W2.heap[w.heap.size + 1]? = some (rec .ready none) := h.at_ 0
        rw [hrec] at hl
        refine ⟨none, _, run_endLoop hl (by simp), ?_⟩
        have h2 := (h.putObj (o' := .loop { state := .exhausted, pending := none, fn := f0, tmps := a.tmps, params := ps, assign, body, defers := w.heap.size })).drop
        exact ⟨ρ, _, ⟨ha.size, ha.val, by simp [ha.defers]⟩, hdone _ D' _ hi h2⟩
      · have hl : W2.heap[w.heap.size + 1]? = some (rec .done (some c)) := h.at_ 0
        rw [hrec] at hl
        refine ⟨some c, _, run_endLoop hl (by simp), ?_⟩
        have h2 := (h.putObj (o' := .loop { state := .exhausted, pending := some c, fn := f0, tmps := a.tmps, params := ps, assign, body, defers := w.heap.size })).drop
        exact hstop _ c D' _ hi h2 _ ⟨ha.size, ha.val, by simp [ha.defers]⟩
end
end Go.Proofs.YthbehiflmcljcaaDoor.Sh
