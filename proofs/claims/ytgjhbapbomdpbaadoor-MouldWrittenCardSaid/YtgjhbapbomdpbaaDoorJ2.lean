/- A walk over the model's code with a small environment (generic: over any program). Part H: ranges over functions. -/
import Derived.Test.YtgjhbapbomdpbaaDoorJ1
import Derived.RangeFuncIn
import Derived.Laws.StructEq
import Derived.Laws.IdiomStrings
import Derived.Laws.Shifts
import Derived.Deep.Slices
import Derived.SizedLaws
import Derived.RecoverIn
import Derived.WalkSmall
set_option linter.unusedVariables false
set_option linter.unusedSimpArgs false
namespace Go.Proofs.YtgjhbapbomdpbaaDoor.Sh
open Go.RowKit

/-- a block that holds one object -/
def Ch.obj (b : Nat) (o : Obj) : Chunk := ⟨[b], fun w => w.heap[b]? = some o, fun w w' h hk => (h b (by simp)).trans hk⟩
section
variable {w0 w : World} {M : List Nat} {D : List Chunk} {b : Nat} {o : Obj}
theorem St.allocObj (h : St w0 M w D) (o : Obj) : St w0 M (w.alloc o) (Ch.obj w.heap.size o :: D) :=
  h.new (Keep.alloc _ _) (heap_alloc_new w _) (fun b hb => by simp [Ch.obj] at hb; subst hb; simp)
theorem St.putObj (h : St w0 M w (Ch.obj b o :: D)) (o' : Obj) : St w0 M (w.putObj b o') (Ch.obj b o' :: D) := by
  have hb : w.heap[b]? = some o := h.at_ 0
  have hlt : b < w.heap.size := (Array.getElem?_eq_some_iff.1 hb).1
  refine h.upd (C' := Ch.obj b o') ⟨rfl, rfl, rfl, by simp, fun x hx hn => World.putObj_heap_other (by simpa [Ch.obj] using hn)⟩ (World.putObj_heap_same hlt) ?_
  intro x hx
  simp [Ch.obj] at hx
  subst hx
  exact ⟨.inl (by simp [Ch.obj]), by simpa using hlt⟩
/-- the mark of a range that is over -/
theorem Lv.one {K : World → Prop} {ds : List Deferred} {d : Nat} (h : St w0 M w D) (i : Nat) (k : ∀ w', St w0 M w' (D.eraseIdx i) → Lv ds K w') (hC : D[i]? = some (Ch.obj d (.deferred (some []))) := by rfl) : Lv ({ target := .collected d, args := #[] } :: ds) K w :=
  ⟨d, rfl, h.at_ i hC, k _ ((h.pull i hC).putObj _).drop⟩
end

/-- what a call of a loop's yield leads to -/
def YieldTo (P : Program) (l : Nat) (args : Array Value) (W : World) (R : Ending → World → Prop) : Prop :=
  ∃ fn tmps assign body, (Instr.yield l args).run P W = .ok (.round l fn tmps assign body) W ∧ RoundIn (Fr none) 0 P l fn tmps assign body W R
/-- a function gf, with what it has captured, tells the values xs, one after another: whatever the round does that keeps J, it comes to J at the end, or to where a round has stopped it; F is what must hold whenever it goes on -/
def Tells (P : Program) (gf : FuncId) (lb : List Value) {α : Type} (encs : α → List Value) (xs : List α) (F : World → Prop) : Prop :=
  ∀ (l : Nat) (J Jx : Nat → World → Prop) (W : World), (∀ k W W', Keep W W' → J k W → J k W') → (∀ k W W', Keep W W' → Jx k W → Jx k W') → (∀ k W, J k W → F W) →
    (∀ k x W1, xs[k]? = some x → J k W1 → YieldTo P l (encs x).toArray W1 fun e W' => (e = .returned (.bool true) ∧ J (k + 1) W') ∨ (e = .returned (.bool false) ∧ Jx k W')) →
    J 0 W → Calls P gf ((Value.func (.yield l) #[] #[]) :: lb).toArray W fun e W' => (∃ v, e = .returned v) ∧ (J xs.length W' ∨ ∃ k, Jx k W')
theorem roundIn_any {P : Program} {l f : Nat} {tmps : Array Value} {assign body : Code} {w : World} {R : Ending → World → Prop} {r r' : Option Nat} {n m : Nat} (h : RoundIn (Fr r) n P l f tmps assign body w R) : RoundIn (Fr r') m P l f tmps assign body w R :=
  ⟨trivial, fun c cs hr => h.2 c cs (by simp [Fence.room, Fence.wide])⟩
section
variable {r : Option Nat} {P : Program} {N : Nat} {ρ : Env} {ds : List Deferred} {w : World} {K : Env → World → Prop} {Q : Post} {dst : Option Nat}
/-- a call of yield, inside the iterator -/
theorem Ef.yield {x : Operand} {args : Array Operand} {ts : Array TypeId} {l : Nat} {us : List Value} {R : Ending → World → Prop} (h : YieldTo P l us.toArray w R) (k : ∀ e w', R e w' → afterCall ρ ds dst K Q e w') :
    Ef r P N dst (.call { callee := .value x, args := args, argTypes := ts }) (.func (.yield l) #[] #[] :: us) ρ ds w K Q := by
  rintro hN o a hop rfl ha hv
  refine ⟨fun f hf => trivial, ?_⟩
  obtain ⟨fn, tmps, assign, body, hy, hr⟩ := h
  rw [semAt_plain _ (by rw [hop]; simp)]
  simp only [Op.operands, Call.operands, Array.toList_append, List.map_append, List.singleton_append, List.map_cons, List.map_nil, List.cons.injEq] at hv
  obtain ⟨h1, h2⟩ := hv
  have h3 : args.map a.eval = us.toArray := by
    apply Array.ext'
    simpa using h2
  have he : (execOp a.eval o).run P w = .ok (.round l fn tmps assign body) w := by
    simp only [execOp, hop, resolve, h1, Sem.run_bind]
    simp [Deferred.ofValue, invoke, h3, hy, go_sem]
  rw [he]
  simp only [Oper.uponIn]
  refine ⟨fun hc => by simp [Fence.wide] at hc, (roundIn_any hr).mono ?_⟩
  intro e w' hR
  have := k e w' hR
  cases e with
  | returned v => exact ⟨_, ha.putE hN v, this⟩
  | panicked ch => exact ⟨_, _, ha, this⟩
  | outgrown => exact this.elim
end
/-- a loop's record, but for its state -/
def recAt (l fn : Nat) (tmps : Array Value) (ps : Array Tmp) (assign body : Code) (d : Nat) (st : LoopState) (p : Option Code) : Obj :=
  .loop { state := st, pending := p, fn, tmps, params := ps, assign, body, defers := d }
def putAll : List Tmp → List Value → Env → Env
  | p :: ps, v :: vs, ρ => putAll ps vs ((p, v) :: ρ)
  | _, _, ρ => ρ
theorem Rep.putAll {N : Nat} {ds : List Deferred} : ∀ (ps : List Tmp) (vs : List Value) (ρ : Env) (a : Act), Rep N a ρ ds → ps.all (fun p => Nat.blt p N) = true →
    Rep N { a with tmps := (ps.zip vs).foldl (fun t (p, v) => t.setIfInBounds p v) a.tmps } (Sh.putAll ps vs ρ) ds
  | [], vs, ρ, a, h, _ => by cases vs <;> exact h
  | p :: ps, [], ρ, a, h, _ => h
  | p :: ps, v :: vs, ρ, a, h, hp => by
    simp only [List.all_cons, Bool.and_eq_true] at hp
    have := Rep.putAll ps vs ((p, v) :: ρ) (a.put (some p) v) (h.put (by simpa using hp.1) v) hp.2
    exact this
section
variable {P : Program} {N : Nat} {ρ : Env} {ds : List Deferred} {w w0 : World} {M : List Nat} {D : List Chunk} {Q : Post} {α : Type}
/-- how a round may end -/
def roundEnd (w0 : World) (M : List Nat) (l kb : Nat) (busy dfr : Obj) (I : List Chunk → Prop) (X : Code → List Chunk → Prop) : Post
  | .normal, _, _, W => ∃ D, I D ∧ St w0 M W (Ch.obj l busy :: Ch.obj kb dfr :: D)
  | .ret, _, _, W => ∃ D, X .ret D ∧ St w0 M W (Ch.obj l busy :: Ch.obj kb dfr :: D)
  | .exit id, _, _, W => ∃ D, X (.exit id) D ∧ St w0 M W (Ch.obj l busy :: Ch.obj kb dfr :: D)
  | .goto t, _, _, W => ∃ D, X (.goto t) D ∧ St w0 M W (Ch.obj l busy :: Ch.obj kb dfr :: D)
  | _, _, _, _ => False
/-- the post of a piece of code that only goes on -/
def onOn (K : Env → World → Prop) : Post
  | .normal, ρ, ds, W => ds = [] ∧ K ρ W
  | _, _, _, _ => False
/-- a range over a function that tells xs; not inside of another one's round -/
theorem Wp.ranges {g : Operand} {ps : Array Tmp} {assign body : Code} {gf : FuncId} {fn : Func} {lb : List Value} {encs : α → List Value} {xs : List α} {F : World → Prop} (hst : St w0 M w D) (ht : Tells P gf lb encs xs F) (I : Nat → List Chunk → Prop) (X : Code → List Chunk → Prop)
    (hF : ∀ k D' W, I k D' → St w0 M W D' → F W) (h0 : I 0 D)
    (hround : ∀ k x l kb busy D' W, xs[k]? = some x → I k D' → St w0 M W D' →
      Wp (some l) P N assign (putAll ps.toList (encs x) ρ) [] W (onOn fun ρ' W' => Keep W W' ∧ ∀ W2, (St w0 M W2 (Ch.obj l busy :: Ch.obj kb (.deferred (some [])) :: D')) → Wp (some l) P N body ρ' [] W2 (roundEnd w0 M l kb busy (.deferred (some [])) (I (k + 1)) X)))
    (hdone : ∀ kb D' W, I xs.length D' → St w0 M W (Ch.obj kb (.deferred (some [])) :: D') → Q .normal ρ ({ target := .collected kb, args := #[] } :: ds) W)
    (hstop : ∀ kb c D' W, X c D' → St w0 M W (Ch.obj kb (.deferred (some [])) :: D') → Wp none P N c ρ ({ target := .collected kb, args := #[] } :: ds) W Q)
    (hg : ev ρ g = some (.func (.func gf) #[] lb.toArray) := by rfl) (hf : P.funcs[gf]? = some fn) (hb : fn.body.isSome = true := by rfl) (hn : (fn.name == "runtime.NumGoroutine") = false := by kernel_rfl)
    (hps : ps.toList.all (fun p => Nat.blt p N) = true := by rfl) (hsz : ∀ x, (encs x).length = ps.size := by exact fun _ => rfl) : Wp none P N (.rangeFunc g ps assign body) ρ ds w Q := by
  intro a ha
  refine wpIn_rangeFunc ?_
  intro f0 hf0
  obtain ⟨rec, hrec⟩ : ∃ rec : LoopState → Option Code → Obj, rec = fun st p => recAt (w.heap.size + 1) f0 a.tmps ps assign body w.heap.size st p := ⟨_, rfl⟩
  have hs1 : St w0 M (w.alloc (.deferred (some []))) (Ch.obj w.heap.size (.deferred (some [])) :: D) := hst.allocObj _
  have hs2 := hs1.allocObj (rec .ready none)
  rw [World.size_alloc] at hs2
  have hl2 := hs2.at_ 0
  obtain ⟨W1, hW1⟩ : ∃ W1, W1 = (w.alloc (.deferred (some []))).alloc (rec .ready none) := ⟨_, rfl⟩
  rw [← hW1] at hs2 hl2
  refine ⟨w.heap.size + 1, [{ target := .collected w.heap.size, args := #[] }], W1, { target := .fn (.func gf) lb.toArray, args := #[.func (.yield (w.heap.size + 1)) #[] #[]] }, W1, gf,
    #[.func (.yield (w.heap.size + 1)) #[] #[]] ++ lb.toArray, W1, ?_, ?_, ?_, ?_, fun hc => by simp [Fence.wide] at hc, ?_⟩
  · rw [hW1, hrec]; exact run_enterLoop_outer _ _ _ _ _
  · simp only [resolve, ha.ev hg]
    simp [go_sem]
  · intro f' hf'; exact trivial
  · simp [invoke, go_sem, enters_name hf hb hn]
  · refine (callsIn_wide (n := 0 - 1)).2 ?_
    have harr : #[Value.func (.yield (w.heap.size + 1)) #[] #[]] ++ lb.toArray = ((Value.func (.yield (w.heap.size + 1)) #[] #[]) :: lb).toArray := by simp
    rw [harr]
    refine Calls.mono (ht (w.heap.size + 1)
      (fun k W => ∃ D', I k D' ∧ St w0 M W (Ch.obj (w.heap.size + 1) (rec .ready none) :: Ch.obj w.heap.size (.deferred (some [])) :: D'))
      (fun k W => ∃ c D', X c D' ∧ St w0 M W (Ch.obj (w.heap.size + 1) (rec .done (some c)) :: Ch.obj w.heap.size (.deferred (some [])) :: D'))
      _ ?_ ?_ ?_ ?_ ⟨D, h0, by rw [hrec] at hs2 ⊢; exact hs2⟩) ?_
    · rintro k W W' hk ⟨D', hi, h⟩; exact ⟨D', hi, h.quiet hk⟩
    · rintro k W W' hk ⟨c, D', hi, h⟩; exact ⟨c, D', hi, h.quiet hk⟩
    · rintro k W ⟨D', hi, h⟩; exact hF k D' W hi h.drop.drop
    · rintro k x W hx ⟨D', hi, h⟩
      have hl : W.heap[w.heap.size + 1]? = some (rec .ready none) := h.at_ 0
      rw [hrec] at hl
      have hy := run_yield (P := P) (args := (encs x).toArray) hl (by simpa using hsz x)
      refine ⟨_, _, _, _, hy, roundIn_of_wpIn trivial ?_⟩
      clear hy
      have hr0 : Rep N { tmps := (ps.zip (encs x).toArray).foldl (fun t (p, v) => t.setIfInBounds p v) a.tmps, defers := [] } (putAll ps.toList (encs x) ρ) [] := by
        have := Rep.putAll (ds := []) ps.toList (encs x) ρ { a with defers := [] } ⟨ha.size, ha.val, rfl⟩ hps
        have e : (ps.zip (encs x).toArray).foldl (fun t (p, v) => t.setIfInBounds p v) a.tmps = (ps.toList.zip (encs x)).foldl (fun t (p, v) => t.setIfInBounds p v) a.tmps := by
          rw [← Array.foldl_toList, Array.toList_zip]
        rw [e]
        exact this
      have hro := hround k x (w.heap.size + 1) w.heap.size (rec .busy none) D' W hx hi h.drop.drop _ hr0
      refine wpIn_mono hro ?_
      rintro e a' W' ⟨ρ', ds', hr', hq⟩
      cases e with
      | normal =>
        obtain ⟨hds, hk, hbody⟩ := hq
        subst hds
        have h' := h.quiet hk
        have hl' : W'.heap[w.heap.size + 1]? = some (rec .ready none) := h'.at_ 0
        rw [hrec] at hl'
        refine ⟨_, run_beginRound hl' rfl, ?_⟩
        have h2 := h'.putObj (rec .busy none)
        have hb2 : Wp (some (w.heap.size + 1)) P N body ρ' [] (W'.putObj (w.heap.size + 1) (rec .busy none)) _ := hbody _ h2
        rw [hrec] at hb2
        refine wpIn_mono (hb2 a' hr') ?_
        rintro e3 a3 W3 ⟨ρ3, ds3, hr3, hq3⟩
        have fin : ∀ (jump : Option Code) (D3 : List Chunk), St w0 M W3 (Ch.obj (w.heap.size + 1) (recAt (w.heap.size + 1) f0 a.tmps ps assign body w.heap.size .busy none) :: Ch.obj w.heap.size (.deferred (some [])) :: D3) →
            (Instr.endRound (w.heap.size + 1) jump).run P W3 = .ok (.bool jump.isNone) (W3.putObj (w.heap.size + 1) (recAt (w.heap.size + 1) f0 a.tmps ps assign body w.heap.size (if jump.isNone then .ready else .done) jump)) ∧
            St w0 M (W3.putObj (w.heap.size + 1) (recAt (w.heap.size + 1) f0 a.tmps ps assign body w.heap.size (if jump.isNone then .ready else .done) jump)) (Ch.obj (w.heap.size + 1) (recAt (w.heap.size + 1) f0 a.tmps ps assign body w.heap.size (if jump.isNone then .ready else .done) jump) :: Ch.obj w.heap.size (.deferred (some [])) :: D3) := fun jump D3 h3 =>
          ⟨run_endRound (P := P) jump (h3.at_ 0), h3.putObj _⟩
        rw [hrec]
        cases e3 with
        | normal =>
          obtain ⟨D3, hi3, h3⟩ := hq3
          obtain ⟨q1, q2⟩ := fin none D3 h3
          exact ⟨_, _, q1, .inl ⟨rfl, D3, hi3, q2⟩⟩
        | ret =>
          obtain ⟨D3, hi3, h3⟩ := hq3
          obtain ⟨q1, q2⟩ := fin (some .ret) D3 h3
          exact ⟨_, _, q1, .inr ⟨rfl, _, D3, hi3, q2⟩⟩
        | exit id =>
          obtain ⟨D3, hi3, h3⟩ := hq3
          obtain ⟨q1, q2⟩ := fin (some (.exit id)) D3 h3
          exact ⟨_, _, q1, .inr ⟨rfl, _, D3, hi3, q2⟩⟩
        | goto id =>
          obtain ⟨D3, hi3, h3⟩ := hq3
          obtain ⟨q1, q2⟩ := fin (some (.goto id)) D3 h3
          exact ⟨_, _, q1, .inr ⟨rfl, _, D3, hi3, q2⟩⟩
        | panic ch => exact hq3.elim
        | outgrown => exact hq3.elim
      | _ => exact hq.elim
    · rintro e W2 ⟨⟨v, rfl⟩, (⟨D', hi, h⟩ | ⟨k, c, D', hi, h⟩)⟩
      · have hl : W2.heap[w.heap.size + 1]? = some (rec .ready none) := h.at_ 0
        rw [hrec] at hl
        refine ⟨none, _, run_endLoop hl (by simp), ?_⟩
        have h2 := (h.putObj (o' := .loop { state := .exhausted, pending := none, fn := f0, tmps := a.tmps, params := ps, assign, body, defers := w.heap.size })).drop
        exact ⟨ρ, _, ⟨ha.size, ha.val, by simp [ha.defers]⟩, hdone _ D' _ hi h2⟩
      · have hl : W2.heap[w.heap.size + 1]? = some (rec .done (some c)) := h.at_ 0
        rw [hrec] at hl
        refine ⟨some c, _, run_endLoop hl (by simp), ?_⟩
        have h2 := (h.putObj (o' := .loop { state := .exhausted, pending := some c, fn := f0, tmps := a.tmps, params := ps, assign, body, defers := w.heap.size })).drop
        exact hstop _ c D' _ hi h2 _ ⟨ha.size, ha.val, by simp [ha.defers]⟩
end
end Go.Proofs.YtgjhbapbomdpbaaDoor.Sh
/- A walk over the model's code with a small environment (generic: over any program). Part I: structs built, lists written out, cuts of lists, elements written, structs held against one another. -/
set_option linter.unusedVariables false
set_option linter.unusedSimpArgs false
namespace Go.Proofs.YtgjhbapbomdpbaaDoor.Sh
open Go.RowKit

/-! ### 1. build -/
def placesB (P : Program) : List Field → Option (List (Nat × Nat))
  | [] => some []
  | f :: fs => match P.info? f.type with
    | some i => match placesB P fs with
      | some l => some ((f.offset, i.size) :: l)
      | none => none
    | none => none
def bldB (P : Program) (t : TypeId) (parts : List (Nat × Value)) : Option (Array Value) :=
  match P.info? t with
  | some i => match i.zero with
    | some z => match P.underlying t with
      | some (.struct fs) => match placesB P fs.toList with
        | some pl => Instr.fill (fun i => pl[i]?) z.cells parts
        | none => none
      | some (.array _ e) => match P.info? e with
        | some ie => Instr.fill (fun i => some (i * ie.size, ie.size)) z.cells parts
        | none => none
      | _ => none
    | none => none
  | none => none
theorem run_places {P : Program} {w : World} : ∀ (fs : List Field) (pl : List (Nat × Nat)), placesB P fs = some pl → (fs.mapM (fun f => (Prod.mk f.offset <$> sizeOf f.type : Sem (Nat × Nat)))).run P w = .ok pl w
  | [], pl, h => by simp [placesB] at h; subst h; simp
  | f :: fs, pl, h => by
    simp only [placesB] at h
    cases hi : P.info? f.type with
    | none => rw [hi] at h; cases h
    | some i =>
      rw [hi] at h
      cases hl : placesB P fs with
      | none => rw [hl] at h; cases h
      | some l =>
        rw [hl] at h
        simp only [Option.some.injEq] at h
        subst h
        have := run_places (w := w) fs l hl
        have hs : (sizeOf f.type).run P w = .ok i.size w := run_size (by simp [hi]) w
        simp [List.mapM_cons, hs, this]
theorem run_bld {P : Program} {w : World} {t : TypeId} {parts : Array (Nat × Value)} {cs : Array Value} (h : bldB P t parts.toList = some cs) : (Instr.build t parts).run P w = .ok (.agg cs) w := by
  unfold bldB at h
  cases hi : P.info? t with
  | none => rw [hi] at h; cases h
  | some i =>
    rw [hi] at h
    cases hz : i.zero with
    | none => simp only [hz] at h; cases h
    | some z =>
      simp only [hz] at h
      cases hu : P.underlying t with
      | none => rw [hu] at h; cases h
      | some d =>
        rw [hu] at h
        cases d with
        | struct fs =>
          simp only at h
          cases hp : placesB P fs.toList with
          | none => rw [hp] at h; cases h
          | some pl =>
            rw [hp] at h
            simp only at h
            have h1 := run_places (w := w) fs.toList pl hp
            have h2 : (fs.mapM (fun f => (Prod.mk f.offset <$> sizeOf f.type : Sem (Nat × Nat)))).run P w = .ok pl.toArray w := by
              rw [Array.mapM_eq_mapM_toList]
              simp [h1]
            simp [Instr.build, zeroValue, typeInfo, hi, hz, run_underlying hu, h2, h]
        | array m e =>
          simp only at h
          cases he : P.info? e with
          | none => rw [he] at h; cases h
          | some ie =>
            rw [he] at h
            simp only at h
            simp [Instr.build, zeroValue, typeInfo, sizeOf, hi, hz, he, run_underlying hu, h]
        | _ => cases h
theorem Yv.bd {P : Program} {w : World} {t : TypeId} {parts : Array (Nat × Operand)} {vs : List Value} {cs : List Value} (h : bldB P t ((parts.toList.map (·.1)).zip vs) = some cs.toArray := by kernel_rfl) : Yv P w (.build t parts) vs (.agg cs.toArray) :=
  ⟨by simp, fun o e hop hv w' _ => by
    have h1 : (parts.map fun (i, x) => (i, e x)).toList = (parts.toList.map (·.1)).zip vs := by
      rw [← hv]
      simp only [Op.operands, Array.toList_map]
      generalize parts.toList = l
      induction l with
      | nil => rfl
      | cons p l ih => simp [ih]
    rw [← h1] at h
    have := run_bld (w := w') h
    simp [execOp, hop, this]⟩

/-! ### 2. a list written out -/
def bslB (P : Program) (T : TypeId) (len n : Nat) (parts : List (Nat × Value)) : Option (Array Value) :=
  match P.info? T with
  | some i => match i.zero with
    | some z => if Nat.beq i.size n && Nat.ble (len * n) 16777216 then Instr.fill (fun i => some (i * n, n)) ((Array.range (len * n)).map (z.cells[· % z.cells.size]!)) parts else none
    | none => none
  | none => none
theorem run_bsl {P : Program} {w : World} {t T : TypeId} {len n : Nat} {parts : Array (Nat × Value)} {cs : Array Value} (ht : slB P t T n = true) (h : bslB P T len n parts.toList = some cs) :
    (Instr.buildSlice t len parts).run P w = .ok (.slice (some ⟨w.heap.size, 0, none⟩) len len) (w.alloc (.cells cs T)) := by
  unfold bslB at h
  cases hi : P.info? T with
  | none => rw [hi] at h; cases h
  | some i =>
    rw [hi] at h
    cases hz : i.zero with
    | none => simp only [hz] at h; cases h
    | some z =>
      simp only [hz] at h
      split at h
      · rename_i hc
        simp only [Bool.and_eq_true] at hc
        obtain ⟨hc1, hc2⟩ := hc
        have hc1 := Nat.eq_of_beq_eq_true hc1
        have hc2 := Nat.le_of_ble_eq_true hc2
        subst hc1
        have hgt : ¬ (len * i.size > 2 ^ 24) := by omega
        by_cases h0 : len * i.size = 0
        · have e : (Array.range (len * i.size)).map (z.cells[· % z.cells.size]!) = (Array.range (len * i.size)).map ((#[] : Array Value)[· % (#[] : Array Value).size]!) := by rw [h0]; simp
          rw [e] at h
          simp [Instr.buildSlice, run_underlying (slB_of ht).1, run_size (slB_of ht).2, hgt, h0]
          rw [h0] at h
          simp at h
          simp [h, newRow]
        · simp [Instr.buildSlice, run_underlying (slB_of ht).1, run_size (slB_of ht).2, hgt, h0, zeroValue, typeInfo, hi, hz, h, newRow]
      · cases h
section
variable {α : Type} {E : Enc α} {r : Option Nat} {P : Program} {N : Nat} {ρ : Env} {ds : List Deferred} {w w0 : World} {M : List Nat} {D : List Chunk} {K : Env → World → Prop} {Q : Post} {dst : Option Nat}
theorem flat_len_own {xs : List α} {b : Nat} {T : TypeId} {cs : Array Value} (hcs : cs.toList = xs.flatMap E.cells) (hm : xs.length ≤ maxLen) (hb : w.heap[b]? = some (.cells cs T (0, 0))) : w.ownsRow 0 T E.n (.slice (some ⟨b, 0, none⟩) xs.length xs.length) xs.length (xs.flatMap E.cells) := by
  refine ⟨length_flat xs, .inr ⟨b, xs.length, cs, rfl, Nat.zero_le _, hb, Nat.le_refl _, hm, ?_, ?_⟩⟩
  · rw [← Array.length_toList, hcs, length_flat]
  · rw [hcs, ← length_flat, List.take_length]
theorem Ef.bsl {t T : TypeId} {len : Nat} {parts : Array (Nat × Operand)} {vs : List Value} (E : Enc α) (xs : List α) (h : St w0 M w D) (k : ∀ b w', Keep w w' → St w0 M w' (Ch.row E T (some ⟨b, 0, none⟩) xs.length xs :: D) → K (putE ρ dst (.slice (some ⟨b, 0, none⟩) xs.length xs.length)) w')
    (ht : slB P t T E.n = true := by kernel_rfl) (hb : bslB P T len E.n ((parts.toList.map (·.1)).zip vs) = some (xs.flatMap E.cells).toArray := by kernel_rfl) (hl : xs.length = len := by rfl) (hm : xs.length ≤ maxLen := by first | decide | (simp only [List.length_cons, List.length_nil, maxLen]; omega)) :
    Ef r P N dst (.buildSlice t len parts) vs ρ ds w K Q := by
  subst hl
  refine Ef.of_run (v := .slice (some ⟨w.heap.size, 0, none⟩) xs.length xs.length) (w' := w.alloc (.cells (xs.flatMap E.cells).toArray T)) (by simp) (fun o e hop hv => ?_) (k _ _ (Keep.alloc _ _) (h.new (Keep.alloc _ _) ?_ ?_))
  · have h1 : (parts.map fun (i, x) => (i, e x)).toList = (parts.toList.map (·.1)).zip vs := by
      rw [← hv]
      simp only [Op.operands, Array.toList_map]
      generalize parts.toList = l
      induction l with
      | nil => rfl
      | cons p l ih => simp [ih]
    rw [← h1] at hb
    have := run_bsl (w := w) ht hb
    simp [execOp, hop, this]
  · exact flat_len_own (by simp) hm (heap_alloc_new w _)
  · intro b hb
    simp [Ch.row] at hb
    subst hb
    simp
end

/-! ### 3. cuts of lists -/
def cutA (A : Option Addr) (c l n : Nat) : Option Addr := if c = l then A else A.map (·.add (l * n))
theorem cutA_zero (A : Option Addr) (c n : Nat) : cutA A c 0 n = A := by
  unfold cutA
  split
  · rfl
  · cases A with
    | none => rfl
    | some a => simp [Addr.add]
section
variable {α : Type} {E : Enc α} {P : Program} {w : World} {A : Option Addr} {xs : List α}
theorem Rd.cut {c l h : Nat} (hr : Rd E w A xs) (hc : xs.length ≤ c) (hh : h ≤ xs.length) : Rd E w (cutA A c l E.n) ((xs.take h).drop l) := by
  by_cases hlt : l < h
  · have hA := hr.adr (by omega)
    have e : cutA A c l E.n = some ⟨pb A, pq A + l * E.n, none⟩ := by
      unfold cutA
      rw [if_neg (by omega), hA]
      simp [add_off, pb, pq]
    rw [e]
    refine ⟨fun _ => rfl, fun j x hj k u hu => ?_⟩
    rw [List.getElem?_drop, List.getElem?_take] at hj
    split at hj
    · have := hr.cell _ _ hj k u hu
      show w.cell? ⟨pb A, pq A + l * E.n + j * E.n + k, none⟩ = some u
      rw [show pq A + l * E.n + j * E.n + k = pq A + (l + j) * E.n + k by rw [Nat.add_mul]; omega]
      exact this
    · cases hj
  · have : (xs.take h).drop l = [] := List.drop_eq_nil_of_le (by simp; omega)
    rw [this]
    exact ⟨by simp, by simp⟩
theorem Yv.sl_ft {t e : TypeId} {n : Nat} {x y z : Operand} {m c k : Nat} {a b : Int} {k1 k2 : IntKind} (h0 : 0 ≤ a) (h1 : a ≤ b) (h2 : b ≤ c) (hk : k = b.toNat - a.toNat := by rfl) (ht : slB P t e n = true := by kernel_rfl) :
    Yv P w (.slice t x (some y) (some z) none) [(.slice A m c), (.int k1 a), (.int k2 b)] (.slice (cutA A c a.toNat n) k (c - a.toNat)) :=
  Yv.mk3 (x := x) (y := y) (z := z) (by simp) rfl fun o e w' hop hx hy hz _ => by
    subst hk
    have h3 : (a.toNat : Int) ≤ b := by omega
    have h4 : (0 : Int) ≤ b := by omega
    have h5 : max b 0 = b := by omega
    simp [execOp, hop, hx, hy, hz, Instr.sliceAt, Instr.slice, Instr.sliceBounds, Instr.sliceBound, asIntOf, run_underlying (slB_of ht).1, run_size (slB_of ht).2, h0, h1, h2, h4, h5, cutA]
theorem Yv.sl_f {t e : TypeId} {n : Nat} {x y : Operand} {m c k : Nat} {a : Int} {k1 : IntKind} (h0 : 0 ≤ a) (h1 : a ≤ m) (hk : k = m - a.toNat := by rfl) (ht : slB P t e n = true := by kernel_rfl) :
    Yv P w (.slice t x (some y) none none) [(.slice A m c), (.int k1 a)] (.slice (cutA A c a.toNat n) k (c - a.toNat)) :=
  Yv.mk2 (x := x) (y := y) (by simp) rfl fun o e w' hop hx hy _ => by
    subst hk
    simp [execOp, hop, hx, hy, Instr.sliceAt, Instr.slice, Instr.sliceBounds, Instr.sliceBound, asIntOf, run_underlying (slB_of ht).1, run_size (slB_of ht).2, h0, h1, cutA]
theorem Yv.sl_t {t e : TypeId} {n : Nat} {x z : Operand} {m c k : Nat} {b : Int} {k2 : IntKind} (h1 : 0 ≤ b) (h2 : b ≤ c) (hk : k = b.toNat := by rfl) (ht : slB P t e n = true := by kernel_rfl) :
    Yv P w (.slice t x none (some z) none) [(.slice A m c), (.int k2 b)] (.slice A k c) :=
  Yv.mk2 (x := x) (y := z) (by simp) rfl fun o e w' hop hx hz _ => by
    subst hk
    have := cutA_zero A c n
    unfold cutA at this
    simp [execOp, hop, hx, hz, Instr.sliceAt, Instr.slice, Instr.sliceBounds, Instr.sliceBound, asIntOf, run_underlying (slB_of ht).1, run_size (slB_of ht).2, h1, h2]
    simpa using this
/-- a whole element -/
theorem Yv.ldel [Inhabited α] {t : TypeId} {x : Operand} {b q : Nat} {i : Int} (hr : Rd E w A xs) (hb : b = pb A) (hq : q = pq A + i.toNat * E.n) (h0 : 0 ≤ i) (h1 : i < xs.length) (ht : agB P t E.n = true := by kernel_rfl) :
    Yv P w (.load t x) [(.pointer (some ⟨b, q, none⟩))] (.agg (E.cells (nth xs i)).toArray) := by
  subst hb hq
  exact Yv.lds (E.len _) (fun j v hj => hr.cell _ _ (nth_get h0 h1) j v hj) ht
end
/-! ### 4. elements written -/
theorem take_flat {α : Type} {E : Enc α} (xs : List α) (j : Nat) : (xs.flatMap E.cells).take (j * E.n) = (xs.take j).flatMap E.cells := by
  induction xs generalizing j with
  | nil => simp
  | cons x xs ih =>
    cases j with
    | zero => simp
    | succ j =>
      simp only [List.flatMap_cons, List.take_succ_cons]
      rw [List.take_append, E.len, show (j + 1) * E.n - E.n = j * E.n by rw [Nat.add_mul]; omega, ih]
      rw [List.take_of_length_le (by rw [E.len, Nat.add_mul]; omega)]
theorem drop_flat {α : Type} {E : Enc α} (xs : List α) (j : Nat) : (xs.flatMap E.cells).drop (j * E.n) = (xs.drop j).flatMap E.cells := by
  induction xs generalizing j with
  | nil => simp
  | cons x xs ih =>
    cases j with
    | zero => simp
    | succ j =>
      simp only [List.flatMap_cons, List.drop_succ_cons]
      rw [List.drop_append, E.len, show (j + 1) * E.n - E.n = j * E.n by rw [Nat.add_mul]; omega, ih]
      rw [List.drop_eq_nil_of_le (by rw [E.len, Nat.add_mul]; omega)]
      simp
section
variable {α : Type} {E : Enc α} {r : Option Nat} {P : Program} {N : Nat} {ρ : Env} {ds : List Deferred} {w w0 : World} {M : List Nat} {D : List Chunk} {K : Env → World → Prop} {Q : Post} {dst : Option Nat} {A : Option Addr} {T : TypeId} {c : Nat} {xs : List α}
/-- some cells of one element are written -/
theorem run_setRow {us : List Value} {j f : Nat} {x x' : α} (ho : w.ownsRow 0 T E.n (.slice A xs.length c) xs.length (xs.flatMap E.cells)) (hx : xs[j]? = some x) (hc : E.cells x' = (E.cells x).take f ++ us ++ (E.cells x).drop (f + us.length)) (hf : f + us.length ≤ E.n) (h1 : us.all (·.oneCell') = true) :
    ∃ w', (storeCells ⟨pb A, pq A + j * E.n + f, none⟩ us 0).run P w = .ok () w' ∧ w'.ownsRow 0 T E.n (.slice A (xs.set j x').length c) (xs.set j x').length ((xs.set j x').flatMap E.cells) ∧ w.grownBy w' (A.map (·.block)) ∧ w'.heap.size = w.heap.size := by
  have hlt : j < xs.length := (List.getElem?_eq_some_iff.1 hx).1
  cases A with
  | none => obtain ⟨h2, -, -⟩ := ownsRow_nil_inv ho; omega
  | some a =>
    obtain ⟨g, cur, rfl, hg, hnc, hcm, hcs, htake⟩ := ownsRow_some_inv ho
    simp only [pb, pq, Nat.zero_add]
    have hjn : j * E.n + E.n ≤ xs.length * E.n := by rw [← Nat.succ_mul]; exact Nat.mul_le_mul_right _ hlt
    have hcn : xs.length * E.n ≤ c * E.n := Nat.mul_le_mul_right _ hnc
    have hr := run_storeCells_at P g (j * E.n + f) T us 0 cur w hg (by omega) (by simpa using h1)
    simp only [Nat.add_zero] at hr
    refine ⟨_, hr, ⟨by rw [length_flat], .inr ⟨g, c, _, rfl, Nat.zero_le _, setRow_heap w g cur _ T _ hg, by simpa using hnc, hcm, ?_, ?_⟩⟩, ⟨rfl, rfl, rfl, by simp, fun k _ hk => setRow_other w g k _ (fun e => hk (by simp [e]))⟩, by simp⟩
    · simp only [List.size_toArray, List.length_append, List.length_take, List.length_drop, Array.length_toList]
      omega
    · have e1 : cur.toList = xs.flatMap E.cells ++ cur.toList.drop (xs.length * E.n) := by rw [← htake, List.take_append_drop]
      have hxs : xs.flatMap E.cells = (xs.take j).flatMap E.cells ++ E.cells x ++ (xs.drop (j + 1)).flatMap E.cells := by
        conv => lhs; rw [← List.take_append_drop j xs, List.flatMap_append, List.drop_eq_getElem_cons hlt]
        have : xs[j] = x := (List.getElem?_eq_some_iff.1 hx).2
        rw [this]
        simp
      have hset : (xs.set j x').flatMap E.cells = (xs.take j).flatMap E.cells ++ E.cells x' ++ (xs.drop (j + 1)).flatMap E.cells := by
        rw [List.set_eq_take_append_cons_drop, if_pos hlt]
        simp
      have l1 : ((xs.take j).flatMap E.cells).length = j * E.n := by rw [length_flat, List.length_take, Nat.min_eq_left (Nat.le_of_lt hlt)]
      have l2 : (E.cells x).length = E.n := E.len x
      have l3 : (E.cells x').length = E.n := E.len x'
      rw [hset, hc]
      have t1 : cur.toList.take (j * E.n + f) = (xs.take j).flatMap E.cells ++ (E.cells x).take f := by
        rw [e1, hxs]
        simp only [List.append_assoc]
        rw [List.take_append, l1, List.take_of_length_le (by omega), show j * E.n + f - j * E.n = f by omega, List.take_append_of_le_length (by omega)]
      have t2 : cur.toList.drop (j * E.n + f + us.length) = (E.cells x).drop (f + us.length) ++ ((xs.drop (j + 1)).flatMap E.cells ++ cur.toList.drop (xs.length * E.n)) := by
        conv => lhs; rw [e1, hxs]
        simp only [List.append_assoc]
        rw [List.drop_append, l1, List.drop_eq_nil_of_le (by omega), show j * E.n + f + us.length - j * E.n = f + us.length by omega, List.drop_append_of_le_length (by omega)]
        simp
      simp only [t1, t2]
      have hlen : (xs.set j x').length * E.n = ((xs.take j).flatMap E.cells ++ ((E.cells x).take f ++ us ++ (E.cells x).drop (f + us.length)) ++ (xs.drop (j + 1)).flatMap E.cells).length := by
        rw [← hc, ← hset, length_flat]
      rw [hlen]
      have : (xs.take j).flatMap E.cells ++ (E.cells x).take f ++ us ++ ((E.cells x).drop (f + us.length) ++ ((xs.drop (j + 1)).flatMap E.cells ++ cur.toList.drop (xs.length * E.n))) = ((xs.take j).flatMap E.cells ++ ((E.cells x).take f ++ us ++ (E.cells x).drop (f + us.length)) ++ (xs.drop (j + 1)).flatMap E.cells) ++ cur.toList.drop (xs.length * E.n) := by simp
      simp only [this]
      exact List.take_left
/-- a whole element is written -/
theorem Ef.setEl [Inhabited α] {t : TypeId} {x y : Operand} {b q : Nat} {j : Int} (h : St w0 M w D) (i : Nat) (x' : α) (hb : b = pb A) (hq : q = pq A + j.toNat * E.n) (h0 : 0 ≤ j) (h1 : j < xs.length) (k : ∀ w', St w0 M w' (Ch.row E T A c (xs.set j.toNat x') :: D.eraseIdx i) → K (putE ρ dst undef) w')
    (hC : D[i]? = some (Ch.row E T A c xs) := by rfl) (hone : ∀ z, (E.cells z).all (·.oneCell') = true := by exact fun _ => rfl) (ht : agB P t E.n = true := by kernel_rfl) :
    Ef r P N dst (.store t x y) [.pointer (some ⟨b, q, none⟩), .agg (E.cells x').toArray] ρ ds w K Q := by
  subst hb hq
  have hp := h.pull i hC
  obtain ⟨w', hr, ho, hg, hs⟩ := run_setRow (P := P) (us := E.cells x') (f := 0) (x' := x') (hp.at_ 0) (nth_get h0 h1) (by rw [E.len, List.drop_eq_nil_of_le (by rw [E.len]; omega)]; simp) (by rw [E.len]; omega) (hone _)
  refine Ef.of_skip (w' := w') (by simp) (fun o e ho he => ?_) (k w' (hp.row_upd ho (.inl ⟨rfl, rfl, hg, hs⟩)))
  have h2 : e x = .pointer (some ⟨pb A, pq A + j.toNat * E.n, none⟩) ∧ e y = .agg (E.cells x').toArray := by simpa [Op.operands] using he
  simp only [Nat.add_zero] at hr
  simp [execOp, ho, h2.1, h2.2, Instr.storeAt, Instr.sureAddr, storeVar, Value.cells, run_size (agB_of ht).2, E.len, hr]
/-- one cell of an element is written -/
theorem Ef.setFld [Inhabited α] {t : TypeId} {x y : Operand} {b q f : Nat} {j : Int} {v : Value} (h : St w0 M w D) (i : Nat) (x' : α) (hb : b = pb A) (hq : q = pq A + j.toNat * E.n + f) (h0 : 0 ≤ j) (h1 : j < xs.length) (k : ∀ w', St w0 M w' (Ch.row E T A c (xs.set j.toNat x') :: D.eraseIdx i) → K (putE ρ dst undef) w')
    (hx : E.cells x' = (E.cells (nth xs j)).take f ++ [v] ++ (E.cells (nth xs j)).drop (f + 1) := by rfl)
    (hC : D[i]? = some (Ch.row E T A c xs) := by rfl) (hf : Nat.blt f E.n = true := by rfl) (hone : v.oneCell' = true := by rfl) (hv : v.cells = #[v] := by rfl) (ht : sizeB P t 1 = true := by kernel_rfl) :
    Ef r P N dst (.store t x y) [.pointer (some ⟨b, q, none⟩), v] ρ ds w K Q := by
  subst hb hq
  have hp := h.pull i hC
  obtain ⟨w', hr, ho, hg, hs⟩ := run_setRow (P := P) (us := [v]) (f := f) (hp.at_ 0) (nth_get h0 h1) hx (by have := Nat.le_of_ble_eq_true hf; simpa using this) (by simpa using hone)
  refine Ef.of_skip (w' := w') (by simp) (fun o e ho he => ?_) (k w' (hp.row_upd ho (.inl ⟨rfl, rfl, hg, hs⟩)))
  have h2 : e x = .pointer (some ⟨pb A, pq A + j.toNat * E.n + f, none⟩) ∧ e y = v := by simpa [Op.operands] using he
  simp [execOp, ho, h2.1, h2.2, Instr.storeAt, Instr.sureAddr, storeVar, hv, run_size (sizeB_of ht), hr]
end

/-! ### 5. structs held against one another -/
/-- all fields are numbers, texts or truth values, one cell each -/
def flatF (P : Program) : List Field → Nat → Bool
  | [], _ => true
  | f :: fs, n => Nat.beq f.offset n && (f.name != "_") && (match P.underlying f.type with | some (.int _) | some .string | some .bool => true | _ => false) && (match P.info? f.type with | some i => Nat.beq i.size 1 | none => false) && flatF P fs (n + 1)
def flatB (P : Program) (t : TypeId) : Bool := match P.underlying t with
  | some (.struct fs) => flatF P fs.toList 0 && !(P.stoodInHeld t) && !(P.eqGuardType P.depth t)
  | _ => false
theorem flatB_of {P : Program} {t : TypeId} (h : flatB P t = true) : P.underlying t = some (.struct (P.fieldsOf t)) ∧ flatF P (P.fieldsOf t).toList 0 = true ∧ P.stoodInHeld t = false ∧ P.eqGuardType P.depth t = false := by
  unfold flatB at h
  unfold Program.fieldsOf
  cases hu : P.underlying t with
  | none => rw [hu] at h; cases h
  | some d =>
    rw [hu] at h
    cases d with
    | struct fs =>
      simp only [Bool.and_eq_true, Bool.not_eq_true'] at h
      exact ⟨rfl, h.1.1, h.1.2, h.2⟩
    | _ => cases h
def vEq : Value → Value → Option Bool
  | .int k a, .int k' b => if k = k' then some (a == b) else none
  | .string a, .string b => some (a.toList == b.toList)
  | .bool a, .bool b => some (a == b)
  | _, _ => none
/-- the cells of two flat structs are of the same kinds, one by one -/
def vEqs : List Value → List Value → Option Bool
  | [], [] => some true
  | x :: xs, y :: ys => match vEq x y with
    | some true => vEqs xs ys
    | some false => match vEqs xs ys with
      | some _ => some false
      | none => none
    | none => none
  | _, _ => none
theorem vEq_int (k : IntKind) (a b : Int) : vEq (.int k a) (.int k b) = some (decide (a = b)) := by simp only [vEq, if_true]; congr 1
theorem vEq_S (a b : Bs) : vEq (S a) (S b) = some (decide (a = b)) := by
  show some (ByteArray.toList ⟨⟨a⟩⟩ == ByteArray.toList ⟨⟨b⟩⟩) = _
  rw [toList_mk, toList_mk]
  by_cases h : a = b <;> simp [h]
theorem vEq_bool (a b : Bool) : vEq (.bool a) (.bool b) = some (decide (a = b)) := by
  cases a <;> cases b <;> rfl
theorem vEqs_cons {x y : Value} {xs ys : List Value} {b c : Bool} (h : vEq x y = some b) (k : vEqs xs ys = some c) : vEqs (x :: xs) (y :: ys) = some (b && c) := by
  simp only [vEqs, h, k]
  cases b <;> rfl
def kindOk : TypeDesc → Value → Bool
  | .int _, .int _ _ => true
  | .string, .string _ => true
  | .bool, .bool _ => true
  | _, _ => false
theorem run_vEq {P : Program} {w : World} {d : Nat} {t : TypeId} {x y : Value} {b : Bool} {d' : TypeDesc} (hu : P.underlying t = some d') (hk : kindOk d' x = true) (h : vEq x y = some b) : (Op.equalIn (d + 1) t x y).run P w = .ok b w := by
  cases x with
  | int k a =>
    cases d' with
    | int k2 =>
      cases y with
      | int k' c =>
        simp only [vEq] at h
        split at h
        · rename_i he; subst he
          injection h with h; subst h
          rw [run_equalIn_int _ _ _ _ _ _ _ hu]
        · cases h
      | _ => simp [vEq] at h
    | _ => simp [kindOk] at hk
  | string a =>
    cases d' with
    | string =>
      cases y with
      | string c =>
        simp only [vEq, Option.some.injEq] at h
        subst h
        rw [run_equalIn_string _ _ _ _ _ hu]
      | _ => simp [vEq] at h
    | _ => simp [kindOk] at hk
  | bool a =>
    cases d' with
    | bool =>
      cases y with
      | bool c =>
        simp only [vEq, Option.some.injEq] at h
        subst h
        rw [run_equalIn_bool' _ _ _ _ _ hu]
      | _ => simp [vEq] at h
    | _ => simp [kindOk] at hk
  | _ => simp [vEq] at h
def kindsOk (P : Program) : List Field → List Value → Bool
  | [], [] => true
  | f :: fs, v :: vs => (match P.underlying f.type with | some d => kindOk d v | none => false) && kindsOk P fs vs
  | _, _ => false
theorem run_part {P : Program} {w : World} {t : TypeId} {cs : Array Value} {n : Nat} {v : Value} (hs : (P.info? t).map (·.size) = some 1) (hsc : Sc P t) (hv : cs[n]? = some v) : (part t cs n).run P w = .ok v w := by
  have h1 := run_isAgg_sc hsc w
  have h2 := run_size hs w
  simp [part, h1, h2, hv]
theorem run_eqF {P : Program} {w : World} {d : Nat} : ∀ (fs : List Field) (us vs : List Value) (n : Nat) (xs ys : Array Value) (b : Bool), flatF P fs n = true → kindsOk P fs us = true → vEqs us vs = some b → (∀ j v, us[j]? = some v → xs[n + j]? = some v) → (∀ j v, vs[j]? = some v → ys[n + j]? = some v) →
    (Op.eqFields (d + 1) xs ys fs).run P w = .ok b w
  | [], [], [], n, xs, ys, b, _, _, h, _, _ => by simp [vEqs] at h; subst h; simp [Op.eqFields]
  | [], [], _ :: _, _, _, _, _, _, _, h, _, _ => by simp [vEqs] at h
  | [], _ :: _, _, _, _, _, _, _, h, _, _, _ => by simp [kindsOk] at h
  | _ :: _, [], _, _, _, _, _, _, h, _, _, _ => by simp [kindsOk] at h
  | _ :: _, _ :: _, [], _, _, _, _, _, _, h, _, _ => by simp [vEqs] at h
  | f :: fs, u :: us, v :: vs, n, xs, ys, b, hf, hk, h, hx, hy => by
    simp only [flatF, Bool.and_eq_true] at hf
    obtain ⟨⟨⟨⟨h1, h2⟩, h3⟩, h4⟩, h5⟩ := hf
    simp only [kindsOk, Bool.and_eq_true] at hk
    obtain ⟨hk1, hk2⟩ := hk
    cases hu : P.underlying f.type with
    | none => rw [hu] at hk1; cases hk1
    | some d' =>
      rw [hu] at hk1 h3
      have hsz : (P.info? f.type).map (·.size) = some 1 := by
        cases hi : P.info? f.type with
        | none => rw [hi] at h4; cases h4
        | some i => rw [hi] at h4; simpa using h4
      have hsc : Sc P f.type := ⟨d', hu, by cases d' <;> simp_all⟩
      have hoff : f.offset = n := Nat.eq_of_beq_eq_true h1
      have px := run_part (w := w) hsz hsc (cs := xs) (n := n) (hx 0 u rfl)
      have py := run_part (w := w) hsz hsc (cs := ys) (n := n) (hy 0 v rfl)
      have hne : f.name ≠ "_" := by simpa using h2
      simp only [vEqs] at h
      cases hve : vEq u v with
      | none => rw [hve] at h; cases h
      | some c =>
        rw [hve] at h
        have he := run_vEq (d := d) (w := w) hu hk1 hve
        simp only [Op.eqFields, hne, hoff, Sem.run_bind, px, py, he, Result.andThen_ok]
        cases c with
        | false =>
          simp only at h
          cases hr : vEqs us vs with
          | none => rw [hr] at h; cases h
          | some b' => rw [hr] at h; injection h with h; subst h; simp [px, py, he, hne]
        | true =>
          simp only at h
          have ih := run_eqF (d := d) (w := w) fs us vs (n + 1) xs ys b h5 hk2 h (fun j z hz => by rw [show n + 1 + j = n + (j + 1) by omega]; exact hx (j + 1) z (by simpa using hz)) (fun j z hz => by rw [show n + 1 + j = n + (j + 1) by omega]; exact hy (j + 1) z (by simpa using hz))
          simp [px, py, he, ih, hne]
def flatK (P : Program) (t : TypeId) (us : List Value) : Bool := kindsOk P (P.fieldsOf t).toList us
theorem run_flat {P : Program} {w : World} {t : TypeId} {us vs : List Value} {b : Bool} (ht : flatB P t = true) (hk : flatK P t us = true) (h : vEqs us vs = some b) : (Op.equalIn 10000 t (.agg us.toArray) (.agg vs.toArray)).run P w = .ok b w := by
  obtain ⟨h1, h2, h3, h4⟩ := flatB_of ht
  rw [show (10000 : Nat) = 9998 + 1 + 1 from rfl, run_equalIn_struct _ _ _ _ _ h1 h3]
  exact run_eqF _ us vs 0 _ _ b h2 hk h (fun j v hj => by simpa using hj) (fun j v hj => by simpa using hj)
theorem Yv.eqs {P : Program} {w : World} {t u : TypeId} {x y : Operand} {us vs : List Value} {b : Bool} (h : vEqs us vs = some b) (ht : flatB P t = true := by kernel_rfl) (hk : flatK P t us = true := by kernel_rfl) : Yv P w (.binOp .eql t x y u) [(.agg us.toArray), (.agg vs.toArray)] (.bool b) :=
  Yv.mk2 (x := x) (y := y) (by simp) rfl fun o e w' hop hx hy _ => by
    have h4 := (flatB_of ht).2.2.2
    simp [execOp, hop, hx, hy, run_eqGuard_agg w' _ _ _ _ _ _ h4, run_eql_struct, run_flat ht hk h]
theorem Yv.nes {P : Program} {w : World} {t u : TypeId} {x y : Operand} {us vs : List Value} {b : Bool} (h : vEqs us vs = some b) (ht : flatB P t = true := by kernel_rfl) (hk : flatK P t us = true := by kernel_rfl) : Yv P w (.binOp .neq t x y u) [(.agg us.toArray), (.agg vs.toArray)] (.bool (!b)) :=
  Yv.mk2 (x := x) (y := y) (by simp) rfl fun o e w' hop hx hy _ => by
    have h4 := (flatB_of ht).2.2.2
    simp [execOp, hop, hx, hy, run_eqGuard_agg w' _ _ _ _ _ _ h4, run_neq_struct, run_flat ht hk h]
end Go.Proofs.YtgjhbapbomdpbaaDoor.Sh
/- A walk over the model's code with a small environment (generic: over any program). Part J: calls that keep what lies; pieces that a truth value guards; variables that are written once; results in cells. -/
set_option linter.unusedVariables false
set_option linter.unusedSimpArgs false
namespace Go.Proofs.YtgjhbapbomdpbaaDoor.Sh
open Go.RowKit

/-- number f is a function with a body that is entered by a call -/
def FnOk (P : Program) (f : FuncId) : Prop := ∃ fn, P.funcs[f]? = some fn ∧ fn.body.isSome = true ∧ (fn.name == "runtime.NumGoroutine") = false
theorem FnOk.of {P : Program} {f : FuncId} {fn : Func} (hf : P.funcs[f]? = some fn) (hb : fn.body.isSome = true := by rfl) (hn : (fn.name == "runtime.NumGoroutine") = false := by kernel_rfl) : FnOk P f := ⟨fn, hf, hb, hn⟩
/-- f, called at vs in any world that keeps w0, hands back v and keeps what lies -/
def Cv (P : Program) (f : FuncId) (vs : List Value) (v : Value) (w0 : World) : Prop := ∀ w, Keep w0 w → Calls P f vs.toArray w fun e w' => e = .returned v ∧ Keep w w'
theorem Cv.keep {P : Program} {f : FuncId} {vs : List Value} {v : Value} {w0 w1 : World} (h : Cv P f vs v w0) (k : Keep w0 w1) : Cv P f vs v w1 := fun w hw => h w (k.trans hw)
section
variable {r : Option Nat} {P : Program} {N : Nat} {ops : Array Oper} {ρ ρ' : Env} {ds : List Deferred} {w w0 : World} {Q : Post} {l js : List Nat} {id i d t : Nat} {dst : Option Nat} {op : Op} {vs : List Value}
theorem Ef.quiet {f : FuncId} {x : Operand} {args : Array Operand} {ts : Array TypeId} {caps : List Value} {us : List Value} {v : Value} {K : Env → World → Prop} (h : Cv P f (us ++ caps) v w0) (hk : Keep w0 w) (hf : FnOk P f)
    (k : ∀ w', Keep w w' → K (putE ρ dst v) w') :
    Ef r P N dst (.call { callee := .value x, args := args, argTypes := ts }) (.func (.func f) #[] caps.toArray :: us) ρ ds w K Q := by
  obtain ⟨fn, hf, hb, hn⟩ := hf
  refine Ef.callv hf ?_ hb hn
  have := h w hk
  simp only [← List.append_toArray] at this
  refine Calls.mono this ?_
  rintro e w' ⟨rfl, hk'⟩
  exact k w' hk'
/-! ### fixed order -/
theorem WO.le (h : WO r P N ops l ρ' ds w Q) (hl : Le ρ' ρ) : WO r P N ops l ρ ds w Q := fun a ha => h a (ha.le hl)
/-- a call that keeps what lies -/
theorem WO.cv {f : FuncId} {x : Operand} {args : Array Operand} {ts : Array TypeId} {caps : List Value} {us : List Value} {v : Value} (hc : cop N ops ρ i = some (dst, .call { callee := .value x, args := args, argTypes := ts }, .func (.func f) #[] caps.toArray :: us)) (h : Cv P f (us ++ caps) v w0) (hk : Keep w0 w) (hf : FnOk P f)
    (k : ∀ w', Keep w w' → WO r P N ops l (putE ρ dst v) ds w' Q) : WO r P N ops (i :: l) ρ ds w Q :=
  WO.act hc (Ef.quiet h hk hf k)
/-- the end of a piece that is walked in two ways -/
theorem WO.e {v : Value} (n : Nat) (k : WO r P N ops l ((d, v) :: ρ') ds w Q) (hv : lk ρ d = some v := by rfl) (h1 : ρ.drop n = ρ' := by rfl) (h2 : disjK (ρ.take n) ρ' = true := by kernel_rfl) : WO r P N ops l ρ ds w Q := k.le ((Le.drop n h1 h2).put hv)
theorem WO.and (t d : Nat) {g b : Bool} (hg : lk ρ t = some (.bool g) := by rfl)
    (ht : g = true → (∀ w', Keep w w' → WO r P N ops js ((d, .bool b) :: (t, .bool true) :: ρ) ds w' Q) → WO r P N ops l ((t, .bool true) :: ρ) ds w Q)
    (hf : g = false → (∀ w', Keep w w' → WO r P N ops js ((d, .bool false) :: (t, .bool false) :: ρ) ds w' Q) → WO r P N ops l ((t, .bool false) :: ρ) ds w Q)
    (k : ∀ w', Keep w w' → WO r P N ops js ((d, .bool (g && b)) :: ρ) ds w' Q) : WO r P N ops l ρ ds w Q := by
  cases g with
  | true => exact (ht rfl fun w' hk => (k w' hk).le (Le.cons (fun s u hs => by
      rw [lk_cons]
      split
      · rename_i e; subst e; rw [hg] at hs; exact hs
      · exact hs) d (.bool b))).le ((Le.refl ρ).put hg)
  | false => exact (hf rfl fun w' hk => (k w' hk).le (Le.cons (fun s u hs => by
      rw [lk_cons]
      split
      · rename_i e; subst e; rw [hg] at hs; exact hs
      · exact hs) d (.bool false))).le ((Le.refl ρ).put hg)
theorem WO.or (t d : Nat) {g b : Bool} (hg : lk ρ t = some (.bool g) := by rfl)
    (hf : g = false → (∀ w', Keep w w' → WO r P N ops js ((d, .bool b) :: (t, .bool false) :: ρ) ds w' Q) → WO r P N ops l ((t, .bool false) :: ρ) ds w Q)
    (ht : g = true → (∀ w', Keep w w' → WO r P N ops js ((d, .bool true) :: (t, .bool true) :: ρ) ds w' Q) → WO r P N ops l ((t, .bool true) :: ρ) ds w Q)
    (k : ∀ w', Keep w w' → WO r P N ops js ((d, .bool (g || b)) :: ρ) ds w' Q) : WO r P N ops l ρ ds w Q := by
  cases g with
  | false => exact (hf rfl fun w' hk => (k w' hk).le (Le.cons (fun s u hs => by
      rw [lk_cons]
      split
      · rename_i e; subst e; rw [hg] at hs; exact hs
      · exact hs) d (.bool b))).le ((Le.refl ρ).put hg)
  | true => exact (ht rfl fun w' hk => (k w' hk).le (Le.cons (fun s u hs => by
      rw [lk_cons]
      split
      · rename_i e; subst e; rw [hg] at hs; exact hs
      · exact hs) d (.bool true))).le ((Le.refl ρ).put hg)
/-- a region as a list of its numbers; what is told of the world behind it: it keeps what lay -/
theorem Wp.regionK {l : List Nat} (h : WO r P N ops l ρ ds w Q) (hl : List.range ops.size = l := by rfl) : Wp r P N (.region id ops false) ρ ds w Q := Wp.regionL h hl
/-- a variable that takes a value and is never written again -/
def Cells (w : World) (b : Nat) (vs : List Value) : Prop := ∀ j v, vs[j]? = some v → w.cell? ⟨b, j, none⟩ = some v
theorem Cells.keep {w w' : World} {b : Nat} {vs : List Value} (h : Cells w b vs) (k : Keep w w') : Cells w' b vs := fun j v hj => k.cell (h j v hj)
theorem Cells.at_ {w : World} {b : Nat} {vs : List Value} (h : Cells w b vs) (j : Nat) {v : Value} (hv : vs[j]? = some v := by rfl) : w.cell? ⟨b, j, none⟩ = some v := h j v hv
theorem Cells.new (w : World) (t : TypeId) (vs : List Value) : Cells (w.alloc (.cells vs.toArray t)) w.heap.size vs := fun j v hj => cells_cell (T := t) (vs := vs) (heap_alloc_new w _) j v hj
theorem WO.box {ty : TypeId} {x : Operand} {v : Value} (hc : cop N ops ρ i = some (dst, .box ty x, [v])) (k : ∀ b w', Keep w w' → w.heap.size ≤ b → Cells w' b v.cells.toList → WO r P N ops l (putE ρ dst (.pointer (some ⟨b, 0, none⟩))) ds w' Q) : WO r P N ops (i :: l) ρ ds w Q :=
  WO.act hc (Ef.of_run (v := .pointer (some ⟨w.heap.size, 0, none⟩)) (w' := w.alloc (.cells v.cells.toList.toArray ty)) (by simp)
    (fun o e ho hv => by
      have hx : e x = v := by simpa [Op.operands] using hv
      simp [execOp, ho, hx, Instr.box, newVar, newRow]) (k _ _ (Keep.alloc _ _) (Nat.le_refl _) (Cells.new w ty _)))
/-- a whole struct out of such a variable -/
theorem Yv.ldb {n b : Nat} {x : Operand} {ty : TypeId} {vs : List Value} (h : Cells w b vs) (hn : vs.length = n := by rfl) (ht : agB P ty n = true := by kernel_rfl) : Yv P w (.load ty x) [(.pointer (some ⟨b, 0, none⟩))] (.agg vs.toArray) :=
  Yv.lds hn (fun j v hj => by rw [Nat.zero_add]; exact h j v hj) ht
end
/-! ### an order that is drawn -/
section
variable {r : Option Nat} {P : Program} {N : Nat} {ops : Array Oper} {ρ ρ' : Env} {ds : List Deferred} {w w0 : World} {Q : Post} {tail : List Nat} {listed listed' : Array Bool} {id i d t : Nat} {dst : Option Nat}
theorem WD.le (h : WD r P N ops tail listed ρ' ds w Q) (hl : Le ρ' ρ) : WD r P N ops tail listed ρ ds w Q := fun a ha => h a (ha.le hl)
theorem WD.cv (i : Nat) {f : FuncId} {x : Operand} {args : Array Operand} {ts : Array TypeId} {caps : List Value} {us : List Value} {v : Value} (hc : cop N ops ρ i = some (dst, .call { callee := .value x, args := args, argTypes := ts }, .func (.func f) #[] caps.toArray :: us)) (h : Cv P f (us ++ caps) v w0) (hk : Keep w0 w) (hf : FnOk P f)
    (k : ∀ w', Keep w w' → WD r P N ops tail (listed.setIfInBounds i true) (putE ρ dst v) ds w' Q) (hl : Region.ready .any ops listed = [i] := by kernel_rfl) : WD r P N ops tail listed ρ ds w Q :=
  WD.act i hc (Ef.quiet h hk hf (fun w' hk' => ⟨fun _ => hk', k w' hk'⟩)) hl
theorem WD.e {v : Value} (n : Nat) (k : WD r P N ops tail listed' ((d, v) :: ρ') ds w Q) (hv : lk ρ d = some v := by rfl) (h1 : ρ.drop n = ρ' := by rfl) (h2 : disjK (ρ.take n) ρ' = true := by kernel_rfl) (hl : listed = listed' := by kernel_rfl) : WD r P N ops tail listed ρ ds w Q := by
  subst hl
  exact k.le ((Le.drop n h1 h2).put hv)
theorem WD.and (is : List Nat) (t d : Nat) {g b : Bool} (hg : lk ρ t = some (.bool g) := by rfl)
    (ht : g = true → (∀ w', Keep w w' → WD r P N ops tail (marks listed is) ((d, .bool b) :: (t, .bool true) :: ρ) ds w' Q) → WD r P N ops tail listed ((t, .bool true) :: ρ) ds w Q)
    (hf : g = false → (∀ w', Keep w w' → WD r P N ops tail (marks listed is) ((d, .bool false) :: (t, .bool false) :: ρ) ds w' Q) → WD r P N ops tail listed ((t, .bool false) :: ρ) ds w Q)
    (k : ∀ w', Keep w w' → WD r P N ops tail (marks listed is) ((d, .bool (g && b)) :: ρ) ds w' Q) : WD r P N ops tail listed ρ ds w Q := by
  cases g with
  | true => exact (ht rfl fun w' hk => (k w' hk).le (Le.cons (fun s u hs => by
      rw [lk_cons]
      split
      · rename_i e; subst e; rw [hg] at hs; exact hs
      · exact hs) d (.bool b))).le ((Le.refl ρ).put hg)
  | false => exact (hf rfl fun w' hk => (k w' hk).le (Le.cons (fun s u hs => by
      rw [lk_cons]
      split
      · rename_i e; subst e; rw [hg] at hs; exact hs
      · exact hs) d (.bool false))).le ((Le.refl ρ).put hg)
theorem WD.or (is : List Nat) (t d : Nat) {g b : Bool} (hg : lk ρ t = some (.bool g) := by rfl)
    (hf : g = false → (∀ w', Keep w w' → WD r P N ops tail (marks listed is) ((d, .bool b) :: (t, .bool false) :: ρ) ds w' Q) → WD r P N ops tail listed ((t, .bool false) :: ρ) ds w Q)
    (ht : g = true → (∀ w', Keep w w' → WD r P N ops tail (marks listed is) ((d, .bool true) :: (t, .bool true) :: ρ) ds w' Q) → WD r P N ops tail listed ((t, .bool true) :: ρ) ds w Q)
    (k : ∀ w', Keep w w' → WD r P N ops tail (marks listed is) ((d, .bool (g || b)) :: ρ) ds w' Q) : WD r P N ops tail listed ρ ds w Q := by
  cases g with
  | false => exact (hf rfl fun w' hk => (k w' hk).le (Le.cons (fun s u hs => by
      rw [lk_cons]
      split
      · rename_i e; subst e; rw [hg] at hs; exact hs
      · exact hs) d (.bool b))).le ((Le.refl ρ).put hg)
  | true => exact (ht rfl fun w' hk => (k w' hk).le (Le.cons (fun s u hs => by
      rw [lk_cons]
      split
      · rename_i e; subst e; rw [hg] at hs; exact hs
      · exact hs) d (.bool true))).le ((Le.refl ρ).put hg)
end
/-! ### results in cells -/
theorem resAgg {P : Program} {fn : Func} {N n : Nat} {ρ : Env} {w : World} {t b : Nat} {ty : TypeId} {vs : List Value} (h : fn.results = #[.cell t ty]) (hp : lk ρ t = some (.pointer (some ⟨b, 0, none⟩)) := by rfl) (hc : Cells w b vs) (hn : vs.length = n := by rfl) (ht : agB P ty n = true := by kernel_rfl) : Res P fn N ρ w (.agg vs.toArray) := fun a ds ha => by
  have h1 := ha.val t _ hp
  have h2 : (loadVar ty ⟨b, 0, none⟩).run P w = .ok (.agg vs.toArray) w := run_loadVar_ag (agB_of ht) ⟨b, 0, none⟩ vs hn (fun j v hj => by rw [add_off, Nat.zero_add]; exact hc j v hj)
  simp only [results, h]
  simp at h1
  simp [h1, h2, asAddr]
end Go.Proofs.YtgjhbapbomdpbaaDoor.Sh
/- A walk over the model's code with a small environment (generic: over any program). Part K: numbers of whatever kind, conversions, truth values held against one another. -/
set_option linter.unusedVariables false
set_option linter.unusedSimpArgs false
namespace Go.Proofs.YtgjhbapbomdpbaaDoor.Sh
open Go.RowKit
section
variable {P : Program} {w : World}
theorem Yv.subk {kd : IntKind} {t u : TypeId} {x y : Operand} {a b : Int} (hr : kd.wrap (a - b) = a - b) : Yv P w (.binOp .sub t x y u) [(.int kd a), (.int kd b)] (.int kd (a - b)) :=
  Yv.mk2 (x := x) (y := y) (by simp) rfl fun o e w' hop hx hy _ => by simp [execOp, hop, hx, hy, binOp, eqGuard, Op.intArith, hr]
theorem Yv.addk {kd : IntKind} {t u : TypeId} {x y : Operand} {a b : Int} (hr : kd.wrap (a + b) = a + b) : Yv P w (.binOp .add t x y u) [(.int kd a), (.int kd b)] (.int kd (a + b)) :=
  Yv.mk2 (x := x) (y := y) (by simp) rfl fun o e w' hop hx hy _ => by simp [execOp, hop, hx, hy, binOp, eqGuard, Op.intArith, hr]
theorem wrap_u8 {a : Int} (h : 0 ≤ a ∧ a ≤ 255) : IntKind.u8.wrap a = a := by
  simp [IntKind.wrap, IntKind.bits, IntKind.signed]
  omega
theorem Yv.conv {t d : TypeId} {kd kd' : IntKind} {x : Operand} {a : Int} (hr : kd'.wrap a = a) (hs : (P.underlying t).isSome = true := by kernel_rfl) (hd : P.underlying d = some (.int kd') := by kernel_rfl) : Yv P w (.convert t d x) [(.int kd a)] (.int kd' a) :=
  Yv.mk1 (x := x) (by simp) rfl fun o e w' hop hx _ => by
    obtain ⟨d', hd'⟩ := Option.isSome_iff_exists.mp hs
    simp [execOp, hop, hx, convert, run_underlying hd', run_underlying hd, Conv.intToInt, hr]
def bcmp : BinOp → Bool → Bool → Option Bool
  | .eql, a, b => some (a == b) | .neq, a, b => some (a != b) | _, _, _ => none
theorem Yv.bcm {q : BinOp} {t u : TypeId} {x y : Operand} {a b : Bool} (c : Bool) (hc : bcmp q a b = some c) (ht : (match P.underlying t with | some .bool => true | _ => false) = true := by kernel_rfl) : Yv P w (.binOp q t x y u) [(.bool a), (.bool b)] (.bool c) :=
  Yv.mk2 (x := x) (y := y) (by simp) rfl fun o e w' hop hx hy _ => by
    have hu : P.underlying t = some .bool := by
      cases hd : P.underlying t with
      | none => rw [hd] at ht; cases ht
      | some d => rw [hd] at ht; cases d <;> simp_all
    cases q <;> simp only [bcmp, Option.some.injEq] at hc <;> try cases hc
    all_goals (try subst hc)
    all_goals
      have heq : (Op.equal t (.bool a) (.bool b)).run P w' = .ok (a == b) w' := run_equalIn_bool' w' 9999 t a b hu
      simp [execOp, hop, hx, hy, binOp, eqGuard, heq, bne]
/-- bits in common -/
def andI (kd : IntKind) (a b : Int) : Int := kd.wrap (BitVec.ofInt kd.bits a &&& BitVec.ofInt kd.bits b).toNat
theorem Yv.and {kd : IntKind} {t u : TypeId} {x y : Operand} {a b : Int} : Yv P w (.binOp .and t x y u) [(.int kd a), (.int kd b)] (.int kd (andI kd a b)) :=
  Yv.mk2 (x := x) (y := y) (by simp) rfl fun o e w' hop hx hy _ => by simp [execOp, hop, hx, hy, binOp, eqGuard, Op.intBits, andI]
theorem Yv.shr {kd k2 : IntKind} {t u : TypeId} {x y : Operand} {a n : Int} (h0 : 0 ≤ n) : Yv P w (.binOp .shr t x y u) [(.int kd a), (.int k2 n)] (.int kd (a / 2 ^ min n.toNat kd.bits)) :=
  Yv.mk2 (x := x) (y := y) (by simp) rfl fun o e w' hop hx hy _ => by simp [execOp, hop, hx, hy, binOp, eqGuard, shift_shr_any _ _ _ _ h0]
theorem andI_mask (a : Int) (m : Nat) (hm : m < 4611686018427387904) : 0 ≤ andI .i64 a m ∧ andI .i64 a m ≤ m := by
  have e : (BitVec.ofInt 64 a &&& BitVec.ofInt 64 (m : Int)).toNat = (BitVec.ofInt 64 a).toNat &&& m := by
    rw [BitVec.toNat_and, BitVec.ofInt_natCast, BitVec.toNat_ofNat, Nat.mod_eq_of_lt (by omega)]
  have h := Nat.and_le_right (n := (BitVec.ofInt 64 a).toNat) (m := m)
  have w : andI .i64 a m = (((BitVec.ofInt 64 a).toNat &&& m : Nat) : Int) := by
    unfold andI
    show IntKind.i64.wrap ((BitVec.ofInt 64 a &&& BitVec.ofInt 64 (m : Int)).toNat : Int) = _
    rw [e]
    exact wrapI ⟨by omega, by omega⟩
  rw [w]
  omega
/-- the rest by a positive number -/
theorem Yv.rem {t u : TypeId} {x y : Operand} {a b : Int} (h0 : 0 ≤ a) (h1 : 0 < b) (h2 : b ≤ 9223372036854775807) : Yv P w (.binOp .rem t x y u) [(.int .i64 a), (.int .i64 b)] (.int .i64 (a % b)) :=
  Yv.mk2 (x := x) (y := y) (by simp) rfl fun o e w' hop hx hy _ => by
    have hb : b ≠ 0 := by omega
    have ht : Int.tmod a b = a % b := Int.tmod_eq_emod_of_nonneg h0
    have hm : 0 ≤ a % b := Int.emod_nonneg _ hb
    have hl : a % b < b := Int.emod_lt_of_pos _ h1
    have hw : IntKind.i64.wrap (a % b) = a % b := wrapI ⟨by omega, by omega⟩
    simp [execOp, hop, hx, hy, binOp, eqGuard, Op.intArith, Op.intDiv, hb, ht, hw]
/-- bytes -/
abbrev ByE : Enc UInt8 := ⟨1, fun b => [.int .u8 (b.toNat : Int)], fun _ => rfl⟩
def bytB (P : Program) (t d : TypeId) : Bool := match P.underlying t with
  | some (.slice e) => (match P.underlying e with | some (.int .u8) => true | _ => false) && (match P.underlying d with | some .string => true | _ => false)
  | _ => false
/-- a list of bytes as a text -/
theorem Yv.bstr {t d : TypeId} {x : Operand} {A : Option Addr} {m c : Nat} {l : Bs} (h : Rd ByE w A l) (hm : m = l.length := by rfl) (ht : bytB P t d = true := by kernel_rfl) : Yv P w (.convert t d x) [(.slice A m c)] (S l) :=
  Yv.mk1 (x := x) (by simp) rfl fun o e w' hop hx hk => by
    subst hm
    unfold bytB at ht
    cases hu : P.underlying t with
    | none => rw [hu] at ht; cases ht
    | some ty =>
      rw [hu] at ht
      cases ty with
      | slice el =>
        simp only [Bool.and_eq_true] at ht
        have he : P.underlying el = some (.int .u8) := by
          cases h1 : P.underlying el with
          | none => rw [h1] at ht; simp at ht
          | some dd => rw [h1] at ht; cases dd <;> simp_all; rename_i k; cases k <;> simp_all
        have hd : P.underlying d = some .string := by
          cases h1 : P.underlying d with
          | none => rw [h1] at ht; simp at ht
          | some dd => rw [h1] at ht; cases dd <;> simp_all
        have hr : (convert t d (.slice A l.length c)).run P w' = .ok (S l) w' := by
          cases hl : l with
          | nil =>
            have := run_convert_bytes_string w' t d el A 0 c hu he hd
            simp only [List.length_nil]
            rw [this]
            cases A <;> simp [Conv.bytesToString, loadCells, loadCellsFrom, S] <;> rfl
          | cons b bs =>
            rw [← hl]
            have h' := h.keep (hk rfl)
            have hA := h'.adr (by rw [hl]; simp)
            rw [hA]
            exact run_convert_bytes_back w' t d el ⟨pb A, pq A, none⟩ c l hu he hd (fun j hj => by
              have := h'.cell j l[j] (List.getElem?_eq_getElem hj) 0 _ rfl
              rw [add_off]
              simpa using this)
        simp [execOp, hop, hx, hr]
      | _ => cases ht
end
end Go.Proofs.YtgjhbapbomdpbaaDoor.Sh
/- A walk over the model's code with a small environment (generic: over any program). Part L: a few elements appended to an owned row. -/
set_option linter.unusedVariables false
set_option linter.unusedSimpArgs false
namespace Go.Proofs.YtgjhbapbomdpbaaDoor.Sh
open Go.RowKit
section
variable {α : Type} {r : Option Nat} {P : Program} {N : Nat} {ops : Array Oper} {ρ : Env} {ds : List Deferred} {w w0 : World} {Q : Post} {M : List Nat} {D : List Chunk} {l : List Nat}
theorem St.drop1 {C C' : Chunk} (h : St w0 M w (C :: C' :: D)) : St w0 M w (C :: D) := h.sub (.cons_cons _ (.cons _ (List.Sublist.refl _)))
theorem fits_len {P : Program} {t T : TypeId} {n m : Nat} (ht : rowB P t T n = true) (h : Fits P T m) : m ≤ 140737488355328 := by
  obtain ⟨_, _, i, _, hi, _, _, _, hby⟩ := rowB_of ht
  exact (h.le hi hby).2
/-- x = append(x, y..): the y's are written out -/
theorem WO.app (E : Enc α) {T : TypeId} {A : Option Addr} {c : Nat} {xs : List α} (ys : List α) {i1 i2 d1 d2 len : Nat} {t t' : TypeId} {parts : Array (Nat × Operand)} {vs : List Value} {s x : Operand} (hc1 : cop N ops ρ i1 = some (some d1, .buildSlice t len parts, vs))
    (hc2 : ∀ b, cop N ops ((d1, .slice (some ⟨b, 0, none⟩) ys.length ys.length) :: ρ) i2 = some (some d2, .call { callee := .builtin .append, args := #[s, x], argTypes := #[t', t'] }, [.slice A xs.length c, .slice (some ⟨b, 0, none⟩) ys.length ys.length]))
    (hs : St w0 M w D) (i : Nat) (hlen : Fits P T (xs.length + ys.length))
    (k : ∀ b A' c' w', St w0 M w' (Ch.row E T A' c' (xs ++ ys) :: D.eraseIdx i) → WO r P N ops l ((d2, .slice A' (xs ++ ys).length c') :: (d1, .slice (some ⟨b, 0, none⟩) ys.length ys.length) :: ρ) ds w' Q)
    (hC : D[i]? = some (Ch.row E T A c xs) := by rfl) 
    
    (hb : bslB P T len E.n ((parts.toList.map (·.1)).zip vs) = some (ys.flatMap E.cells).toArray := by kernel_rfl) (hl : ys.length = len := by rfl) (ht1 : slB P t T E.n = true := by kernel_rfl) (ht : rowB P t' T E.n = true := by kernel_rfl) (hone : ∀ z, (E.cells z).all (·.oneCell') = true := by exact fun _ => rfl) : WO r P N ops (i1 :: i2 :: l) ρ ds w Q := by
  have hp := hs.pull i hC
  refine WO.act hc1 (Ef.bsl E ys hp (fun b w1 k1 hs1 => ?_) ht1 hb hl (by have := fits_len ht hlen; simp only [maxLen]; omega))
  refine WO.act (hc2 b) (Ef.append hs1 1 (hs1.rd 0) (by simp) hlen (fun A' c' w2 hs2 => ?_) rfl hone ht)
  exact k b A' c' w2 hs2.drop1
theorem WD.app {tail : List Nat} {listed : Array Bool} (E : Enc α) {T : TypeId} {A : Option Addr} {c : Nat} {xs : List α} (ys : List α) (i1 i2 : Nat) {d1 d2 len : Nat} {t t' : TypeId} {parts : Array (Nat × Operand)} {vs : List Value} {s x : Operand} (hc1 : cop N ops ρ i1 = some (some d1, .buildSlice t len parts, vs))
    (hc2 : ∀ b, cop N ops ((d1, .slice (some ⟨b, 0, none⟩) ys.length ys.length) :: ρ) i2 = some (some d2, .call { callee := .builtin .append, args := #[s, x], argTypes := #[t', t'] }, [.slice A xs.length c, .slice (some ⟨b, 0, none⟩) ys.length ys.length]))
    (hs : St w0 M w D) (i : Nat) (hlen : Fits P T (xs.length + ys.length))
    (k : ∀ b A' c' w', St w0 M w' (Ch.row E T A' c' (xs ++ ys) :: D.eraseIdx i) → WD r P N ops tail ((listed.setIfInBounds i1 true).setIfInBounds i2 true) ((d2, .slice A' (xs ++ ys).length c') :: (d1, .slice (some ⟨b, 0, none⟩) ys.length ys.length) :: ρ) ds w' Q)
    (hC : D[i]? = some (Ch.row E T A c xs) := by rfl) 
    
    (hb : bslB P T len E.n ((parts.toList.map (·.1)).zip vs) = some (ys.flatMap E.cells).toArray := by kernel_rfl) (hl : ys.length = len := by rfl) (ht1 : slB P t T E.n = true := by kernel_rfl) (ht : rowB P t' T E.n = true := by kernel_rfl) (hone : ∀ z, (E.cells z).all (·.oneCell') = true := by exact fun _ => rfl)
    (hr1 : Region.ready .any ops listed = [i1] := by kernel_rfl) (hr2 : Region.ready .any ops (listed.setIfInBounds i1 true) = [i2] := by kernel_rfl) (hi2 : tail.contains i2 = true := by rfl) : WD r P N ops tail listed ρ ds w Q := by
  have hp := hs.pull i hC
  refine WD.act i1 hc1 (Ef.bsl E ys hp (fun b w1 k1 hs1 => ⟨fun _ => k1, ?_⟩) ht1 hb hl (by have := fits_len ht hlen; simp only [maxLen]; omega)) hr1
  refine WD.act i2 (hc2 b) (Ef.append hs1 1 (hs1.rd 0) (by simp) hlen (fun A' c' w2 hs2 => ⟨fun hn => absurd (List.contains_iff_mem.1 hi2) hn, ?_⟩) rfl hone ht) hr2
  exact k b A' c' w2 hs2.drop1
/-- a variable with its zero value -/
def zcells (P : Program) (t : TypeId) : Option (List Value) := match P.info? t with
  | some i => match i.zero with
    | some z => some z.cells.toList
    | none => none
  | none => none
theorem Ef.allocL {N : Nat} {ρ : Env} {K : Env → World → Prop} {dst : Option Nat} {t : TypeId} {vs : List Value} (h : St w0 M w D) (k : ∀ b w', Keep w w' → St w0 M w' (Ch.cells b t vs :: D) → K (putE ρ dst (.pointer (some ⟨b, 0, none⟩))) w') (hz : zcells P t = some vs := by kernel_rfl) : Ef r P N dst (.alloc t) [] ρ ds w K Q := by
  unfold zcells at hz
  cases hi : P.info? t with
  | none => rw [hi] at hz; cases hz
  | some i =>
    rw [hi] at hz
    cases hz' : i.zero with
    | none => simp only [hz'] at hz; cases hz
    | some z =>
      simp only [hz', Option.some.injEq] at hz
      subst hz
      exact Ef.alloc (z := z) (by simp [hi, hz']) h k
theorem Ef.boxL {N : Nat} {ρ : Env} {K : Env → World → Prop} {dst : Option Nat} {t : TypeId} {x : Operand} {v : Value} (vs : List Value) (h : St w0 M w D) (k : ∀ b w', Keep w w' → St w0 M w' (Ch.cells b t vs :: D) → K (putE ρ dst (.pointer (some ⟨b, 0, none⟩))) w') (hv : v.cells.toList = vs := by rfl) : Ef r P N dst (.box t x) [v] ρ ds w K Q := by
  subst hv
  exact Ef.box h k
/-- one cell, or all cells, of a variable -/
theorem St.cells {b : Nat} {T : TypeId} {vs : List Value} (h : St w0 M w D) (i : Nat) (hC : D[i]? = some (Ch.cells b T vs) := by rfl) : Cells w b vs := fun j v hj => cells_cell (T := T) (h.at_ i hC) j v hj
end
/-- results in a struct's cells and in a slot -/
theorem resAT {P : Program} {fn : Func} {N n : Nat} {ρ : Env} {w : World} {t u b : Nat} {ty : TypeId} {vs : List Value} {x : Value} (h : fn.results = #[.cell t ty, .tmp u]) (hp : lk ρ t = some (.pointer (some ⟨b, 0, none⟩))) (hx : lk ρ u = some x) (hc : Cells w b vs) (hn : vs.length = n := by rfl) (ht : agB P ty n = true := by kernel_rfl) : Res P fn N ρ w (.tuple #[.agg vs.toArray, x]) := fun a ds ha => by
  have h1 := ha.val t _ hp
  have h3 := ha.val u _ hx
  have h2 : (loadVar ty ⟨b, 0, none⟩).run P w = .ok (.agg vs.toArray) w := run_loadVar_ag (agB_of ht) ⟨b, 0, none⟩ vs hn (fun j v hj => by rw [add_off, Nat.zero_add]; exact hc j v hj)
  simp only [results, h]
  simp at h1 h3
  simp [h1, h2, h3, asAddr]
theorem St.setCell {w0 w : World} {M : List Nat} {D : List Chunk} {b : Nat} {T : TypeId} {vs : List Value} (h : St w0 M w (Ch.cells b T vs :: D)) (j : Nat) (v : Value) : St w0 M (w.setCell ⟨b, j, none⟩ v) (Ch.cells b T (vs.set j v) :: D) := by
  have hb : w.heap[b]? = some (.cells vs.toArray T (0, 0)) := h.at_ 0
  have hlt : b < w.heap.size := (Array.getElem?_eq_some_iff.1 hb).1
  refine h.upd (C' := Ch.cells b T (vs.set j v)) ⟨rfl, rfl, rfl, by simp, fun x hx hn => Below.heap_setCell _ _ _ _ (by simpa [Ch.cells] using hn)⟩ ?_ ?_
  · show (w.setCell ⟨b, j, none⟩ v).heap[b]? = some _
    simp [World.setCell, Array.getElem?_modify, hb]
  · intro x hx
    simp [Ch.cells] at hx
    subst hx
    exact ⟨.inl (by simp [Ch.cells]), by simpa using hlt⟩
/-! ### rules for interfaces -/
def ifB (P : Program) (t : TypeId) : Bool := match P.underlying t with | some (.interface _) => true | _ => false
theorem ifB_of {P : Program} {t : TypeId} (h : ifB P t = true) : ∃ ms, P.underlying t = some (.interface ms) := by
  unfold ifB at h
  cases hu : P.underlying t with
  | none => rw [hu] at h; cases h
  | some d =>
    rw [hu] at h
    cases d with
    | interface ms => exact ⟨ms, rfl⟩
    | _ => cases h
theorem eqnil_t {P : Program} {t : TypeId} (h : ifB P t = true) (d : Nat) (w : World) : (Op.equalIn (d + 1) t .nilIface .nilIface).run P w = .ok true w := by
  obtain ⟨ms, hm⟩ := ifB_of h
  simp [Op.equalIn, run_underlying hm]
theorem eqnil_f {P : Program} {t tt : TypeId} {v : Value} (h : ifB P t = true) (d : Nat) (w : World) : (Op.equalIn (d + 1) t (.iface tt v) .nilIface).run P w = .ok false w := by
  obtain ⟨ms, hm⟩ := ifB_of h
  simp [Op.equalIn, run_underlying hm]
theorem Yv.ifn_t {P : Program} {w : World} {t u : TypeId} {x : Operand} {c : Value} (hu : ifB P t = true := by kernel_rfl) : Yv P w (.binOp .eql t x (.const c) u) [.nilIface, .nilIface] (.bool true) :=
  Yv.mk2 (x := x) (y := .const c) (by simp) rfl fun o e w' hop hx hy _ => by
    have heq : (Op.equal t .nilIface .nilIface).run P w' = .ok true w' := eqnil_t hu 9999 w'
    simp [execOp, hop, hx, hy, binOp, eqGuard, heq]
theorem Yv.ifn_f {P : Program} {w : World} {t u tt : TypeId} {x : Operand} {c : Value} {v : Value} (hu : ifB P t = true := by kernel_rfl) : Yv P w (.binOp .eql t x (.const c) u) [.iface tt v, .nilIface] (.bool false) :=
  Yv.mk2 (x := x) (y := .const c) (by simp) rfl fun o e w' hop hx hy _ => by
    have heq : (Op.equal t (.iface tt v) .nilIface).run P w' = .ok false w' := eqnil_f hu 9999 w'
    simp [execOp, hop, hx, hy, binOp, eqGuard, heq]
theorem Yv.mki {P : Program} {w : World} {t : TypeId} {x : Operand} {v : Value} (h : P.concrete t = true := by kernel_rfl) : Yv P w (.makeInterface t x) [v] (.iface t v) :=
  Yv.mk1 (x := x) (by simp) rfl fun o e w' hop hx _ => by simp [execOp, hop, hx, run_makeInterface _ _ _ h]
end Go.Proofs.YtgjhbapbomdpbaaDoor.Sh
/- Arguments opened (generic: over any program). Part M: a slice of equal elements that comes in. -/
set_option linter.unusedVariables false
set_option linter.unusedSimpArgs false
namespace Go.Proofs.YtgjhbapbomdpbaaDoor.Sh
open Go.RowKit Go.WideShapes Go.ChangeShapes
section
variable {α : Type} {H : Type} {enc : TypeId × Value → H} {P : Program} {w : World} {base : Nat} {spare : Nat → Bool} {held : Bool}
theorem add_eq {a : Addr} (hs : a.spot = none) (i : Nat) : a.add i = ⟨a.block, a.off + i, none⟩ := by
  obtain ⟨b, o, s⟩ := a
  simp only at hs
  subst hs
  unfold Addr.add
  split
  · simp_all
  · rfl
/-- A SLICE THAT COMES IN, of elements of some cells each: where it lies, what it holds, and what each element's reading says of it. -/
theorem open_rd [Inhabited α] (E : Enc α) (Pr : DataW H → α → Prop) {t e : TypeId} {fuel : Nat} {cs : List Value} {x : DataW H × List MemPlace} (ht : P.underlying t = some (.slice e)) (hc : P.cellsOf e = E.n) (h0 : 0 < E.n)
    (hel : ∀ n cs y, DataW.trod enc P w base spare held n e cs = some y → cs.length = E.n → ∃ a, cs = E.cells a ∧ Pr y.1 a) (h : DataW.trod enc P w base spare held fuel t cs = some x) :
    ∃ A xs c, cs = [.slice A xs.length c] ∧ Rd E w A xs ∧ xs.length ≤ c ∧ c ≤ maxLen ∧
      ((A = none ∧ c = 0 ∧ xs = [] ∧ x.1 = .nil) ∨ ∃ (es sp : List (DataW H)), x.1 = .slice es sp ∧ es.length = xs.length ∧ ∀ (i : Nat) d, es[i]? = some d → ∃ a, xs[i]? = some a ∧ Pr d a) := by
  rcases Go.Deep.open_slice ht h with ⟨rfl, rfl⟩ | ⟨a, len, cap, m, n, D, Pl, rfl, hb, hl, hm, hmm, rfl, hx⟩
  · exact ⟨none, [], 0, rfl, ⟨fun h => absurd h (by simp), fun j x h => by simp at h⟩, Nat.le_refl _, by simp, .inl ⟨rfl, rfl, rfl, rfl⟩⟩
  · have hlm : len ≤ m := by rw [hmm]; split <;> omega
    have hV : ∀ i, i < len → ∃ v : α, (∀ k u, (E.cells v)[k]? = some u → w.cell? (a.add (i * E.n + k)) = some u) ∧ Pr (D i) v := by
      intro i hi
      obtain ⟨cs', h1, h2⟩ := hx i (by omega)
      rw [hc] at h1
      obtain ⟨_, hlen, hce⟩ := World.cells?_some h1
      obtain ⟨v, rfl, hp⟩ := hel n cs' _ h2 hlen
      refine ⟨v, fun k u hk => ?_, hp⟩
      have hk' : k < E.n := by rw [← E.len v]; exact (List.getElem?_eq_some_iff.1 hk).1
      rw [← Go.Deep.add_add, hce k hk', hk]
    obtain ⟨V, hV⟩ := Go.Deep.choose_lt hV
    refine ⟨some a, (List.range len).map V, cap, by simp, ⟨fun hpos => ?_, ?_⟩, by simpa using hl, hm, .inr ⟨_, _, rfl, by simp, fun i d hd => ?_⟩⟩
    · have hpos : 0 < len := by simpa using hpos
      obtain ⟨u, hu⟩ : ∃ u, (E.cells (V 0))[0]? = some u := ⟨_, List.getElem?_eq_getElem (by rw [E.len]; exact h0)⟩
      have h1 := (hV 0 hpos).1 0 u hu
      have h2 := World.cell?_spot h1
      have h3 : a.add (0 * E.n + 0) = a := by simp [Addr.add]
      rw [h3] at h2
      simp only [pb, pq]
      obtain ⟨b, o, s⟩ := a
      simp only at h2
      rw [h2]
    · intro j v hj k u hk
      have hjl : j < len := by
        have := (List.getElem?_eq_some_iff.1 hj).1
        simpa using this
      rw [List.getElem?_map, List.getElem?_range hjl] at hj
      simp only [Option.map_some, Option.some.injEq] at hj
      subst hj
      have h1 := (hV j hjl).1 k u hk
      have h2 : a.spot = none := by
        by_cases hz : j * E.n + k = 0
        · rw [hz] at h1
          have := World.cell?_spot h1
          simpa [Addr.add] using this
        · obtain ⟨u0, hu0⟩ : ∃ u, (E.cells (V 0))[0]? = some u := ⟨_, List.getElem?_eq_getElem (by rw [E.len]; exact h0)⟩
          have h3 := World.cell?_spot ((hV 0 (by omega)).1 0 u0 hu0)
          simpa [Addr.add] using h3
      rw [add_eq h2] at h1
      simp only [pb, pq]
      rw [Nat.add_assoc]
      exact h1
    · have hil : i < len := by
        have := (List.getElem?_eq_some_iff.1 hd).1
        simpa using this
      rw [List.getElem?_map, List.getElem?_range hil] at hd
      simp only [Option.map_some, Option.some.injEq] at hd
      subst hd
      exact ⟨V i, by simp [hil], (hV i hil).2⟩
/-- how long it can be -/
theorem sized_rd [Inhabited α] {E : Enc α} {Pr : DataW H → α → Prop} {ts : List TypeId} {ds : List (DataW H)} (hsz : (DataW.weightsEach P ts ds).all (· ≤ reachBytes) = true) {j : Nat} {t e : TypeId} {A : Option Addr} {c : Nat} {xs : List α} {d : DataW H} (ht : ts[j]? = some t) (hd : ds[j]? = some d)
    (hu : P.underlying t = some (.slice e)) (h : (A = none ∧ c = 0 ∧ xs = [] ∧ d = .nil) ∨ ∃ (es sp : List (DataW H)), d = .slice es sp ∧ es.length = xs.length ∧ ∀ (i : Nat) d, es[i]? = some d → ∃ a, xs[i]? = some a ∧ Pr d a) : xs.length * P.bytesOf e ≤ reachBytes := by
  rcases h with ⟨_, _, rfl, _⟩ | ⟨es, sp, rfl, hl, _⟩
  · simp
  · have := sized_slice hsz ht hd hu
    rw [← hl]
    exact Nat.le_trans (Nat.mul_le_mul_right _ (Nat.le_add_right _ _)) this
end
end Go.Proofs.YtgjhbapbomdpbaaDoor.Sh
/- A walk over the model's code with a small environment (generic: over any program). Part N: ranges over functions that keep a state of their own; deferred closures that recover. -/
set_option linter.unusedVariables false
set_option linter.unusedSimpArgs false
namespace Go.Proofs.YtgjhbapbomdpbaaDoor.Sh
open Go.RowKit
theorem Wp.label {r : Option Nat} {P : Program} {N : Nat} {ρ : Env} {ds : List Deferred} {w : World} {Q : Post} {l : Nat} (h : Q .normal ρ ds w) : Wp r P N (.label l) ρ ds w Q := fun _ ha => wpIn_label ⟨ρ, ds, ha, h⟩
def nog (Q : Post) : Post
  | .goto _, _, _, _ => False
  | e, ρ, ds, w => Q e ρ ds w
section
variable {P : Program} {b : Frame} {a : Act} {k : List Item} {cs : List Frame} {w : World}
theorem stepR_scope {c : Code} : step P (lone (b.atR a (.code (.scope c) :: k)) cs w) = .next (lone (b.atR a (.code c :: .inScope c :: k)) cs w) :=
  step_lone_go (by simp [stepG, stepG.exec, Frame.atR])
theorem stepR_inScope {c : Code} : step P (lone (b.atR a (.inScope c :: k)) cs w) = .next (lone (b.atR a k) cs w) :=
  step_lone_go (by simp [stepG, stepG.exec, Frame.atR])
end
/-- a piece in which nothing jumps to a label -/
theorem Wp.scope {r : Option Nat} {P : Program} {N : Nat} {ρ : Env} {ds : List Deferred} {w : World} {Q : Post} {c : Code} (h : Wp r P N c ρ ds w (nog Q)) : Wp r P N (.scope c) ρ ds w Q := by
  intro a ha b k cs hro hb hr
  have h0 : (lone (b.atR a (.code (.scope c) :: k)) cs w).fenced P (Fr r) := fenced_calm hb hr rfl
  obtain ⟨e, a₁, w₁, ⟨ρ₁, ds₁, hr₁, hq⟩, harr⟩ := h a ha b (.inScope c :: k) cs hro hb hr
  cases e with
  | normal => exact ⟨.normal, a₁, w₁, ⟨ρ₁, ds₁, hr₁, hq⟩, .head h0 stepR_scope (StepsIn.trans harr (.one (fenced_calm hb hr rfl) stepR_inScope))⟩
  | exit id =>
    exact ⟨.exit id, a₁, w₁, ⟨ρ₁, ds₁, hr₁, hq⟩, fun k' hk => .head h0 stepR_scope (harr.1 k' (by simpa [exitTo] using hk)),
      fun hr' hk => let ⟨k₁, h1, h2⟩ := harr.2 hr' (by simpa [exitTo] using hk); ⟨k₁, h1, .head h0 stepR_scope h2⟩⟩
  | goto l => exact hq.elim
  | ret => exact ⟨_, a₁, w₁, ⟨ρ₁, ds₁, hr₁, hq⟩, .of_steps (.one h0 stepR_scope) harr⟩
  | panic ch => exact ⟨_, a₁, w₁, ⟨ρ₁, ds₁, hr₁, hq⟩, .of_steps (.one h0 stepR_scope) harr⟩
  | outgrown => exact ⟨_, a₁, w₁, ⟨ρ₁, ds₁, hr₁, hq⟩, .of_steps (.one h0 stepR_scope) harr⟩
/-- some of the chunks, in whatever order -/
theorem St.pick {w0 w : World} {M : List Nat} {D : List Chunk} (h : St w0 M w D) (is : List Nat) (hn : is.Nodup := by decide) : St w0 M w (is.filterMap (D[·]?)) := by
  have hm : ∀ C ∈ is.filterMap (D[·]?), C ∈ D := fun C hC => by
    obtain ⟨i, _, hi⟩ := List.mem_filterMap.1 hC
    exact List.mem_of_getElem? hi
  refine ⟨h.chg, fun C hC => h.ok C (hm C hC), fun C hC => h.rng C (hm C hC), ?_⟩
  rw [List.pairwise_filterMap]
  refine List.Pairwise.imp ?_ hn
  intro i j hij C hC E hE b hb hb'
  have hd := List.pairwise_iff_getElem.1 h.dis
  obtain ⟨hi, rfl⟩ := List.getElem?_eq_some_iff.1 hC
  obtain ⟨hj, rfl⟩ := List.getElem?_eq_some_iff.1 hE
  rcases Nat.lt_or_ge i j with h1 | h1
  · exact hd i j hi hj h1 b hb hb'
  · exact hd j i hj hi (by omega) b hb' hb
/-- one chunk alone, to be written -/
theorem St.own {w : World} {C : Chunk} {M : List Nat} (h : C.ok w) (hb : ∀ b ∈ C.bs, b ∈ M ∧ b < w.heap.size) : St w M w [C] :=
  ⟨.refl _ _, by simpa using h, by simpa using fun b hm => ⟨.inl (hb b hm).1, (hb b hm).2⟩, .cons (by simp) .nil⟩
/-! ### 1. iterators with a state of their own -/
/-- a function gf, with what it has captured, tells the values xs, one after another; O k is its own state when k have been told -/
def TellsO (P : Program) (gf : FuncId) (lb : List Value) {α : Type} (encs : α → List Value) (xs : List α) (O : Nat → Chunk) (F : World → Prop) : Prop :=
  ∀ (l : Nat) (J : Nat → Nat → World → Prop) (Jx : Nat → World → Prop) (W : World), (∀ k j W W', Keep W W' → J k j W → J k j W') → (∀ k W W', Keep W W' → Jx k W → Jx k W') →
    (∀ k j W, J k j W → F W) → (∀ k j W, J k j W → (O j).ok W ∧ (∀ b ∈ (O j).bs, b < W.heap.size) ∧ ∀ j' W', Chg (O j).bs W W' → (O j').ok W' → J k j' W') →
    (∀ k x W1, xs[k]? = some x → J k k W1 → YieldTo P l (encs x).toArray W1 fun e W' => (e = .returned (.bool true) ∧ J (k + 1) k W') ∨ (e = .returned (.bool false) ∧ Jx k W')) →
    J 0 0 W → Calls P gf ((Value.func (.yield l) #[] #[]) :: lb).toArray W fun e W' => (∃ v, e = .returned v) ∧ (J xs.length xs.length W' ∨ ∃ k, Jx k W')
section
variable {P : Program} {N : Nat} {ρ : Env} {ds : List Deferred} {w w0 : World} {M : List Nat} {D : List Chunk} {Q : Post} {α : Type}
/-- a range over a function that tells xs and keeps a state O of its own; not inside of another one's round -/
theorem Wp.rangesO {g : Operand} {ps : Array Tmp} {assign body : Code} {gf : FuncId} {fn : Func} {lb : List Value} {encs : α → List Value} {xs : List α} {O : Nat → Chunk} {F : World → Prop} (hst : St w0 M w (O 0 :: D)) (ht : TellsO P gf lb encs xs O F) (hO : ∀ j k, (O j).bs = (O k).bs) (I : Nat → List Chunk → Prop) (X : Code → List Chunk → Prop)
    (hF : ∀ k j D' W, I k D' → St w0 M W (O j :: D') → F W) (h0 : I 0 D)
    (hround : ∀ k x l kb busy D' W, xs[k]? = some x → I k D' → St w0 M W (O k :: D') →
      Wp (some l) P N assign (putAll ps.toList (encs x) ρ) [] W (onOn fun ρ' W' => Keep W W' ∧ ∀ W2, (St w0 M W2 (Ch.obj l busy :: Ch.obj kb (.deferred (some [])) :: O k :: D')) → Wp (some l) P N body ρ' [] W2 (roundEnd w0 M l kb busy (.deferred (some [])) (fun D2 => ∃ D3, D2 = O k :: D3 ∧ I (k + 1) D3) X)))
    (hdone : ∀ kb D' W, I xs.length D' → St w0 M W (Ch.obj kb (.deferred (some [])) :: O xs.length :: D') → Q .normal ρ ({ target := .collected kb, args := #[] } :: ds) W)
    (hstop : ∀ kb c D' W, X c D' → St w0 M W (Ch.obj kb (.deferred (some [])) :: D') → Wp none P N c ρ ({ target := .collected kb, args := #[] } :: ds) W Q)
    (hg : ev ρ g = some (.func (.func gf) #[] lb.toArray) := by rfl) (hf : P.funcs[gf]? = some fn) (hb : fn.body.isSome = true := by rfl) (hn : (fn.name == "runtime.NumGoroutine") = false := by kernel_rfl)
    (hps : ps.toList.all (fun p => Nat.blt p N) = true := by rfl) (hsz : ∀ x, (encs x).length = ps.size := by exact fun _ => rfl) : Wp none P N (.rangeFunc g ps assign body) ρ ds w Q := by
  intro a ha
  refine wpIn_rangeFunc ?_
  intro f0 hf0
  obtain ⟨rec, hrec⟩ : ∃ rec : LoopState → Option Code → Obj, rec = fun st p => recAt (w.heap.size + 1) f0 a.tmps ps assign body w.heap.size st p := ⟨_, rfl⟩
  have hs1 : St w0 M (w.alloc (.deferred (some []))) (Ch.obj w.heap.size (.deferred (some [])) :: O 0 :: D) := hst.allocObj _
  have hs2 := hs1.allocObj (rec .ready none)
  rw [World.size_alloc] at hs2
  have hl2 := hs2.at_ 0
  obtain ⟨W1, hW1⟩ : ∃ W1, W1 = (w.alloc (.deferred (some []))).alloc (rec .ready none) := ⟨_, rfl⟩
  rw [← hW1] at hs2 hl2
  refine ⟨w.heap.size + 1, [{ target := .collected w.heap.size, args := #[] }], W1, { target := .fn (.func gf) lb.toArray, args := #[.func (.yield (w.heap.size + 1)) #[] #[]] }, W1, gf,
    #[.func (.yield (w.heap.size + 1)) #[] #[]] ++ lb.toArray, W1, ?_, ?_, ?_, ?_, fun hc => by simp [Fence.wide] at hc, ?_⟩
  · rw [hW1, hrec]; exact run_enterLoop_outer _ _ _ _ _
  · simp only [resolve, ha.ev hg]
    simp [go_sem]
  · intro f' hf'; exact trivial
  · simp [invoke, go_sem, enters_name hf hb hn]
  · refine (callsIn_wide (n := 0 - 1)).2 ?_
    have harr : #[Value.func (.yield (w.heap.size + 1)) #[] #[]] ++ lb.toArray = ((Value.func (.yield (w.heap.size + 1)) #[] #[]) :: lb).toArray := by simp
    rw [harr]
    refine Calls.mono (ht (w.heap.size + 1)
      (fun k j W => ∃ D', I k D' ∧ St w0 M W (O j :: Ch.obj (w.heap.size + 1) (rec .ready none) :: Ch.obj w.heap.size (.deferred (some [])) :: D'))
      (fun k W => ∃ c D', X c D' ∧ St w0 M W (Ch.obj (w.heap.size + 1) (rec .done (some c)) :: Ch.obj w.heap.size (.deferred (some [])) :: D'))
      _ ?_ ?_ ?_ ?_ ?_ ⟨D, h0, by rw [hrec] at hs2 ⊢; exact hs2.perm ((List.Perm.swap _ _ _).cons _ |>.trans (.swap _ _ _))⟩) ?_
    · rintro k j W W' hk ⟨D', hi, h⟩; exact ⟨D', hi, h.quiet hk⟩
    · rintro k W W' hk ⟨c, D', hi, h⟩; exact ⟨c, D', hi, h.quiet hk⟩
    · rintro k j W ⟨D', hi, h⟩; exact hF k j D' W hi (h.perm (((List.Perm.swap _ _ _).trans ((List.Perm.swap _ _ _).cons _)))).drop.drop
    · rintro k j W ⟨D', hi, h⟩
      refine ⟨h.at_ 0, fun b hb => (h.rng _ (List.mem_cons_self ..) b hb).2, fun j' W' hc hok => ⟨D', hi, h.upd hc hok ?_⟩⟩
      intro b hb
      rw [hO j' j] at hb
      exact ⟨.inl hb, Nat.lt_of_lt_of_le (h.rng _ (List.mem_cons_self ..) b hb).2 hc.size⟩
    · rintro k x W hx ⟨D', hi, h⟩
      have hl : W.heap[w.heap.size + 1]? = some (rec .ready none) := h.at_ 1
      rw [hrec] at hl
      have hy := run_yield (P := P) (args := (encs x).toArray) hl (by simpa using hsz x)
      refine ⟨_, _, _, _, hy, roundIn_of_wpIn trivial ?_⟩
      clear hy
      have hr0 : Rep N { tmps := (ps.zip (encs x).toArray).foldl (fun t (p, v) => t.setIfInBounds p v) a.tmps, defers := [] } (putAll ps.toList (encs x) ρ) [] := by
        have := Rep.putAll (ds := []) ps.toList (encs x) ρ { a with defers := [] } ⟨ha.size, ha.val, rfl⟩ hps
        have e : (ps.zip (encs x).toArray).foldl (fun t (p, v) => t.setIfInBounds p v) a.tmps = (ps.toList.zip (encs x)).foldl (fun t (p, v) => t.setIfInBounds p v) a.tmps := by
          rw [← Array.foldl_toList, Array.toList_zip]
        rw [e]
        exact this
      have hp : St w0 M W (Ch.obj (w.heap.size + 1) (rec .ready none) :: Ch.obj w.heap.size (.deferred (some [])) :: O k :: D') := h.perm ((List.Perm.swap _ _ _).trans ((List.Perm.swap _ _ _).cons _))
      have hro := hround k x (w.heap.size + 1) w.heap.size (rec .busy none) D' W hx hi hp.drop.drop _ hr0
      refine wpIn_mono hro ?_
      rintro e a' W' ⟨ρ', ds', hr', hq⟩
      cases e with
      | normal =>
        obtain ⟨hds, hk, hbody⟩ := hq
        subst hds
        have h' := hp.quiet hk
        have hl' : W'.heap[w.heap.size + 1]? = some (rec .ready none) := h'.at_ 0
        rw [hrec] at hl'
        refine ⟨_, run_beginRound hl' rfl, ?_⟩
        have h2 := h'.putObj (rec .busy none)
        have hb2 : Wp (some (w.heap.size + 1)) P N body ρ' [] (W'.putObj (w.heap.size + 1) (rec .busy none)) _ := hbody _ h2
        rw [hrec] at hb2
        refine wpIn_mono (hb2 a' hr') ?_
        rintro e3 a3 W3 ⟨ρ3, ds3, hr3, hq3⟩
        have fin : ∀ (jump : Option Code) (D3 : List Chunk), St w0 M W3 (Ch.obj (w.heap.size + 1) (recAt (w.heap.size + 1) f0 a.tmps ps assign body w.heap.size .busy none) :: Ch.obj w.heap.size (.deferred (some [])) :: D3) →
            (Instr.endRound (w.heap.size + 1) jump).run P W3 = .ok (.bool jump.isNone) (W3.putObj (w.heap.size + 1) (recAt (w.heap.size + 1) f0 a.tmps ps assign body w.heap.size (if jump.isNone then .ready else .done) jump)) ∧
            St w0 M (W3.putObj (w.heap.size + 1) (recAt (w.heap.size + 1) f0 a.tmps ps assign body w.heap.size (if jump.isNone then .ready else .done) jump)) (Ch.obj (w.heap.size + 1) (recAt (w.heap.size + 1) f0 a.tmps ps assign body w.heap.size (if jump.isNone then .ready else .done) jump) :: Ch.obj w.heap.size (.deferred (some [])) :: D3) := fun jump D3 h3 =>
          ⟨run_endRound (P := P) jump (h3.at_ 0), h3.putObj _⟩
        rw [hrec]
        cases e3 with
        | normal =>
          obtain ⟨D2, ⟨D3, rfl, hi3⟩, h3⟩ := hq3
          obtain ⟨q1, q2⟩ := fin none _ h3
          exact ⟨_, _, q1, .inl ⟨rfl, D3, hi3, q2.perm (((List.Perm.swap _ _ _).cons _).trans (.swap _ _ _))⟩⟩
        | ret =>
          obtain ⟨D3, hi3, h3⟩ := hq3
          obtain ⟨q1, q2⟩ := fin (some .ret) D3 h3
          exact ⟨_, _, q1, .inr ⟨rfl, _, D3, hi3, q2⟩⟩
        | exit id =>
          obtain ⟨D3, hi3, h3⟩ := hq3
          obtain ⟨q1, q2⟩ := fin (some (.exit id)) D3 h3
          exact ⟨_, _, q1, .inr ⟨rfl, _, D3, hi3, q2⟩⟩
        | goto id =>
          obtain ⟨D3, hi3, h3⟩ := hq3
          obtain ⟨q1, q2⟩ := fin (some (.goto id)) D3 h3
          exact ⟨_, _, q1, .inr ⟨rfl, _, D3, hi3, q2⟩⟩
        | panic ch => exact hq3.elim
        | outgrown => exact hq3.elim
      | _ => exact hq.elim
    · rintro e W2 ⟨⟨v, rfl⟩, (⟨D', hi, h⟩ | ⟨k, c, D', hi, h⟩)⟩
      · have hp : St w0 M W2 (Ch.obj (w.heap.size + 1) (rec .ready none) :: Ch.obj w.heap.size (.deferred (some [])) :: O xs.length :: D') := h.perm ((List.Perm.swap _ _ _).trans ((List.Perm.swap _ _ _).cons _))
        have hl : W2.heap[w.heap.size + 1]? = some (rec .ready none) := hp.at_ 0
        rw [hrec] at hl
        refine ⟨none, _, run_endLoop hl (by simp), ?_⟩
        have h2 := (hp.putObj (o' := .loop { state := .exhausted, pending := none, fn := f0, tmps := a.tmps, params := ps, assign, body, defers := w.heap.size })).drop
        exact ⟨ρ, _, ⟨ha.size, ha.val, by simp [ha.defers]⟩, hdone _ D' _ hi h2⟩
      · have hl : W2.heap[w.heap.size + 1]? = some (rec .done (some c)) := h.at_ 0
        rw [hrec] at hl
        refine ⟨some c, _, run_endLoop hl (by simp), ?_⟩
        have h2 := (h.putObj (o' := .loop { state := .exhausted, pending := some c, fn := f0, tmps := a.tmps, params := ps, assign, body, defers := w.heap.size })).drop
        exact hstop _ c D' _ hi h2 _ ⟨ha.size, ha.val, by simp [ha.defers]⟩
end
/-! ### calls that change what is handed in -/
/-- f, called at vs, hands back v and turns the chunks A into D' -/
def Cu (P : Program) (f : FuncId) (vs : List Value) (v : Value) (A D' : List Chunk) (w : World) : Prop := Calls P f vs.toArray w fun e w' => e = .returned v ∧ St w (A.flatMap (·.bs)) w' D'
theorem Ef.cu {r : Option Nat} {P : Program} {N : Nat} {ρ : Env} {ds : List Deferred} {w w0 : World} {M : List Nat} {A D D' : List Chunk} {Q : Post} {dst : Option Nat} {K : Env → World → Prop} {f : FuncId} {x : Operand} {args : Array Operand} {ts : Array TypeId} {caps : List Value} {us : List Value} {v : Value}
    (h : Cu P f (us ++ caps) v A D' w) (hs : St w0 M w (A ++ D)) (hf : FnOk P f) (k : ∀ w', St w0 M w' (D' ++ D) → K (putE ρ dst v) w') :
    Ef r P N dst (.call { callee := .value x, args := args, argTypes := ts }) (.func (.func f) #[] caps.toArray :: us) ρ ds w K Q := by
  obtain ⟨fn, hf, hb, hn⟩ := hf
  refine Ef.callv hf ?_ hb hn
  have h' := h
  unfold Cu at h'
  simp only [← List.append_toArray] at h'
  refine Calls.mono h' ?_
  rintro e w' ⟨rfl, hk'⟩
  exact k w' (hs.call hk')
/-- f, called at vs, hands back something of which R says what it is, and chunks -/
def Cx (P : Program) (f : FuncId) (vs : List Value) (A : List Chunk) (R : Value → List Chunk → Prop) (w : World) : Prop := Calls P f vs.toArray w fun e w' => ∃ v D', e = .returned v ∧ R v D' ∧ St w (A.flatMap (·.bs)) w' D'
theorem Ef.cx {r : Option Nat} {P : Program} {N : Nat} {ρ : Env} {ds : List Deferred} {w w0 : World} {M : List Nat} {A D : List Chunk} {R : Value → List Chunk → Prop} {Q : Post} {dst : Option Nat} {K : Env → World → Prop} {f : FuncId} {x : Operand} {args : Array Operand} {ts : Array TypeId} {caps : List Value} {us : List Value}
    (h : Cx P f (us ++ caps) A R w) (hs : St w0 M w (A ++ D)) (hf : FnOk P f) (k : ∀ v D' w', R v D' → St w0 M w' (D' ++ D) → K (putE ρ dst v) w') :
    Ef r P N dst (.call { callee := .value x, args := args, argTypes := ts }) (.func (.func f) #[] caps.toArray :: us) ρ ds w K Q := by
  obtain ⟨fn, hf, hb, hn⟩ := hf
  refine Ef.callv hf ?_ hb hn
  have h' := h
  unfold Cx at h'
  simp only [← List.append_toArray] at h'
  refine Calls.mono h' ?_
  rintro e w' ⟨v, D', rfl, hR, hk'⟩
  exact k v D' w' hR (hs.call hk')
/-! ### 2. deferred closures that recover -/
/-- wp of a piece of a deferred call's body: the mode of the frame below is a part of the state -/
def postU (N : Nat) (c₀ : Frame) (cs : List Frame) (Q : FrameMode → Post) : Exit → Act → List Frame → World → Prop := fun e a cs' w => ∃ u', cs' = { c₀ with mode := u' } :: cs ∧ lift N (Q u') e a w
def WpU (P : Program) (N : Nat) (u : FrameMode) (c : Code) (ρ : Env) (ds : List Deferred) (w : World) (Q : FrameMode → Post) : Prop :=
  ∀ (c₀ : Frame) (cs : List Frame), c₀.mode = u → ∀ a, Rep N a ρ ds → c.wpSIn (Fr none) 0 P (postU N c₀ cs Q) a (c₀ :: cs) w
section
variable {P : Program} {N : Nat} {ρ : Env} {ds : List Deferred} {w : World} {u : FrameMode} {Q : FrameMode → Post}
theorem WpU.plain {c : Code} (h : Wp none P N c ρ ds w (Q u)) : WpU P N u c ρ ds w Q := fun c₀ cs hc a ha =>
  wpSIn_of_wpIn rfl (wpIn_mono (h a ha) fun e a' w' hl => ⟨u, by subst hc; rfl, hl⟩)
theorem wpSIn_mono {F : Fence} {n : Nat} {c : Code} {Q Q' : Exit → Act → List Frame → World → Prop} {a : Act} {cs : List Frame} {w : World} (h : c.wpSIn F n P Q a cs w) (hq : ∀ e a' cs' w', Q e a' cs' w' → Q' e a' cs' w') : c.wpSIn F n P Q' a cs w :=
  fun b k h1 h2 h3 h4 => let ⟨e, a', cs', w', l, q, r⟩ := h b k h1 h2 h3 h4; ⟨e, a', cs', w', l, hq _ _ _ _ q, r⟩
theorem WpU.seq {x y : Code} (h : WpU P N u x ρ ds w (fun u' => thn (fun ρ' ds' w' => WpU P N u' y ρ' ds' w' Q) (Q u'))) : WpU P N u (.seq x y) ρ ds w Q := fun c₀ cs hc a ha => by
  refine wpSIn_seq (wpSIn_mono (h c₀ cs hc a ha) ?_)
  rintro e a' cs' w' ⟨u', rfl, ρ', ds', hr, hq⟩
  cases e with
  | normal =>
    show Code.wpSIn _ _ _ _ _ _ _ _
    exact wpSIn_mono (hq { c₀ with mode := u' } cs rfl a' hr) fun e a2 cs2 w2 ⟨u2, h1, h2⟩ => ⟨u2, h1, h2⟩
  | _ => exact ⟨u', rfl, ρ', ds', hr, hq⟩
/-- what recover gives, and the mode behind it -/
def recd : FrameMode → Option (Value × FrameMode)
  | .panicking ({ v, recovered := false, goexit := false } :: older) => some (v, .panicking ({ v, recovered := true } :: older))
  | _ => none
theorem recoverD_some {c₀ : Frame} {cs : List Frame} {v : Value} {u' : FrameMode} (h : recd c₀.mode = some (v, u')) : recoverD (c₀ :: cs) = some (v, { c₀ with mode := u' } :: cs) := by
  unfold recd at h
  simp only [recoverD]
  split at h
  · rename_i hm
    rw [hm]
    simp only [Option.some.injEq, Prod.mk.injEq] at h
    obtain ⟨rfl, rfl⟩ := h
    rfl
  · cases h
theorem recoverD_none {c₀ : Frame} {cs : List Frame} (h : recd c₀.mode = none) : recoverD (c₀ :: cs) = none := by
  unfold recd at h
  simp only [recoverD]
  split at h
  · cases h
  · rename_i hn
    split
    · rename_i v' older hm
      exact absurd hm (hn _ _)
    · rfl
/-- a deferred call's contract, from its body -/
def FinU (P : Program) (fn : Func) (N : Nat) (R : Ending → FrameMode → World → Prop) (u' : FrameMode) : Post := fun e ρ ds w => ds = [] ∧ Fin P fn N (fun e w' => R e u' w') e ρ ds w
theorem callsD_of_WpU {f : FuncId} {fn : Func} {c : Code} {vs : List Value} {R : Ending → FrameMode → World → Prop} {N : Nat} (hf : P.funcs[f]? = some fn)
    (h : WpU P N u c (argsEnv vs 0) [] w (FinU P fn N R))
    (hb : fn.body = some c := by rfl) (hN : fn.ntmps = N := by rfl) (hn : Nat.ble vs.length N = true := by rfl) : CallsDIn (Fr none) 0 P f vs.toArray u w R := by
  subst hN
  have hn := Nat.le_of_ble_eq_true hn
  refine callsDIn_of_wpSIn hf hb trivial fun c₀ cs hc => ?_
  refine wpSIn_mono (h c₀ cs hc _ ⟨by simp; omega, fun t v ht => ?_, rfl⟩) ?_
  · obtain ⟨-, h2⟩ := lk_argsEnv _ _ _ _ ht
    rw [Nat.sub_zero] at h2
    obtain ⟨hlt, hv⟩ := List.getElem?_eq_some_iff.1 h2
    simp [Array.getElem?_append, hlt, hv]
  · rintro e a cs' w' ⟨u', rfl, ρ, ds, hr, rfl, hq⟩
    cases e with
    | normal =>
      obtain ⟨v, h1, h2⟩ := hq.lv
      exact ⟨hr.defers, u', rfl, v, h1 a [] hr, h2⟩
    | ret =>
      obtain ⟨v, h1, h2⟩ := hq.lv
      exact ⟨hr.defers, u', rfl, v, h1 a [] hr, h2⟩
    | panic ch => exact ⟨hr.defers, u', rfl, hq.lv⟩
    | _ => exact hq.elim
/-- how a frame leaves, its deferred calls one by one -/
def LvU (P : Program) (fn : Func) (N : Nat) (R : Ending → World → Prop) (ρ : Env) (ds : List Deferred) (u : FrameMode) (w : World) : Prop := ∀ a ds', Rep N a ρ ds' → LeavesInM (Fr none) 0 P fn a.tmps R ds u w
theorem LvU.nilR {fn : Func} {R : Ending → World → Prop} {v : Value} (h : Res P fn N ρ w v) (k : R (.returned v) w) : LvU P fn N R ρ [] .returning w := fun a ds' ha => ⟨v, h a ds' ha, k⟩
theorem LvU.nilP {fn : Func} {R : Ending → World → Prop} {ch : List PanicEntry} (k : R (.panicked ch) w) : LvU P fn N R ρ [] (.panicking ch) w := fun a ds' ha => k
theorem LvU.fn {fn gfn : Func} {R : Ending → World → Prop} {g : FuncId} {caps : List Value} (hg : P.funcs[g]? = some gfn) (hu : u ≠ .run)
    (h : CallsDIn (Fr none) 0 P g caps.toArray u w fun
      | .returned _, u', w' => LvU P fn N R ρ ds (settle u') w'
      | .panicked chain, u', w' => LvU P fn N R ρ ds (raised u' chain) w'
      | .outgrown, _, _ => False)
    (hb : gfn.body.isSome = true := by rfl) (hn : (gfn.name == "runtime.NumGoroutine") = false := by kernel_rfl) : LvU P fn N R ρ ({ target := .fn (.func g) caps.toArray, args := #[] } :: ds) u w := fun a ds' ha => by
  refine ⟨hu, .inr ⟨fun hc => by simp [Fence.wide] at hc, .func g, caps.toArray, g, caps.toArray, rfl, ?_, fun _ _ => trivial, ?_⟩⟩
  · simp [invoke, go_sem, enters_name hg hb hn]
  · refine CallsDIn.mono h fun e u' w' he => ?_
    cases e with
    | returned v => exact he a ds' ha
    | panicked ch => exact he a ds' ha
    | outgrown => exact he.elim
def FinD (P : Program) (fn : Func) (N : Nat) (R : Ending → World → Prop) : Post
  | .normal, ρ, ds, w | .ret, ρ, ds, w => LvU P fn N R ρ ds .returning w
  | .panic ch, ρ, ds, w => LvU P fn N R ρ ds (.panicking ch) w
  | _, _, _, _ => False
theorem calls_of_WpD {f : FuncId} {fn : Func} {c : Code} {vs : List Value} {R : Ending → World → Prop} (hf : P.funcs[f]? = some fn) (h : Wp none P N c (argsEnv vs 0) [] w (FinD P fn N R)) (hb : fn.body = some c := by rfl) (hN : fn.ntmps = N := by rfl)
    (hn : Nat.ble vs.length N = true := by rfl) : Calls P f vs.toArray w R := by
  refine calls_of_WpM hf h ?_ hb hN hn
  intro e ρ ds a w' hr hq
  cases e with
  | normal => show LeavesInM _ _ _ _ _ _ a.defers _ _; rw [hr.defers]; exact hq a ds hr
  | ret => show LeavesInM _ _ _ _ _ _ a.defers _ _; rw [hr.defers]; exact hq a ds hr
  | panic ch => show LeavesInM _ _ _ _ _ _ a.defers _ _; rw [hr.defers]; exact hq a ds hr
  | _ => exact hq.elim
end
/-! ### values of functions that bear their first arguments -/
theorem Ef.callb {r : Option Nat} {P : Program} {N : Nat} {ρ : Env} {ds : List Deferred} {w : World} {Q : Post} {dst : Option Nat} {K : Env → World → Prop} {f : FuncId} {fn : Func} {x : Operand} {args : Array Operand} {ts : Array TypeId} {first caps : Array Value} {us : List Value} (hf : P.funcs[f]? = some fn)
    (hc : Calls P f (first ++ us.toArray ++ caps) w (afterCall ρ ds dst K Q)) (hb : fn.body.isSome = true := by rfl) (hn : (fn.name == "runtime.NumGoroutine") = false := by kernel_rfl) :
    Ef r P N dst (.call { callee := .value x, args := args, argTypes := ts }) (.func (.func f) first caps :: us) ρ ds w K Q := by
  refine Ef.of_enter (by simp) (fun o e ho hv => ?_) hc
  simp only [Op.operands, Call.operands, Array.toList_append, List.map_append, List.singleton_append, List.map_cons, List.map_nil, List.cons.injEq] at hv
  obtain ⟨h1, h2⟩ := hv
  have h3 : args.map e = us.toArray := by
    apply Array.ext'
    simpa using h2
  simp only [execOp, ho, resolve, h1, Sem.run_bind]
  simp [Deferred.ofValue, invoke, h3, enters_name hf hb hn, go_sem]
/-! ### orders that are drawn: one of three may come up; a reading that is taken when it comes up -/
theorem Ef.rd {r : Option Nat} {P : Program} {N : Nat} {ρ : Env} {ds : List Deferred} {w : World} {Q : Post} {dst : Option Nat} {K : Env → World → Prop} {op : Op} {vs : List Value} {v : Value} (hy : Yv P w op vs v) (k : K (putE ρ dst v) w) : Ef r P N dst op vs ρ ds w K Q :=
  Ef.of_run hy.1 (fun o e ho hv => hy.2 o e ho hv w (fun _ => Keep.refl w)) k
section
variable {r : Option Nat} {P : Program} {N : Nat} {ops : Array Oper} {ρ : Env} {ds : List Deferred} {w : World} {Q : Post} {tail : List Nat} {listed : Array Bool}
theorem WD.acts (is : List Nat) (hl : Region.ready .any ops listed = is) (hne : is ≠ [])
    (h : ∀ i ∈ is, ∃ dst op vs, cop N ops ρ i = some (dst, op, vs) ∧ Ef r P N dst op vs ρ ds w (fun ρ' w' => (i ∉ tail → Keep w w') ∧ WD r P N ops tail (listed.setIfInBounds i true) ρ' ds w' Q) Q) : WD r P N ops tail listed ρ ds w Q := by
  intro a ha
  obtain ⟨i0, is0, his⟩ := List.exists_cons_of_ne_nil hne
  have hr0 : i0 ∈ Region.ready .any ops listed := by rw [hl, his]; simp
  have h0 := still_set (ready_un hr0)
  rw [h0]
  refine ⟨fun h => absurd (hl.symm.trans h) hne, fun k hk => ?_⟩
  have hrk := hk
  rw [hl] at hk
  obtain ⟨dst, op, vs, hc, he⟩ := h k hk
  have hs : still (listed.setIfInBounds i0 true) = still (listed.setIfInBounds k true) := by
    have h1 := still_set (ready_un hrk)
    omega
  obtain ⟨o, ho, hg, hd, rfl, hN, hv⟩ := cop_spec hc
  unfold wpOpIn
  simp only [ho]
  rw [wanted_of_gd ha hg]
  simp only [if_true]
  refine Oper.wpIn_mono ?_ (he hN o a rfl hd ha (evs_spec ha hv))
  rintro a' w' ⟨ρ', hr, hk⟩
  refine ⟨hk.1, ?_⟩
  rw [hs]
  exact hk.2 a' hr
theorem WD.act3 (i j k : Nat) {di dj dk : Option Nat} {oi oj ok : Op} {vi vj vk : List Value} (hci : cop N ops ρ i = some (di, oi, vi) := by rfl) (hcj : cop N ops ρ j = some (dj, oj, vj) := by rfl) (hck : cop N ops ρ k = some (dk, ok, vk) := by rfl)
    (hi : Ef r P N di oi vi ρ ds w (fun ρ' w' => (i ∉ tail → Keep w w') ∧ WD r P N ops tail (listed.setIfInBounds i true) ρ' ds w' Q) Q) (hj : Ef r P N dj oj vj ρ ds w (fun ρ' w' => (j ∉ tail → Keep w w') ∧ WD r P N ops tail (listed.setIfInBounds j true) ρ' ds w' Q) Q)
    (hk : Ef r P N dk ok vk ρ ds w (fun ρ' w' => (k ∉ tail → Keep w w') ∧ WD r P N ops tail (listed.setIfInBounds k true) ρ' ds w' Q) Q) (hl : Region.ready .any ops listed = [i, j, k] := by kernel_rfl) : WD r P N ops tail listed ρ ds w Q :=
  WD.acts [i, j, k] hl (by simp) (by
    intro x hx
    simp only [List.mem_cons, List.not_mem_nil, or_false] at hx
    rcases hx with rfl | rfl | rfl
    · exact ⟨_, _, _, hci, hi⟩
    · exact ⟨_, _, _, hcj, hj⟩
    · exact ⟨_, _, _, hck, hk⟩)
end
/-! ### panics, deferring, recovering -/
theorem Ef.pan {r : Option Nat} {P : Program} {N : Nat} {ρ : Env} {ds : List Deferred} {w : World} {Q : Post} {dst : Option Nat} {K : Env → World → Prop} {x : Operand} {t : TypeId} {v : Value} (k : Q (.panic [{ v := .iface t v, recovered := false }]) ρ ds w) : Ef r P N dst (.panic x) [.iface t v] ρ ds w K Q :=
  Ef.of_panic (by simp) (fun o e ho hv => by
    have hx : e x = .iface t v := by simpa [Op.operands] using hv
    simp [execOp, ho, hx, run_panic_iface]) k
def noIf (P : Program) (t : TypeId) : Bool := match P.underlying t with
  | some (.interface _) => false
  | some _ => true
  | none => false
/-- an interface's value is asserted to be of the type that it is of -/
theorem Yv.ta_t {P : Program} {w : World} {x : Operand} {xt t : TypeId} {v : Value} (h : noIf P t = true := by kernel_rfl) : Yv P w (.typeAssert x xt t true) [.iface t v] (.tuple #[v, .bool true]) :=
  Yv.mk1 (x := x) (by simp) rfl fun o e w' hop hx _ => by
    unfold noIf at h
    cases hu : P.underlying t with
    | none => rw [hu] at h; cases h
    | some d =>
      rw [hu] at h
      cases d <;> first | exact absurd h Bool.false_ne_true | simp [execOp, hop, hx, Instr.typeAssert, run_underlying hu]
theorem Yv.ifn_ne {P : Program} {w : World} {t u tt : TypeId} {x : Operand} {c : Value} {v : Value} (hc : c = .nilIface := by rfl) (hu : ifB P t = true := by kernel_rfl) : Yv P w (.binOp .neq t x (.const c) u) [.iface tt v, .nilIface] (.bool true) :=
  Yv.mk2 (x := x) (y := .const c) (by simp) rfl fun o e w' hop hx hy _ => by
    have heq : (Op.equal t (.iface tt v) .nilIface).run P w' = .ok false w' := eqnil_f hu 9999 w'
    simp [execOp, hop, hx, hy, binOp, eqGuard, heq]
theorem Yv.ifn_nn {P : Program} {w : World} {t u : TypeId} {x : Operand} {c : Value} (hc : c = .nilIface := by rfl) (hu : ifB P t = true := by kernel_rfl) : Yv P w (.binOp .neq t x (.const c) u) [.nilIface, .nilIface] (.bool false) :=
  Yv.mk2 (x := x) (y := .const c) (by simp) rfl fun o e w' hop hx hy _ => by
    have heq : (Op.equal t .nilIface .nilIface).run P w' = .ok true w' := eqnil_t hu 9999 w'
    simp [execOp, hop, hx, hy, binOp, eqGuard, heq]
theorem WO.defer {P : Program} {N : Nat} {ops : Array Oper} {ρ : Env} {ds : List Deferred} {w : World} {Q : Post} {i : Nat} {l : List Nat} {dst : Option Nat} {x : Operand} {f : FuncId} {caps : Array Value} (k : WO none P N ops l (putE ρ dst undef) ({ target := .fn (.func f) caps, args := #[] } :: ds) w Q)
    (hc : cop N ops ρ i = some (dst, .defer { callee := .value x, args := #[], argTypes := #[] }, [.func (.func f) #[] caps]) := by rfl) : WO none P N ops (i :: l) ρ ds w Q := by
  intro a ha
  obtain ⟨o, ho, hg, hd, hop, hN, hv⟩ := cop_spec hc
  have hv := evs_spec ha hv
  simp only [wpOpsIn, ho]
  rw [wanted_of_gd ha hg]
  simp only [if_true]
  have hx : a.eval x = .func (.func f) #[] caps := by simpa [Op.operands, Call.operands] using hv
  have hrun : (o.semAt (Fr none).round a.eval).run P w = .ok (.defer { target := .fn (.func f) caps, args := #[] }) w := by
    have : o.semAt (Fr none).round a.eval = execOp a.eval o := Oper.semAt_none a.eval o
    rw [this]
    simp only [execOp, hop, resolve, hx, Sem.run_bind]
    simp [Deferred.ofValue, go_sem]
  refine ⟨fun f hf => trivial, ?_⟩
  rw [hrun]
  simp only [Oper.uponIn, hd]
  refine k _ ?_
  have h2 := ha.putE hN undef
  refine ⟨?_, ?_, ?_⟩
  · have := h2.size
    cases dst <;> simpa [Act.put] using this
  · intro t v ht
    have := h2.val t v ht
    cases dst <;> simpa [Act.put] using this
  · have := ha.defers
    cases dst <;> simp [Act.put, this]
/-- a region in a deferred call's body -/
def WSO (P : Program) (N : Nat) (ops : Array Oper) (u : FrameMode) (l : List Nat) (ρ : Env) (ds : List Deferred) (w : World) (Q : FrameMode → Post) : Prop :=
  ∀ (c₀ : Frame) (cs : List Frame), c₀.mode = u → ∀ a, Rep N a ρ ds → wpOpsSIn (Fr none) 0 P ops (postU N c₀ cs Q) l a (c₀ :: cs) w
section
variable {P : Program} {N : Nat} {ops : Array Oper} {ρ : Env} {ds : List Deferred} {w : World} {u u' : FrameMode} {Q : FrameMode → Post} {i id : Nat} {l : List Nat} {dst : Option Nat} {v : Value} {op : Op} {vs : List Value}
theorem WpU.region (h : WSO P N ops u (List.range ops.size) ρ ds w Q) : WpU P N u (.region id ops false) ρ ds w Q := fun c₀ cs hc a ha => wpSIn_region (h c₀ cs hc a ha)
theorem WSO.done (h : Q u .normal ρ ds w) : WSO P N ops u [] ρ ds w Q := fun c₀ cs hc a ha => ⟨u, by subst hc; rfl, ρ, ds, ha, h⟩
theorem WSO.rd {d : Nat} (hc : cop N ops ρ i = some (some d, op, vs)) (hy : Yv P w op vs v) (k : WSO P N ops u l ((d, v) :: ρ) ds w Q) : WSO P N ops u (i :: l) ρ ds w Q := fun c₀ cs hm a ha => by
  obtain ⟨o, ho, hg, hd, rfl, hN, hv⟩ := cop_spec hc
  simp only [wpOpsSIn, ho]
  rw [wanted_of_gd ha hg]
  simp only [if_true]
  refine ⟨fun f hf => trivial, ?_⟩
  rw [hy.2 o a.eval rfl (evs_spec ha hv) w (fun _ => Keep.refl w)]
  simp only [hd]
  exact k c₀ cs hm _ (ha.putE hN v)
theorem WSO.rec_some {ts : Array TypeId} (hr : recd u = some (v, u')) (k : WSO P N ops u' l (putE ρ dst v) ds w Q) (hc : cop N ops ρ i = some (dst, .call { callee := .builtin .recover, args := #[], argTypes := ts }, []) := by rfl) : WSO P N ops u (i :: l) ρ ds w Q := fun c₀ cs hm a ha => by
  obtain ⟨o, ho, hg, hd, hop, hN, hv⟩ := cop_spec hc
  simp only [wpOpsSIn, ho]
  rw [wanted_of_gd ha hg]
  simp only [if_true]
  refine ⟨fun f hf => trivial, ?_⟩
  have hrun : (execOp a.eval o).run P w = .ok .recover w := by
    simp only [execOp, hop, resolve, Sem.run_bind]
    simp [invoke, builtin, go_sem]
  rw [hrun]
  simp only
  rw [recoverD_some (by rw [hm]; exact hr)]
  simp only [hd]
  have := k { c₀ with mode := u' } cs rfl _ (ha.putE hN v)
  exact this
theorem WSO.rec_none {ts : Array TypeId} (hr : recd u = none) (k : WSO P N ops u l (putE ρ dst .nilIface) ds w Q) (hc : cop N ops ρ i = some (dst, .call { callee := .builtin .recover, args := #[], argTypes := ts }, []) := by rfl) : WSO P N ops u (i :: l) ρ ds w Q := fun c₀ cs hm a ha => by
  obtain ⟨o, ho, hg, hd, hop, hN, hv⟩ := cop_spec hc
  simp only [wpOpsSIn, ho]
  rw [wanted_of_gd ha hg]
  simp only [if_true]
  refine ⟨fun f hf => trivial, ?_⟩
  have hrun : (execOp a.eval o).run P w = .ok .recover w := by
    simp only [execOp, hop, resolve, Sem.run_bind]
    simp [invoke, builtin, go_sem]
  rw [hrun]
  simp only
  rw [recoverD_none (by rw [hm]; exact hr)]
  simp only [hd]
  exact k c₀ cs hm _ (ha.putE hN _)
end
end Go.Proofs.YtgjhbapbomdpbaaDoor.Sh
/- Regions whose order is drawn, where a store to new memory may come up between what only reads: what reads looks at an older world alone. (Part E's rules once more, over a base world.) -/
set_option linter.unusedVariables false
set_option linter.unusedSimpArgs false
namespace Go.Proofs.YtgjhbapbomdpbaaDoor.Sh
open Go.RowKit
section
variable {r : Option Nat} {P : Program} {ops : Array Oper} {Qa : Exit → Act → World → Prop} {wb : World}
/-- does the tail wait for number i, if that one looks at memory? -/
def tailFor (ops : Array Oper) (tail : List Nat) (i : Nat) : Bool := tail.all fun t => match ops[i]? with
  | some os => !rdm os.op || reachB ops ops.size t i
  | none => true
theorem tailFor_spec {tail : List Nat} {i : Nat} {oi : Oper} (hi : ops[i]? = some oi) (h : tailFor ops tail i = true) : ∀ t ∈ tail, ∀ ot, ops[t]? = some ot → rdm oi.op = true → reachB ops ops.size t i = true := by
  intro t ht ot hot hr
  have h1 := List.all_eq_true.1 h t ht
  rw [hi] at h1
  simpa [hr] using h1
def regOkS (ops : Array Oper) (tail is : List Nat) : Bool := ops.all calmOp && is.all (tailFor ops tail)
def AnyB (wb : World) (r : Option Nat) (P : Program) (ops : Array Oper) (Qa : Exit → Act → World → Prop) (tail : List Nat) : Nat → Array Bool → Act → World → Prop
  | 0, listed, a, w => Region.ready .any ops listed = [] ∧ Qa .normal a w
  | fuel + 1, listed, a, w => (Region.ready .any ops listed = [] → Qa .normal a w) ∧
    ∀ i ∈ Region.ready .any ops listed, wpOpIn (Fr r) 0 P ops Qa i (fun a' w' => (i ∉ tail → Keep wb w → Keep wb w') ∧ AnyB wb r P ops Qa tail fuel (listed.setIfInBounds i true) a' w') a w
theorem AnyB.sound {tail : List Nat} : ∀ (fuel : Nat) (listed : Array Bool) (a : Act) (w : World), AnyB wb r P ops Qa tail fuel listed a w → wpAnyIn (Fr r) 0 P .any ops Qa fuel listed a w
  | 0, _, _, _, h => h
  | fuel + 1, _, _, _, h => ⟨h.1, fun i hi => wpOpIn_mono (fun a' w' h' => AnyB.sound fuel _ a' w' h'.2) (h.2 i hi)⟩
theorem AnyB.first {tail : List Nat} {i : Nat} {oi : Oper} {v : Value} (hi : ops[i]? = some oi) (hit : i ∉ tail) (htail : ∀ t ∈ tail, ∀ ot, ops[t]? = some ot → rdm oi.op = true → reachB ops ops.size t i = true) (hcalm : ops.all calmOp = true) (hQ : ∀ c a w, Qa (.panic c) (a.put oi.dst v) w → Qa (.panic c) a w) :
    ∀ (fuel : Nat) (listed : Array Bool) (a : Act) (w : World), DC ops listed →
      (∀ j oj, ops[j]? = some oj → j ≠ i → listed.getD j true = false → (∀ e ∈ oj.after, Region.binds .any e = true → e.on ≠ i) → oi.apart ops oj = true) →
      i ∈ Region.ready .any ops listed → Hv P ops wb oi v a → (rdm oi.op = true → Keep wb w) → AnyB wb r P ops Qa tail fuel (listed.setIfInBounds i true) (a.put oi.dst v) w → AnyB wb r P ops Qa tail (fuel + 1) listed a w := by
  have calm : ∀ (k : Nat) (ok : Oper), ops[k]? = some ok → calmOp ok = true := fun k ok hk => Array.all_eq_true_iff_forall_mem.1 hcalm ok (Array.mem_of_getElem? hk)
  suffices main : ∀ (fuel : Nat) (listed : Array Bool) (a : Act) (w : World), DC ops listed →
      (∀ j oj, ops[j]? = some oj → j ≠ i → listed.getD j true = false → (∀ e ∈ oj.after, Region.binds .any e = true → e.on ≠ i) → oi.apart ops oj = true) →
      i ∈ Region.ready .any ops listed → Hv P ops wb oi v a → (rdm oi.op = true → Keep wb w) → AnyB wb r P ops Qa tail fuel (listed.setIfInBounds i true) (a.put oi.dst v) w → AnyB wb r P ops Qa tail (fuel + 1) listed a w by
    exact fun fuel listed a w h0 h1 h2 h3 h4 h5 => main fuel listed a w h0 h1 h2 h3 h4 h5
  intro fuel
  induction fuel with
  | zero =>
    intro listed a w _ _ hr hy hk H
    refine ⟨fun h => (by rw [h] at hr; cases hr), fun j hj => ?_⟩
    by_cases hji : j = i
    · subst hji; exact hy.op hi (calm _ _ hi) hk ⟨fun _ h => h, H⟩
    · have := ready_mono hj hji
      rw [H.1] at this
      cases this
  | succ fuel ih =>
    intro listed a w hdc hfree hr hy hk H
    refine ⟨fun h => (by rw [h] at hr; cases hr), fun j hj => ?_⟩
    by_cases hji : j = i
    · subst hji; exact hy.op hi (calm _ _ hi) hk ⟨fun _ h => h, H⟩
    · have hH := H.2 j (ready_mono hj hji)
      obtain ⟨hjun, oj, hoj, hall⟩ := mem_ready.1 hj
      have hiun := (mem_ready.1 hr).1
      have hilt : listed.getD i false = false := by
        rcases Nat.lt_or_ge i listed.size with h' | h'
        · simpa [h'] using hiun
        · simp [Array.getElem?_eq_none h']
      have hnot : ∀ e ∈ oj.after, Region.binds .any e = true → e.on ≠ i := fun e he hb heq => by
        have h1 := hall e he hb
        rw [heq, hilt] at h1
        cases h1
      have hc := comm hoj (hfree j oj hoj hji hjun hnot) (calm _ _ hi) (calm _ _ hoj) hQ hy hH
      have hfree' : ∀ k ok, ops[k]? = some ok → k ≠ i → (listed.setIfInBounds j true).getD k true = false → (∀ e ∈ ok.after, Region.binds .any e = true → e.on ≠ i) → oi.apart ops ok = true := fun k ok hk' hki hun hno => by
        refine hfree k ok hk' hki ?_ hno
        by_cases hjk : j = k
        · subst hjk; exact hjun
        · rw [getD_set_ne true hjk] at hun; exact hun
      refine wpOpIn_mono (fun a' w' h3 => ?_) hc
      obtain ⟨hy', h3⟩ := h3
      refine ⟨h3.1, ih _ a' w' (hdc.mark hj) hfree' (ready_mono hr (Ne.symm hji)) hy' (fun hrd => ?_) ?_⟩
      · have hjt : j ∉ tail := fun hjt => by
          have hre := htail j hjt oj hoj hrd
          have := hdc.reach _ j i oj hoj hall hre
          rw [hilt] at this
          cases this
        exact h3.1 hjt (hk hrd)
      · rw [Array.setIfInBounds_comm _ _ hji]
        exact h3.2


def WDB (wb : World) (r : Option Nat) (P : Program) (N : Nat) (ops : Array Oper) (tail : List Nat) (listed : Array Bool) (ρ : Env) (ds : List Deferred) (w : World) (Q : Post) : Prop :=
  ∀ a, Rep N a ρ ds → AnyB wb r P ops (lift N Q) tail (still listed) listed a w
section
variable {N : Nat} {ρ ρ' : Env} {ds : List Deferred} {w : World} {Q : Post} {id : Nat} {tail : List Nat} {listed : Array Bool}
theorem Wp.drawsB (tail : List Nat) (hm : P.follows .mixedOrders = true) (h : WDB w.drew r P N ops tail (Array.replicate ops.size false) ρ ds w.drew Q) : Wp r P N (.region id ops true) ρ ds w Q :=
  fun a ha => wpIn_region_any hm (AnyB.sound _ _ _ _ (by have := h a ha; rwa [still_new] at this))
theorem WDB.takes (is : List Nat) (hQ : Pf Q) (hdc : DC ops listed) (hb : ∀ i ∈ is, ∀ o, ops[i]? = some o → rdm o.op = true → Keep wb w) (h : Rn P wb N ops is ρ ρ') (hok : regOkS ops tail is = true) (hl : mayTakes ops tail listed is = true) (k : WDB wb r P N ops tail (marks listed is) ρ' ds w Q) : WDB wb r P N ops tail listed ρ ds w Q := by
  simp only [regOkS, Bool.and_eq_true] at hok
  induction is generalizing ρ listed with
  | nil => exact fun a ha => k a (ha.le h)
  | cons i is ih =>
    intro a ha
    obtain ⟨hok1, hok2⟩ := hok
    simp only [List.all_cons, Bool.and_eq_true] at hok2
    simp only [mayTakes, Bool.and_eq_true] at hl
    obtain ⟨ht, hl⟩ := hl
    simp only [mayTake, Bool.and_eq_true, Bool.not_eq_true'] at ht
    obtain ⟨⟨hrd, hfr⟩, htl⟩ := ht
    have hit : i ∉ tail := fun hm => by simp [hm] at htl
    have hrd' : i ∈ Region.ready .any ops listed := by simpa using hrd
    rw [still_set (ready_un hrd')]
    rcases h with ⟨d, op, vs, v, hc, hy, hrest⟩ | ⟨d, hc, hrest⟩
    · obtain ⟨o, ho, hg, hd, rfl, hN, hv⟩ := cop_spec hc
      have hnext := ih (hdc.mark hrd') (fun j hj => hb j (List.mem_cons_of_mem _ hj)) hrest hl k ⟨hok1, hok2.2⟩
      refine AnyB.first ho hit (tailFor_spec ho hok2.1) hok1 (fun c a w hh => hQ.lift _ _ _ _ _ hh) _ _ _ _ hdc (Region.free_spec ho hfr) hrd' (v := v) (.inl ⟨wanted_of_gd ha hg, fun w' hk => hy.2 o a.eval rfl (evs_spec ha hv) w' hk⟩) (hb i (List.mem_cons_self ..) o ho) ?_
      rw [hd]
      exact hnext _ (ha.putE hN v)
    · obtain ⟨o, ho, hg, hd, hN⟩ := cno_spec hc
      have hnext := ih (hdc.mark hrd') (fun j hj => hb j (List.mem_cons_of_mem _ hj)) hrest hl k ⟨hok1, hok2.2⟩
      refine AnyB.first ho hit (tailFor_spec ho hok2.1) hok1 (fun c a w hh => hQ.lift _ _ _ _ _ hh) _ _ _ _ hdc (Region.free_spec ho hfr) hrd' (v := undef) (.inr ⟨wanted_of_gd ha hg, rfl⟩) (hb i (List.mem_cons_self ..) o ho) ?_
      rw [hd]
      exact hnext _ (ha.putE hN undef)
theorem WDB.rd {w0 : World} {is : List Nat} (hQ : Pf Q) (hb : Keep wb w) (hk : Keep w0 wb) (h : Rn P w0 N ops is ρ ρ') (k : WDB wb r P N ops tail (marks listed is) ρ' ds w Q) (hok : regOkS ops tail is = true := by kernel_rfl) (hl : mayTakes ops tail listed is = true := by kernel_rfl) (hdc : dcB ops listed = true := by kernel_rfl) : WDB wb r P N ops tail listed ρ ds w Q :=
  WDB.takes is hQ (dcB_of hdc) (fun _ _ _ _ _ => hb) (h.weak hk) hok hl k
/-- what does not look at memory, in whatever world -/
theorem WDB.rd0 {w0 : World} {is : List Nat} (hQ : Pf Q) (hk : Keep w0 wb) (h : Rn P w0 N ops is ρ ρ') (k : WDB wb r P N ops tail (marks listed is) ρ' ds w Q) (hok : regOkS ops tail is = true := by kernel_rfl) (hl : mayTakes ops tail listed is = true := by kernel_rfl) (hdc : dcB ops listed = true := by kernel_rfl) (hn : (is.all fun i => match ops[i]? with | some o => !rdm o.op | none => true) = true := by kernel_rfl) : WDB wb r P N ops tail listed ρ ds w Q :=
  WDB.takes is hQ (dcB_of hdc) (fun i hi o ho hr => by
    have := List.all_eq_true.1 hn i hi
    rw [ho] at this
    simp [hr] at this) (h.weak hk) hok hl k
theorem WDB.done (h : Q .normal ρ ds w) (hl : Region.ready .any ops listed = [] := by kernel_rfl) : WDB wb r P N ops tail listed ρ ds w Q := fun a ha => by
  cases still listed with
  | zero => exact ⟨hl, ρ, ds, ha, h⟩
  | succ n => exact ⟨fun _ => ⟨ρ, ds, ha, h⟩, by rw [hl]; simp⟩
/-- one operation alone may come up -/
theorem WDB.act (i : Nat) {dst : Option Nat} {op : Op} {vs : List Value} (hc : cop N ops ρ i = some (dst, op, vs) := by rfl)
    (he : Ef r P N dst op vs ρ ds w (fun ρ' w' => (i ∉ tail → Keep wb w → Keep wb w') ∧ WDB wb r P N ops tail (listed.setIfInBounds i true) ρ' ds w' Q) Q) (hl : Region.ready .any ops listed = [i] := by kernel_rfl) : WDB wb r P N ops tail listed ρ ds w Q := by
  intro a ha
  have hi : i ∈ Region.ready .any ops listed := by rw [hl]; simp
  rw [still_set (ready_un hi)]
  refine ⟨fun h => (by rw [hl] at h; cases h), fun j hj => ?_⟩
  rw [hl] at hj
  obtain rfl : j = i := by simpa using hj
  obtain ⟨o, ho, hg, hd, rfl, hN, hv⟩ := cop_spec hc
  unfold wpOpIn
  simp only [ho]
  rw [wanted_of_gd ha hg]
  simp only [if_true]
  refine Oper.wpIn_mono ?_ (he hN o a rfl hd ha (evs_spec ha hv))
  rintro a' w' ⟨ρ', hr, hk⟩
  exact ⟨hk.1, hk.2 a' hr⟩
/-- one of two may come up -/
theorem WDB.act2 (i j : Nat) {di dj : Option Nat} {oi oj : Op} {vi vj : List Value} (hci : cop N ops ρ i = some (di, oi, vi) := by rfl) (hcj : cop N ops ρ j = some (dj, oj, vj) := by rfl)
    (hi : Ef r P N di oi vi ρ ds w (fun ρ' w' => (i ∉ tail → Keep wb w → Keep wb w') ∧ WDB wb r P N ops tail (listed.setIfInBounds i true) ρ' ds w' Q) Q) (hj : Ef r P N dj oj vj ρ ds w (fun ρ' w' => (j ∉ tail → Keep wb w → Keep wb w') ∧ WDB wb r P N ops tail (listed.setIfInBounds j true) ρ' ds w' Q) Q) (hl : Region.ready .any ops listed = [i, j] := by kernel_rfl) : WDB wb r P N ops tail listed ρ ds w Q := by
  intro a ha
  have hri : i ∈ Region.ready .any ops listed := by rw [hl]; simp
  have hrj : j ∈ Region.ready .any ops listed := by rw [hl]; simp
  rw [still_set (ready_un hri)]
  have hji : still (listed.setIfInBounds i true) = still (listed.setIfInBounds j true) := by
    have h1 := still_set (ready_un hri)
    have h2 := still_set (ready_un hrj)
    omega
  refine ⟨fun h => (by rw [hl] at h; cases h), fun k hk => ?_⟩
  rw [hl] at hk
  simp only [List.mem_cons, List.not_mem_nil, or_false] at hk
  rcases hk with rfl | rfl
  · obtain ⟨o, ho, hg, hd, rfl, hN, hv⟩ := cop_spec hci
    unfold wpOpIn
    simp only [ho]
    rw [wanted_of_gd ha hg]
    simp only [if_true]
    refine Oper.wpIn_mono ?_ (hi hN o a rfl hd ha (evs_spec ha hv))
    rintro a' w' ⟨ρ', hr, hk⟩
    exact ⟨hk.1, hk.2 a' hr⟩
  · obtain ⟨o, ho, hg, hd, rfl, hN, hv⟩ := cop_spec hcj
    unfold wpOpIn
    simp only [ho]
    rw [wanted_of_gd ha hg]
    simp only [if_true]
    refine Oper.wpIn_mono ?_ (hj hN o a rfl hd ha (evs_spec ha hv))
    rintro a' w' ⟨ρ', hr, hk⟩
    refine ⟨hk.1, ?_⟩
    rw [hji]
    exact hk.2 a' hr
end
end
/-- what only reads, as a step of its own -/
theorem Ef.yv {r : Option Nat} {P : Program} {N : Nat} {ρ : Env} {ds : List Deferred} {w : World} {Q : Post} {dst : Option Nat} {op : Op} {vs : List Value} {v : Value} {K : Env → World → Prop} (h : Yv P w op vs v) (k : K (putE ρ dst v) w) : Ef r P N dst op vs ρ ds w K Q :=
  Ef.of_run h.1 (fun o e ho hv => h.2 o e ho hv w (fun _ => Keep.refl w)) k
end Go.Proofs.YtgjhbapbomdpbaaDoor.Sh
