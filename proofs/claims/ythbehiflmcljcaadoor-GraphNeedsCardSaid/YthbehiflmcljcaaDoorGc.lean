/- Calls through an interface: the method of a pointer's type, its receiver the pointer or what it points to. New slices of any kind. -/
import Derived.Test.YthbehiflmcljcaaDoorShO
import Derived.Laws.MakeOwn
import Derived.Laws.OwnMore
set_option linter.unusedVariables false
set_option linter.unusedSimpArgs false
set_option maxRecDepth 10000
namespace Go.Proofs.YthbehiflmcljcaaDoor.Sh
open Go.RowKit
def metB (P : Program) (T : TypeId) (name : String) (f : FuncId) (pr : Bool) : Bool := match P.info? T with
  | some i => (match i.methods.find? (fun m => m.name == name) with
    | some m => m.path.toList.isEmpty && (match m.func with
      | some (g, q) => Nat.beq g f && (bif pr then q else !q)
      | none => false)
    | none => false)
  | none => false
def ptrB (P : Program) (T E : TypeId) : Bool := match P.underlying T with
  | some (.pointer e) => Nat.beq e E
  | _ => false
theorem ptrB_of {P : Program} {T E : TypeId} (h : ptrB P T E = true) : P.underlying T = some (.pointer E) := by
  unfold ptrB at h
  split at h
  · rename_i e he
    rw [he, Nat.eq_of_beq_eq_true h]
  · cases h
theorem metB_of {P : Program} {T : TypeId} {name : String} {f : FuncId} {pr : Bool} (h : metB P T name f pr = true) : ∃ i m, P.info? T = some i ∧ i.methods.find? (fun m => m.name == name) = some m ∧ m.path = #[] ∧ m.func = some (f, pr) := by
  unfold metB at h
  split at h
  · rename_i i hi
    split at h
    · rename_i m hm
      rw [Bool.and_eq_true] at h
      obtain ⟨h1, h2⟩ := h
      split at h2
      · rename_i g q hg
        rw [Bool.and_eq_true] at h2
        refine ⟨i, m, hi, hm, by apply Array.ext'; exact List.isEmpty_iff.1 h1, ?_⟩
        have e1 := Nat.eq_of_beq_eq_true h2.1
        have e2 : q = pr := by
          have := h2.2
          cases pr <;> cases q <;> simp_all
        rw [hg, e1, e2]
      · cases h2
    · cases h
  · cases h
/-- a method of the pointer itself -/
theorem run_method_ptr {P : Program} {w : World} {T E : TypeId} {name : String} {f : FuncId} {v : Value} (h : metB P T name f true = true) (hp : ptrB P T E = true) (n : Nat) : (method (n + 1) T v name).run P w = .ok (f, v) w := by
  obtain ⟨i, m, hi, hm, h1, h2⟩ := metB_of h
  have hp := ptrB_of hp
  unfold method
  simp [typeInfo, hi, hm, h1, h2, follow, receiverAt, run_underlying hp, Place.get, go_sem]
theorem wrap_some (ts : Array TypeId) (t : TypeId) (a : Addr) (s m : ByteArray) : Builtin.ssaWrapNilChk_ ts t #[.pointer (some a), .string s, .string m] = pure (.pointer (some a)) := rfl
/-- a method of what the pointer points to -/
theorem run_method_load {P : Program} {w : World} {T E : TypeId} {name : String} {f : FuncId} {b q : Nat} {u : Value} (h : metB P T name f false = true) (hp : ptrB P T E = true) (hs : scB P E = true) (hc : w.cell? ⟨b, q, none⟩ = some u) (n : Nat) :
    (method (n + 1) T (.pointer (some ⟨b, q, none⟩)) name).run P w = .ok (f, u) w := by
  obtain ⟨i, m, hi, hm, h1, h2⟩ := metB_of h
  have hp := ptrB_of hp
  unfold method
  simp [typeInfo, hi, hm, h1, h2, follow, receiverAt, run_underlying hp, Place.get, wrap_some, strVal, loadVar, run_isAgg_sc (scB_of hs), hc, asAddr, go_sem]
theorem Ef.invk {r : Option Nat} {P : Program} {N : Nat} {ρ : Env} {ds : List Deferred} {w : World} {Q : Post} {dst : Option Nat} {K : Env → World → Prop} {f : FuncId} {fn : Func} {x : Operand} {args : Array Operand} {ts : Array TypeId} {name : String} {T : TypeId} {rv recv : Value} {us : List Value}
    (hm : ∀ n, (method (n + 1) T rv name).run P w = .ok (f, recv) w) (hf : P.funcs[f]? = some fn)
    (hc : Calls P f (recv :: us).toArray w (afterCall ρ ds dst K Q)) (hb : fn.body.isSome = true := by rfl) (hn : (fn.name == "runtime.NumGoroutine") = false := by kernel_rfl) :
    Ef r P N dst (.call { callee := .invoke x name, args := args, argTypes := ts }) (.iface T rv :: us) ρ ds w K Q := by
  refine Ef.of_enter (args := (recv :: us).toArray) (by simp) (fun o e ho hv => ?_) hc
  simp only [Op.operands, Call.operands, Array.toList_append, List.map_append, List.singleton_append, List.map_cons, List.map_nil, List.cons.injEq] at hv
  obtain ⟨h1, h2⟩ := hv
  have h3 : args.map e = us.toArray := by
    apply Array.ext'
    simpa using h2
  have hm' : (method (P.types.size + 100) T rv name).run P w = .ok (f, recv) w := hm (P.types.size + 99)
  have e1 : (#[Value.iface T rv] ++ us.toArray).extract 1 (us.length + 1) = us.toArray := by
    apply Array.ext'
    simp
  have e2 : (#[recv] ++ us.toArray) = (recv :: us).toArray := by
    apply Array.ext'
    simp
  have h4 := enters_name hf hb hn (#[recv] ++ us.toArray) w
  rw [e2] at h4
  simp only [execOp, ho, resolve, h1, h3, Sem.run_bind, Sem.run_pure, Result.andThen_ok, invoke]
  simp [callMethod, hm', h4, e2, go_sem]
/-- a call through an interface, by what it leaves -/
theorem Ef.inv {r : Option Nat} {P : Program} {N : Nat} {ρ : Env} {ds : List Deferred} {w w0 : World} {M : List Nat} {A D : List Chunk} {R : Value → List Chunk → Prop} {Q : Post} {dst : Option Nat} {K : Env → World → Prop} {f : FuncId} {x : Operand} {args : Array Operand} {ts : Array TypeId} {name : String} {T : TypeId} {rv recv : Value} {us : List Value}
    (h : Cx P f (recv :: us) A R w) (hs : St w0 M w (A ++ D)) (hm : ∀ n, (method (n + 1) T rv name).run P w = .ok (f, recv) w) (hf : FnOk P f) (k : ∀ v D' w', R v D' → St w0 M w' (D' ++ D) → K (putE ρ dst v) w') :
    Ef r P N dst (.call { callee := .invoke x name, args := args, argTypes := ts }) (.iface T rv :: us) ρ ds w K Q := by
  obtain ⟨fn, hf, hb, hn⟩ := hf
  refine Ef.invk hm hf ?_ hb hn
  refine Calls.mono h ?_
  rintro e w' ⟨v, D', rfl, hR, hk'⟩
  exact k v D' w' hR (hs.call hk')
/-- a quiet call through an interface -/
theorem Ef.invq {r : Option Nat} {P : Program} {N : Nat} {ρ : Env} {ds : List Deferred} {w w0 : World} {Q : Post} {dst : Option Nat} {K : Env → World → Prop} {f : FuncId} {x : Operand} {args : Array Operand} {ts : Array TypeId} {name : String} {T : TypeId} {rv recv v : Value} {us : List Value}
    (h : Cv P f (recv :: us) v w0) (hk : Keep w0 w) (hm : ∀ n, (method (n + 1) T rv name).run P w = .ok (f, recv) w) (hf : FnOk P f) (k : ∀ w', Keep w w' → K (putE ρ dst v) w') :
    Ef r P N dst (.call { callee := .invoke x name, args := args, argTypes := ts }) (.iface T rv :: us) ρ ds w K Q := by
  obtain ⟨fn, hf, hb, hn⟩ := hf
  refine Ef.invk hm hf ?_ hb hn
  refine Calls.mono (h w hk) ?_
  rintro e w' ⟨rfl, hk'⟩
  exact k w' hk'
def mkB (P : Program) (t T : TypeId) (n bytes : Nat) (z : Value) : Bool := slB P t T n && (match P.info? T with
  | some i => Nat.beq i.size n && Nat.beq i.bytes bytes
  | none => false)
section
variable {P : Program} {w w0 : World} {r : Option Nat} {N : Nat} {ρ : Env} {ds : List Deferred} {M : List Nat} {D : List Chunk} {K : Env → World → Prop} {Q : Post} {dst : Option Nat}
theorem repl_one {α : Type} (E : Enc α) (x : α) (z : Value) (hz : E.cells x = [z]) : ∀ n : Nat, (List.replicate n x).flatMap E.cells = List.replicate n z
  | 0 => rfl
  | n + 1 => by rw [List.replicate_succ, List.replicate_succ, List.flatMap_cons, repl_one E x z hz n, hz]; rfl
/-- a new slice of elements of one cell, all zero -/
theorem Ef.mks {α : Type} {t T : TypeId} {x y : Operand} {n bytes : Nat} (E : Enc α) (x0 : α) (z : Value) (hn : n * bytes ≤ 281474976710656) (hn2 : n ≤ 281474976710656) (h : St w0 M w D)
    (k : ∀ b w', Keep w w' → St w0 M w' (Ch.row E T (some ⟨b, 0, none⟩) n (List.replicate n x0) :: D) → K (putE ρ dst (.slice (some ⟨b, 0, none⟩) n n)) w') (hE : E.n = 1 := by rfl) (hx : E.cells x0 = [z] := by rfl) (hz1 : z.cells = #[z] := by rfl) (ht : mkB P t T 1 bytes z = true := by kernel_rfl) (hz : (P.info? T).map (·.zero) = some (some z) := by kernel_rfl) : Ef r P N dst (.makeSlice t x y) [.int .i64 (n : Int), .int .i64 (n : Int)] ρ ds w K Q := by
  unfold mkB at ht
  rw [Bool.and_eq_true] at ht
  obtain ⟨h1, h2⟩ := ht
  cases hi : P.info? T with
  | none => rw [hi] at h2; cases h2
  | some i =>
    rw [hi] at h2 hz
    simp only [Bool.and_eq_true] at h2
    obtain ⟨h3, h4⟩ := h2
    have h3 := Nat.eq_of_beq_eq_true h3
    have h4 := Nat.eq_of_beq_eq_true h4
    have hnb : bytes * n ≤ 281474976710656 := by rw [Nat.mul_comm]; exact hn
    have hz : i.zero = some z := by simpa using hz
    refine Ef.of_run (v := .slice (some ⟨w.heap.size, 0, none⟩) n n) (w' := w.alloc (.cells (madeCells z.cells (n * i.size)) T)) (by simp) (fun o e hop hv => ?_) (k _ _ (Keep.alloc _ _) (h.new (Keep.alloc _ _) ?_ ?_))
    · have he : e x = .int .i64 (n : Int) ∧ e y = .int .i64 (n : Int) := by simpa [Op.operands] using hv
      have := run_make (P := P) w t T i z (slB_of h1).1 hi hz .i64 .i64 (n : Int) (n : Int) (by omega) (by omega) (by rw [h4, ← Int.natCast_mul]; exact Int.ofNat_le.2 hnb) (by omega)
      rw [Int.toNat_natCast] at this
      simp [execOp, hop, he.1, he.2, this]
    · show (w.alloc _).ownsRow 0 T E.n (.slice (some ⟨w.heap.size, 0, none⟩) (List.replicate n x0).length n) (List.replicate n x0).length ((List.replicate n x0).flatMap E.cells)
      have hc : (madeCells z.cells (n * i.size)).toList = (List.replicate n x0).flatMap E.cells := by
        rw [h3, Nat.mul_one, hz1, toList_madeCells_one, repl_one E x0 z hx]
      have := flat_len_own (E := E) (xs := List.replicate n x0) (w := w.alloc (.cells (madeCells z.cells (n * i.size)) T)) (b := w.heap.size) (T := T) hc (by rw [List.length_replicate]; unfold maxLen; omega) (heap_alloc_new w _)
      rw [List.length_replicate] at this ⊢
      exact this
    · intro b hb
      simp [Ch.row] at hb
      subst hb
      simp
end
end Go.Proofs.YthbehiflmcljcaaDoor.Sh
