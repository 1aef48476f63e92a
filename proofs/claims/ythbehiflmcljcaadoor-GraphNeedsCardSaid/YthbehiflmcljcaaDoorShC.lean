/- A walk over the model's code with a small environment (generic: over any program). Part C: operations that only read: moves, numbers, texts, fields, elements, loads. -/
import Derived.Test.YthbehiflmcljcaaDoorShB
import Derived.Laws.Concat
set_option linter.unusedVariables false
set_option linter.unusedSimpArgs false
namespace Go.Proofs.YthbehiflmcljcaaDoor.Sh
open Go.RowKit

/-! ### 1. Texts as lists -/
abbrev Bs := List UInt8
def S (l : Bs) : Value := .string ⟨⟨l⟩⟩
theorem S_def (l : Bs) : S l = .string ⟨⟨l⟩⟩ := rfl
theorem S_of (s : ByteArray) : Value.string s = S s.data.toList := by cases s with | mk d => cases d with | mk l => rfl
theorem toList_mk (l : Bs) : (⟨⟨l⟩⟩ : ByteArray).toList = l := by
  simp
theorem mk_size (l : Bs) : (⟨⟨l⟩⟩ : ByteArray).size = l.length := rfl
theorem mk_extract (l : Bs) (a b : Nat) : (⟨⟨l⟩⟩ : ByteArray).extract a b = ⟨⟨(l.take b).drop a⟩⟩ := by
  apply ByteArray.ext
  simp [List.drop_take]
theorem mk_get (l : Bs) (n : Nat) (b : UInt8) (h : l[n]? = some b) : (⟨⟨l⟩⟩ : ByteArray)[n]? = some b := by
  obtain ⟨hlt, hb⟩ := List.getElem?_eq_some_iff.1 h
  have hs : n < (⟨⟨l⟩⟩ : ByteArray).size := hlt
  exact (getElem?_pos (⟨⟨l⟩⟩ : ByteArray) n hs).trans (congrArg some hb)
theorem S_inj {l m : Bs} (h : S l = S m) : l = m := by injection h with h; injection h with h; injection h

/-- the i-th of a list -/
def nth {α : Type} [Inhabited α] (l : List α) (i : Int) : α := l.getD i.toNat default
theorem nth_get {α : Type} [Inhabited α] {l : List α} {i : Int} (h0 : 0 ≤ i) (h1 : i < l.length) : l[i.toNat]? = some (nth l i) := by
  have : i.toNat < l.length := by omega
  simp [nth, List.getElem?_eq_getElem this]
theorem nth_nat {α : Type} [Inhabited α] (l : List α) (k : Nat) : nth l (k : Int) = l.getD k default := rfl
theorem nth_of {α : Type} [Inhabited α] {l : List α} {k : Nat} {x : α} (h : l[k]? = some x) : nth l (k : Int) = x := by simp [nth, h]

/-- the i-th byte of a text as a number -/
def byt (s : Bs) (i : Int) : Int := ((nth s i).toNat : Int)
theorem byt_bd (s : Bs) (i : Int) : 0 ≤ byt s i ∧ byt s i ≤ 255 := by
  have := (nth s i).toNat_lt
  unfold byt
  omega
theorem byt_of {s : Bs} {k : Nat} {b : UInt8} (h : s[k]? = some b) : byt s (k : Int) = b.toNat := by rw [byt, nth_of h]

/-! ### 2. What is known of a program's types -/
/-- one cell, no struct and no array -/
def Sc (P : Program) (t : TypeId) : Prop := ∃ d, P.underlying t = some d ∧ (match d with | .struct _ | .array _ _ => False | _ => True)
/-- a struct or an array of n cells -/
def Ag (P : Program) (t : TypeId) (n : Nat) : Prop := (∃ d, P.underlying t = some d ∧ (match d with | .struct _ | .array _ _ => True | _ => False)) ∧ (P.info? t).map (·.size) = some n
/-- a struct's field: where it begins; it is not empty -/
def Fld (P : Program) (t : TypeId) (f off : Nat) : Prop := ∃ fs fd, P.underlying t = some (.struct fs) ∧ fs[f]? = some fd ∧ fd.offset = off ∧ ∃ n, (P.info? fd.type).map (·.size) = some (n + 1)
/-- a slice type, its element's size -/
def Sl (P : Program) (t e : TypeId) (n : Nat) : Prop := P.underlying t = some (.slice e) ∧ (P.info? e).map (·.size) = some n

def scB (P : Program) (t : TypeId) : Bool := match P.underlying t with | some (.struct _) | some (.array _ _) | none => false | _ => true
def agB (P : Program) (t : TypeId) (n : Nat) : Bool := (match P.underlying t with | some (.struct _) | some (.array _ _) => true | _ => false) && (match P.info? t with | some i => Nat.beq i.size n | none => false)
def fldB (P : Program) (t : TypeId) (f off : Nat) : Bool := match P.underlying t with
  | some (.struct fs) => match fs[f]? with
    | some fd => Nat.beq fd.offset off && (match P.info? fd.type with | some i => Nat.blt 0 i.size | none => false)
    | none => false
  | _ => false
def slB (P : Program) (t e : TypeId) (n : Nat) : Bool := match P.underlying t with
  | some (.slice e') => Nat.beq e' e && (match P.info? e with | some i => Nat.beq i.size n | none => false)
  | _ => false
def strB (P : Program) (t : TypeId) : Bool := match P.underlying t with | some .string => true | _ => false
def sizeB (P : Program) (t : TypeId) (n : Nat) : Bool := match P.info? t with | some i => Nat.beq i.size n | none => false
theorem sizeB_of {P : Program} {t : TypeId} {n : Nat} (h : sizeB P t n = true) : (P.info? t).map (·.size) = some n := by
  unfold sizeB at h
  cases hi : P.info? t with
  | none => rw [hi] at h; cases h
  | some i => rw [hi] at h; simpa using h
theorem scB_of {P : Program} {t : TypeId} (h : scB P t = true) : Sc P t := by
  unfold scB at h
  cases hd : P.underlying t with
  | none => rw [hd] at h; cases h
  | some d => refine ⟨d, hd, ?_⟩; rw [hd] at h; cases d <;> simp_all
theorem agB_of {P : Program} {t : TypeId} {n : Nat} (h : agB P t n = true) : Ag P t n := by
  unfold agB at h
  simp only [Bool.and_eq_true] at h
  obtain ⟨h1, h2⟩ := h
  refine ⟨?_, sizeB_of h2⟩
  cases hd : P.underlying t with
  | none => rw [hd] at h1; cases h1
  | some d => refine ⟨d, rfl, ?_⟩; rw [hd] at h1; cases d <;> simp_all
theorem fldB_of {P : Program} {t : TypeId} {f off : Nat} (h : fldB P t f off = true) : Fld P t f off := by
  unfold fldB at h
  cases hd : P.underlying t with
  | none => rw [hd] at h; cases h
  | some d =>
    rw [hd] at h
    cases d with
    | struct fs =>
      simp only at h
      cases hf : fs[f]? with
      | none => rw [hf] at h; cases h
      | some fd =>
        rw [hf] at h
        simp only [Bool.and_eq_true] at h
        obtain ⟨h1, h2⟩ := h
        refine ⟨fs, fd, hd, hf, Nat.eq_of_beq_eq_true h1, ?_⟩
        cases hi : P.info? fd.type with
        | none => rw [hi] at h2; cases h2
        | some i =>
          rw [hi] at h2
          simp only [Nat.blt_eq] at h2
          exact ⟨i.size - 1, by simp; omega⟩
    | _ => cases h
theorem slB_of {P : Program} {t e : TypeId} {n : Nat} (h : slB P t e n = true) : Sl P t e n := by
  unfold slB at h
  cases hd : P.underlying t with
  | none => rw [hd] at h; cases h
  | some d =>
    rw [hd] at h
    cases d with
    | slice e' =>
      simp only [Bool.and_eq_true] at h
      obtain ⟨h1, h2⟩ := h
      obtain rfl := Nat.eq_of_beq_eq_true h1
      exact ⟨hd, sizeB_of h2⟩
    | _ => cases h
theorem strB_of {P : Program} {t : TypeId} (h : strB P t = true) : P.underlying t = some .string := by
  unfold strB at h
  cases hd : P.underlying t with
  | none => rw [hd] at h; cases h
  | some d => rw [hd] at h; cases d <;> simp_all
theorem run_isAgg_sc {P : Program} {t : TypeId} (h : Sc P t) (w : World) : (isAgg t).run P w = .ok false w := by
  obtain ⟨d, hd, hm⟩ := h
  cases d <;> simp_all [isAgg, run_underlying]
theorem run_isAgg_ag {P : Program} {t : TypeId} {n : Nat} (h : Ag P t n) (w : World) : (isAgg t).run P w = .ok true w := by
  obtain ⟨⟨d, hd, hm⟩, _⟩ := h
  cases d <;> simp_all [isAgg, run_underlying]
theorem run_size {P : Program} {t : TypeId} {n : Nat} (h : (P.info? t).map (·.size) = some n) (w : World) : (sizeOf t).run P w = .ok n w := by
  obtain ⟨i, hi, rfl⟩ := Option.map_eq_some_iff.1 h
  simp [sizeOf, typeInfo, hi]
theorem run_cells {P : Program} {w : World} (a : Addr) (vs : List Value) (h : ∀ j v, vs[j]? = some v → w.cell? (a.add j) = some v) (i : Nat) (acc : Array Value) (us : List Value) (hu : vs = vs.take i ++ us) (hi : i ≤ vs.length) :
    (loadCellsFrom a i us.length acc).run P w = .ok (acc ++ us.toArray) w := by
  induction us generalizing i acc with
  | nil => simp [loadCellsFrom]
  | cons u us ih =>
    have hlen : (vs.take i).length = i := by simp; omega
    have hv : vs[i]? = some u := by rw [hu]; rw [List.getElem?_append_right (by omega)]; simp [hlen]
    have hlt : i < vs.length := (List.getElem?_eq_some_iff.1 hv).1
    have := ih (i + 1) (acc.push u) (by rw [List.take_add_one, hv]; simp only [Option.toList, List.append_assoc, List.singleton_append]; exact hu) (by omega)
    simp only [List.length_cons, loadCellsFrom, Sem.run_bind, run_load, h i u hv, Result.andThen_ok, this]
    simp
theorem run_loadVar_ag {P : Program} {w : World} {t : TypeId} {n : Nat} (ht : Ag P t n) (a : Addr) (vs : List Value) (hn : vs.length = n) (h : ∀ j v, vs[j]? = some v → w.cell? (a.add j) = some v) :
    (loadVar t a).run P w = .ok (.agg vs.toArray) w := by
  subst hn
  have := run_cells (P := P) a vs h 0 #[] vs (by simp) (by omega)
  simp [loadVar, run_isAgg_ag ht, run_size ht.2, loadCells, this]
theorem add_off (b o j : Nat) : (⟨b, o, none⟩ : Addr).add j = ⟨b, o + j, none⟩ := by unfold Addr.add; split <;> simp_all

/-! ### 3. One rule for each kind of operation -/
section
variable {P : Program} {w : World} {op : Op} {v : Value}
theorem Yv.mk0 (hd : ∀ c, op ≠ .defer c) (ho : op.operands.toList = []) (h : ∀ (o : Oper) (e : Operand → Value) (w' : World), o.op = op → (rdm op = true → Keep w w') → (execOp e o).run P w' = .ok (.value v) w') : Yv P w op [] v :=
  ⟨hd, fun o e he _ w' k => h o e w' he k⟩
theorem Yv.mk1 {x : Operand} {u : Value} (hd : ∀ c, op ≠ .defer c) (ho : op.operands.toList = [x]) (h : ∀ (o : Oper) (e : Operand → Value) (w' : World), o.op = op → e x = u → (rdm op = true → Keep w w') → (execOp e o).run P w' = .ok (.value v) w') : Yv P w op [u] v :=
  ⟨hd, fun o e he hv w' k => by
    rw [ho] at hv
    simp only [List.map_cons, List.map_nil, List.cons.injEq, and_true] at hv
    exact h o e w' he hv k⟩
theorem Yv.mk2 {x y : Operand} {u t : Value} (hd : ∀ c, op ≠ .defer c) (ho : op.operands.toList = [x, y]) (h : ∀ (o : Oper) (e : Operand → Value) (w' : World), o.op = op → e x = u → e y = t → (rdm op = true → Keep w w') → (execOp e o).run P w' = .ok (.value v) w') : Yv P w op [u, t] v :=
  ⟨hd, fun o e he hv w' k => by
    rw [ho] at hv
    simp only [List.map_cons, List.map_nil, List.cons.injEq, and_true] at hv
    exact h o e w' he hv.1 hv.2 k⟩
theorem Yv.mk3 {x y z : Operand} {u t s : Value} (hd : ∀ c, op ≠ .defer c) (ho : op.operands.toList = [x, y, z]) (h : ∀ (o : Oper) (e : Operand → Value) (w' : World), o.op = op → e x = u → e y = t → e z = s → (rdm op = true → Keep w w') → (execOp e o).run P w' = .ok (.value v) w') : Yv P w op [u, t, s] v :=
  ⟨hd, fun o e he hv w' k => by
    rw [ho] at hv
    simp only [List.map_cons, List.map_nil, List.cons.injEq, and_true] at hv
    exact h o e w' he hv.1 hv.2.1 hv.2.2 k⟩
theorem Yv.mv {x : Operand} {v : Value} : Yv P w (.move x) [v] (v) :=
  Yv.mk1 (x := x) (by simp) rfl fun o e w' hop hx _ => by simp [execOp, hop, hx]
theorem Yv.as {x : Operand} {v : Value} : Yv P w (.assign x) [v] (v) :=
  Yv.mk1 (x := x) (by simp) rfl fun o e w' hop hx _ => by simp [execOp, hop, hx]
theorem Yv.pick_t {c x y : Operand} {v u : Value} : Yv P w (.pick c x y) [.bool true, v, u] v :=
  Yv.mk3 (x := c) (y := x) (z := y) (by simp) rfl fun o e w' hop hc hx hy _ => by simp [execOp, hop, hc, hx, asBool]
theorem Yv.pick_f {c x y : Operand} {v u : Value} : Yv P w (.pick c x y) [.bool false, v, u] u :=
  Yv.mk3 (x := c) (y := x) (z := y) (by simp) rfl fun o e w' hop hc hx hy _ => by simp [execOp, hop, hc, hy, asBool]
theorem Yv.ex {x : Operand} {vs : Array Value} {n : Nat} {v : Value} (hv : vs[n]? = some v := by rfl) : Yv P w (.extract x n) [(.tuple vs)] (v) :=
  Yv.mk1 (x := x) (by simp) rfl fun o e w' hop hx _ => by simp [execOp, hop, hx, Instr.extract, hv]
theorem Yv.nc {x : Operand} {a : Addr} : Yv P w (.nilCheck x) [(.pointer (some a))] (.pointer (some a)) :=
  Yv.mk1 (x := x) (by simp) rfl fun o e w' hop hx _ => by simp [execOp, hop, hx]
theorem Yv.mf {f : Fn} {captured : Array Operand} {us : List Value} : Yv P w (.makeFunc f #[] captured) us (.func f #[] us.toArray) :=
  ⟨by simp, fun o e hop hv w' _ => by
    have h : captured.map e = us.toArray := by apply Array.ext'; simpa [Op.operands] using hv
    simp [execOp, hop, Instr.makeFunc, h]⟩
theorem Yv.mf1 {f : Fn} {x : Operand} {u : Value} : Yv P w (.makeFunc f #[x] #[]) [u] (.func f #[u] #[]) :=
  Yv.mk1 (x := x) (by simp) rfl fun o e w' hop hx _ => by simp [execOp, hop, Instr.makeFunc, hx]

/-! numbers of the kind int -/
/-- an int as it wraps -/
def w64 (x : Int) : Int := (x + 9223372036854775808) % 18446744073709551616 - 9223372036854775808
def inI (x : Int) : Prop := -9223372036854775808 ≤ x ∧ x ≤ 9223372036854775807
theorem wrapI {x : Int} (h : inI x) : IntKind.i64.wrap x = x := by
  rw [IntKind.wrap_i64]
  unfold inI at h
  omega
theorem Yv.add {t u : TypeId} {x y : Operand} {a b : Int} (hr : inI (a + b)) : Yv P w (.binOp .add t x y u) [(.int .i64 a), (.int .i64 b)] (.int .i64 (a + b)) :=
  Yv.mk2 (x := x) (y := y) (by simp) rfl fun o e w' hop hx hy _ => by simp [execOp, hop, hx, hy, binOp, eqGuard, Op.intArith, wrapI hr]
theorem Yv.addw {t u : TypeId} {x y : Operand} {a b : Int} : Yv P w (.binOp .add t x y u) [(.int .i64 a), (.int .i64 b)] (.int .i64 (w64 (a + b))) :=
  Yv.mk2 (x := x) (y := y) (by simp) rfl fun o e w' hop hx hy _ => by
    simp [execOp, hop, hx, hy, binOp, eqGuard, Op.intArith, IntKind.wrap_i64]
    rfl
theorem Yv.sub {t u : TypeId} {x y : Operand} {a b : Int} (hr : inI (a - b)) : Yv P w (.binOp .sub t x y u) [(.int .i64 a), (.int .i64 b)] (.int .i64 (a - b)) :=
  Yv.mk2 (x := x) (y := y) (by simp) rfl fun o e w' hop hx hy _ => by simp [execOp, hop, hx, hy, binOp, eqGuard, Op.intArith, wrapI hr]
theorem Yv.subw {t u : TypeId} {x y : Operand} {a b : Int} : Yv P w (.binOp .sub t x y u) [(.int .i64 a), (.int .i64 b)] (.int .i64 (w64 (a - b))) :=
  Yv.mk2 (x := x) (y := y) (by simp) rfl fun o e w' hop hx hy _ => by
    simp [execOp, hop, hx, hy, binOp, eqGuard, Op.intArith, IntKind.wrap_i64]
    rfl
theorem Yv.mul {t u : TypeId} {x y : Operand} {a b : Int} (hr : inI (a * b)) : Yv P w (.binOp .mul t x y u) [(.int .i64 a), (.int .i64 b)] (.int .i64 (a * b)) :=
  Yv.mk2 (x := x) (y := y) (by simp) rfl fun o e w' hop hx hy _ => by simp [execOp, hop, hx, hy, binOp, eqGuard, Op.intArith, wrapI hr]
/-- tests between numbers of one kind: c is what the test says -/
def icmp : BinOp → Int → Int → Option Bool
  | .eql, a, b => some (a == b) | .neq, a, b => some (a != b) | .lss, a, b => some (decide (a < b)) | .leq, a, b => some (decide (a ≤ b)) | .gtr, a, b => some (decide (b < a)) | .geq, a, b => some (decide (b ≤ a)) | _, _, _ => none
theorem Yv.cmp {q : BinOp} {kd : IntKind} {t u : TypeId} {x y : Operand} {a b : Int} (c : Bool) (hc : icmp q a b = some c) : Yv P w (.binOp q t x y u) [(.int kd a), (.int kd b)] (.bool c) :=
  Yv.mk2 (x := x) (y := y) (by simp) rfl fun o e w' hop hx hy _ => by
    cases q <;> simp only [icmp, Option.some.injEq] at hc <;> try cases hc
    all_goals (try subst hc)
    all_goals simp [execOp, hop, hx, hy, binOp, eqGuard, Op.intCmp]
theorem lt_t {a b : Int} (h : a < b) : icmp .lss a b = some true := by simp [icmp, h]
theorem lt_f {a b : Int} (h : b ≤ a) : icmp .lss a b = some false := by simp [icmp]; omega
theorem le_t {a b : Int} (h : a ≤ b) : icmp .leq a b = some true := by simp [icmp, h]
theorem le_f {a b : Int} (h : b < a) : icmp .leq a b = some false := by simp [icmp]; omega
theorem gt_t {a b : Int} (h : b < a) : icmp .gtr a b = some true := by simp [icmp, h]
theorem gt_f {a b : Int} (h : a ≤ b) : icmp .gtr a b = some false := by simp [icmp]; omega
theorem ge_t {a b : Int} (h : b ≤ a) : icmp .geq a b = some true := by simp [icmp, h]
theorem ge_f {a b : Int} (h : a < b) : icmp .geq a b = some false := by simp [icmp]; omega
theorem eq_t {a b : Int} (h : a = b) : icmp .eql a b = some true := by simp [icmp, h]
theorem eq_f {a b : Int} (h : a ≠ b) : icmp .eql a b = some false := by simp [icmp, h]
theorem ne_t {a b : Int} (h : a ≠ b) : icmp .neq a b = some true := by simp [icmp, h]
theorem ne_f {a b : Int} (h : a = b) : icmp .neq a b = some false := by simp [icmp, h]
theorem Yv.not {x : Operand} {b : Bool} {t : TypeId} : Yv P w (.unOp .not t x) [(.bool b)] (.bool (!b)) :=
  Yv.mk1 (x := x) (by simp) rfl fun o e w' hop hx _ => by simp [execOp, hop, hx, Op.unary]
/-! texts -/
def scmp : BinOp → Bs → Bs → Option Bool
  | .eql, a, b => some (a == b) | .neq, a, b => some (a != b) | .lss, a, b => some (Op.bytesLess a b) | .leq, a, b => some (Op.bytesLess a b || a == b) | .gtr, a, b => some (!(Op.bytesLess a b || a == b)) | .geq, a, b => some (!Op.bytesLess a b) | _, _, _ => none
theorem Yv.scm {q : BinOp} {t u : TypeId} {x y : Operand} {a b : Bs} (c : Bool) (hc : scmp q a b = some c) : Yv P w (.binOp q t x y u) [(S a), (S b)] (.bool c) :=
  Yv.mk2 (x := x) (y := y) (by simp) rfl fun o e w' hop hx hy _ => by
    cases q <;> simp only [scmp, Option.some.injEq] at hc <;> try cases hc
    all_goals (try subst hc)
    all_goals simp [execOp, hop, hx, hy, S, binOp, eqGuard, Op.stringOp, bne]
theorem seq_t {a b : Bs} (h : a = b) : scmp .eql a b = some true := by simp [scmp, h]
theorem seq_f {a b : Bs} (h : a ≠ b) : scmp .eql a b = some false := by simp [scmp, h]
theorem sne_t {a b : Bs} (h : a ≠ b) : scmp .neq a b = some true := by simp [scmp, h]
theorem sne_f {a b : Bs} (h : a = b) : scmp .neq a b = some false := by simp [scmp, h]
theorem Yv.cat {t u : TypeId} {x y : Operand} {a b : Bs} (hr : a.length + b.length ≤ 9223372036854775807) : Yv P w (.binOp .add t x y u) [(S a), (S b)] (S (a ++ b)) :=
  Yv.mk2 (x := x) (y := y) (by simp) rfl fun o e w' hop hx hy _ => by
    have h1 : (Op.stringOp .add (⟨⟨a⟩⟩ : ByteArray) ⟨⟨b⟩⟩).run P w' = .ok (.string (⟨⟨a⟩⟩ ++ ⟨⟨b⟩⟩)) w' := run_string_add_sum _ _ _ (by simpa [ByteArray.size] using hr)
    have h2 : (⟨⟨a⟩⟩ ++ ⟨⟨b⟩⟩ : ByteArray) = ⟨⟨a ++ b⟩⟩ := by rw [ByteArray.mk_append_mk]
    simp only [execOp, hop, hx, hy, S, binOp, eqGuard]
    rw [h2] at h1
    simp [h1]
theorem Yv.len_s {t : TypeId} {x : Operand} {l : Bs} (ht : strB P t = true := by kernel_rfl) : Yv P w (.call { callee := .builtin .len, args := #[x], argTypes := #[t] }) [(S l)] (.int .i64 (l.length : Int)) :=
  Yv.mk1 (x := x) (by simp) rfl fun o e w' hop hx _ => by
    simp only [execOp, hop, resolve, invoke, builtin, Sem.run_bind, Sem.run_pure, Result.andThen_ok, List.map_toArray, List.map_cons, List.map_nil, hx]
    simp [S, Builtin.len_, run_underlying (strB_of ht), goInt, mk_size]
theorem Yv.len_v {t e : TypeId} {x : Operand} {A : Option Addr} {n c m : Nat} (ht : slB P t e m = true := by kernel_rfl) : Yv P w (.call { callee := .builtin .len, args := #[x], argTypes := #[t] }) [(.slice A n c)] (.int .i64 (n : Int)) :=
  Yv.mk1 (x := x) (by simp) rfl fun o e w' hop hx _ => by
    simp only [execOp, hop, resolve, invoke, builtin, Sem.run_bind, Sem.run_pure, Result.andThen_ok, List.map_toArray, List.map_cons, List.map_nil, hx]
    simp [Builtin.len_, run_underlying (slB_of ht).1, goInt]
theorem Yv.ix {t : TypeId} {x y : Operand} {l : Bs} {n : Int} {kd : IntKind} (h0 : 0 ≤ n) (h1 : n < l.length) (ht : strB P t = true := by kernel_rfl) : Yv P w (.index t x y) [(S l), (.int kd n)] (.int .u8 (byt l n)) :=
  Yv.mk2 (x := x) (y := y) (by simp) rfl fun o e w' hop hx hy _ => by
    have h1 := mk_get l _ _ (nth_get h0 h1)
    simp [execOp, hop, hx, hy, S, Instr.index, asIntOf, run_underlying (strB_of ht), h0, h1, byt]
theorem Yv.ss_ft {t : TypeId} {x y z : Operand} {l : Bs} {a b : Int} {k1 k2 : IntKind} (h0 : 0 ≤ a) (h1 : a ≤ b) (h2 : b ≤ l.length) (ht : strB P t = true := by kernel_rfl) : Yv P w (.slice t x (some y) (some z) none) [(S l), (.int k1 a), (.int k2 b)] (S ((l.take b.toNat).drop a.toNat)) :=
  Yv.mk3 (x := x) (y := y) (z := z) (by simp) rfl fun o e w' hop hx hy hz _ => by
    have h3 : (a.toNat : Int) ≤ b := by omega
    have h4 : (0 : Int) ≤ b := by omega
    have h5 : max b 0 = b := by omega
    simp [execOp, hop, hx, hy, hz, S, Instr.sliceAt, Instr.slice, Instr.sliceBounds, Instr.sliceBound, asIntOf, run_underlying (strB_of ht), mk_size, mk_extract, h0, h1, h2, h4, h5]
theorem Yv.ss_f {t : TypeId} {x y : Operand} {l : Bs} {a : Int} {k1 : IntKind} (h0 : 0 ≤ a) (h1 : a ≤ l.length) (ht : strB P t = true := by kernel_rfl) : Yv P w (.slice t x (some y) none none) [(S l), (.int k1 a)] (S (l.drop a.toNat)) :=
  Yv.mk2 (x := x) (y := y) (by simp) rfl fun o e w' hop hx hy _ => by
    simp [execOp, hop, hx, hy, S, Instr.sliceAt, Instr.slice, Instr.sliceBounds, Instr.sliceBound, asIntOf, run_underlying (strB_of ht), mk_size, mk_extract, h0, h1]
theorem Yv.ss_t {t : TypeId} {x z : Operand} {l : Bs} {b : Int} {k2 : IntKind} (h1 : 0 ≤ b) (h2 : b ≤ l.length) (ht : strB P t = true := by kernel_rfl) : Yv P w (.slice t x none (some z) none) [(S l), (.int k2 b)] (S (l.take b.toNat)) :=
  Yv.mk2 (x := x) (y := z) (by simp) rfl fun o e w' hop hx hz _ => by
    simp [execOp, hop, hx, hz, S, Instr.sliceAt, Instr.slice, Instr.sliceBounds, Instr.sliceBound, asIntOf, run_underlying (strB_of ht), mk_size, mk_extract, h1, h2]
/-! addresses, loads, fields, elements -/
theorem Yv.fa {t : TypeId} {x : Operand} {f off b q : Nat} (hf : fldB P t f off = true := by kernel_rfl) : Yv P w (.fieldAddr t x f) [(.pointer (some ⟨b, q, none⟩))] (.pointer (some ⟨b, q + off, none⟩)) :=
  Yv.mk1 (x := x) (by simp) rfl fun o e w' hop hx _ => by
    obtain ⟨fs, fd, h1, h2, rfl, n, h3⟩ := fldB_of hf
    simp [execOp, hop, hx, Instr.fieldAt, run_underlying h1, h2, Instr.sureAddr, fieldPlace, run_size h3, add_off]
theorem Yv.ld {t : TypeId} {x : Operand} {b q : Nat} {v : Value} (hc : w.cell? ⟨b, q, none⟩ = some v) (ht : scB P t = true := by kernel_rfl) : Yv P w (.load t x) [(.pointer (some ⟨b, q, none⟩))] (v) :=
  Yv.mk1 (x := x) (by simp) rfl fun o e w' hop hx hk => by simp [execOp, hop, hx, Instr.loadAt, Instr.sureAddr, loadVar, run_isAgg_sc (scB_of ht), (hk rfl).cell hc]
theorem Yv.lds {t : TypeId} {x : Operand} {b q n : Nat} {vs : List Value} (hn : vs.length = n) (hc : ∀ j v, vs[j]? = some v → w.cell? ⟨b, q + j, none⟩ = some v) (ht : agB P t n = true := by kernel_rfl) : Yv P w (.load t x) [(.pointer (some ⟨b, q, none⟩))] (.agg vs.toArray) :=
  Yv.mk1 (x := x) (by simp) rfl fun o e w' hop hx hk => by
    simp [execOp, hop, hx, Instr.loadAt, Instr.sureAddr, run_loadVar_ag (agB_of ht) ⟨b, q, none⟩ vs hn (fun j v hj => by rw [add_off]; exact (hk rfl).cell (hc j v hj))]
end
end Go.Proofs.YthbehiflmcljcaaDoor.Sh
