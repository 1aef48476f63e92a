/- A walk over the model's code with a small environment (generic: over any program). Part K: numbers of whatever kind, conversions, truth values held against one another. -/
import Derived.Test.YthbehiflmcljcaaDoorShJ
import Derived.Laws.IdiomStrings
import Derived.Laws.Shifts
set_option linter.unusedVariables false
set_option linter.unusedSimpArgs false
namespace Go.Proofs.YthbehiflmcljcaaDoor.Sh
open Go.RowKit
section
variable {P : Program} {w : World}
theorem Yv.subk {kd : IntKind} {t u : TypeId} {x y : Operand} {a b : Int} (hr : kd.wrap (a - b) = a - b) : Yv P w (.binOp .sub t x y u) [(.int kd a), (.int kd b)] (.int kd (a - b)) :=
  Yv.mk2 (x := x) (y := y) (by simp) rfl fun o e w' hop hx hy _ => by simp [execOp, hop, hx, hy, binOp, eqGuard, Op.intArith, hr]
theorem Yv.addk {kd : IntKind} {t u : TypeId} {x y : Operand} {a b : Int} (hr : kd.wrap (a + b) = a + b) : Yv P w (.binOp .add t x y u) [(.int kd a), (.int kd b)] (.int kd (a + b)) :=
  Yv.mk2 (x := x) (y := y) (by simp) rfl fun o e w' hop hx hy _ => by simp [execOp, hop, hx, hy, binOp, eqGuard, Op.intArith, hr]
theorem wrap_u8 {a : Int} (h : 0 ≤ a ∧ a ≤ 255) : IntKind.u8.wrap a = a := by
  simp [IntKind.wrap, IntKind.bits, IntKind.signed]
  omega
theorem Yv.conv {t d : TypeId} {kd kd' : IntKind} {x : Operand} {a : Int} (hr : kd'.wrap a = a) (hs : (P.underlying t).isSome = true := by kernel_rfl) (hd : P.underlying d = some (.int kd') := by kernel_rfl) : Yv P w (.convert t d x) [(.int kd a)] (.int kd' a) :=
  Yv.mk1 (x := x) (by simp) rfl fun o e w' hop hx _ => by
    obtain ⟨d', hd'⟩ := Option.isSome_iff_exists.mp hs
    simp [execOp, hop, hx, convert, run_underlying hd', run_underlying hd, Conv.intToInt, hr]
def bcmp : BinOp → Bool → Bool → Option Bool
  | .eql, a, b => some (a == b) | .neq, a, b => some (a != b) | _, _, _ => none
theorem Yv.bcm {q : BinOp} {t u : TypeId} {x y : Operand} {a b : Bool} (c : Bool) (hc : bcmp q a b = some c) (ht : (match P.underlying t with | some .bool => true | _ => false) = true := by kernel_rfl) : Yv P w (.binOp q t x y u) [(.bool a), (.bool b)] (.bool c) :=
  Yv.mk2 (x := x) (y := y) (by simp) rfl fun o e w' hop hx hy _ => by
    have hu : P.underlying t = some .bool := by
      cases hd : P.underlying t with
      | none => rw [hd] at ht; cases ht
      | some d => rw [hd] at ht; cases d <;> simp_all
    cases q <;> simp only [bcmp, Option.some.injEq] at hc <;> try cases hc
    all_goals (try subst hc)
    all_goals
      have heq : (Op.equal t (.bool a) (.bool b)).run P w' = .ok (a == b) w' := run_equalIn_bool' w' 9999 t a b hu
      simp [execOp, hop, hx, hy, binOp, eqGuard, heq, bne]
/-- bits in common -/
def andI (kd : IntKind) (a b : Int) : Int := kd.wrap (BitVec.ofInt kd.bits a &&& BitVec.ofInt kd.bits b).toNat
theorem Yv.and {kd : IntKind} {t u : TypeId} {x y : Operand} {a b : Int} : Yv P w (.binOp .and t x y u) [(.int kd a), (.int kd b)] (.int kd (andI kd a b)) :=
  Yv.mk2 (x := x) (y := y) (by simp) rfl fun o e w' hop hx hy _ => by simp [execOp, hop, hx, hy, binOp, eqGuard, Op.intBits, andI]
theorem Yv.shr {kd k2 : IntKind} {t u : TypeId} {x y : Operand} {a n : Int} (h0 : 0 ≤ n) : Yv P w (.binOp .shr t x y u) [(.int kd a), (.int k2 n)] (.int kd (a / 2 ^ min n.toNat kd.bits)) :=
  Yv.mk2 (x := x) (y := y) (by simp) rfl fun o e w' hop hx hy _ => by simp [execOp, hop, hx, hy, binOp, eqGuard, shift_shr_any _ _ _ _ h0]
theorem andI_mask (a : Int) (m : Nat) (hm : m < 4611686018427387904) : 0 ≤ andI .i64 a m ∧ andI .i64 a m ≤ m := by
  have e : (BitVec.ofInt 64 a &&& BitVec.ofInt 64 (m : Int)).toNat = (BitVec.ofInt 64 a).toNat &&& m := by
    rw [BitVec.toNat_and, BitVec.ofInt_natCast, BitVec.toNat_ofNat, Nat.mod_eq_of_lt (by omega)]
  have h := Nat.and_le_right (n := (BitVec.ofInt 64 a).toNat) (m := m)
  have w : andI .i64 a m = (((BitVec.ofInt 64 a).toNat &&& m : Nat) : Int) := by
    unfold andI
    show IntKind.i64.wrap ((BitVec.ofInt 64 a &&& BitVec.ofInt 64 (m : Int)).toNat : Int) = _
    rw [e]
    exact wrapI ⟨by omega, by omega⟩
  rw [w]
  omega
/-- the rest by a positive number -/
theorem Yv.rem {t u : TypeId} {x y : Operand} {a b : Int} (h0 : 0 ≤ a) (h1 : 0 < b) (h2 : b ≤ 9223372036854775807) : Yv P w (.binOp .rem t x y u) [(.int .i64 a), (.int .i64 b)] (.int .i64 (a % b)) :=
  Yv.mk2 (x := x) (y := y) (by simp) rfl fun o e w' hop hx hy _ => by
    have hb : b ≠ 0 := by omega
    have ht : Int.tmod a b = a % b := Int.tmod_eq_emod_of_nonneg h0
    have hm : 0 ≤ a % b := Int.emod_nonneg _ hb
    have hl : a % b < b := Int.emod_lt_of_pos _ h1
    have hw : IntKind.i64.wrap (a % b) = a % b := wrapI ⟨by omega, by omega⟩
    simp [execOp, hop, hx, hy, binOp, eqGuard, Op.intArith, Op.intDiv, hb, ht, hw]
/-- bytes -/
abbrev ByE : Enc UInt8 := ⟨1, fun b => [.int .u8 (b.toNat : Int)], fun _ => rfl⟩
def bytB (P : Program) (t d : TypeId) : Bool := match P.underlying t with
  | some (.slice e) => (match P.underlying e with | some (.int .u8) => true | _ => false) && (match P.underlying d with | some .string => true | _ => false)
  | _ => false
/-- a list of bytes as a text -/
theorem Yv.bstr {t d : TypeId} {x : Operand} {A : Option Addr} {m c : Nat} {l : Bs} (h : Rd ByE w A l) (hm : m = l.length := by rfl) (ht : bytB P t d = true := by kernel_rfl) : Yv P w (.convert t d x) [(.slice A m c)] (S l) :=
  Yv.mk1 (x := x) (by simp) rfl fun o e w' hop hx hk => by
    subst hm
    unfold bytB at ht
    cases hu : P.underlying t with
    | none => rw [hu] at ht; cases ht
    | some ty =>
      rw [hu] at ht
      cases ty with
      | slice el =>
        simp only [Bool.and_eq_true] at ht
        have he : P.underlying el = some (.int .u8) := by
          cases h1 : P.underlying el with
          | none => rw [h1] at ht; simp at ht
          | some dd => rw [h1] at ht; cases dd <;> simp_all; rename_i k; cases k <;> simp_all
        have hd : P.underlying d = some .string := by
          cases h1 : P.underlying d with
          | none => rw [h1] at ht; simp at ht
          | some dd => rw [h1] at ht; cases dd <;> simp_all
        have hr : (convert t d (.slice A l.length c)).run P w' = .ok (S l) w' := by
          cases hl : l with
          | nil =>
            have := run_convert_bytes_string w' t d el A 0 c hu he hd
            simp only [List.length_nil]
            rw [this]
            cases A <;> simp [Conv.bytesToString, loadCells, loadCellsFrom, S] <;> rfl
          | cons b bs =>
            rw [← hl]
            have h' := h.keep (hk rfl)
            have hA := h'.adr (by rw [hl]; simp)
            rw [hA]
            exact run_convert_bytes_back w' t d el ⟨pb A, pq A, none⟩ c l hu he hd (fun j hj => by
              have := h'.cell j l[j] (List.getElem?_eq_getElem hj) 0 _ rfl
              rw [add_off]
              simpa using this)
        simp [execOp, hop, hx, hr]
      | _ => cases ht
end
end Go.Proofs.YthbehiflmcljcaaDoor.Sh
