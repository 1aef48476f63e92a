/- MouldChains: a chain of templates, walked. -/
import Derived.Test.YtgjhbapbomdpbaaDoorNg
set_option linter.unusedVariables false
set_option linter.unusedSimpArgs false
set_option maxRecDepth 100000
namespace Go.Proofs.YtgjhbapbomdpbaaDoor.C
open Go.RowKit Go.Proofs.YtgjhbapbomdpbaaDoor.Sh
theorem andI_max (a : Int) (m : Nat) (hm : m ≤ 9223372036854775807) : 0 ≤ andI .i64 a m ∧ andI .i64 a m ≤ m := by
  have e : (BitVec.ofInt 64 a &&& BitVec.ofInt 64 (m : Int)).toNat = (BitVec.ofInt 64 a).toNat &&& m := by
    rw [BitVec.toNat_and, BitVec.ofInt_natCast, BitVec.toNat_ofNat, Nat.mod_eq_of_lt (by omega)]
  have h := Nat.and_le_right (n := (BitVec.ofInt 64 a).toNat) (m := m)
  have w : andI .i64 a m = (((BitVec.ofInt 64 a).toNat &&& m : Nat) : Int) := by
    show IntKind.i64.wrap ((BitVec.ofInt 64 a &&& BitVec.ofInt 64 (m : Int)).toNat : Int) = _
    rw [e]
    exact wrapI ⟨by omega, by omega⟩
  rw [w]
  omega
def lowI (n : Int) : Int := andI .i64 n 9223372036854775807
theorem lowI_bd (n : Int) : 0 ≤ lowI n ∧ lowI n ≤ 9223372036854775807 := andI_max n 9223372036854775807 (by omega)
theorem low_cv (n : Int) (w0 : World) : Cv Tryd.prog 17 [.int .i64 n] (.int .i64 (lowI n)) w0 := by
  intro w hk
  refine calls_of_Wp (vs := [_]) Tryd.func17 ?_
  refine Wp.seq (Wp.reads (is := [0]) (Keep.refl _) (Rn.s rfl Yv.as (Rn.nil)) ?_)
  refine Wp.seq (Wp.reads (is := [0, 1, 2]) (Keep.refl _) (Rn.s rfl Yv.mv (Rn.s rfl Yv.and (Rn.s rfl Yv.as (Rn.nil)))) ?_)
  exact Wp.ret (Fin.ret (Res.one rfl rfl) ⟨rfl, Keep.refl _⟩)

def abc : Bs := [97, 98, 99, 100, 101, 102, 103, 104, 105, 106, 107, 108, 109, 110, 111, 112, 113, 114, 115, 116, 117, 118, 119, 120, 121, 122]
theorem abc_len : abc.length = 26 := rfl
def nmI (a b : Int) : Bs := (abc.take b.toNat).drop a.toNat
def ch0 : Bs := [116, 101, 109, 112, 108, 97, 116, 101, 115, 58, 10]
def ch1 : Bs := [58, 10, 32, 32, 32, 32, 102]
def ch2 : Bs := [58, 32, 49, 10, 32, 32, 32, 32, 114, 117, 110, 58, 32]
def ch3 : Bs := [32, 32, 32, 32, 101, 120, 116, 101, 110, 100, 115, 58, 32]
def ch4 : Bs := [106, 111, 98, 115, 58, 10, 32, 32, 106, 58, 10, 32, 32, 32, 32, 101, 120, 116, 101, 110, 100, 115, 58, 32, 97, 10]
def ch5 : Bs := [114, 117, 110]
/-- the one that comes next: in a ring the last leads to some other -/
def chN (ring : Bool) (k : Nat) (r : Int) (i : Nat) : Int := if ring = true ∧ i + 1 = k then r else (i : Int) + 1
def chL (s : Bs) (i : Nat) : Bs := ((((((s ++ [32, 32]) ++ nmI i ((i : Int) + 1)) ++ ch1) ++ nmI i ((i : Int) + 1)) ++ ch2) ++ nmI i ((i : Int) + 1)) ++ [10]
def chE (s : Bs) (k : Nat) (n : Int) : Bs := if n < k then ((s ++ ch3) ++ nmI n (n + 1)) ++ [10] else s
def chP (ring : Bool) (k : Nat) (r : Int) : Nat → Bs
  | 0 => ch0
  | i + 1 => chE (chL (chP ring k r i) i) k (chN ring k r i)
def chT (ring : Bool) (k : Nat) (r : Int) : List Nd := (parseS [102] (chP ring k r k ++ ch4)).1
def chX (ring : Bool) (k : Nat) (r : Int) : List Nd := (jobS (chT ring k r) [106]).1
def chOk (k : Nat) : Bool := decide ((parseS [102] (chP false k 0 k ++ ch4)).2 = ft0) && decide ((jobS (chT false k 0) [106]).2.code = 0) && decide ((chX false k 0).length = k + 2) && decide (0 ≤ getS (chX false k 0) [ch5] ∧ getS (chX false k 0) [ch5] < (chX false k 0).length ∧ (nth (chX false k 0) (getS (chX false k 0) [ch5])).text = [97])
def chDp : Bool := decide ((parseS [102] (chP false 17 0 17 ++ ch4)).2 = ft0) && decide ((jobS (chT false 17 0) [106]).2.code = 93) && decide ((chX false 17 0).length = 0)
def chRg (k : Nat) (r : Int) : Bool := decide ((parseS [102] (chP true k r k ++ ch4)).2 = ft0) && decide ((jobS (chT true k r) [106]).2 = ⟨92, [102], 1 + 4 * (k : Int), 14⟩) && decide ((chX true k r).length = 0)
theorem ch_ok14 : chOk 14 = true := by decide +kernel
theorem ch_ok15 : chOk 15 = true := by decide +kernel
theorem ch_ok16 : chOk 16 = true := by decide +kernel
theorem ch_dp : chDp = true := by decide +kernel
end Go.Proofs.YtgjhbapbomdpbaaDoor.C
