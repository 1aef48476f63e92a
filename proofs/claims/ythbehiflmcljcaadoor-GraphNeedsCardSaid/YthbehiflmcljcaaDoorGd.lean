/- graph's items: what their methods do to a row of pairs behind a pointer. -/
import Derived.Test.YthbehiflmcljcaaDoorC1
import Derived.Test.YthbehiflmcljcaaDoorGb
import Derived.Test.YthbehiflmcljcaaDoorGc
set_option linter.unusedVariables false
set_option linter.unusedSimpArgs false
set_option maxRecDepth 10000
namespace Go.Proofs.YthbehiflmcljcaaDoor.C
open Go.RowKit Go.Proofs.YthbehiflmcljcaaDoor.Sh
abbrev PB (b : Nat) : Value := .pointer (some ⟨b, 0, none⟩)
end Go.Proofs.YthbehiflmcljcaaDoor.C
namespace Go.Proofs.YthbehiflmcljcaaDoor.Sh
open Go.RowKit
section
variable {w0 w : World} {M : List Nat} {α : Type} {E : Enc α} {T : TypeId} {A : Option Addr} {c : Nat}
theorem St.pickT {P T : List Chunk} (h : St w0 M w (P ++ T)) (is : List Nat) (hn : is.Nodup := by decide) : St w0 M w (is.filterMap (P[·]?) ++ T) := by
  have hp := (h.sub (List.sublist_append_left P T)).pick is hn
  have ht := h.sub (List.sublist_append_right P T)
  have hm : ∀ C ∈ is.filterMap (P[·]?), C ∈ P := fun C hC => by
    obtain ⟨i, _, hi⟩ := List.mem_filterMap.1 hC
    exact List.mem_of_getElem? hi
  refine ⟨h.chg, fun C hC => ?_, fun C hC => ?_, List.pairwise_append.2 ⟨hp.dis, ht.dis, fun C hC E hE => (List.pairwise_append.1 h.dis).2.2 C (hm C hC) E hE⟩⟩
  · rcases List.mem_append.1 hC with hC | hC
    · exact hp.ok C hC
    · exact ht.ok C hC
  · rcases List.mem_append.1 hC with hC | hC
    · exact hp.rng C hC
    · exact ht.rng C hC
theorem row_congr {xs ys : List α} (h1 : xs.length = ys.length) (h2 : xs.flatMap E.cells = ys.flatMap E.cells) : Ch.row E T A c xs = Ch.row E T A c ys := by
  unfold Ch.row
  simp only [h1, h2]
/-- the first elements of a row that is owned -/
theorem row_shrink {xs ys : List α} (h : (Ch.row E T A c (xs ++ ys)).ok w) : (Ch.row E T A c xs).ok w := by
  have h : w.ownsRow 0 T E.n (.slice A (xs ++ ys).length c) (xs ++ ys).length ((xs ++ ys).flatMap E.cells) := h
  show w.ownsRow 0 T E.n (.slice A xs.length c) xs.length (xs.flatMap E.cells)
  cases A with
  | none =>
    obtain ⟨h1, h2, -⟩ := ownsRow_nil_inv h
    have : xs = [] := by
      have : xs.length = 0 := by simp at h1; simpa using h1.1
      exact List.eq_nil_of_length_eq_zero this
    subst this
    subst h2
    exact World.ownsRow_nil w 0 T E.n
  | some a =>
    obtain ⟨g, cur, rfl, hg, hnc, hcm, hcs, htake⟩ := ownsRow_some_inv h
    refine ⟨length_flat xs, .inr ⟨g, c, cur, rfl, Nat.zero_le _, hg, by simp at hnc; omega, hcm, hcs, ?_⟩⟩
    have e := congrArg (List.take (xs.length * E.n)) htake
    rw [List.take_take, List.flatMap_append, ← length_flat xs, List.take_left] at e
    rw [← e]
    congr 1
    rw [length_flat, List.length_append, Nat.add_mul]
    omega
theorem St.shrink {xs ys : List α} {D : List Chunk} (h : St w0 M w (Ch.row E T A c (xs ++ ys) :: D)) : St w0 M w (Ch.row E T A c xs :: D) :=
  ⟨h.chg, fun C hC => by
    rcases List.mem_cons.1 hC with rfl | hC
    · exact row_shrink (h.at_ 0)
    · exact h.ok C (List.mem_cons_of_mem _ hC), fun C hC => by
    rcases List.mem_cons.1 hC with rfl | hC
    · exact fun bb hb => h.rng (Ch.row E T A c (xs ++ ys)) (List.mem_cons_self ..) bb hb
    · exact h.rng C (List.mem_cons_of_mem _ hC), by
    have := List.pairwise_cons.1 h.dis
    exact List.pairwise_cons.2 ⟨this.1, this.2⟩⟩
end
theorem Yv.ta {P : Program} {w : World} {x : Operand} {xt t : TypeId} {v : Value} (h : noIf P t = true := by kernel_rfl) : Yv P w (.typeAssert x xt t false) [.iface t v] v :=
  Yv.mk1 (x := x) (by simp) rfl fun o e w' hop hx _ => by
    unfold noIf at h
    cases hu : P.underlying t with
    | none => rw [hu] at h; cases h
    | some d =>
      rw [hu] at h
      cases d <;> first | exact absurd h Bool.false_ne_true | simp [execOp, hop, hx, Instr.typeAssert, run_underlying hu]
def fldV (P : Program) (t f off : Nat) : Bool := match P.underlying t with
  | some (.struct fs) => (match fs[f]? with
    | some fd => Nat.beq fd.offset off && scB P fd.type
    | none => false)
  | _ => false
theorem Yv.fld {P : Program} {w : World} {t : TypeId} {x : Operand} {f off : Nat} {cs : List Value} {v : Value} (hv : cs[off]? = some v := by rfl) (ht : fldV P t f off = true := by kernel_rfl) : Yv P w (.field t x f) [.agg cs.toArray] v :=
  Yv.mk1 (x := x) (by simp) rfl fun o e w' hop hx _ => by
    unfold fldV at ht
    split at ht
    · rename_i fs hu
      split at ht
      · rename_i fd hfd
        rw [Bool.and_eq_true] at ht
        have h1 := Nat.eq_of_beq_eq_true ht.1
        have h2 := run_isAgg_sc (scB_of ht.2) w'
        have h3 : cs[fd.offset]? = some v := by rw [h1]; exact hv
        simp [execOp, hop, hx, Instr.field, run_underlying hu, hfd, asAgg, part, h2, h3]
      · cases ht
    · cases ht
theorem Yv.quo {P : Program} {w : World} {t u : TypeId} {x y : Operand} {a b c : Int} (h1 : 0 < b) (h2 : -9223372036854775807 ≤ a ∧ a ≤ 9223372036854775807) (hc : Int.tdiv a b = c) (hr : inI c) : Yv P w (.binOp .quo t x y u) [(.int .i64 a), (.int .i64 b)] (.int .i64 c) :=
  Yv.mk2 (x := x) (y := y) (by simp) rfl fun o e w' hop hx hy _ => by
    have hb : b ≠ 0 := by omega
    subst hc
    simp [execOp, hop, hx, hy, binOp, eqGuard, Op.intArith, Op.intDiv, hb, wrapI hr]
theorem rd_some {α : Type} {E : Enc α} {w : World} {A : Option Addr} {xs : List α} (h : Rd E w A xs) (h0 : 0 < xs.length) : A ≠ none := by
  intro e
  have := h.adr h0
  rw [e] at this
  cases this
end Go.Proofs.YthbehiflmcljcaaDoor.Sh
namespace Go.Proofs.YthbehiflmcljcaaDoor.C
open Go.RowKit Go.Proofs.YthbehiflmcljcaaDoor.Sh
abbrev ItE : Enc It := ⟨2, fun x => [.int .i64 x.1, .int .i64 x.2], fun _ => rfl⟩
abbrev ItV (x : It) : Value := .iface 60 (.agg (ItE.cells x).toArray)
/-- the receiver's pointer as an interface's value -/
abbrev HV (b : Nat) : Value := .iface 55 (PB b)
/-- a heap: its slice behind the pointer, its row -/
abbrev HpD (b : Nat) (A : Option Addr) (c : Nat) (xs : List It) : List Chunk := [Ch.cells b 57 [.slice A xs.length c], Ch.row ItE 60 A c xs]
theorem G_nth (xs : List It) (k : Nat) : nth xs (k : Int) = G xs k := by
  unfold nth G
  rw [Int.toNat_natCast, List.getD_eq_getElem?_getD]
  rfl
theorem len_cv (A : Option Addr) (n c : Nat) (w0 : World) : Cv Tryd.prog 27 [.slice A n c] (.int .i64 n) w0 := by
  intro w hk
  refine calls_of_Wp (vs := [_]) Tryd.func27 ?_
  refine Wp.seq (Wp.reads (is := [0]) (Keep.refl _) (Rn.s rfl Yv.as (Rn.nil)) ?_)
  refine Wp.seq (Wp.reads (is := [0, 1, 2]) (Keep.refl _) (Rn.s rfl Yv.mv (Rn.s rfl (Yv.len_v (e := 60) (m := 2)) (Rn.s rfl Yv.as (Rn.nil)))) ?_)
  exact Wp.ret (Fin.ret (Res.one rfl rfl) ⟨rfl, Keep.refl _⟩)
theorem less_cv (A : Option Addr) (n c : Nat) (xs : List It) (i j : Nat) (w0 : World) (hr : Rd ItE w0 A xs) (hn : n = xs.length) (hi : i < xs.length) (hj : j < xs.length) : Cv Tryd.prog 117 [.slice A n c, .int .i64 i, .int .i64 j] (.bool (ilt (G xs i) (G xs j))) w0 := by
  intro w hk
  have hr := hr.keep hk
  refine calls_of_Wp (vs := [_, _, _]) Tryd.func117 ?_
  refine Wp.seq (Wp.reads (is := [0]) (Keep.refl _) (Rn.s rfl Yv.as (Rn.nil)) ?_)
  refine Wp.seq (Wp.readsD (is := [0, 1, 2, 3, 4, 5, 6, 7, 8, 9, 10, 11, 12, 13, 14, 15, 16, 17, 18, 19, 20, 21, 22, 23, 24, 25, 26, 27, 28, 29, 30, 31, 32, 33, 34, 35, 36, 37]) mixed (fun _ _ _ _ _ h => h) (Keep.refl _) (Rn.s rfl Yv.mv (Rn.s rfl Yv.mv (Rn.s rfl (Yv.ia (e := 60) hr (by omega) (by omega) hn) (Rn.s rfl (Yv.fa (off := 0)) (Rn.s rfl (Yv.ld (hr.ld 0 (by omega) (by omega))) (Rn.s rfl Yv.mv (Rn.s rfl Yv.mv (Rn.s rfl (Yv.ia (e := 60) hr (by omega) (by omega) hn) (Rn.s rfl (Yv.fa (off := 0)) (Rn.s rfl (Yv.ld (hr.ld 0 (by omega) (by omega))) (Rn.s rfl (Yv.cmp _ rfl) (Rn.s rfl Yv.mv (Rn.or (is := [12, 13, 14, 15, 16, 17, 18, 19, 20, 21, 22, 23, 24, 25, 26, 27, 28, 29, 30, 31, 32, 33, 34, 35, 36]) (js := [37]) (t := 18) (d := 43) (hg := rfl) (hf := fun h11 => have h11 := of_decide_eq_false h11; Rn.s rfl Yv.mv (Rn.s rfl Yv.mv (Rn.s rfl (Yv.ia (e := 60) hr (by omega) (by omega) hn) (Rn.s rfl (Yv.fa (off := 0)) (Rn.s rfl (Yv.ld (hr.ld 0 (by omega) (by omega))) (Rn.s rfl Yv.mv (Rn.s rfl Yv.mv (Rn.s rfl (Yv.ia (e := 60) hr (by omega) (by omega) hn) (Rn.s rfl (Yv.fa (off := 0)) (Rn.s rfl (Yv.ld (hr.ld 0 (by omega) (by omega))) (Rn.s rfl (Yv.cmp _ rfl) (Rn.s rfl Yv.mv (Rn.and (is := [24, 25, 26, 27, 28, 29, 30, 31, 32, 33, 34, 35]) (js := [36]) (t := 30) (d := 42) (hg := rfl) (ht := fun h23 => have h23 := eq_of_beq h23; Rn.s rfl Yv.mv (Rn.s rfl Yv.mv (Rn.s rfl (Yv.ia (e := 60) hr (by omega) (by omega) hn) (Rn.s rfl (Yv.fa (off := 1)) (Rn.s rfl (Yv.ld (hr.ld 1 (by omega) (by omega))) (Rn.s rfl Yv.mv (Rn.s rfl Yv.mv (Rn.s rfl (Yv.ia (e := 60) hr (by omega) (by omega) hn) (Rn.s rfl (Yv.fa (off := 1)) (Rn.s rfl (Yv.ld (hr.ld 1 (by omega) (by omega))) (Rn.s rfl (Yv.cmp _ rfl) (Rn.s rfl Yv.pick_t ((Rn.e 12 rfl rfl)))))))))))))) (hf := fun _ => Rn.no rfl (Rn.no rfl (Rn.no rfl (Rn.no rfl (Rn.no rfl (Rn.no rfl (Rn.no rfl (Rn.no rfl (Rn.no rfl (Rn.no rfl (Rn.no rfl (Rn.s rfl Yv.pick_f (Rn.e 12 rfl rfl))))))))))))) (k := Rn.s rfl Yv.pick_f ((Rn.e 14 rfl rfl)))))))))))))))) (ht := fun _ => Rn.no rfl (Rn.no rfl (Rn.no rfl (Rn.no rfl (Rn.no rfl (Rn.no rfl (Rn.no rfl (Rn.no rfl (Rn.no rfl (Rn.no rfl (Rn.no rfl (Rn.no rfl (Rn.no rfl (Rn.no rfl (Rn.no rfl (Rn.no rfl (Rn.no rfl (Rn.no rfl (Rn.no rfl (Rn.no rfl (Rn.no rfl (Rn.no rfl (Rn.no rfl (Rn.no rfl (Rn.s rfl Yv.pick_t (Rn.e 25 rfl rfl)))))))))))))))))))))))))) (k := Rn.s rfl Yv.as (Rn.nil))))))))))))))) ?_)
  refine Wp.ret (Fin.ret (Res.one rfl rfl) ⟨?_, Keep.drew _⟩)
  rw [← G_nth, ← G_nth]
  rfl
theorem swap_calls (A : Option Addr) (n c : Nat) (xs : List It) (i j : Nat) (w0 w : World) (M : List Nat) (D : List Chunk) (hn : n = xs.length) (hi : i < xs.length) (hj : j < xs.length) (hst : St w0 M w (Ch.row ItE 60 A c xs :: D)) :
    Calls Tryd.prog 120 #[.slice A n c, .int .i64 i, .int .i64 j] w fun e w' => e = .returned (.tuple #[]) ∧ St w0 M w' (Ch.row ItE 60 A c (swp xs i j) :: D) := by
  have hr := hst.rd 0
  refine calls_of_Wp (vs := [_, _, _]) Tryd.func120 ?_
  refine Wp.draws [13, 15] mixed (WD.rd (is := [0, 1, 2, 3, 4, 5, 6, 7, 8, 9, 10, 11, 12]) (fun _ _ _ _ _ h => h) (Keep.drew _) (Rn.s rfl Yv.mv (Rn.s rfl Yv.mv (Rn.s rfl Yv.mv (Rn.s rfl Yv.mv (Rn.s rfl Yv.mv (Rn.s rfl Yv.mv (Rn.s rfl (Yv.ia (e := 60) hr (by omega) (by omega) hn) (Rn.s rfl (Yv.ldel hr rfl rfl (by omega) (by omega)) (Rn.s rfl Yv.mv (Rn.s rfl Yv.mv (Rn.s rfl (Yv.ia (e := 60) hr (by omega) (by omega) hn) (Rn.s rfl (Yv.ldel hr rfl rfl (by omega) (by omega)) (Rn.s rfl (Yv.ia (e := 60) hr (by omega) (by omega) hn) (Rn.nil)))))))))))))) (WD.act 13 (hc := rfl) (he := Ef.setEl (E := ItE) (xs := xs) (hst.quiet (Keep.drew _)) 0 (nth xs (j : Int)) rfl rfl (by omega) (by omega) (fun wy1 hsy1 => ⟨fun hn => (hn (by decide)).elim, WD.rd (is := [14]) (fun _ _ _ _ _ h => h) (Keep.refl _) (Rn.s rfl (Yv.ia (e := 60) (hsy1.rd 0) (by omega) (by rw [List.length_set]; omega) (by rw [List.length_set]; exact hn)) (Rn.nil)) (WD.act 15 (hc := rfl) (he := Ef.setEl (E := ItE) (xs := xs.set (i : Int).toNat (nth xs (j : Int))) hsy1 0 (nth xs (i : Int)) rfl rfl (by omega) (by rw [List.length_set]; omega) (fun wy2 hsy2 => ⟨fun hn => (hn (by decide)).elim, WD.done ?_⟩)))⟩))))
  refine Fin.normal (Res.none rfl) ⟨rfl, ?_⟩
  have e : swp xs i j = (xs.set (i : Int).toNat (nth xs (j : Int))).set (j : Int).toNat (nth xs (i : Int)) := by
    rw [Int.toNat_natCast, Int.toNat_natCast, G_nth, G_nth]
    rfl
  rw [e]
  exact hsy2
theorem fitI {n : Nat} (h : n ≤ 8796093022208) : Fits Tryd.prog 60 n := .inr ⟨8796093022208, by kernel_rfl, h⟩
theorem ipush_calls (b : Nat) (A : Option Addr) (c : Nat) (xs : List It) (x : It) (w0 w : World) (M : List Nat) (D : List Chunk) (hl : xs.length < 8796093022208) (hst : St w0 M w (HpD b A c xs ++ D)) :
    Calls Tryd.prog 119 #[PB b, ItV x] w fun e w' => e = .returned (.tuple #[]) ∧ ∃ A' c', St w0 M w' (HpD b A' c' (xs ++ [x]) ++ D) := by
  have c0 := hst.cells 0
  refine calls_of_Wp (vs := [_, _]) Tryd.func119 ?_
  refine Wp.draws [7, 9] mixed (WD.rd (is := [0, 1, 2, 3, 4, 5]) (fun _ _ _ _ _ h => h) (Keep.drew _) (Rn.s rfl Yv.mv (Rn.s rfl Yv.mv (Rn.s rfl Yv.nc (Rn.s rfl (Yv.ld (c0.at_ 0)) (Rn.s rfl Yv.mv (Rn.s rfl Yv.ta (Rn.nil))))))) ?_)
  refine WD.app ItE [x] 6 7 rfl (fun _ => rfl) (hst.quiet (Keep.drew _)) 1 (fitI (by simp only [List.length_cons, List.length_nil]; omega)) (fun b1 A' c' w2 hs2 => ?_)
  have hs2 : St w0 M w2 (Ch.row ItE 60 A' c' (xs ++ [x]) :: Ch.cells b 57 [.slice A xs.length c] :: D) := hs2
  refine WD.rd (is := [8]) (fun _ _ _ _ _ h => h) (Keep.refl _) (Rn.s rfl Yv.nc (Rn.nil)) (WD.act 9 (hc := rfl) (he := Ef.store hs2 1 ?_))
  intro w3 hs3
  refine ⟨fun h => (h (by simp)).elim, WD.done ?_⟩
  exact Fin.normal (Res.none rfl) ⟨rfl, A', c', hs3⟩
theorem ipop_calls (b : Nat) (A : Option Addr) (c : Nat) (xs : List It) (w0 w : World) (M : List Nat) (D : List Chunk) (h0 : 0 < xs.length) (hl : xs.length < 8796093022208) (hst : St w0 M w (HpD b A c xs ++ D)) :
    Calls Tryd.prog 118 #[PB b] w fun e w' => e = .returned (ItV (G xs (xs.length - 1))) ∧ St w0 M w' (HpD b A c (xs.take (xs.length - 1)) ++ D) := by
  have c0 := hst.cells 0
  have hr := hst.rd 1
  have hcap := hst.cap 1
  obtain ⟨n, hn⟩ : ∃ n, xs.length = n + 1 := ⟨xs.length - 1, by omega⟩
  have hn1 : (xs.length : Int) - 1 = (n : Int) := by omega
  refine calls_of_Wp (vs := [_]) Tryd.func118 ?_
  refine Wp.seq (Wp.reads (is := [0]) (Keep.refl _) (Rn.s rfl Yv.as (Rn.nil)) ?_)
  refine Wp.seq (Wp.draws [11] mixed (WD.rd (is := [0, 1, 2, 3, 4, 5, 6, 7, 8, 9]) (fun _ _ _ _ _ h => h) (Keep.drew _) (Rn.s rfl Yv.mv (Rn.s rfl Yv.nc (Rn.s rfl (Yv.ld (c0.at_ 0)) (Rn.s rfl Yv.mv (Rn.s rfl Yv.nc (Rn.s rfl (Yv.ld (c0.at_ 0)) (Rn.s rfl (Yv.len_v (e := 60) (m := 2)) (Rn.s rfl (Yv.sub (by unfold inI; omega)) (Rn.s rfl (Yv.ia (e := 60) hr (by omega) (by omega)) (Rn.s rfl (Yv.ldel hr rfl rfl (by omega) (by omega)) (Rn.nil))))))))))) (WD.act 10 (hc := rfl) (he := Ef.allocL (vs := [.int .i64 0, .int .i64 0]) (hst.quiet (Keep.drew _)) (fun by1 wy1 ky1 hsy1 => ⟨fun _ => ky1, WD.act 11 (hc := rfl) (he := Ef.stores hsy1 0 (fun wy2 hsy2 => ⟨fun hn => (hn (by decide)).elim, WD.done ?_⟩))⟩)))))
  have hs1 : St w0 M wy2 (Ch.cells by1 60 (ItE.cells (nth xs ((xs.length : Int) - 1))) :: (HpD b A c xs ++ D)) := hsy2
  have c1 := hs1.cells 1
  refine Wp.seq (Wp.draws [11] mixed (WD.rd (is := [0, 1, 2, 3, 4, 5, 6, 7, 8, 9, 10]) (fun _ _ _ _ _ h => h) (Keep.drew _) (Rn.s rfl Yv.mv (Rn.s rfl Yv.mv (Rn.s rfl Yv.nc (Rn.s rfl (Yv.ld (c1.at_ 0)) (Rn.s rfl Yv.mv (Rn.s rfl Yv.nc (Rn.s rfl (Yv.ld (c1.at_ 0)) (Rn.s rfl (Yv.len_v (e := 60) (m := 2)) (Rn.s rfl (Yv.sub (by unfold inI; omega)) (Rn.s rfl (Yv.sl_t (n := 2) (e := 60) (k := n) (by omega) (by omega) (by omega)) (Rn.s rfl Yv.nc (Rn.nil)))))))))))) (WD.act 11 (hc := rfl) (he := Ef.store (hs1.quiet (Keep.drew _)) 1 (fun wz1 hsz1 => ⟨fun hn => (hn (by decide)).elim, WD.done ?_⟩)))))
  have hs2 : St w0 M wz1 (Ch.cells b 57 [.slice A n c] :: Ch.cells by1 60 (ItE.cells (nth xs ((xs.length : Int) - 1))) :: Ch.row ItE 60 A c xs :: D) := hsz1
  have c2 := hs2.cells 1
  refine Wp.seq (Wp.regionL (l := [0, 1, 2]) (WO.rd (is := [0, 1, 2]) (js := []) (Keep.refl _) (Rn.s rfl (Yv.ldb c2) (Rn.s rfl Yv.mki (Rn.s rfl Yv.as (Rn.nil)))) (WO.done ?_)))
  have e : xs.take (xs.length - 1) ++ xs.drop (xs.length - 1) = xs := List.take_append_drop _ _
  refine Wp.ret (Fin.ret (Res.one rfl rfl) ⟨?_, ?_⟩)
  · have : nth xs ((xs.length : Int) - 1) = G xs (xs.length - 1) := by rw [← G_nth]; congr 1; omega
    rw [this]
  · have hs3 : St w0 M wz1 (Ch.row ItE 60 A c (xs.take (xs.length - 1) ++ xs.drop (xs.length - 1)) :: (Ch.cells b 57 [.slice A n c] :: D)) := by
      rw [e]
      exact St.pickT (P := [Ch.cells b 57 [.slice A n c], Ch.cells by1 60 (ItE.cells (nth xs ((xs.length : Int) - 1))), Ch.row ItE 60 A c xs]) (T := D) hs2 [2, 0]
    have hs4 := hs3.shrink
    have hs5 := St.pickT (P := [Ch.row ItE 60 A c (xs.take (xs.length - 1)), Ch.cells b 57 [.slice A n c]]) (T := D) hs4 [1, 0]
    have el : (xs.take (xs.length - 1)).length = n := by rw [List.length_take]; omega
    show St w0 M wz1 ([Ch.cells b 57 [.slice A (xs.take (xs.length - 1)).length c], Ch.row ItE 60 A c (xs.take (xs.length - 1))] ++ D)
    rw [el]
    exact hs5
end Go.Proofs.YthbehiflmcljcaaDoor.C
