/- Trees over trees: parts.End, the parts of a node by their keys, and a node's copy behind what is laid. -/
import Derived.Test.YtgjhbapbomdpbaaDoorJ7
import Derived.Test.YtgjhbapbomdpbaaDoorJ8
import Derived.Test.YtgjhbapbomdpbaaDoorJ2
set_option linter.unusedVariables false
set_option linter.unusedSimpArgs false
set_option maxRecDepth 10000
/-! Trees over trees: parts.End, the parts of a node by their keys, and a node's copy behind what is laid. -/
namespace Go.Proofs.YtgjhbapbomdpbaaDoor.C
open Go.RowKit Go.Proofs.YtgjhbapbomdpbaaDoor.Sh
/-! ### the parts by their keys -/
def keysR (t : List Nd) (ps : List Nat) (m : List (Bs × Int)) : List (Bs × Int) := ps.foldl (fun m (n : Nat) => aput (nth t (n : Int)).key (n : Int) m) m
def keysS (t : List Nd) (i : Nat) : List (Bs × Int) := keysR t (partsS t i) []
theorem keys_cx (A : Option Addr) (c : Nat) (t : List Nd) (i : Nat) (w : World) (hr : Rd NdE w A t) (hi : i < t.length) (hl : t.length < 4000000000000000000) (hd : -1000000 ≤ (nth t (i : Int)).depth ∧ (nth t (i : Int)).depth ≤ 1000000) :
    Cx Tryd.prog 91 [.slice A t.length c, .int .i64 i] [] (fun v D => ∃ b, v = .map (some b) ∧ D = [Ch.mp KyS VI b (keysS t i)]) w := by
  refine calls_of_Wp (vs := [_, _]) Tryd.func91 ?_
  refine Wp.seq (Wp.regionL (l := [0, 1]) (WO.act (hc := rfl) (he := Ef.boxL ([.slice A t.length c]) (St.init w) (fun ba1 wa1 ka1 hsa1 => WO.rd (is := [1]) (js := []) ((Keep.refl _).trans ka1) (Rn.s rfl Yv.as (Rn.nil)) (WO.done ?_)))))
  refine Wp.seq (Wp.regionL (l := [0, 1, 2]) (WO.act (he := Ef.makeMap KyS VI hsa1 (fun b1 w1 k1 hs1 => WO.act (he := Ef.allocL (vs := [.map none]) hs1 (fun b2 w2 k2 hs2 => WO.act (he := Ef.store hs2 0 (fun w3 hs3 => WO.done ?_))))))))
  have hst : St w [] w3 [Ch.cells b2 64 [.map (some b1)], Ch.mp KyS VI b1 ([] : List (Bs × Int)), Ch.cells ba1 43 [.slice A t.length c]] := hs3
  have c2 := hst.cells 2
  refine Wp.seq (Wp.seq (Wp.regionL (l := [0, 1, 2]) (WO.rd (is := [0, 1]) (js := [2]) (Keep.refl _) (Rn.s rfl (Yv.ld (c2.at_ 0)) (Rn.s rfl Yv.mv (Rn.nil))) (WO.act (hc := rfl) (he := Ef.cx (of_calls i A c t w3) hst (FnOk.of Tryd.func59) ?_)))))
  rintro v D wd1 ⟨b3, b4, rfl, rfl⟩ hsd1
  refine WO.done ?_
  have hst : St w [] wd1 [Ch.cells b3 3 [.int .i64 i], Ch.cells b4 43 [.slice A t.length c], Ch.cells b2 64 [.map (some b1)], Ch.mp KyS VI b1 ([] : List (Bs × Int)), Ch.cells ba1 43 [.slice A t.length c]] := hsd1
  refine Wp.block ?_
  refine Wp.ranges hst (of_tells b3 b4 i A c t hi hl hd)
    (fun k D => D = [Ch.cells b3 3 [.int .i64 i], Ch.cells b4 43 [.slice A t.length c], Ch.cells b2 64 [.map (some b1)], Ch.mp KyS VI b1 (keysR t ((partsS t i).take k) []), Ch.cells ba1 43 [.slice A t.length c]])
    (fun c' D => False)
    ?_ rfl ?_ ?_ ?_ (hf := Tryd.func87)
  · rintro k D' W rfl h
    exact ⟨h.cells 0, h.cells 1, hr.keep h.keep⟩
  · rintro k x l kb busy D' W hx rfl hW
    have hxm := partsS_mem hi x (List.mem_of_getElem? hx)
    refine Wp.reads (is := [0]) (Keep.refl _) (Rn.s rfl Yv.as (Rn.nil)) ⟨rfl, Keep.refl _, ?_⟩
    intro W2 hW2
    have hr2 : Rd NdE W2 A t := hr.keep hW2.keep
    have c2' := hW2.cells 6
    have c5 := hW2.cells 4
    have e1 : keysR t ((partsS t i).take (k + 1)) [] = aput (nth t (x : Int)).key (x : Int) (keysR t ((partsS t i).take k) []) := by
      unfold keysR
      rw [List.take_add_one, hx]
      simp
    refine Wp.block (Wp.draws [7] mixed (WD.rd (is := [0, 1, 2, 3, 4, 5, 6]) (fun _ _ _ _ _ h => h) (Keep.drew _) (Rn.s rfl (Yv.ld (c5.at_ 0)) (Rn.s rfl (Yv.ld (c2'.at_ 0)) (Rn.s rfl Yv.mv (Rn.s rfl (Yv.ia (e := 48) hr2 (by omega) (by omega)) (Rn.s rfl (Yv.fa (off := 2)) (Rn.s rfl (Yv.ld (hr2.ld 2 (by omega) (by omega))) (Rn.s rfl Yv.mv (Rn.nil)))))))) ?_))
    refine WD.act 7 (hc := rfl) (he := Ef.mapput (hW2.quiet (Keep.drew _)) 5 ?_)
    intro w4 hs4
    refine ⟨fun h => (h (by simp)).elim, WD.done ?_⟩
    exact ⟨_, e1 ▸ rfl, hs4.pick [1, 2, 3, 4, 5, 0, 6]⟩
  · rintro kb D' W rfl hW
    rw [List.take_of_length_le (Nat.le_refl _)] at hW
    have c2' := hW.cells 3
    refine Wp.seq (Wp.reads (is := [0, 1]) (Keep.refl _) (Rn.s rfl (Yv.ld (c2'.at_ 0)) (Rn.s rfl Yv.as (Rn.nil))) ?_)
    refine Wp.ret (Fin.retM (Lv.one hW 0 fun w2 hst2 => ⟨_, Res.one rfl rfl, ?_⟩))
    exact ⟨_, _, rfl, ⟨b1, rfl, rfl⟩, hst2.pick [3]⟩
  · rintro kb c' D' W h hW
    exact h.elim
end Go.Proofs.YtgjhbapbomdpbaaDoor.C
/-! Trees over trees: a node's copy behind what is laid. -/
namespace Go.Proofs.YtgjhbapbomdpbaaDoor.C
open Go.RowKit Go.Proofs.YtgjhbapbomdpbaaDoor.Sh
def subS (t : List Nd) (i : Nat) : List Nd := (t.take (endS t i)).drop i
theorem subS_len {t : List Nd} {i : Nat} (hi : i < t.length) : (subS t i).length = endS t i - i := by
  have := endS_bd hi
  unfold subS
  simp; omega
/-- the cells of two trees that are laid over one another -/
abbrev lcs (X Y : Value) (O : Option Addr) (n co : Nat) : List Value := [X, Y, .slice O n co]
abbrev ChL (bl : Nat) (X Y : Value) (O : Option Addr) (co : Nat) (out : List Nd) : List Chunk := [Ch.cells bl 107 (lcs X Y O out.length co), Ch.row NdE 48 O co out]
theorem copy_calls (bl : Nat) (X Y : Value) (O : Option Addr) (co : Nat) (out : List Nd) (T : Option Addr) (ct : Nat) (t : List Nd) (i : Nat) (w0 w : World) (D : List Chunk) (hr : Rd NdE w0 T t) (hi : i < t.length) (hct : t.length ≤ ct) (hl : out.length + t.length ≤ 1599289640390)
    (hst : St w0 [] w (ChL bl X Y O co out ++ D)) :
    Calls Tryd.prog 90 #[PB bl, .slice T t.length ct, .int .i64 i] w fun e w' => e = .returned (.tuple #[]) ∧ ∃ O' co', St w0 [] w' (ChL bl X Y O' co' (out ++ subS t i) ++ D) := by
  obtain ⟨e1, e2⟩ := endS_bd hi
  have hs := subS_len hi
  have hc := hst.cells 0
  have hrw := hr.keep hst.keep
  have hcut : Rd NdE w (cutA T ct i 8) (subS t i) := hrw.cut hct e2
  have hcn : cutA T ct i 8 = none → ct - i = 0 := by
    intro h
    exfalso
    have := rd_some hcut (by omega)
    exact this h
  refine calls_of_Wp (vs := [_, _, _]) Tryd.func90 ?_
  refine Wp.draws [11, 14] mixed (WD.rd (is := [0, 1, 2, 3, 4, 5, 6, 7, 8]) (fun _ _ _ _ _ h => h) (Keep.drew _) (Rn.s rfl Yv.mv (Rn.s rfl Yv.mv (Rn.s rfl Yv.nc (Rn.s rfl (Yv.fa (off := 2)) (Rn.s rfl (Yv.ld (hc.at_ 2)) (Rn.s rfl Yv.mv (Rn.s rfl Yv.mv (Rn.s rfl Yv.mv (Rn.s rfl Yv.mv (Rn.nil)))))))))) ?_)
  refine WD.cv 9 rfl (end_cv' T ct t i w hrw hi (by omega)) (Keep.drew _) (FnOk.of Tryd.func46) (fun w1 k1 => ?_)
  have k01 : Keep w w1 := (Keep.drew _).trans k1
  have hst1 := hst.quiet k01
  have hcut1 := hcut.keep k01
  have hk2 : (subS t i).length = (endS t i : Int).toNat - (i : Int).toNat := by rw [Int.toNat_natCast, Int.toNat_natCast]; exact hs
  refine WD.rd (is := [10]) (fun _ _ _ _ _ h => h) (Keep.refl _) (Rn.s rfl (Yv.sl_ft (n := 8) (e := 48) (k := (subS t i).length) (by omega) (by omega) (by omega) hk2) (Rn.nil)) ?_
  refine WD.act 11 (hc := rfl) (he := Ef.append (ys := subS t i) hst1 1 hcut1 hcn (fitN (by omega)) ?_)
  intro O' co' w2 hs2
  refine ⟨fun h => (h (by simp)).elim, ?_⟩
  have hs2 : St w0 [] w2 (Ch.row NdE 48 O' co' (out ++ subS t i) :: Ch.cells bl 107 (lcs X Y O out.length co) :: D) := hs2
  refine WD.rd (is := [12, 13]) (fun _ _ _ _ _ h => h) (Keep.refl _) (Rn.s rfl Yv.nc (Rn.s rfl (Yv.fa (off := 2)) (Rn.nil))) (WD.act 14 (hc := rfl) (he := Ef.store hs2 1 ?_))
  intro w3 hs3
  refine ⟨fun h => (h (by simp)).elim, WD.done ?_⟩
  exact Fin.normal (Res.none rfl) ⟨rfl, O', co', hs3⟩
end Go.Proofs.YtgjhbapbomdpbaaDoor.C
/-! Trees over trees: a node laid over a node. -/
namespace Go.Proofs.YtgjhbapbomdpbaaDoor.C
open Go.RowKit Go.Proofs.YtgjhbapbomdpbaaDoor.Sh
def layF (a b : List Nd) : Nat → Nat → Nat → List Nd
  | 0, _, _ => []
  | f + 1, i, j =>
    if (nth a (i : Int)).kind ≠ 1 ∨ (nth b (j : Int)).kind ≠ 1 then subS b j
    else nth b (j : Int) :: (partsS a i).flatMap (fun n : Nat => match alook (nth a (n : Int)).key (keysS b j) with
        | some m => layF a b f n m.toNat
        | none => subS a n) ++
      (partsS b j).flatMap (fun n : Nat => if (alook (nth b (n : Int)).key (keysS a i)).isSome then [] else subS b n)
theorem keysR_mem {t : List Nd} {n : Nat} : ∀ (ps : List Nat) (m : List (Bs × Int)), (∀ p ∈ ps, p < n) → (∀ k v, alook k m = some v → 0 ≤ v ∧ v < n) → ∀ k v, alook k (keysR t ps m) = some v → 0 ≤ v ∧ v < n
  | [], m, _, hm => hm
  | p :: ps, m, hp, hm => by
    refine keysR_mem ps _ (fun q hq => hp q (List.mem_cons_of_mem _ hq)) ?_
    intro k v hk
    rw [alook_aput] at hk
    split at hk
    · injection hk with hk
      have := hp p (List.mem_cons_self ..)
      omega
    · exact hm k v hk
theorem keysS_mem {t : List Nd} {i : Nat} (hi : i < t.length) {k : Bs} {v : Int} (h : alook k (keysS t i) = some v) : 0 ≤ v ∧ v < t.length :=
  keysR_mem (partsS t i) [] (fun p hp => (partsS_mem hi p hp).2) (fun k v h => by simp [alook] at h) k v h
/-- the depths are small -/
theorem lay_calls (bl : Nat) (A : Option Addr) (ca : Nat) (a : List Nd) (B : Option Addr) (cb : Nat) (b : List Nd) (w0 : World) (hra : Rd NdE w0 A a) (hrb : Rd NdE w0 B b) (hca : a.length ≤ ca) (hcb : b.length ≤ cb) (hda : DepOk a) (hdb : DepOk b) (hla : a.length ≤ 1000000) (hlb : b.length ≤ 1000000) :
    ∀ (f i j : Nat) (O : Option Addr) (co : Nat) (out : List Nd) (w : World) (D : List Chunk), i < a.length → j < b.length → a.length - i ≤ f → out.length + (layF a b f i j).length + a.length + b.length ≤ 1599289640390 →
      St w0 [] w (ChL bl (.slice A a.length ca) (.slice B b.length cb) O co out ++ D) →
      Calls Tryd.prog 64 #[PB bl, .int .i64 i, .int .i64 j] w fun e w' => e = .returned (.tuple #[]) ∧ ∃ O' co', St w0 [] w' (ChL bl (.slice A a.length ca) (.slice B b.length cb) O' co' (out ++ layF a b f i j) ++ D)
  | 0, i, j, O, co, out, w, D, hi, hj, hf, hl, hst => by omega
  | f + 1, i, j, O, co, out, w, D, hi, hj, hf, hl, hst => by
    obtain ⟨X, hX⟩ : ∃ X, X = Value.slice A a.length ca := ⟨_, rfl⟩
    obtain ⟨Y, hY⟩ : ∃ Y, Y = Value.slice B b.length cb := ⟨_, rfl⟩
    refine calls_of_Wp (vs := [_, _, _]) Tryd.func64 ?_
    refine Wp.seq (Wp.regionL (l := [0]) (WO.act (hc := rfl) (he := Ef.boxL ([PB bl]) hst (fun bx1 wx1 kx1 hsx1 => WO.done ?_))))
    have hst : St w0 [] wx1 (Ch.cells bx1 154 [PB bl] :: (ChL bl (.slice A a.length ca) (.slice B b.length cb) O co out ++ D)) := hsx1
    have c3 := hst.cells 0
    have hc := hst.cells 1
    have hra1 := hra.keep hst.keep
    have hrb1 := hrb.keep hst.keep
    refine Wp.seq (Wp.seq (Wp.reads (is := [0, 1, 2, 3, 4, 5, 6, 7, 8, 9, 10, 11, 12, 13, 14, 15, 16, 17, 18, 19]) (Keep.refl _) (Rn.s rfl (Yv.ld (c3.at_ 0)) (Rn.s rfl Yv.nc (Rn.s rfl (Yv.fa (off := 0)) (Rn.s rfl (Yv.ld (hc.at_ 0)) (Rn.s rfl Yv.mv (Rn.s rfl (Yv.ia (e := 48) hra1 (by omega) (by omega)) (Rn.s rfl (Yv.fa (off := 0)) (Rn.s rfl (Yv.ld (hra1.ld 0 (by omega) (by omega))) (Rn.s rfl (Yv.cmp _ rfl) (Rn.s rfl Yv.mv (Rn.or (is := [10, 11, 12, 13, 14, 15, 16, 17, 18, 19]) (js := []) (t := 23) (d := 33) (hg := rfl) (hf := fun h9 => have h9 := bne_eq_false_iff_eq.1 h9; Rn.s rfl (Yv.ld (c3.at_ 0)) (Rn.s rfl Yv.nc (Rn.s rfl (Yv.fa (off := 1)) (Rn.s rfl (Yv.ld (hc.at_ 1)) (Rn.s rfl Yv.mv (Rn.s rfl (Yv.ia (e := 48) hrb1 (by omega) (by omega)) (Rn.s rfl (Yv.fa (off := 0)) (Rn.s rfl (Yv.ld (hrb1.ld 0 (by omega) (by omega))) (Rn.s rfl (Yv.cmp _ rfl) (Rn.s rfl Yv.pick_f ((Rn.e 10 rfl rfl)))))))))))) (ht := fun _ => Rn.no rfl (Rn.no rfl (Rn.no rfl (Rn.no rfl (Rn.no rfl (Rn.no rfl (Rn.no rfl (Rn.no rfl (Rn.no rfl (Rn.s rfl Yv.pick_t (Rn.e 10 rfl rfl))))))))))) (k := Rn.nil)))))))))))) ?_))
    refine Wp.cond rfl (fun h => ?_) (fun h => ?_)
    · have h : (nth a (i : Int)).kind ≠ 1 ∨ (nth b (j : Int)).kind ≠ 1 := by simpa using h
      have e : layF a b (f + 1) i j = subS b j := by rw [layF, if_pos h]
      rw [e]
      have hw := St.pickT (P := [Ch.cells bx1 154 [PB bl], Ch.cells bl 107 (lcs (.slice A a.length ca) (.slice B b.length cb) O out.length co), Ch.row NdE 48 O co out]) (T := D) (hst.quiet (Keep.drew _)) [1, 2, 0]
      refine Wp.seq (Wp.draws [6] mixed (WD.rd (is := [0, 1, 2, 3, 4, 5]) (fun _ _ _ _ _ h => h) (Keep.drew _) (Rn.s rfl (Yv.ld (c3.at_ 0)) (Rn.s rfl (Yv.ld (c3.at_ 0)) (Rn.s rfl Yv.nc (Rn.s rfl (Yv.fa (off := 1)) (Rn.s rfl (Yv.ld (hc.at_ 1)) (Rn.s rfl Yv.mv (Rn.nil))))))) (WD.act 6 (hc := rfl) (he := Ef.callv Tryd.func90 (Calls.mono (copy_calls bl _ _ O co out B cb b j w0 _ (Ch.cells bx1 154 [PB bl] :: D) hrb hj hcb (by omega) hw) ?_)))))
      rintro e w' ⟨rfl, O', co', hs'⟩
      refine ⟨fun h => (h (by simp)).elim, WD.done ?_⟩
      exact Wp.ret (Fin.ret (Res.none rfl) ⟨rfl, O', co', St.pickT (P := [Ch.cells bl 107 (lcs (.slice A a.length ca) (.slice B b.length cb) O' (out ++ subS b j).length co'), Ch.row NdE 48 O' co' (out ++ subS b j), Ch.cells bx1 154 [PB bl]]) (T := D) hs' [0, 1]⟩)
    have h : ¬ ((nth a (i : Int)).kind ≠ 1 ∨ (nth b (j : Int)).kind ≠ 1) := by simpa using h
    obtain ⟨F1, hF1⟩ : ∃ F1 : Nat → List Nd, F1 = fun n : Nat => match alook (nth a (n : Int)).key (keysS b j) with
        | some m => layF a b f n m.toNat
        | none => subS a n := ⟨_, rfl⟩
    obtain ⟨F2, hF2⟩ : ∃ F2 : Nat → List Nd, F2 = fun n : Nat => if (alook (nth b (n : Int)).key (keysS a i)).isSome then [] else subS b n := ⟨_, rfl⟩
    have e : layF a b (f + 1) i j = nth b (j : Int) :: (partsS a i).flatMap F1 ++ (partsS b j).flatMap F2 := by rw [layF, if_neg h, hF1, hF2]
    rw [e] at hl ⊢
    have hP1 : ∀ k, (nth b (j : Int) :: ((partsS a i).take k).flatMap F1).length ≤ (nth b (j : Int) :: (partsS a i).flatMap F1 ++ (partsS b j).flatMap F2).length := by
      intro k
      have : (partsS a i).flatMap F1 = ((partsS a i).take k).flatMap F1 ++ ((partsS a i).drop k).flatMap F1 := by rw [← List.flatMap_append, List.take_append_drop]
      rw [this]
      simp
    have hP2 : ∀ k, (nth b (j : Int) :: (partsS a i).flatMap F1 ++ ((partsS b j).take k).flatMap F2).length ≤ (nth b (j : Int) :: (partsS a i).flatMap F1 ++ (partsS b j).flatMap F2).length := by
      intro k
      have : (partsS b j).flatMap F2 = ((partsS b j).take k).flatMap F2 ++ ((partsS b j).drop k).flatMap F2 := by rw [← List.flatMap_append, List.take_append_drop]
      rw [this]
      simp
    generalize hW : (nth b (j : Int) :: (partsS a i).flatMap F1 ++ (partsS b j).flatMap F2).length = whole at *
    -- the head
    have hst := hst.quiet (Keep.drew _)
    have hw := St.pickT (P := [Ch.cells bx1 154 [PB bl], Ch.cells bl 107 (lcs (.slice A a.length ca) (.slice B b.length cb) O out.length co), Ch.row NdE 48 O co out]) (T := D) hst [2, 0, 1]
    have c3d := hst.cells 0
    refine Wp.skip (Wp.seq ?_)
    refine Wp.mid (fun ρ ds w' => ds = [] ∧ (∃ O' co', St w0 [] w' (Ch.cells bx1 154 [PB bl] :: (ChL bl (.slice A a.length ca) (.slice B b.length cb) O' co' (out ++ [nth b (j : Int)]) ++ D))) ∧ Sub [(1, .int .i64 i), (2, .int .i64 j), (3, PB bx1)] ρ) ?_ ?_
    · refine Wp.drawsB [13, 16] mixed (WDB.rd (is := [1, 2, 3, 4, 5, 6, 7, 8, 9, 10, 11]) (fun _ _ _ _ _ h => h) (Keep.refl _) (Keep.drew _) (Rn.s rfl (Yv.ld (c3.at_ 0)) (Rn.s rfl Yv.nc (Rn.s rfl (Yv.fa (off := 2)) (Rn.s rfl (Yv.ld (hc.at_ 2)) (Rn.s rfl (Yv.ld (c3.at_ 0)) (Rn.s rfl Yv.nc (Rn.s rfl (Yv.fa (off := 1)) (Rn.s rfl (Yv.ld (hc.at_ 1)) (Rn.s rfl Yv.mv (Rn.s rfl (Yv.ia (e := 48) hrb1 (by omega) (by omega)) (Rn.s rfl (Yv.ldel hrb1 rfl rfl (by omega) (by omega)) (Rn.nil)))))))))))) ?_)
      refine WDB.act2 0 12 (hi := Ef.yv (Yv.ld (c3d.at_ 0)) ⟨fun _ h => h, ?_⟩) (hj := Ef.bsl (T := 48) NdE [nth b (j : Int)] hw (fun b3 w3 k3 hs3 => ⟨fun _ h => h.trans k3, ?_⟩))
      · refine WDB.act 12 (hc := rfl) (he := Ef.bsl (T := 48) NdE [nth b (j : Int)] hw (fun b3 w3 k3 hs3 => ⟨fun _ h => h.trans k3, ?_⟩))
        refine WDB.act 13 (hc := rfl) (he := Ef.append (ys := [nth b (j : Int)]) hs3 1 (hs3.rd 0) (by simp) (fitN (by simp; omega)) ?_)
        intro O1 co1 w4 hs4
        refine ⟨fun h => (h (by simp)).elim, ?_⟩
        have hs4 : St w0 [] w4 (Ch.row NdE 48 O1 co1 (out ++ [nth b (j : Int)]) :: Ch.row NdE 48 (some ⟨b3, 0, none⟩) [nth b (j : Int)].length [nth b (j : Int)] :: Ch.cells bx1 154 [PB bl] :: Ch.cells bl 107 (lcs (.slice A a.length ca) (.slice B b.length cb) O out.length co) :: D) := hs4
        refine WDB.rd0 (is := [14, 15]) (fun _ _ _ _ _ h => h) (Keep.refl _) (Rn.s rfl Yv.nc (Rn.s rfl (Yv.fa (off := 2)) (Rn.nil))) ?_
        refine WDB.act 16 (hc := rfl) (he := Ef.store hs4 3 ?_)
        intro w5 hs5
        refine ⟨fun h => (h (by simp)).elim, WDB.done ?_⟩
        exact ⟨rfl, ⟨O1, co1, St.pickT (P := [Ch.cells bl 107 (lcs (.slice A a.length ca) (.slice B b.length cb) O1 (out ++ [nth b (j : Int)]).length co1), Ch.row NdE 48 O1 co1 (out ++ [nth b (j : Int)]), Ch.row NdE 48 (some ⟨b3, 0, none⟩) [nth b (j : Int)].length [nth b (j : Int)], Ch.cells bx1 154 [PB bl]]) (T := D) hs5 [3, 0, 1]⟩, rfl, rfl, rfl, trivial⟩
      · refine WDB.act2 0 13 (hi := Ef.yv (Yv.ld ((c3d.keep k3).at_ 0)) ⟨fun _ h => h, ?_⟩) (hj := Ef.append (ys := [nth b (j : Int)]) hs3 1 (hs3.rd 0) (by simp) (fitN (by simp; omega)) (fun O1 co1 w4 hs4 => ⟨fun h => (h (by simp)).elim, ?_⟩))
        · refine WDB.act 13 (hc := rfl) (he := Ef.append (ys := [nth b (j : Int)]) hs3 1 (hs3.rd 0) (by simp) (fitN (by simp; omega)) ?_)
          intro O1 co1 w4 hs4
          refine ⟨fun h => (h (by simp)).elim, ?_⟩
          have hs4 : St w0 [] w4 (Ch.row NdE 48 O1 co1 (out ++ [nth b (j : Int)]) :: Ch.row NdE 48 (some ⟨b3, 0, none⟩) [nth b (j : Int)].length [nth b (j : Int)] :: Ch.cells bx1 154 [PB bl] :: Ch.cells bl 107 (lcs (.slice A a.length ca) (.slice B b.length cb) O out.length co) :: D) := hs4
          refine WDB.rd0 (is := [14, 15]) (fun _ _ _ _ _ h => h) (Keep.refl _) (Rn.s rfl Yv.nc (Rn.s rfl (Yv.fa (off := 2)) (Rn.nil))) ?_
          refine WDB.act 16 (hc := rfl) (he := Ef.store hs4 3 ?_)
          intro w5 hs5
          refine ⟨fun h => (h (by simp)).elim, WDB.done ?_⟩
          exact ⟨rfl, ⟨O1, co1, St.pickT (P := [Ch.cells bl 107 (lcs (.slice A a.length ca) (.slice B b.length cb) O1 (out ++ [nth b (j : Int)]).length co1), Ch.row NdE 48 O1 co1 (out ++ [nth b (j : Int)]), Ch.row NdE 48 (some ⟨b3, 0, none⟩) [nth b (j : Int)].length [nth b (j : Int)], Ch.cells bx1 154 [PB bl]]) (T := D) hs5 [3, 0, 1]⟩, rfl, rfl, rfl, trivial⟩
        · skip
          have hs4 : St w0 [] w4 (Ch.row NdE 48 O1 co1 (out ++ [nth b (j : Int)]) :: Ch.row NdE 48 (some ⟨b3, 0, none⟩) [nth b (j : Int)].length [nth b (j : Int)] :: Ch.cells bx1 154 [PB bl] :: Ch.cells bl 107 (lcs (.slice A a.length ca) (.slice B b.length cb) O out.length co) :: D) := hs4
          refine WDB.act 0 (hc := rfl) (he := Ef.yv (Yv.ld ((hs4.cells 2).at_ 0)) ⟨fun _ h => h, ?_⟩)
          refine WDB.rd0 (is := [14, 15]) (fun _ _ _ _ _ h => h) (Keep.refl _) (Rn.s rfl Yv.nc (Rn.s rfl (Yv.fa (off := 2)) (Rn.nil))) ?_
          refine WDB.act 16 (hc := rfl) (he := Ef.store hs4 3 ?_)
          intro w5 hs5
          refine ⟨fun h => (h (by simp)).elim, WDB.done ?_⟩
          exact ⟨rfl, ⟨O1, co1, St.pickT (P := [Ch.cells bl 107 (lcs (.slice A a.length ca) (.slice B b.length cb) O1 (out ++ [nth b (j : Int)]).length co1), Ch.row NdE 48 O1 co1 (out ++ [nth b (j : Int)]), Ch.row NdE 48 (some ⟨b3, 0, none⟩) [nth b (j : Int)].length [nth b (j : Int)], Ch.cells bx1 154 [PB bl]]) (T := D) hs5 [3, 0, 1]⟩, rfl, rfl, rfl, trivial⟩
    clear c3 hc hra1 hrb1 hst hw c3d
    rintro ρ ds w1 ⟨rfl, ⟨O1, co1, hst⟩, hs⟩
    refine Wp.forget _ ?_ hs
    obtain ⟨out1, hout1⟩ : ∃ out1, out1 = out ++ [nth b (j : Int)] := ⟨_, rfl⟩
    rw [← hout1] at hst
    have hol : out1.length = out.length + 1 := by rw [hout1]; simp
    have c3 := hst.cells 0
    have hc := hst.cells 1
    have hrb1 := hrb.keep hst.keep
    -- the parts of b's node by their keys
    refine Wp.seq (Wp.regionL (l := [0, 1, 2, 3, 4, 5, 6, 7]) (WO.rd (is := [0, 1, 2, 3, 4]) (js := [5, 6, 7]) (Keep.refl _) (Rn.s rfl (Yv.ld (c3.at_ 0)) (Rn.s rfl Yv.nc (Rn.s rfl (Yv.fa (off := 1)) (Rn.s rfl (Yv.ld (hc.at_ 1)) (Rn.s rfl Yv.mv (Rn.nil)))))) (WO.act (hc := rfl) (he := Ef.cx (keys_cx B cb b j w1 hrb1 hj (by omega) (hdb j hj)) hst (FnOk.of Tryd.func91) ?_))))
    rintro v D4 w4 ⟨bm, rfl, rfl⟩ hs4
    refine WO.act (he := Ef.allocL (vs := [.map none]) hs4 (fun b6 w5 k5 hs5 => WO.act (hc := rfl) (he := Ef.store hs5 0 (fun w6 hs6 => WO.done ?_))))
    have hst : St w0 [] w6 (Ch.cells b6 64 [.map (some bm)] :: Ch.mp KyS VI bm (keysS b j) :: Ch.cells bx1 154 [PB bl] :: (ChL bl (.slice A a.length ca) (.slice B b.length cb) O1 co1 out1 ++ D)) := hs6
    have c3 := hst.cells 2
    have hc := hst.cells 3
    refine Wp.seq (Wp.seq (Wp.regionL (l := [0, 1, 2, 3, 4, 5]) (WO.rd (is := [0, 1, 2, 3, 4]) (js := [5]) (Keep.refl _) (Rn.s rfl (Yv.ld (c3.at_ 0)) (Rn.s rfl Yv.nc (Rn.s rfl (Yv.fa (off := 0)) (Rn.s rfl (Yv.ld (hc.at_ 0)) (Rn.s rfl Yv.mv (Rn.nil)))))) (WO.act (hc := rfl) (he := Ef.cx (of_calls i A ca a w6) hst (FnOk.of Tryd.func59) ?_)))))
    rintro v D7 w7 ⟨b3, b4, rfl, rfl⟩ hs7
    refine WO.done ?_
    have hst : St w0 [] w7 ([Ch.cells b3 3 [.int .i64 i], Ch.cells b4 43 [.slice A a.length ca], Ch.cells b6 64 [.map (some bm)], Ch.mp KyS VI bm (keysS b j), Ch.cells bx1 154 [PB bl]] ++ (ChL bl (.slice A a.length ca) (.slice B b.length cb) O1 co1 out1 ++ D)) := hs7
    refine Wp.block ?_
    refine Wp.ranges hst (of_tells b3 b4 i A ca a hi (by omega) (hda i hi))
      (fun k D' => ∃ O' co', D' = [Ch.cells b3 3 [.int .i64 i], Ch.cells b4 43 [.slice A a.length ca], Ch.cells b6 64 [.map (some bm)], Ch.mp KyS VI bm (keysS b j), Ch.cells bx1 154 [PB bl]] ++ (ChL bl (.slice A a.length ca) (.slice B b.length cb) O' co' (out1 ++ ((partsS a i).take k).flatMap F1) ++ D))
      (fun c' D' => False) ?_ ⟨O1, co1, by simp⟩ ?_ ?_ ?_ (hf := Tryd.func87)
    · rintro k D' W ⟨O', co', rfl⟩ h
      exact ⟨h.cells 0, h.cells 1, hra.keep h.keep⟩
    · rintro k x l kb busy D' W hx ⟨O', co', rfl⟩ hW'
      have hxm := partsS_mem hi x (List.mem_of_getElem? hx)
      have e1 : ((partsS a i).take (k + 1)).flatMap F1 = ((partsS a i).take k).flatMap F1 ++ F1 x := by
        rw [List.take_add_one, hx, List.flatMap_append]; simp
      have hk1 := hP1 (k + 1)
      rw [e1] at hk1
      simp only [List.length_cons, List.length_append] at hk1
      refine Wp.reads (is := [0]) (Keep.refl _) (Rn.s rfl Yv.as (Rn.nil)) ⟨rfl, Keep.refl _, ?_⟩
      intro W2 hW2
      have hW2 : St w0 [] W2 ([Ch.obj l busy, Ch.obj kb (.deferred (some [])), Ch.cells b3 3 [.int .i64 i], Ch.cells b4 43 [.slice A a.length ca], Ch.cells b6 64 [.map (some bm)], Ch.mp KyS VI bm (keysS b j), Ch.cells bx1 154 [PB bl], Ch.cells bl 107 (lcs (.slice A a.length ca) (.slice B b.length cb) O' (out1 ++ ((partsS a i).take k).flatMap F1).length co'), Ch.row NdE 48 O' co' (out1 ++ ((partsS a i).take k).flatMap F1)] ++ D) := hW2
      have c3 := hW2.cells 6
      have c6 := hW2.cells 4
      have hmp : (Ch.mp KyS VI bm (keysS b j)).ok W2 := hW2.at_ 5
      have hc := hW2.cells 7
      have hra2 := hra.keep hW2.keep
      refine Wp.block (Wp.seq (Wp.readsD (is := [0, 1, 2, 3, 4, 5, 6, 7, 8, 9, 10, 11, 12, 13, 14]) mixed (fun _ _ _ _ _ h => h) (Keep.refl _) (Rn.s rfl (Yv.ld (c6.at_ 0)) (Rn.s rfl (Yv.ld (c3.at_ 0)) (Rn.s rfl Yv.nc (Rn.s rfl (Yv.fa (off := 0)) (Rn.s rfl (Yv.ld (hc.at_ 0)) (Rn.s rfl Yv.mv (Rn.s rfl (Yv.ia (e := 48) hra2 (by omega) (by omega)) (Rn.s rfl (Yv.fa (off := 2)) (Rn.s rfl (Yv.ld (hra2.ld 2 (by omega) (by omega))) (Rn.s rfl (Yv.look2 hmp 0) (Rn.s rfl Yv.mv (Rn.s rfl Yv.ex (Rn.s rfl Yv.ex (Rn.s rfl Yv.as (Rn.s rfl Yv.as (Rn.nil)))))))))))))))) ?_))
      have hW3 := hW2.quiet (Keep.drew _)
      have hwp := St.pickT hW3 [7, 8, 0, 1, 2, 3, 4, 5, 6]
      have c3 := hW3.cells 6
      have hc := hW3.cells 7
      refine Wp.seq (Wp.reads (is := [0]) (Keep.refl _) (Rn.s rfl Yv.mv (Rn.nil)) ?_)
      cases hm : alook (nth a (x : Int)).key (keysS b j) with
      | some v =>
        obtain ⟨v0, v1⟩ := keysS_mem hj hm
        obtain ⟨m, rfl⟩ : ∃ m : Nat, v = m := ⟨v.toNat, by omega⟩
        have eF : F1 x = layF a b f x m := by rw [hF1]; simp only [hm]; rw [Int.toNat_natCast]
        rw [eF] at e1 hk1
        have e2 : out1 ++ (((partsS a i).take k).flatMap F1 ++ layF a b f x m) = out1 ++ ((partsS a i).take k).flatMap F1 ++ layF a b f x m := by rw [List.append_assoc]
        refine Wp.cond_t rfl ?_
        refine Wp.regionL (l := [0, 1, 2, 3]) (WO.rd (is := [0, 1, 2]) (js := [3]) (Keep.refl _) (Rn.s rfl (Yv.ld (c3.at_ 0)) (Rn.s rfl Yv.mv (Rn.s rfl Yv.mv (Rn.nil)))) (WO.act (hc := rfl) (he := Ef.callv Tryd.func64 (Calls.mono (lay_calls bl A ca a B cb b w0 hra hrb hca hcb hda hdb hla hlb f x m O' co' (out1 ++ ((partsS a i).take k).flatMap F1) _ ([Ch.obj l busy, Ch.obj kb (.deferred (some [])), Ch.cells b3 3 [.int .i64 i], Ch.cells b4 43 [.slice A a.length ca], Ch.cells b6 64 [.map (some bm)], Ch.mp KyS VI bm (keysS b j), Ch.cells bx1 154 [PB bl]] ++ D) hxm.2 (by omega) (by omega) (by simp only [List.length_append]; omega) hwp) ?_))))
        rintro e w8 ⟨rfl, O2, co2, hs8⟩
        refine WO.done ?_
        refine ⟨_, ⟨O2, co2, rfl⟩, ?_⟩
        rw [e1, e2]
        exact St.pickT (P := [Ch.cells bl 107 (lcs (.slice A a.length ca) (.slice B b.length cb) O2 (out1 ++ ((partsS a i).take k).flatMap F1 ++ layF a b f x m).length co2), Ch.row NdE 48 O2 co2 (out1 ++ ((partsS a i).take k).flatMap F1 ++ layF a b f x m), Ch.obj l busy, Ch.obj kb (.deferred (some [])), Ch.cells b3 3 [.int .i64 i], Ch.cells b4 43 [.slice A a.length ca], Ch.cells b6 64 [.map (some bm)], Ch.mp KyS VI bm (keysS b j), Ch.cells bx1 154 [PB bl]]) (T := D) hs8 [2, 3, 4, 5, 6, 7, 8, 0, 1]
      | none =>
        have eF : F1 x = subS a x := by rw [hF1]; simp only [hm]
        rw [eF] at e1 hk1
        have e2 : out1 ++ (((partsS a i).take k).flatMap F1 ++ subS a x) = out1 ++ ((partsS a i).take k).flatMap F1 ++ subS a x := by rw [List.append_assoc]
        refine Wp.cond_f rfl ?_
        have hwp := hwp.quiet (Keep.drew _)
        refine Wp.draws [6] mixed (WD.rd (is := [0, 1, 2, 3, 4, 5]) (fun _ _ _ _ _ h => h) (Keep.drew _) (Rn.s rfl (Yv.ld (c3.at_ 0)) (Rn.s rfl (Yv.ld (c3.at_ 0)) (Rn.s rfl Yv.nc (Rn.s rfl (Yv.fa (off := 0)) (Rn.s rfl (Yv.ld (hc.at_ 0)) (Rn.s rfl Yv.mv (Rn.nil))))))) (WD.act 6 (hc := rfl) (he := Ef.callv Tryd.func90 (Calls.mono (copy_calls bl _ _ O' co' (out1 ++ ((partsS a i).take k).flatMap F1) A ca a x w0 _ ([Ch.obj l busy, Ch.obj kb (.deferred (some [])), Ch.cells b3 3 [.int .i64 i], Ch.cells b4 43 [.slice A a.length ca], Ch.cells b6 64 [.map (some bm)], Ch.mp KyS VI bm (keysS b j), Ch.cells bx1 154 [PB bl]] ++ D) hra hxm.2 hca (by simp only [List.length_append]; omega) hwp) ?_))))
        rintro e w8 ⟨rfl, O2, co2, hs8⟩
        refine ⟨fun h => (h (by simp)).elim, WD.done ?_⟩
        refine ⟨_, ⟨O2, co2, rfl⟩, ?_⟩
        rw [e1, e2]
        exact St.pickT (P := [Ch.cells bl 107 (lcs (.slice A a.length ca) (.slice B b.length cb) O2 (out1 ++ ((partsS a i).take k).flatMap F1 ++ subS a x).length co2), Ch.row NdE 48 O2 co2 (out1 ++ ((partsS a i).take k).flatMap F1 ++ subS a x), Ch.obj l busy, Ch.obj kb (.deferred (some [])), Ch.cells b3 3 [.int .i64 i], Ch.cells b4 43 [.slice A a.length ca], Ch.cells b6 64 [.map (some bm)], Ch.mp KyS VI bm (keysS b j), Ch.cells bx1 154 [PB bl]]) (T := D) hs8 [2, 3, 4, 5, 6, 7, 8, 0, 1]
    · rintro kb D' W ⟨O2, co2, rfl⟩ hW'
      rw [List.take_of_length_le (Nat.le_refl _)] at hW'
      obtain ⟨out2, hout2⟩ : ∃ out2, out2 = out1 ++ (partsS a i).flatMap F1 := ⟨_, rfl⟩
      rw [← hout2] at hW'
      have hst : St w0 [] W ([Ch.obj kb (.deferred (some [])), Ch.cells b3 3 [.int .i64 i], Ch.cells b4 43 [.slice A a.length ca], Ch.cells b6 64 [.map (some bm)], Ch.mp KyS VI bm (keysS b j), Ch.cells bx1 154 [PB bl], Ch.cells bl 107 (lcs (.slice A a.length ca) (.slice B b.length cb) O2 (out2).length co2), Ch.row NdE 48 O2 co2 (out2)] ++ D) := hW'
      clear hW' c3 hc
      have c3 := hst.cells 5
      have hc := hst.cells 6
      have hra1 := hra.keep hst.keep
      refine Wp.seq (Wp.regionL (l := [0, 1, 2, 3, 4, 5, 6, 7]) (WO.rd (is := [0, 1, 2, 3, 4]) (js := [5, 6, 7]) (Keep.refl _) (Rn.s rfl (Yv.ld (c3.at_ 0)) (Rn.s rfl Yv.nc (Rn.s rfl (Yv.fa (off := 0)) (Rn.s rfl (Yv.ld (hc.at_ 0)) (Rn.s rfl Yv.mv (Rn.nil)))))) (WO.act (hc := rfl) (he := Ef.cx (keys_cx A ca a i W hra1 hi (by omega) (hda i hi)) hst (FnOk.of Tryd.func91) ?_))))
      rintro v D9 w9 ⟨bn, rfl, rfl⟩ hs9
      refine WO.act (he := Ef.allocL (vs := [.map none]) hs9 (fun b9 w10 k10 hs10 => WO.act (hc := rfl) (he := Ef.store hs10 0 (fun w11 hs11 => WO.done ?_))))
      have hst : St w0 [] w11 ([Ch.cells b9 64 [.map (some bn)], Ch.mp KyS VI bn (keysS a i), Ch.obj kb (.deferred (some [])), Ch.cells b3 3 [.int .i64 i], Ch.cells b4 43 [.slice A a.length ca], Ch.cells b6 64 [.map (some bm)], Ch.mp KyS VI bm (keysS b j), Ch.cells bx1 154 [PB bl], Ch.cells bl 107 (lcs (.slice A a.length ca) (.slice B b.length cb) O2 (out2).length co2), Ch.row NdE 48 O2 co2 (out2)] ++ D) := hs11
      have c3 := hst.cells 7
      have hc := hst.cells 8
      refine Wp.seq (Wp.regionL (l := [0, 1, 2, 3, 4, 5]) (WO.rd (is := [0, 1, 2, 3, 4]) (js := [5]) (Keep.refl _) (Rn.s rfl (Yv.ld (c3.at_ 0)) (Rn.s rfl Yv.nc (Rn.s rfl (Yv.fa (off := 1)) (Rn.s rfl (Yv.ld (hc.at_ 1)) (Rn.s rfl Yv.mv (Rn.nil)))))) (WO.act (hc := rfl) (he := Ef.cx (of_calls j B cb b w11) hst (FnOk.of Tryd.func59) ?_))))
      rintro v D12 w12 ⟨b7, b8, rfl, rfl⟩ hs12
      refine WO.done ?_
      have hst : St w0 [] w12 ([Ch.cells b7 3 [.int .i64 j], Ch.cells b8 43 [.slice B b.length cb], Ch.cells b9 64 [.map (some bn)], Ch.mp KyS VI bn (keysS a i), Ch.obj kb (.deferred (some [])), Ch.cells b3 3 [.int .i64 i], Ch.cells b4 43 [.slice A a.length ca], Ch.cells b6 64 [.map (some bm)], Ch.mp KyS VI bm (keysS b j), Ch.cells bx1 154 [PB bl]] ++ (ChL bl (.slice A a.length ca) (.slice B b.length cb) O2 co2 out2 ++ D)) := hs12
      refine Wp.block ?_
      refine Wp.ranges hst (of_tells b7 b8 j B cb b hj (by omega) (hdb j hj))
        (fun k D' => ∃ O' co', D' = [Ch.cells b7 3 [.int .i64 j], Ch.cells b8 43 [.slice B b.length cb], Ch.cells b9 64 [.map (some bn)], Ch.mp KyS VI bn (keysS a i), Ch.obj kb (.deferred (some [])), Ch.cells b3 3 [.int .i64 i], Ch.cells b4 43 [.slice A a.length ca], Ch.cells b6 64 [.map (some bm)], Ch.mp KyS VI bm (keysS b j), Ch.cells bx1 154 [PB bl]] ++ (ChL bl (.slice A a.length ca) (.slice B b.length cb) O' co' (out2 ++ ((partsS b j).take k).flatMap F2) ++ D))
        (fun c' D' => False) ?_ ⟨O2, co2, by simp⟩ ?_ ?_ ?_ (hf := Tryd.func87)
      · rintro k D' W ⟨O', co', rfl⟩ h
        exact ⟨h.cells 0, h.cells 1, hrb.keep h.keep⟩
      · rintro k x l kb2 busy D' W hx ⟨O', co', rfl⟩ hW'
        have hxm := partsS_mem hj x (List.mem_of_getElem? hx)
        have e1 : ((partsS b j).take (k + 1)).flatMap F2 = ((partsS b j).take k).flatMap F2 ++ F2 x := by
          rw [List.take_add_one, hx, List.flatMap_append]; simp
        have hk1 := hP2 (k + 1)
        rw [e1] at hk1
        simp only [List.length_cons, List.length_append] at hk1
        have hol2 : out2.length = out.length + 1 + ((partsS a i).flatMap F1).length := by rw [hout2, List.length_append, hol]
        refine Wp.reads (is := [0]) (Keep.refl _) (Rn.s rfl Yv.as (Rn.nil)) ⟨rfl, Keep.refl _, ?_⟩
        intro W2 hW2
        have hW2 : St w0 [] W2 ([Ch.obj l busy, Ch.obj kb2 (.deferred (some [])), Ch.cells b7 3 [.int .i64 j], Ch.cells b8 43 [.slice B b.length cb], Ch.cells b9 64 [.map (some bn)], Ch.mp KyS VI bn (keysS a i), Ch.obj kb (.deferred (some [])), Ch.cells b3 3 [.int .i64 i], Ch.cells b4 43 [.slice A a.length ca], Ch.cells b6 64 [.map (some bm)], Ch.mp KyS VI bm (keysS b j), Ch.cells bx1 154 [PB bl], Ch.cells bl 107 (lcs (.slice A a.length ca) (.slice B b.length cb) O' (out2 ++ ((partsS b j).take k).flatMap F2).length co'), Ch.row NdE 48 O' co' (out2 ++ ((partsS b j).take k).flatMap F2)] ++ D) := hW2
        have c3 := hW2.cells 11
        have c10 := hW2.cells 4
        have hmp : (Ch.mp KyS VI bn (keysS a i)).ok W2 := hW2.at_ 5
        have hc := hW2.cells 12
        have hrb2 := hrb.keep hW2.keep
        refine Wp.block (Wp.seq (Wp.readsD (is := [0, 1, 2, 3, 4, 5, 6, 7, 8, 9, 10, 11, 12, 13, 14]) mixed (fun _ _ _ _ _ h => h) (Keep.refl _) (Rn.s rfl (Yv.ld (c10.at_ 0)) (Rn.s rfl (Yv.ld (c3.at_ 0)) (Rn.s rfl Yv.nc (Rn.s rfl (Yv.fa (off := 1)) (Rn.s rfl (Yv.ld (hc.at_ 1)) (Rn.s rfl Yv.mv (Rn.s rfl (Yv.ia (e := 48) hrb2 (by omega) (by omega)) (Rn.s rfl (Yv.fa (off := 2)) (Rn.s rfl (Yv.ld (hrb2.ld 2 (by omega) (by omega))) (Rn.s rfl (Yv.look2 hmp 0) (Rn.s rfl Yv.mv (Rn.s rfl Yv.ex (Rn.s rfl Yv.ex (Rn.s rfl Yv.as (Rn.s rfl Yv.as (Rn.nil)))))))))))))))) ?_))
        have hW3 := hW2.quiet (Keep.drew _)
        have c3 := hW3.cells 11
        have hc := hW3.cells 12
        refine Wp.seq (Wp.reads (is := [0, 1]) (Keep.refl _) (Rn.s rfl Yv.mv (Rn.s rfl Yv.not (Rn.nil))) ?_)
        cases hm : (alook (nth b (x : Int)).key (keysS a i)).isSome with
        | true =>
          have eF : F2 x = [] := by rw [hF2]; simp only [hm]; rfl
          refine Wp.cond_f rfl (Wp.skip ?_)
          refine ⟨_, ⟨O', co', rfl⟩, ?_⟩
          rw [e1, eF, List.append_nil]
          exact hW3
        | false =>
          have eF : F2 x = subS b x := by rw [hF2]; simp only [hm]; rfl
          rw [eF] at e1 hk1
          have e2 : out2 ++ (((partsS b j).take k).flatMap F2 ++ subS b x) = out2 ++ ((partsS b j).take k).flatMap F2 ++ subS b x := by rw [List.append_assoc]
          refine Wp.cond_t rfl ?_
          have hwp := (St.pickT hW3 [12, 13, 0, 1, 2, 3, 4, 5, 6, 7, 8, 9, 10, 11]).quiet (Keep.drew _)
          refine Wp.draws [6] mixed (WD.rd (is := [0, 1, 2, 3, 4, 5]) (fun _ _ _ _ _ h => h) (Keep.drew _) (Rn.s rfl (Yv.ld (c3.at_ 0)) (Rn.s rfl (Yv.ld (c3.at_ 0)) (Rn.s rfl Yv.nc (Rn.s rfl (Yv.fa (off := 1)) (Rn.s rfl (Yv.ld (hc.at_ 1)) (Rn.s rfl Yv.mv (Rn.nil))))))) (WD.act 6 (hc := rfl) (he := Ef.callv Tryd.func90 (Calls.mono (copy_calls bl _ _ O' co' (out2 ++ ((partsS b j).take k).flatMap F2) B cb b x w0 _ ([Ch.obj l busy, Ch.obj kb2 (.deferred (some [])), Ch.cells b7 3 [.int .i64 j], Ch.cells b8 43 [.slice B b.length cb], Ch.cells b9 64 [.map (some bn)], Ch.mp KyS VI bn (keysS a i), Ch.obj kb (.deferred (some [])), Ch.cells b3 3 [.int .i64 i], Ch.cells b4 43 [.slice A a.length ca], Ch.cells b6 64 [.map (some bm)], Ch.mp KyS VI bm (keysS b j), Ch.cells bx1 154 [PB bl]] ++ D) hrb hxm.2 hcb (by simp only [List.length_append]; omega) hwp) ?_))))
          rintro e w8 ⟨rfl, O3, co3, hs8⟩
          refine ⟨fun h => (h (by simp)).elim, WD.done ?_⟩
          refine ⟨_, ⟨O3, co3, rfl⟩, ?_⟩
          rw [e1, e2]
          exact St.pickT (P := [Ch.cells bl 107 (lcs (.slice A a.length ca) (.slice B b.length cb) O3 (out2 ++ ((partsS b j).take k).flatMap F2 ++ subS b x).length co3), Ch.row NdE 48 O3 co3 (out2 ++ ((partsS b j).take k).flatMap F2 ++ subS b x), Ch.obj l busy, Ch.obj kb2 (.deferred (some [])), Ch.cells b7 3 [.int .i64 j], Ch.cells b8 43 [.slice B b.length cb], Ch.cells b9 64 [.map (some bn)], Ch.mp KyS VI bn (keysS a i), Ch.obj kb (.deferred (some [])), Ch.cells b3 3 [.int .i64 i], Ch.cells b4 43 [.slice A a.length ca], Ch.cells b6 64 [.map (some bm)], Ch.mp KyS VI bm (keysS b j), Ch.cells bx1 154 [PB bl]]) (T := D) hs8 [2, 3, 4, 5, 6, 7, 8, 9, 10, 11, 12, 13, 0, 1]
      · rintro kb2 D' W2 ⟨O', co', rfl⟩ hW'
        rw [List.take_of_length_le (Nat.le_refl _)] at hW'
        have eo : out2 ++ (partsS b j).flatMap F2 = out ++ (nth b (j : Int) :: (partsS a i).flatMap F1 ++ (partsS b j).flatMap F2) := by rw [hout2, hout1]; simp
        rw [eo] at hW'
        have hW' : St w0 [] W2 ([Ch.obj kb2 (.deferred (some [])), Ch.cells b7 3 [.int .i64 j], Ch.cells b8 43 [.slice B b.length cb], Ch.cells b9 64 [.map (some bn)], Ch.mp KyS VI bn (keysS a i), Ch.obj kb (.deferred (some [])), Ch.cells b3 3 [.int .i64 i], Ch.cells b4 43 [.slice A a.length ca], Ch.cells b6 64 [.map (some bm)], Ch.mp KyS VI bm (keysS b j), Ch.cells bx1 154 [PB bl], Ch.cells bl 107 (lcs (.slice A a.length ca) (.slice B b.length cb) O' (out ++ (nth b (j : Int) :: (partsS a i).flatMap F1 ++ (partsS b j).flatMap F2)).length co'), Ch.row NdE 48 O' co' (out ++ (nth b (j : Int) :: (partsS a i).flatMap F1 ++ (partsS b j).flatMap F2))] ++ D) := hW'
        refine Fin.retM (Lv.one hW' 0 fun w2 h2 => Lv.one h2 4 fun w3 h3 => ⟨_, Res.none rfl, rfl, O', co', ?_⟩)
        exact St.pickT (P := [Ch.cells b7 3 [.int .i64 j], Ch.cells b8 43 [.slice B b.length cb], Ch.cells b9 64 [.map (some bn)], Ch.mp KyS VI bn (keysS a i), Ch.cells b3 3 [.int .i64 i], Ch.cells b4 43 [.slice A a.length ca], Ch.cells b6 64 [.map (some bm)], Ch.mp KyS VI bm (keysS b j), Ch.cells bx1 154 [PB bl], Ch.cells bl 107 (lcs (.slice A a.length ca) (.slice B b.length cb) O' (out ++ (nth b (j : Int) :: (partsS a i).flatMap F1 ++ (partsS b j).flatMap F2)).length co'), Ch.row NdE 48 O' co' (out ++ (nth b (j : Int) :: (partsS a i).flatMap F1 ++ (partsS b j).flatMap F2))]) (T := D) h3 [9, 10]
      · rintro kb2 c' D' W h hW'
        exact h.elim
    · rintro kb c' D' W h hW'
      exact h.elim
end Go.Proofs.YtgjhbapbomdpbaaDoor.C
/-! Trees over trees: what is laid, in plain words: its length, its nodes. -/
namespace Go.Proofs.YtgjhbapbomdpbaaDoor.C
open Go.RowKit Go.Proofs.YtgjhbapbomdpbaaDoor.Sh
theorem skip_end (d : Int) : ∀ (r : List Nd) (k : Nat), partsR d r k = partsR d (r.drop (endR (d + 1) r k - k)) (endR (d + 1) r k) ∧ endR d r k = endR d (r.drop (endR (d + 1) r k - k)) (endR (d + 1) r k)
  | [], k => by simp [endR]
  | n :: r, k => by
    by_cases h : d + 1 < n.depth
    · have hb := endR_bd (d + 1) r (k + 1)
      obtain ⟨h1, h2⟩ := skip_end d r (k + 1)
      have e1 : endR (d + 1) (n :: r) k = endR (d + 1) r (k + 1) := by rw [endR, if_pos h]
      have e2 : (n :: r).drop (endR (d + 1) r (k + 1) - k) = r.drop (endR (d + 1) r (k + 1) - (k + 1)) := by
        have : endR (d + 1) r (k + 1) - k = (endR (d + 1) r (k + 1) - (k + 1)) + 1 := by omega
        rw [this, List.drop_succ_cons]
      rw [e1, e2, ← h1, ← h2]
      constructor
      · rw [partsR, if_pos (by omega), if_neg (by omega)]
      · rw [endR, if_pos (by omega)]
    · have e1 : endR (d + 1) (n :: r) k = k := by rw [endR, if_neg h]
      rw [e1, Nat.sub_self, List.drop_zero]
      exact ⟨rfl, rfl⟩
def sizS (t : List Nd) (n : Nat) : Nat := endS t n - n
theorem partsR_sum (t : List Nd) (d : Int) : ∀ (m : Nat) (k : Nat), t.length - k ≤ m → ((partsR d (t.drop k) k).map (sizS t)).sum ≤ endR d (t.drop k) k - k
  | 0, k, h => by
    rw [List.drop_eq_nil_of_le (by omega)]
    simp [partsR]
  | m + 1, k, h => by
    by_cases hk : k < t.length
    · rw [drop_cons hk]
      by_cases h1 : d < (nth t (k : Int)).depth
      · have hb := endR_bd d (t.drop (k + 1)) (k + 1)
        rw [partsR, if_pos h1, endR, if_pos h1]
        by_cases h2 : (nth t (k : Int)).depth = d + 1
        · rw [if_pos h2]
          have he : endS t k = endR (d + 1) (t.drop (k + 1)) (k + 1) := by rw [endS, h2]
          have hb2 := endS_bd hk
          obtain ⟨s1, s2⟩ := skip_end d (t.drop (k + 1)) (k + 1)
          rw [← he] at s1 s2
          have e3 : (t.drop (k + 1)).drop (endS t k - (k + 1)) = t.drop (endS t k) := by
            rw [List.drop_drop]; congr 1; omega
          rw [e3] at s1 s2
          have ih := partsR_sum t d m (endS t k) (by omega)
          have hb3 := endR_bd d (t.drop (endS t k)) (endS t k)
          rw [List.map_cons, List.sum_cons, s1, s2]
          have : sizS t k = endS t k - k := rfl
          omega
        · rw [if_neg h2]
          have := partsR_sum t d m (k + 1) (by omega)
          omega
      · rw [partsR, if_neg h1]
        simp
    · rw [List.drop_eq_nil_of_le (by omega)]
      simp [partsR]
theorem parts_sum (t : List Nd) (i : Nat) : ((partsS t i).map (sizS t)).sum ≤ sizS t i - 1 := by
  have := partsR_sum t (nth t (i : Int)).depth t.length (i + 1) (by omega)
  have hb := endR_bd (nth t (i : Int)).depth (t.drop (i + 1)) (i + 1)
  unfold sizS at *
  unfold partsS endS at *
  omega
theorem flat_len {α : Type} (F : Nat → List α) (g : Nat → Nat) (c : Nat) : ∀ (l : List Nat), (∀ n ∈ l, (F n).length ≤ g n * c) → (l.flatMap F).length ≤ (l.map g).sum * c
  | [], _ => by simp
  | n :: l, h => by
    have h1 := h n (List.mem_cons_self ..)
    have h2 := flat_len F g c l (fun x hx => h x (List.mem_cons_of_mem _ hx))
    rw [List.flatMap_cons, List.length_append, List.map_cons, List.sum_cons, Nat.add_mul]
    omega
theorem siz_pos {t : List Nd} {i : Nat} (hi : i < t.length) : 1 ≤ sizS t i ∧ sizS t i ≤ t.length - i := by
  have := endS_bd hi
  unfold sizS
  omega
theorem subS_siz {t : List Nd} {i : Nat} (hi : i < t.length) : (subS t i).length = sizS t i := subS_len hi
theorem layF_len (a b : List Nd) : ∀ (f i j : Nat), i < a.length → j < b.length → (layF a b f i j).length ≤ sizS a i * (b.length + 1)
  | 0, i, j, hi, hj => by simp [layF]
  | f + 1, i, j, hi, hj => by
    have ha := siz_pos hi
    have hb := siz_pos hj
    rw [layF]
    split
    · rw [subS_siz hj]
      have : 1 * (b.length + 1) ≤ sizS a i * (b.length + 1) := Nat.mul_le_mul_right _ ha.1
      omega
    · have h1 := flat_len (fun n : Nat => match alook (nth a (n : Int)).key (keysS b j) with
        | some m => layF a b f n m.toNat
        | none => subS a n) (sizS a) (b.length + 1) (partsS a i) (by
          intro n hn
          have hnm := partsS_mem hi n hn
          split
          · rename_i m hm
            have := keysS_mem hj hm
            exact layF_len a b f n m.toNat hnm.2 (by omega)
          · rw [subS_siz hnm.2]
            exact Nat.le_mul_of_pos_right _ (by omega))
      have h2 := flat_len (fun n : Nat => if (alook (nth b (n : Int)).key (keysS a i)).isSome then [] else subS b n) (sizS b) 1 (partsS b j) (by
          intro n hn
          have hnm := partsS_mem hj n hn
          split
          · simp
          · rw [subS_siz hnm.2]; omega)
      have s1 := parts_sum a i
      have s2 := parts_sum b j
      have s3 : ((partsS a i).map (sizS a)).sum * (b.length + 1) ≤ (sizS a i - 1) * (b.length + 1) := Nat.mul_le_mul_right _ s1
      have s4 : (sizS a i - 1) * (b.length + 1) + (b.length + 1) = sizS a i * (b.length + 1) := by
        have : sizS a i = (sizS a i - 1) + 1 := by omega
        conv => rhs; rw [this, Nat.add_mul]
        omega
      have hb2 : sizS b j ≤ b.length := by omega
      have hgoal : ∀ x y : Nat, x ≤ ((partsS a i).map (sizS a)).sum * (b.length + 1) → y ≤ ((partsS b j).map (sizS b)).sum * 1 → x + 1 + y ≤ sizS a i * (b.length + 1) := by
        clear h1 h2 hi hj
        intro x y hx hy
        generalize (sizS a i - 1) * (b.length + 1) = p at *
        generalize sizS a i * (b.length + 1) = q at *
        generalize ((partsS a i).map (sizS a)).sum * (b.length + 1) = g at *
        omega
      rw [List.length_append, List.length_cons]
      exact hgoal _ _ h1 h2
theorem subS_mem {t : List Nd} {i : Nat} {n : Nd} (h : n ∈ subS t i) : n ∈ t := List.mem_of_mem_take (List.mem_of_mem_drop h)
theorem nth_mem {t : List Nd} {i : Nat} (h : i < t.length) : nth t (i : Int) ∈ t := by
  have : nth t (i : Int) = t[i] := by rw [nth_nat]; simp [h]
  rw [this]; exact List.getElem_mem h
theorem layF_mem (a b : List Nd) : ∀ (f i j : Nat), i < a.length → j < b.length → ∀ n ∈ layF a b f i j, n ∈ a ∨ n ∈ b
  | 0, i, j, hi, hj => by simp [layF]
  | f + 1, i, j, hi, hj => by
    rw [layF]
    split
    · exact fun n hn => .inr (subS_mem hn)
    · intro n hn
      simp only [List.cons_append, List.mem_cons, List.mem_append, List.mem_flatMap] at hn
      rcases hn with rfl | ⟨p, hp, hn⟩ | ⟨p, hp, hn⟩
      · exact .inr (nth_mem hj)
      · have hpm := partsS_mem hi p hp
        split at hn
        · rename_i m hm
          have := keysS_mem hj hm
          exact layF_mem a b f p m.toNat hpm.2 (by omega) n hn
        · exact .inl (subS_mem hn)
      · split at hn
        · cases hn
        · exact .inr (subS_mem hn)
theorem layF_pos {a b : List Nd} {f i j : Nat} (hj : j < b.length) (hf : 0 < f) : 0 < (layF a b f i j).length := by
  obtain ⟨g, rfl⟩ : ∃ g, f = g + 1 := ⟨f - 1, by omega⟩
  rw [layF]
  split
  · rw [subS_siz hj]; exact (siz_pos hj).1
  · simp
def layS (a b : List Nd) : List Nd := layF a b a.length 0 0
theorem layS_len {a b : List Nd} (ha : 0 < a.length) (hb : 0 < b.length) : (layS a b).length ≤ a.length * (b.length + 1) := by
  have h := layF_len a b a.length 0 0 ha hb
  have h2 := (siz_pos (t := a) (i := 0) ha).2
  have : sizS a 0 * (b.length + 1) ≤ a.length * (b.length + 1) := Nat.mul_le_mul_right _ (by omega)
  unfold layS
  omega
/-- nodes at small depths -/
def Deep (t : List Nd) : Prop := ∀ n ∈ t, 0 ≤ n.depth ∧ n.depth ≤ 32
theorem Deep.dep {t : List Nd} (h : Deep t) : DepOk t := fun i hi => by
  have := h _ (nth_mem hi)
  omega
theorem isS_Deep {t : List Nd} (h : isS t = true) : Deep t := by
  intro n hn
  obtain ⟨j, hj⟩ := List.mem_iff_getElem?.1 hn
  have := (isS_depth h).2.2 j (List.getElem?_eq_some_iff.1 hj).1
  rw [nth_of hj] at this
  exact this
theorem layS_Deep {a b : List Nd} (ha : 0 < a.length) (hb : 0 < b.length) (da : Deep a) (db : Deep b) : Deep (layS a b) := by
  intro n hn
  rcases layF_mem a b a.length 0 0 ha hb n hn with h | h
  · exact da n h
  · exact db n h
abbrev ndR : Nd := ⟨1, 0, [], [], [], 0, 0, 0⟩
def foldS (out : List Nd) : List (List Nd) → List Nd × Int
  | [] => (out, 0)
  | t :: r => if (16384 : Int) < (layS out t).length then ([], 81) else foldS (layS out t) r
def mergeS (ts : List (List Nd)) : List Nd × Int :=
  if ts.all isS then (match ts with
    | [] => ([ndR], 0)
    | t :: r => foldS t r)
  else ([], 80)
end Go.Proofs.YtgjhbapbomdpbaaDoor.C
/-! Trees over trees: merge.Merge is walked. -/
namespace Go.Proofs.YtgjhbapbomdpbaaDoor.C
open Go.RowKit Go.Proofs.YtgjhbapbomdpbaaDoor.Sh
theorem over_cx (A : Option Addr) (ca : Nat) (a : List Nd) (B : Option Addr) (cb : Nat) (b : List Nd) (w : World) (hra : Rd NdE w A a) (hrb : Rd NdE w B b) (hca : a.length ≤ ca) (hcb : b.length ≤ cb) (hda : DepOk a) (hdb : DepOk b) (ha0 : 0 < a.length) (hb0 : 0 < b.length) (hla : a.length ≤ 16384) (hlb : b.length ≤ 16384) :
    Cx Tryd.prog 48 [.agg (lcs (.slice A a.length ca) (.slice B b.length cb) none 0 0).toArray] [] (fun v D => ∃ O co, v = .slice O (layS a b).length co ∧ D = [Ch.row NdE 48 O co (layS a b)]) w := by
  have hl := layS_len ha0 hb0
  have hm : a.length * (b.length + 1) ≤ 16384 * 16385 := Nat.mul_le_mul hla (by omega)
  refine calls_of_Wp (vs := [_]) Tryd.func48 ?_
  refine Wp.seq (Wp.regionL (l := [0, 1]) (WO.act (hc := rfl) (he := Ef.boxL (lcs (.slice A a.length ca) (.slice B b.length cb) none 0 0) (St.init w) (fun bx1 wx1 kx1 hsx1 => WO.rd (is := [1]) (js := []) ((Keep.refl _).trans kx1) (Rn.s rfl Yv.as (Rn.nil)) (WO.done ?_)))))
  have hst : St w [] wx1 (ChL bx1 (.slice A a.length ca) (.slice B b.length cb) none 0 [] ++ []) := (hsx1.nilrow NdE 48).pick [1, 0]
  refine Wp.seq (Wp.regionL (l := [0]) (WO.act (hc := rfl) (he := Ef.callv Tryd.func64 (Calls.mono (lay_calls bx1 A ca a B cb b w hra hrb hca hcb hda hdb (by omega) (by omega) a.length 0 0 none 0 [] wx1 [] ha0 hb0 (by omega) (by
    have : (layF a b a.length 0 0).length = (layS a b).length := rfl
    simp only [List.length_nil]
    omega) hst) ?_))))
  rintro e w2 ⟨rfl, O, co, hs2⟩
  refine WO.done ?_
  have hst : St w [] w2 [Ch.cells bx1 107 (lcs (.slice A a.length ca) (.slice B b.length cb) O (layS a b).length co), Ch.row NdE 48 O co (layS a b)] := hs2
  have hc := hst.cells 0
  refine Wp.seq (Wp.reads (is := [0, 1, 2]) (Keep.refl _) (Rn.s rfl (Yv.fa (off := 2)) (Rn.s rfl (Yv.ld (hc.at_ 2)) (Rn.s rfl Yv.as (Rn.nil)))) ?_)
  exact Wp.ret (Fin.ret (Res.one rfl rfl) ⟨_, _, rfl, ⟨O, co, rfl, rfl⟩, hst.pick [1]⟩)
/-- a tree that is handed in -/
structure TrOk (w : World) (x : Tr) : Prop where
  rd : Rd NdE w x.1 x.2.2
  cap : x.2.2.length ≤ x.2.1
theorem TrOk.keep {w w' : World} {x : Tr} (h : TrOk w x) (k : Keep w w') : TrOk w' x := ⟨h.rd.keep k, h.cap⟩
theorem fold_cx (TA : Option Addr) (tc : Nat) (ts : List Tr) (w : World) (hts : Rd TsE w TA ts) (hcap : ts.length ≤ tc) (h0 : 0 < ts.length) (hl : ts.length ≤ 1000000) (hall : ∀ x ∈ ts, TrOk w x) (his : ∀ x ∈ ts, isS x.2.2 = true) :
    Cx Tryd.prog 47 [.func (.func 48) #[] #[], .slice TA ts.length tc] [] (fun v D => ∃ O co, v = .tuple #[.slice O (foldS (nth ts 0).2.2 ((ts.drop 1).map ts1)).1.length co, .int .i64 (foldS (nth ts 0).2.2 ((ts.drop 1).map ts1)).2] ∧ D = [Ch.row NdE 48 O co (foldS (nth ts 0).2.2 ((ts.drop 1).map ts1)).1]) w := by
  obtain ⟨G, hG⟩ : ∃ G, G = foldS (nth ts 0).2.2 ((ts.drop 1).map ts1) := ⟨_, rfl⟩
  rw [← hG]
  have hn0 : nth ts 0 ∈ ts := by
    have : nth ts 0 = ts[0] := by
      have := nth_nat ts 0
      simp only [Int.natCast_zero] at this
      rw [this]; simp [h0]
    rw [this]; exact List.getElem_mem h0
  have k0 := hall _ hn0
  have i0 := his _ hn0
  have d0 := isS_depth i0
  have hne0 : (nth ts 0).1 = none → (nth ts 0).2.1 = 0 := fun h => (rd_some k0.rd d0.1 h).elim
  refine calls_of_Wp (vs := [_, _]) Tryd.func47 ?_
  refine Wp.seq (Wp.reads (is := [0, 1]) (Keep.refl _) (Rn.s rfl Yv.as (Rn.s rfl Yv.as (Rn.nil))) ?_)
  refine Wp.seq (Wp.regionL (l := [0, 1, 2, 3, 4, 5]) (WO.act (hc := rfl) (he := Ef.bsl (T := 48) NdE ([] : List Nd) (St.init w) (fun b w1 k1 hs1 => ?_))))
  have hts1 := hts.keep k1
  refine WO.rd (is := [1, 2, 3]) (js := [4, 5]) (Keep.refl _) (Rn.s rfl Yv.mv (Rn.s rfl (Yv.ia (e := 43) hts1 (j := 0) (by omega) (by omega)) (Rn.s rfl (Yv.ld (hts1.ld (i := 0) 0 (by omega) (by omega))) (Rn.nil)))) (WO.act (hc := rfl) (he := Ef.append (ys := (nth ts 0).2.2) hs1 0 (k0.rd.keep k1) hne0 (fitN (by simp only [List.length_nil]; omega)) ?_))
  intro O1 co1 w2 hs2
  refine WO.rd (is := [5]) (js := []) (Keep.refl _) (Rn.s rfl Yv.as (Rn.nil)) (WO.done ?_)
  have hst : St w [] w2 [Ch.row NdE 48 O1 co1 (nth ts 0).2.2] := hs2
  have hcut : Rd TsE w (cutA TA tc 1 1) (ts.drop 1) := by
    have := hts.cut (l := 1) hcap (Nat.le_refl _)
    rwa [List.take_length] at this
  have hdl : (ts.drop 1).length = ts.length - 1 := by simp
  refine Wp.seq (Wp.seq (Wp.reads (is := [0, 1, 2, 3]) (Keep.refl _) (Rn.s rfl Yv.mv (Rn.s rfl (Yv.sl_f (n := 1) (e := 43) (k := (ts.drop 1).length) (by omega) (by omega) (by rw [hdl]; rfl)) (Rn.s rfl (Yv.len_v (e := 43) (m := 1)) (Rn.s rfl Yv.mv (Rn.nil))))) ?_))
  refine Wp.block ?_
  refine Wp.loop (α := Nat × Tr) (fun q ρ ds w' => ds = [] ∧ q.1 ≤ (ts.drop 1).length ∧ Deep q.2.2.2 ∧ 0 < q.2.2.2.length ∧ q.2.2.2.length ≤ 16384 ∧ foldS q.2.2.2 (((ts.drop 1).drop q.1).map ts1) = G ∧ St w [] w' [Ch.row NdE 48 q.2.1 q.2.2.1 q.2.2.2] ∧
    Sub [(0, .func (.func 48) #[] #[]), (6, .slice q.2.1 q.2.2.2.length q.2.2.1), (15, .slice (cutA TA tc (1 : Int).toNat 1) (ts.drop 1).length (tc - (1 : Int).toNat)), (16, .int .i64 ((ts.drop 1).length : Nat)), (17, .int .i64 (q.1 : Int))] ρ) (fun q => (ts.drop 1).length - q.1) (0, (O1, co1, (nth ts 0).2.2))
    ⟨rfl, Nat.zero_le _, isS_Deep i0, d0.1, d0.2.1, hG.symm, hst, rfl, rfl, rfl, rfl, rfl, trivial⟩ ?_
  rintro ⟨i, O, co, xs⟩ ρ ds w3 ⟨rfl, hi, hdx, hx0, hx1, hfo, hst, hs⟩
  simp only at hi hdx hx0 hx1 hfo hst hs
  refine Wp.forget _ ?_ hs
  have hcut3 := hcut.keep hst.keep
  refine Wp.seq (Wp.reads (is := [0]) (Keep.refl _) (Rn.s rfl (Yv.cmp _ rfl) (Rn.nil)) ?_)
  refine Wp.seq (Wp.cond rfl (fun h => ?_) (fun h => ?_))
  · have h := of_decide_eq_true h
    have hil : i < (ts.drop 1).length := by omega
    have hget : nth (ts.drop 1) (i : Int) = (ts.drop 1)[i] := nth_of (List.getElem?_eq_getElem hil)
    have hmem : nth (ts.drop 1) (i : Int) ∈ ts := by rw [hget]; exact List.mem_of_mem_drop (List.getElem_mem hil)
    obtain ⟨x, hx⟩ : ∃ x, x = nth (ts.drop 1) (i : Int) := ⟨_, rfl⟩
    have hk := (hall _ hmem).keep hst.keep
    have hi1 := his _ hmem
    have hdrop : (ts.drop 1).drop i = x :: (ts.drop 1).drop (i + 1) := by rw [List.drop_eq_getElem_cons hil, hx, hget]
    rw [hdrop, List.map_cons, foldS] at hfo
    refine Wp.skip (Wp.seq (Wp.block ?_))
    refine Wp.seq (Wp.reads (is := [0, 1, 2]) (Keep.refl _) (Rn.s rfl (Yv.ia (e := 43) hcut3 (by omega) (by omega)) (Rn.s rfl (Yv.ld (hcut3.ld 0 (by omega) (by omega))) (Rn.s rfl Yv.as (Rn.nil)))) ?_)
    rw [← hx] at hk hi1 ⊢
    have dx := isS_depth hi1
    refine Wp.seq (Wp.regionL (l := [0, 1, 2, 3, 4, 5]) (WO.rd (is := [0, 1, 2, 3]) (js := [4, 5]) (Keep.refl _) (Rn.s rfl Yv.mv (Rn.s rfl Yv.mv (Rn.s rfl Yv.mv (Rn.s rfl (Yv.bd (cs := lcs (.slice O xs.length co) (.slice x.1 x.2.2.length x.2.1) none 0 0)) (Rn.nil))))) (WO.act (hc := rfl) (he := Ef.cx (over_cx O co xs x.1 x.2.1 x.2.2 w3 (hst.rd 0) hk.rd (hst.cap 0) hk.cap hdx.dep (isS_Deep hi1).dep hx0 dx.1 hx1 dx.2.1) hst (FnOk.of Tryd.func48) ?_))))
    rintro v D4 w4 ⟨O4, co4, rfl, rfl⟩ hs4
    refine WO.rd (is := [5]) (js := []) (Keep.refl _) (Rn.s rfl Yv.as (Rn.nil)) (WO.done ?_)
    have hst : St w [] w4 [Ch.row NdE 48 O4 co4 (layS xs x.2.2)] := hs4.pick [0]
    refine Wp.seq (Wp.reads (is := [0, 1, 2]) (Keep.refl _) (Rn.s rfl Yv.mv (Rn.s rfl (Yv.len_v (e := 48) (m := 8)) (Rn.s rfl (Yv.cmp _ rfl) (Rn.nil)))) ?_)
    refine Wp.cond rfl (fun h2 => ?_) (fun h2 => ?_)
    · have h2 := of_decide_eq_true h2
      rw [if_pos h2] at hfo
      subst hfo
      refine Wp.seq (Wp.reads (is := [0, 1]) (Keep.refl _) (Rn.s rfl Yv.as (Rn.s rfl Yv.as (Rn.nil))) ?_)
      exact Wp.ret (Fin.ret (Res.two rfl rfl rfl) ⟨_, _, rfl, ⟨none, 0, rfl, rfl⟩, (hst.sub (List.nil_sublist _)).nilrow _ _⟩)
    · have h2 := of_decide_eq_false h2
      rw [if_neg h2] at hfo
      refine Wp.skip (Wp.reads (is := [0, 1]) (Keep.refl _) (Rn.s rfl (Yv.add (by unfold inI; omega)) (Rn.s rfl Yv.mv (Rn.nil))) ?_)
      refine ⟨(i + 1, (O4, co4, layS xs x.2.2)), ⟨rfl, hil, layS_Deep hx0 dx.1 hdx (isS_Deep hi1), layF_pos dx.1 hx0, by simp only; omega, hfo, hst, rfl, rfl, rfl, rfl, rfl, trivial⟩, by simp only; omega⟩
  · have h := of_decide_eq_false h
    rw [List.drop_eq_nil_of_le (by omega), List.map_nil, foldS] at hfo
    subst hfo
    refine Wp.exit ?_
    refine Wp.seq (Wp.reads (is := [0, 1, 2]) (Keep.refl _) (Rn.s rfl Yv.mv (Rn.s rfl Yv.as (Rn.s rfl Yv.as (Rn.nil)))) ?_)
    exact Wp.ret (Fin.ret (Res.two rfl rfl rfl) ⟨_, _, rfl, ⟨O, co, rfl, rfl⟩, hst⟩)
theorem merge_cx (TA : Option Addr) (tc : Nat) (ts : List Tr) (w : World) (hts : Rd TsE w TA ts) (hcap : ts.length ≤ tc) (hl : ts.length ≤ 1000000) (hall : ∀ x ∈ ts, TrOk w x) :
    Cx Tryd.prog 30 [.slice TA ts.length tc] [] (fun v D => ∃ O co, v = .tuple #[.slice O (mergeS (ts.map ts1)).1.length co, .int .i64 (mergeS (ts.map ts1)).2] ∧ D = [Ch.row NdE 48 O co (mergeS (ts.map ts1)).1]) w := by
  refine calls_of_Wp (vs := [_]) Tryd.func30 ?_
  refine Wp.seq (Wp.reads (is := [0, 1]) (Keep.refl _) (Rn.s rfl Yv.as (Rn.s rfl Yv.as (Rn.nil))) ?_)
  refine Wp.seq (Wp.seq (Wp.reads (is := [0, 1, 2]) (Keep.refl _) (Rn.s rfl Yv.mv (Rn.s rfl (Yv.len_v (e := 43) (m := 1)) (Rn.s rfl Yv.mv (Rn.nil)))) ?_))
  refine Wp.block ?_
  refine Wp.loop (α := Nat) (fun i ρ ds w' => ds = [] ∧ i ≤ ts.length ∧ Keep w w' ∧ (∀ x ∈ ts.take i, isS x.2.2 = true) ∧ Sub [(0, .slice TA ts.length tc), (6, .slice TA ts.length tc), (7, .int .i64 (ts.length : Nat)), (8, .int .i64 (i : Int))] ρ) (fun i => ts.length - i) 0
    ⟨rfl, Nat.zero_le _, Keep.refl _, by simp, rfl, rfl, rfl, rfl, trivial⟩ ?_
  rintro i ρ ds w1 ⟨rfl, hi, hk1, hp, hs⟩
  refine Wp.forget _ ?_ hs
  have hts1 := hts.keep hk1
  refine Wp.seq (Wp.reads (is := [0]) (Keep.refl _) (Rn.s rfl (Yv.cmp _ rfl) (Rn.nil)) ?_)
  refine Wp.seq (Wp.cond rfl (fun h => ?_) (fun h => ?_))
  · have h := of_decide_eq_true h
    have hil : i < ts.length := by omega
    have hget : nth ts (i : Int) = ts[i] := nth_of (List.getElem?_eq_getElem hil)
    have hmem : nth ts (i : Int) ∈ ts := by rw [hget]; exact List.getElem_mem hil
    obtain ⟨x, hx⟩ : ∃ x, x = nth ts (i : Int) := ⟨_, rfl⟩
    have hk := (hall _ hmem).keep hk1
    refine Wp.skip (Wp.seq (Wp.block ?_))
    refine Wp.seq (Wp.reads (is := [0, 1, 2]) (Keep.refl _) (Rn.s rfl (Yv.ia (e := 43) hts1 (by omega) (by omega)) (Rn.s rfl (Yv.ld (hts1.ld 0 (by omega) (by omega))) (Rn.s rfl Yv.as (Rn.nil)))) ?_)
    rw [← hx] at hk hmem ⊢
    refine Wp.seq (Wp.regionL (l := [0, 1, 2]) (WO.rd (is := [0]) (js := [1, 2]) (Keep.refl _) (Rn.s rfl Yv.mv (Rn.nil)) (WO.cv rfl (is_cv x.1 x.2.1 x.2.2 w1 hk.rd) (Keep.refl _) (FnOk.of Tryd.func27) (fun wy1 ky1 => WO.rd (is := [2]) (js := []) ((Keep.refl _).trans ky1) (Rn.s rfl Yv.not (Rn.nil)) (WO.done ?_)))))
    cases hI : isS x.2.2 with
    | false =>
      refine Wp.cond_t rfl ?_
      have e : mergeS (ts.map ts1) = ([], 80) := by
        unfold mergeS
        rw [if_neg]
        intro h
        have := List.all_eq_true.1 h x.2.2 (List.mem_map.2 ⟨x, hmem, rfl⟩)
        rw [hI] at this
        cases this
      rw [e]
      refine Wp.seq (Wp.reads (is := [0, 1]) (Keep.refl _) (Rn.s rfl Yv.as (Rn.s rfl Yv.as (Rn.nil))) ?_)
      exact Wp.ret (Fin.ret (Res.two rfl rfl rfl) ⟨_, _, rfl, ⟨none, 0, rfl, rfl⟩, (((St.init w).quiet hk1).quiet ky1).nilrow _ _⟩)
    | true =>
      refine Wp.cond_f rfl (Wp.skip (Wp.reads (is := [0, 1]) (Keep.refl _) (Rn.s rfl (Yv.add (by unfold inI; omega)) (Rn.s rfl Yv.mv (Rn.nil))) ?_))
      refine ⟨i + 1, ⟨rfl, hil, hk1.trans ky1, fun z hz => ?_, rfl, rfl, rfl, rfl, trivial⟩, by omega⟩
      rw [List.take_add_one, List.getElem?_eq_getElem hil] at hz
      rcases List.mem_append.1 hz with hz | hz
      · exact hp z hz
      · have : z = ts[i] := by simpa using hz
        rw [this, ← hget, ← hx]; exact hI
  · have h := of_decide_eq_false h
    rw [List.take_of_length_le (by omega)] at hp
    have hal : (ts.map ts1).all isS = true := by
      rw [List.all_eq_true]
      intro y hy
      obtain ⟨x, hx, rfl⟩ := List.mem_map.1 hy
      exact hp x hx
    refine Wp.exit ?_
    refine Wp.seq (Wp.seq (Wp.reads (is := [0, 1, 2]) (Keep.refl _) (Rn.s rfl Yv.mv (Rn.s rfl (Yv.len_v (e := 43) (m := 1)) (Rn.s rfl (Yv.cmp _ rfl) (Rn.nil)))) ?_))
    cases hc : ts with
    | nil =>
      subst hc
      refine Wp.cond_t rfl ?_
      have e : mergeS (([] : List Tr).map ts1) = ([ndR], 0) := rfl
      rw [e]
      refine Wp.seq (Wp.regionL (l := [0, 1, 2, 3]) (WO.rd (is := [0]) (js := [1, 2, 3]) (Keep.refl _) (Rn.s rfl (Yv.bd (cs := ndR.cs)) (Rn.nil)) (WO.act (hc := rfl) (he := Ef.bsl (T := 48) NdE [ndR] ((St.init w).quiet hk1) (fun bz1 wz1 kz1 hsz1 => WO.rd (is := [2, 3]) (js := []) ((Keep.refl _).trans kz1) (Rn.s rfl Yv.as (Rn.s rfl Yv.as (Rn.nil))) (WO.done ?_))))))
      exact Wp.ret (Fin.ret (Res.two rfl rfl rfl) ⟨_, _, rfl, ⟨_, _, rfl, rfl⟩, hsz1⟩)
    | cons x r =>
      rw [← hc]
      have h0 : 0 < ts.length := by rw [hc]; simp
      refine Wp.cond_f ?_ (Wp.skip ?_)
      · refine congrArg (fun b => some (Value.bool b)) ?_
        rw [beq_eq_false_iff_ne]; omega
      have e : mergeS (ts.map ts1) = foldS (nth ts 0).2.2 ((ts.drop 1).map ts1) := by
        unfold mergeS
        rw [if_pos hal, hc]
        rfl
      rw [e]
      refine Wp.seq (Wp.regionL (l := [0, 1, 2, 3, 4, 5]) (WO.rd (is := [0]) (js := [1, 2, 3, 4, 5]) (Keep.refl _) (Rn.s rfl Yv.mv (Rn.nil)) (WO.act (hc := rfl) (he := Ef.cx (fold_cx TA tc ts w1 hts1 hcap h0 hl (fun x hx => (hall x hx).keep hk1) hp) ((St.init w).quiet hk1) (FnOk.of Tryd.func47) ?_))))
      rintro v D w2 ⟨O, co, rfl, rfl⟩ hs2
      refine WO.rd (is := [2, 3, 4, 5]) (js := []) (Keep.refl _) (Rn.s rfl Yv.ex (Rn.s rfl Yv.ex (Rn.s rfl Yv.as (Rn.s rfl Yv.as (Rn.nil))))) (WO.done ?_)
      exact Wp.ret (Fin.ret (Res.two rfl rfl rfl) ⟨_, _, rfl, ⟨O, co, rfl, rfl⟩, hs2.pick [0]⟩)
end Go.Proofs.YtgjhbapbomdpbaaDoor.C
/-! A part of a tree, and a tree without a part: merge.Part and merge.Without are walked. -/
namespace Go.Proofs.YtgjhbapbomdpbaaDoor.C
open Go.RowKit Go.Proofs.YtgjhbapbomdpbaaDoor.Sh
def subD (by_ : Int) (n : Nd) : Nd := ⟨n.kind, n.depth - by_, n.key, n.text, n.file, n.line, n.col, n.val⟩
def noKey (n : Nd) : Nd := ⟨n.kind, n.depth, [], n.text, n.file, n.line, n.col, n.val⟩
def partL (t : List Nd) (i : Nat) : List Nd := ((subS t i).map (subD (nth t (i : Int)).depth)).set 0 (noKey (nth ((subS t i).map (subD (nth t (i : Int)).depth)) 0))
def partOk (t : List Nd) (i : Int) : Bool := isS t && (decide (0 ≤ i) && (decide (i < t.length) && (nth t i).kind == 1))
def partS (t : List Nd) (i : Int) : List Nd × Int := if partOk t i = true then (partL t i.toNat, 0) else ([], 80)
theorem part_cx (A : Option Addr) (c : Nat) (t : List Nd) (i : Int) (w : World) (hr : Rd NdE w A t) (hcap : t.length ≤ c) (hl : t.length ≤ 1599289640390) :
    Cx Tryd.prog 28 [.slice A t.length c, .int .i64 i] [] (fun v D => ∃ O co, v = .tuple #[.slice O (partS t i).1.length co, .int .i64 (partS t i).2] ∧ D = [Ch.row NdE 48 O co (partS t i).1]) w := by
  refine calls_of_Wp (vs := [_, _]) Tryd.func28 ?_
  refine Wp.seq (Wp.reads (is := [0, 1]) (Keep.refl _) (Rn.s rfl Yv.as (Rn.s rfl Yv.as (Rn.nil))) ?_)
  have hI := is_cv A c t w hr
  cases hIs : isS t with
  | false =>
    rw [hIs] at hI
    refine Wp.seq (Wp.seq (Wp.regionL (l := [0, 1, 2, 3, 4, 5, 6, 7, 8, 9, 10, 11, 12, 13, 14, 15, 16, 17, 18, 19, 20]) (WO.rd (is := [0]) (js := [1, 2, 3, 4, 5, 6, 7, 8, 9, 10, 11, 12, 13, 14, 15, 16, 17, 18, 19, 20]) (Keep.refl _) (Rn.s rfl Yv.mv (Rn.nil)) (WO.cv rfl hI (Keep.refl _) (FnOk.of Tryd.func27) (fun w1 k1 => WO.rd (is := [2, 3, 4, 5, 6, 7, 8, 9, 10, 11, 12, 13, 14, 15, 16, 17, 18, 19, 20]) (js := []) (Keep.refl _) (Rn.s rfl Yv.not (Rn.s rfl Yv.mv (Rn.no rfl (Rn.no rfl (Rn.s rfl Yv.pick_t (Rn.s rfl Yv.mv (Rn.no rfl (Rn.no rfl (Rn.no rfl (Rn.no rfl (Rn.s rfl Yv.pick_t (Rn.s rfl Yv.mv (Rn.no rfl (Rn.no rfl (Rn.no rfl (Rn.no rfl (Rn.no rfl (Rn.no rfl (Rn.s rfl Yv.pick_t Rn.nil))))))))))))))))))) (WO.done ?_))))))
    refine Wp.cond_t rfl ?_
    have e : partS t i = ([], 80) := by unfold partS; rw [if_neg (by simp [partOk, hIs])]
    rw [e]
    refine Wp.seq (Wp.reads (is := [0, 1]) (Keep.refl _) (Rn.s rfl Yv.as (Rn.s rfl Yv.as (Rn.nil))) ?_)
    exact Wp.ret (Fin.ret (Res.two rfl rfl rfl) ⟨_, _, rfl, ⟨none, 0, rfl, rfl⟩, ((St.init w).quiet k1).nilrow _ _⟩)
  | true =>
    rw [hIs] at hI
    by_cases h1 : i < 0
    · refine Wp.seq (Wp.seq (Wp.regionL (l := [0, 1, 2, 3, 4, 5, 6, 7, 8, 9, 10, 11, 12, 13, 14, 15, 16, 17, 18, 19, 20]) (WO.rd (is := [0]) (js := [1, 2, 3, 4, 5, 6, 7, 8, 9, 10, 11, 12, 13, 14, 15, 16, 17, 18, 19, 20]) (Keep.refl _) (Rn.s rfl Yv.mv (Rn.nil)) (WO.cv rfl hI (Keep.refl _) (FnOk.of Tryd.func27) (fun w1 k1 => WO.rd (is := [2, 3, 4, 5, 6, 7, 8, 9, 10, 11, 12, 13, 14, 15, 16, 17, 18, 19, 20]) (js := []) (Keep.refl _) (Rn.s rfl Yv.not (Rn.s rfl Yv.mv (Rn.s rfl Yv.mv (Rn.s rfl (Yv.cmp true (by simp only [icmp, Option.some.injEq, decide_eq_true_eq, decide_eq_false_iff_not]; omega)) (Rn.s rfl Yv.pick_f (Rn.s rfl Yv.mv (Rn.no rfl (Rn.no rfl (Rn.no rfl (Rn.no rfl (Rn.s rfl Yv.pick_t (Rn.s rfl Yv.mv (Rn.no rfl (Rn.no rfl (Rn.no rfl (Rn.no rfl (Rn.no rfl (Rn.no rfl (Rn.s rfl Yv.pick_t Rn.nil))))))))))))))))))) (WO.done ?_))))))
      refine Wp.cond_t rfl ?_
      have e : partS t i = ([], 80) := by unfold partS; rw [if_neg (by simp [partOk, hIs, Int.not_le.2 h1])]
      rw [e]
      refine Wp.seq (Wp.reads (is := [0, 1]) (Keep.refl _) (Rn.s rfl Yv.as (Rn.s rfl Yv.as (Rn.nil))) ?_)
      exact Wp.ret (Fin.ret (Res.two rfl rfl rfl) ⟨_, _, rfl, ⟨none, 0, rfl, rfl⟩, ((St.init w).quiet k1).nilrow _ _⟩)
    by_cases h2 : (t.length : Int) ≤ i
    · refine Wp.seq (Wp.seq (Wp.regionL (l := [0, 1, 2, 3, 4, 5, 6, 7, 8, 9, 10, 11, 12, 13, 14, 15, 16, 17, 18, 19, 20]) (WO.rd (is := [0]) (js := [1, 2, 3, 4, 5, 6, 7, 8, 9, 10, 11, 12, 13, 14, 15, 16, 17, 18, 19, 20]) (Keep.refl _) (Rn.s rfl Yv.mv (Rn.nil)) (WO.cv rfl hI (Keep.refl _) (FnOk.of Tryd.func27) (fun w1 k1 => WO.rd (is := [2, 3, 4, 5, 6, 7, 8, 9, 10, 11, 12, 13, 14, 15, 16, 17, 18, 19, 20]) (js := []) (Keep.refl _) (Rn.s rfl Yv.not (Rn.s rfl Yv.mv (Rn.s rfl Yv.mv (Rn.s rfl (Yv.cmp false (by simp only [icmp, Option.some.injEq, decide_eq_true_eq, decide_eq_false_iff_not]; omega)) (Rn.s rfl Yv.pick_f (Rn.s rfl Yv.mv (Rn.s rfl Yv.mv (Rn.s rfl Yv.mv (Rn.s rfl (Yv.len_v (e := 48) (m := 8)) (Rn.s rfl (Yv.cmp true (by simp only [icmp, Option.some.injEq, decide_eq_true_eq, decide_eq_false_iff_not]; omega)) (Rn.s rfl Yv.pick_f (Rn.s rfl Yv.mv (Rn.no rfl (Rn.no rfl (Rn.no rfl (Rn.no rfl (Rn.no rfl (Rn.no rfl (Rn.s rfl Yv.pick_t Rn.nil))))))))))))))))))) (WO.done ?_))))))
      refine Wp.cond_t rfl ?_
      have e : partS t i = ([], 80) := by unfold partS; rw [if_neg (by simp [partOk, hIs, Int.not_lt.2 h2])]
      rw [e]
      refine Wp.seq (Wp.reads (is := [0, 1]) (Keep.refl _) (Rn.s rfl Yv.as (Rn.s rfl Yv.as (Rn.nil))) ?_)
      exact Wp.ret (Fin.ret (Res.two rfl rfl rfl) ⟨_, _, rfl, ⟨none, 0, rfl, rfl⟩, ((St.init w).quiet k1).nilrow _ _⟩)
    obtain ⟨m, rfl⟩ : ∃ m : Nat, i = m := ⟨i.toNat, by omega⟩
    have hm : m < t.length := by omega
    refine Wp.seq (Wp.seq (Wp.regionL (l := [0, 1, 2, 3, 4, 5, 6, 7, 8, 9, 10, 11, 12, 13, 14, 15, 16, 17, 18, 19, 20]) (WO.rd (is := [0]) (js := [1, 2, 3, 4, 5, 6, 7, 8, 9, 10, 11, 12, 13, 14, 15, 16, 17, 18, 19, 20]) (Keep.refl _) (Rn.s rfl Yv.mv (Rn.nil)) (WO.cv rfl hI (Keep.refl _) (FnOk.of Tryd.func27) (fun w1 k1 => WO.rd (is := [2, 3, 4, 5, 6, 7, 8, 9, 10, 11, 12, 13, 14, 15, 16, 17, 18, 19, 20]) (js := []) (Keep.refl _) (Rn.s rfl Yv.not (Rn.s rfl Yv.mv (Rn.s rfl Yv.mv (Rn.s rfl (Yv.cmp false (by simp only [icmp, Option.some.injEq, decide_eq_true_eq, decide_eq_false_iff_not]; omega)) (Rn.s rfl Yv.pick_f (Rn.s rfl Yv.mv (Rn.s rfl Yv.mv (Rn.s rfl Yv.mv (Rn.s rfl (Yv.len_v (e := 48) (m := 8)) (Rn.s rfl (Yv.cmp false (by simp only [icmp, Option.some.injEq, decide_eq_true_eq, decide_eq_false_iff_not]; omega)) (Rn.s rfl Yv.pick_f (Rn.s rfl Yv.mv (Rn.s rfl Yv.mv (Rn.s rfl Yv.mv (Rn.s rfl (Yv.ia (e := 48) (hr.keep k1) (by omega) (by omega)) (Rn.s rfl (Yv.fa (off := 0)) (Rn.s rfl (Yv.ld ((hr.keep k1).ld 0 (by omega) (by omega))) (Rn.s rfl (Yv.cmp _ rfl) (Rn.s rfl Yv.pick_f Rn.nil))))))))))))))))))) (WO.done ?_))))))
    refine Wp.cond rfl (fun h => ?_) (fun h => ?_)
    · have h3 : (nth t (m : Int)).kind ≠ 1 := by simpa using h
      have e : partS t m = ([], 80) := by unfold partS; rw [if_neg (by simp [partOk, h3])]
      rw [e]
      refine Wp.seq (Wp.reads (is := [0, 1]) (Keep.refl _) (Rn.s rfl Yv.as (Rn.s rfl Yv.as (Rn.nil))) ?_)
      exact Wp.ret (Fin.ret (Res.two rfl rfl rfl) ⟨_, _, rfl, ⟨none, 0, rfl, rfl⟩, ((St.init w).quiet k1).nilrow _ _⟩)
    have h3 : (nth t (m : Int)).kind = 1 := by simpa using h
    have e : partS t m = (partL t m, 0) := by unfold partS; rw [if_pos (by simp [partOk, hIs, hm, h3]), Int.toNat_natCast]
    rw [e]
    refine Wp.skip ?_
    have hIs2 := isS_Deep hIs
    obtain ⟨e1, e2⟩ := endS_bd hm
    have hss := subS_siz hm
    have hsp := siz_pos hm
    have hr1 := hr.keep k1
    refine Wp.seq (Wp.regionL (l := [0, 1, 2, 3, 4, 5, 6, 7, 8]) (WO.act (hc := rfl) (he := Ef.bsl (T := 48) NdE ([] : List Nd) ((St.init w).quiet k1) (fun b w2 k2 hs2 => ?_))))
    refine WO.rd (is := [1, 2, 3, 4]) (js := [5, 6, 7, 8]) (Keep.refl _) (Rn.s rfl Yv.mv (Rn.s rfl Yv.mv (Rn.s rfl Yv.mv (Rn.s rfl Yv.mv (Rn.nil))))) (WO.cv rfl (end_cv' A c t m w2 (hr1.keep k2) hm (by omega)) (Keep.refl _) (FnOk.of Tryd.func46) (fun w3 k3 => ?_))
    have hr3 := (hr1.keep k2).keep k3
    have hcut : Rd NdE w3 (cutA A c m 8) (subS t m) := hr3.cut hcap e2
    have hcn : cutA A c m 8 = none → c - m = 0 := fun h => (rd_some hcut (by omega) h).elim
    have hk2 : (subS t m).length = (endS t m : Int).toNat - (m : Int).toNat := by rw [Int.toNat_natCast, Int.toNat_natCast]; exact hss
    refine WO.rd (is := [6]) (js := [7, 8]) (Keep.refl _) (Rn.s rfl (Yv.sl_ft (n := 8) (e := 48) (k := (subS t m).length) (by omega) (by omega) (by omega) hk2) (Rn.nil)) (WO.act (hc := rfl) (he := Ef.append (ys := subS t m) (hs2.quiet k3) 0 hcut hcn (fitN (by simp only [List.length_nil]; omega)) ?_))
    intro O co w4 hs4
    refine WO.rd (is := [8]) (js := []) (Keep.refl _) (Rn.s rfl Yv.as (Rn.nil)) (WO.done ?_)
    have hst : St w [] w4 [Ch.row NdE 48 O co (subS t m)] := hs4
    have hr4 := hr.keep hst.keep
    rw [List.nil_append]
    obtain ⟨d, hd⟩ : ∃ d, d = (nth t (m : Int)).depth := ⟨_, rfl⟩
    have hdd := hIs2 _ (nth_mem hm)
    refine Wp.seq (Wp.reads (is := [0, 1, 2, 3, 4, 5]) (Keep.refl _) (Rn.s rfl Yv.mv (Rn.s rfl Yv.mv (Rn.s rfl (Yv.ia (e := 48) hr4 (by omega) (by omega)) (Rn.s rfl (Yv.fa (off := 1)) (Rn.s rfl (Yv.ld (hr4.ld 1 (by omega) (by omega))) (Rn.s rfl Yv.as (Rn.nil))))))) ?_)
    rw [← hd] at hdd ⊢
    refine Wp.seq (Wp.seq (Wp.reads (is := [0, 1, 2]) (Keep.refl _) (Rn.s rfl Yv.mv (Rn.s rfl (Yv.len_v (e := 48) (m := 8)) (Rn.s rfl Yv.mv (Rn.nil)))) ?_))
    refine Wp.block ?_
    obtain ⟨n, hn⟩ : ∃ n, n = (subS t m).length := ⟨_, rfl⟩
    rw [← hn]
    refine Wp.loop (α := Nat) (fun k ρ ds w' => ds = [] ∧ k ≤ n ∧ St w [] w' [Ch.row NdE 48 O co (((subS t m).take k).map (subD d) ++ (subS t m).drop k)] ∧ Sub [(6, .slice O n co), (7, .int .i64 d), (44, .int .i64 (n : Nat)), (45, .int .i64 (k : Int))] ρ) (fun k => n - k) 0
      ⟨rfl, Nat.zero_le _, hst, rfl, rfl, rfl, rfl, trivial⟩ ?_
    clear hst hs4
    rintro k ρ ds w5 ⟨rfl, hk, hst, hs⟩
    refine Wp.forget _ ?_ hs
    have hll : (((subS t m).take k).map (subD d) ++ (subS t m).drop k).length = n := by simp; omega
    refine Wp.seq (Wp.reads (is := [0]) (Keep.refl _) (Rn.s rfl (Yv.cmp _ rfl) (Rn.nil)) ?_)
    refine Wp.seq (Wp.cond rfl (fun h => ?_) (fun h => ?_))
    · have h := of_decide_eq_true h
      have hkl : k < (subS t m).length := by omega
      have hrx := hst.rd 0
      have hgk : nth (((subS t m).take k).map (subD d) ++ (subS t m).drop k) (k : Int) = (subS t m)[k] := by
        refine nth_of ?_
        rw [List.getElem?_append_right (by simp; omega)]
        simp [Nat.min_eq_left (Nat.le_of_lt hkl), List.getElem?_eq_getElem hkl]
      have hdk := hIs2 _ (subS_mem (List.getElem_mem hkl))
      rw [← hgk] at hdk
      refine Wp.skip (Wp.seq (Wp.block ?_))
      refine Wp.seq (Wp.reads (is := [0, 1]) (Keep.refl _) (Rn.s rfl Yv.mv (Rn.s rfl Yv.as (Rn.nil))) ?_)
      refine Wp.regionL (l := [0, 1, 2, 3, 4, 5, 6, 7, 8, 9]) (WO.rd (is := [0, 1, 2, 3, 4, 5, 6, 7, 8]) (js := [9]) (Keep.refl _) (Rn.s rfl Yv.mv (Rn.s rfl Yv.mv (Rn.s rfl (Yv.ia (e := 48) hrx (by omega) (by omega) hll.symm) (Rn.s rfl (Yv.fa (off := 1)) (Rn.s rfl (Yv.ld (hrx.ld 1 (by omega) (by omega))) (Rn.s rfl Yv.mv (Rn.s rfl (Yv.sub (by unfold inI; omega)) (Rn.s rfl (Yv.ia (e := 48) hrx (by omega) (by omega) hll.symm) (Rn.s rfl (Yv.fa (off := 1)) (Rn.nil)))))))))) (WO.act (hc := rfl) (he := Ef.setFld (E := NdE) (xs := ((subS t m).take k).map (subD d) ++ (subS t m).drop k) (f := 1) hst 0 (subD d (nth (((subS t m).take k).map (subD d) ++ (subS t m).drop k) (k : Int))) rfl rfl (by omega) (by omega) (fun wy1 hsy1 => WO.done ?_))))
      refine Wp.reads (is := [0, 1]) (Keep.refl _) (Rn.s rfl (Yv.add (by unfold inI; omega)) (Rn.s rfl Yv.mv (Rn.nil))) ?_
      refine ⟨k + 1, ⟨rfl, by omega, ?_, rfl, rfl, rfl, rfl, trivial⟩, by omega⟩
      have hset : (((subS t m).take k).map (subD d) ++ (subS t m).drop k).set (k : Int).toNat (subD d (nth (((subS t m).take k).map (subD d) ++ (subS t m).drop k) (k : Int))) = ((subS t m).take (k + 1)).map (subD d) ++ (subS t m).drop (k + 1) := by
        have hlen : (((subS t m).take k).map (subD d)).length = k := by simp; omega
        rw [hgk, Int.toNat_natCast, List.take_add_one, List.getElem?_eq_getElem hkl, List.drop_eq_getElem_cons hkl, List.set_append_right _ _ (by omega), hlen, Nat.sub_self, List.set_cons_zero, List.map_append, List.append_assoc]
        rfl
      rw [← hset]
      exact hsy1
    have h := of_decide_eq_false h
    rw [List.take_of_length_le (by omega), List.drop_eq_nil_of_le (by omega), List.append_nil] at hst
    refine Wp.exit ?_
    have hml : ((subS t m).map (subD d)).length = n := by simp [hn]
    have hrx := hst.rd 0
    refine Wp.seq (Wp.regionL (l := [0, 1, 2, 3]) (WO.rd (is := [0, 1, 2]) (js := [3]) (Keep.refl _) (Rn.s rfl Yv.mv (Rn.s rfl (Yv.ia (e := 48) hrx (j := 0) (by omega) (by omega) hml.symm) (Rn.s rfl (Yv.fa (off := 2)) (Rn.nil)))) (WO.act (hc := rfl) (he := Ef.setFld (E := NdE) (xs := (subS t m).map (subD d)) (f := 2) hst 0 (noKey (nth ((subS t m).map (subD d)) 0)) rfl rfl (by omega) (by omega) (fun wz1 hsz1 => WO.done ?_)))))
    refine Wp.seq (Wp.reads (is := [0, 1, 2]) (Keep.refl _) (Rn.s rfl Yv.mv (Rn.s rfl Yv.as (Rn.s rfl Yv.as (Rn.nil)))) ?_)
    refine Wp.ret (Fin.ret (Res.two rfl rfl rfl) ⟨_, _, rfl, ⟨O, co, ?_, rfl⟩, ?_⟩)
    · have : (partL t m).length = n := by unfold partL; simp [hn]
      simp only [this]
    · have : partL t m = ((subS t m).map (subD d)).set (0 : Int).toNat (noKey (nth ((subS t m).map (subD d)) 0)) := by unfold partL; rw [hd]; rfl
      simp only [this]
      exact hsz1
def cutL (t : List Nd) (k : Nat) : List Nd := t.take k ++ t.drop (endS t k)
def withoutL (t : List Nd) (key : Bs) : List Nd := if findS t 0 key < 0 then t else cutL t (findS t 0 key).toNat
def withoutS (t : List Nd) (key : Bs) : List Nd × Int := if isS t = true then (withoutL t key, 0) else ([], 80)
theorem findM_bd {t : List Nd} {i : Nat} (hi : i < t.length) (key : Bs) : -1 ≤ findS t i key ∧ findS t i key < t.length ∧ (0 ≤ findS t i key → (i : Int) < findS t i key) := by
  unfold findS
  cases h : (partsS t i).find? (fun n : Nat => (nth t (n : Int)).key == key) with
  | none => simp [orN]; omega
  | some n =>
    have := partsS_mem hi n (List.mem_of_find?_eq_some h)
    simp [orN]
    omega
theorem without_cx (A : Option Addr) (c : Nat) (t : List Nd) (key : Bs) (w : World) (hr : Rd NdE w A t) (hcap : t.length ≤ c) (hl : t.length ≤ 1599289640390) :
    Cx Tryd.prog 61 [.slice A t.length c, S key] [] (fun v D => ∃ O co, v = .tuple #[.slice O (withoutS t key).1.length co, .int .i64 (withoutS t key).2] ∧ D = [Ch.row NdE 48 O co (withoutS t key).1]) w := by
  refine calls_of_Wp (vs := [_, _]) Tryd.func61 ?_
  refine Wp.seq (Wp.reads (is := [0, 1]) (Keep.refl _) (Rn.s rfl Yv.as (Rn.s rfl Yv.as (Rn.nil))) ?_)
  refine Wp.seq (Wp.seq (Wp.regionL (l := [0, 1, 2]) (WO.rd (is := [0]) (js := [1, 2]) (Keep.refl _) (Rn.s rfl Yv.mv (Rn.nil)) (WO.cv rfl (is_cv A c t w hr) (Keep.refl _) (FnOk.of Tryd.func27) (fun wx1 kx1 => WO.rd (is := [2]) (js := []) ((Keep.refl _).trans kx1) (Rn.s rfl Yv.not (Rn.nil)) (WO.done ?_))))))
  cases hIs : isS t with
  | false =>
    refine Wp.cond_t rfl ?_
    have e : withoutS t key = ([], 80) := by unfold withoutS; rw [if_neg (by simp [hIs])]
    rw [e]
    refine Wp.seq (Wp.reads (is := [0, 1]) (Keep.refl _) (Rn.s rfl Yv.as (Rn.s rfl Yv.as (Rn.nil))) ?_)
    exact Wp.ret (Fin.ret (Res.two rfl rfl rfl) ⟨_, _, rfl, ⟨none, 0, rfl, rfl⟩, ((St.init w).quiet kx1).nilrow _ _⟩)
  | true =>
    refine Wp.cond_f rfl (Wp.skip ?_)
    have e : withoutS t key = (withoutL t key, 0) := by unfold withoutS; rw [if_pos hIs]
    rw [e]
    have hdp := (isS_Deep hIs).dep
    obtain ⟨h0, h1, -⟩ := isS_depth hIs
    obtain ⟨F, hF⟩ : ∃ F, F = findS t 0 key := ⟨_, rfl⟩
    obtain ⟨f0, f1, -⟩ := findM_bd h0 key
    have hfc : Cv Tryd.prog 39 [.slice A t.length c, .int .i64 0, S key] (.int .i64 F) wx1 := by
      rw [hF]
      exact find_cv A c t 0 key wx1 (hr.keep kx1) h0 (by omega) (hdp 0 h0)
    rw [← hF] at f0 f1
    refine Wp.seq (Wp.regionL (l := [0, 1, 2, 3]) (WO.rd (is := [0, 1]) (js := [2, 3]) (Keep.refl _) (Rn.s rfl Yv.mv (Rn.s rfl Yv.mv (Rn.nil))) (WO.cv rfl hfc (Keep.refl _) (FnOk.of Tryd.func39) (fun wy1 ky1 => WO.rd (is := [3]) (js := []) ((Keep.refl _).trans ky1) (Rn.s rfl Yv.as (Rn.nil)) (WO.done ?_)))))
    have hk2 := kx1.trans ky1
    refine Wp.seq (Wp.seq (Wp.reads (is := [0, 1]) (Keep.refl _) (Rn.s rfl Yv.mv (Rn.s rfl (Yv.cmp _ rfl) (Rn.nil))) ?_))
    refine Wp.cond rfl (fun h => ?_) (fun h => ?_)
    · have h := of_decide_eq_true h
      have e2 : withoutL t key = t := by unfold withoutL; rw [← hF, if_pos h]
      rw [e2]
      have hne : A = none → c = 0 := fun hA => (rd_some hr h0 hA).elim
      refine Wp.seq (Wp.regionL (l := [0, 1, 2, 3, 4]) (WO.act (hc := rfl) (he := Ef.bsl (T := 48) NdE ([] : List Nd) ((St.init w).quiet hk2) (fun b w2 k2 hs2 => ?_))))
      refine WO.rd (is := [1]) (js := [2, 3, 4]) (Keep.refl _) (Rn.s rfl Yv.mv (Rn.nil)) (WO.act (hc := rfl) (he := Ef.append (ys := t) hs2 0 ((hr.keep hk2).keep k2) hne (fitN (by simp only [List.length_nil]; omega)) ?_))
      intro O co w3 hs3
      refine WO.rd (is := [3, 4]) (js := []) (Keep.refl _) (Rn.s rfl Yv.as (Rn.s rfl Yv.as (Rn.nil))) (WO.done ?_)
      exact Wp.ret (Fin.ret (Res.two rfl rfl rfl) ⟨_, _, rfl, ⟨O, co, rfl, rfl⟩, hs3⟩)
    · have h := of_decide_eq_false h
      obtain ⟨m, hm⟩ : ∃ m : Nat, F = m := ⟨F.toNat, by omega⟩
      have e2 : withoutL t key = cutL t m := by unfold withoutL; rw [← hF, if_neg h, hm, Int.toNat_natCast]
      rw [e2, hm]
      have hml : m < t.length := by omega
      obtain ⟨e1, e3⟩ := endS_bd hml
      refine Wp.skip ?_
      refine Wp.seq (Wp.regionL (l := [0, 1, 2, 3, 4, 5, 6, 7, 8, 9, 10, 11, 12]) (WO.act (hc := rfl) (he := Ef.bsl (T := 48) NdE ([] : List Nd) ((St.init w).quiet hk2) (fun b w2 k2 hs2 => ?_))))
      have hr2 := (hr.keep hk2).keep k2
      have htk : Rd NdE w2 A (t.take m) := by
        have : Rd NdE w2 A (t.take m ++ t.drop m) := by rw [List.take_append_drop]; exact hr2
        exact rd_pre this
      have hA : A ≠ none := rd_some hr h0
      refine WO.rd (is := [1, 2, 3]) (js := [4, 5, 6, 7, 8, 9, 10, 11, 12]) (Keep.refl _) (Rn.s rfl Yv.mv (Rn.s rfl Yv.mv (Rn.s rfl (Yv.sl_t (n := 8) (e := 48) (k := (t.take m).length) (by omega) (by omega) (by simp; omega)) (Rn.nil)))) (WO.act (hc := rfl) (he := Ef.append (ys := t.take m) hs2 0 htk (fun h => (hA h).elim) (fitN (by simp only [List.length_nil, List.length_take]; omega)) ?_))
      intro O1 co1 w3 hs3
      have hs3 : St w [] w3 [Ch.row NdE 48 O1 co1 (t.take m)] := hs3
      have hr3 := hr.keep hs3.keep
      refine WO.rd (is := [5, 6, 7]) (js := [8, 9, 10, 11, 12]) (Keep.refl _) (Rn.s rfl Yv.mv (Rn.s rfl Yv.mv (Rn.s rfl Yv.mv (Rn.nil)))) (WO.cv rfl (end_cv' A c t m w3 hr3 hml (by omega)) (Keep.refl _) (FnOk.of Tryd.func46) (fun w4 k4 => ?_))
      have hs4 := hs3.quiet k4
      have hr4 := hr3.keep k4
      have hcut : Rd NdE w4 (cutA A c (endS t m) 8) (t.drop (endS t m)) := by
        have := hr4.cut (l := endS t m) hcap (Nat.le_refl _)
        rwa [List.take_length] at this
      have hcn : cutA A c (endS t m) 8 = none → c - endS t m = 0 := by
        intro h
        unfold cutA at h
        split at h
        · omega
        · simp only [Option.map_eq_none_iff] at h
          exact (hA h).elim
      have hk5 : (t.drop (endS t m)).length = t.length - (endS t m : Int).toNat := by rw [Int.toNat_natCast]; simp
      refine WO.rd (is := [9]) (js := [10, 11, 12]) (Keep.refl _) (Rn.s rfl (Yv.sl_f (n := 8) (e := 48) (k := (t.drop (endS t m)).length) (by omega) (by omega) hk5) (Rn.nil)) (WO.act (hc := rfl) (he := Ef.append (ys := t.drop (endS t m)) hs4 0 hcut hcn (fitN (by simp only [List.nil_append, List.length_drop, List.length_take]; omega)) ?_))
      intro O2 co2 w5 hs5
      refine WO.rd (is := [11, 12]) (js := []) (Keep.refl _) (Rn.s rfl Yv.as (Rn.s rfl Yv.as (Rn.nil))) (WO.done ?_)
      exact Wp.ret (Fin.ret (Res.two rfl rfl rfl) ⟨_, _, rfl, ⟨O2, co2, rfl, rfl⟩, hs5⟩)
end Go.Proofs.YtgjhbapbomdpbaaDoor.C
/-! What every program answers that is one: trees laid over trees (shuttlelaw8.awake). -/
namespace Go.Proofs.YtgjhbapbomdpbaaDoor.C
open Go.RowKit Go.Proofs.YtgjhbapbomdpbaaDoor.Sh
def tm1 : Bs := [97, 58, 32, 49, 10, 98, 58, 10, 32, 32, 120, 58, 32, 49]
def tm2 : Bs := [98, 58, 10, 32, 32, 121, 58, 32, 50, 10, 99, 58, 32, 51]
def mm : List Nd × Int := mergeS [(parseS [102] tm1).1, (parseS [103] tm2).1]
theorem mm_facts : mm.2 = 0 ∧ mm.1.length = 6 ∧ (nth mm.1 5).key = [99] := by decide +kernel
theorem ww_facts : (withoutS mm.1 [98]).2 = 0 ∧ (withoutS mm.1 [98]).1.length = 3 := by decide +kernel
theorem pp_facts : (partS mm.1 2).2 = 0 ∧ (partS mm.1 2).1.length = 3 ∧ (nth (partS mm.1 2).1 0).depth = 0 := by decide +kernel
end Go.Proofs.YtgjhbapbomdpbaaDoor.C
