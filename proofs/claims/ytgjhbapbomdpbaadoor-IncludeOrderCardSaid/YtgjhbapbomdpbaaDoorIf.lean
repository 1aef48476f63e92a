/- Files that include files: include.load, Load and Cycle: walked. -/
import Derived.Test.YtgjhbapbomdpbaaDoorIe
import Derived.Test.YtgjhbapbomdpbaaDoorIq
set_option linter.unusedVariables false
set_option linter.unusedSimpArgs false
set_option maxRecDepth 10000
namespace Go.Proofs.YtgjhbapbomdpbaaDoor.Sh
open Go.RowKit
theorem Yv.len_m {κ β : Type} [DecidableEq κ] {Y : Ky κ} {V : β → Value} {P : Program} {w : World} {b : Nat} {l : List (κ × β)} {t : TypeId} {x : Operand} (h : (Ch.mp Y V b l).ok w) (ht : mapB P t Y.d = true := by kernel_rfl) : Yv P w (.call { callee := .builtin .len, args := #[x], argTypes := #[t] }) [.map (some b)] (.int .i64 (l.length : Int)) :=
  Yv.mk1 (x := x) (by simp) rfl fun o e w' hop hx hk => by
    obtain ⟨es, clock, hb, hl⟩ := mp_keep (hk rfl) h
    obtain ⟨kt, et, hm, hk2⟩ := mapB_of ht
    have hsz : es.size = l.length := by have := congrArg List.length hl; simpa using this
    simp only [execOp, hop, resolve, invoke, builtin, Sem.run_bind, Sem.run_pure, Result.andThen_ok, List.map_toArray, List.map_cons, List.map_nil, hx]
    simp [Builtin.len_, run_underlying hm, MapKept.run_getObj_map hb, goInt, Result.andThen, hsz]
end Go.Proofs.YtgjhbapbomdpbaaDoor.Sh
namespace Go.Proofs.YtgjhbapbomdpbaaDoor.C
open Go.RowKit Go.Proofs.YtgjhbapbomdpbaaDoor.Sh
/-- a loader and its parts -/
abbrev ChL (b ms mr : Nat) (set : List (Bs × Fl)) (s : LS) (m : LM) : List Chunk :=
  [Ch.cells b 66 (ldcs ms mr s m), Ch.mp KyS VF ms set, Ch.mp KyS VI mr s.rd, Ch.row StE 9 m.O m.oc s.opn, Ch.row StE 9 m.Nm m.nc s.nms, Ch.row TsE 43 m.T m.tc m.trs, Ch.row StE 9 m.C m.cc s.cyc]
abbrev lm0 : LM := ⟨none, 0, none, 0, none, 0, none, 0, []⟩
theorem all_calls (b ms mr : Nat) (set : List (Bs × Fl)) (hset : set.length ≤ 64) (root : Bs) (w0 w : World) (hg : Gm w0) (D : List Chunk) (hst : St w0 [] w (ChL b ms mr set ls0 lm0 ++ D)) (hroot : (alook root set).isSome = true) :
    Calls Tryd.prog 49 #[PB b, S root] w fun e w' => e = .returned (.agg (loadF set 16 ls0 root).2.cs.toArray) ∧ ∃ m', m'.trs.map ts1 = (loadF set 16 ls0 root).1.trs ∧ St w0 [] w' (ChL b ms mr set (loadF set 16 ls0 root).1 m' ++ (trows m'.trs ++ D)) := by
  refine calls_of_Wp (vs := [_, _]) Tryd.func49 ?_
  refine Wp.seq (Wp.regionL (l := [0, 1]) (WO.act (hc := rfl) (he := Ef.boxL ([PB b]) hst (fun ba1 wa1 ka1 hsa1 => WO.act (hc := rfl) (he := Ef.allocL (vs := [.int .i64 0, S [], .int .i64 0, .int .i64 0]) hsa1 (fun ba2 wa2 ka2 hsa2 => WO.done ?_))))))
  refine Wp.seq (Wp.regionL (l := [0]) (WO.act (hc := rfl) (he := Ef.allocL (vs := [.nilFunc]) hsa2 (fun bx1 wx1 kx1 hsx1 => WO.done ?_))))
  refine Wp.seq (Wp.regionL (l := [0, 1]) (WO.rd (is := [0]) (js := [1]) (Keep.refl _) (Rn.s rfl Yv.mf (Rn.nil)) (WO.act (hc := rfl) (he := Ef.store hsx1 0 (fun wy1 hsy1 => WO.done ?_)))))
  have hst : St w0 [] wy1 (ChV b ba1 bx1 ms mr set ls0 lm0 ++ (trows lm0.trs ++ (Ch.cells ba2 27 ft0.cs :: D))) :=
    hsy1.pickT (P := [_, _, _, _, _, _, _, _, _, _]) (T := D) [3, 4, 5, 6, 7, 8, 9, 2, 0, 1]
  clear hsa1 hsa2 hsx1 hsy1
  have c5 := hst.cells 8
  have hc := read_calls b ba1 bx1 ms mr set hset w0 hg 16 ls0 lm0 root wy1 _ (ls0_inv set) (by decide) (by decide) hroot (fun q => by cases q) (fun q => by cases q) rfl hst
  have e0 : ([S root].toArray ++ #[PB ba1, PB bx1] : Array Value) = #[S root, PB ba1, PB bx1] := by simp
  rw [← e0] at hc
  refine Wp.seq (Wp.regionL (l := [0, 1, 2, 3]) (WO.rd (is := [0, 1]) (js := [2, 3]) (Keep.refl _) (Rn.s rfl (Yv.ld (c5.at_ 0)) (Rn.s rfl Yv.mv (Rn.nil))) (WO.act (hc := rfl) (he := Ef.callv Tryd.func65 (Calls.mono hc ?_)))))
  rintro e w2 ⟨rfl, m', hm', hs2⟩
  have hs2 := hs2.perm (perm_in (F := [Ch.cells ba2 27 ft0.cs]) (X := ChV b ba1 bx1 ms mr set (loadF set 16 ls0 root).1 m') (Y := trows m'.trs) (D := D)).symm
  refine WO.act (he := Ef.stores hs2 0 (fun w3 hs3 => WO.done ?_))
  refine Wp.ret (Fin.ret (resCA rfl rfl (hs3.cells 0)) ⟨rfl, m', hm', ?_⟩)
  exact hs3.pickT (P := [_, _, _, _, _, _, _, _, _, _]) (T := trows m'.trs ++ D) [1, 2, 3, 4, 5, 6, 7]
set_option maxHeartbeats 1600000 in
theorem load_calls (A : Option Addr) (c : Nat) (files : List Fl) (root : Bs) (w : World) (hg : Gm w) (hr : Rd FlE w A files) (hl : files.length ≤ 4398046511100) :
    Calls Tryd.prog 32 #[.slice A files.length c, S root] w fun e w' => ∃ b ms mr m', e = .returned (.tuple #[PB b, .agg (loadS files root).2.cs.toArray]) ∧ m'.trs.map ts1 = (loadS files root).1.trs ∧ ∃ set', St w [] w' (ChL b ms mr set' (loadS files root).1 m' ++ trows m'.trs) := by
  refine calls_of_Wp (vs := [_, _]) Tryd.func32 ?_
  refine Wp.seq (Wp.regionL (l := [0, 1]) (WO.rd (is := [0]) (js := [1]) (Keep.refl _) (Rn.s rfl Yv.as (Rn.nil)) (WO.act (hc := rfl) (he := Ef.allocL (vs := [.int .i64 0, S [], .int .i64 0, .int .i64 0]) (St.init w) (fun ba1 wa1 ka1 hsa1 => WO.done ?_)))))
  refine Wp.seq (Wp.regionL (l := [0, 1, 2, 3, 4]) (WO.act (he := Ef.makeMap KyS VF hsa1 (fun ms w1 k1 hs1 => WO.act (he := Ef.makeMap KyS VI hs1 (fun mr w2 k2 hs2 => WO.rd (is := [2]) (js := [3, 4]) (Keep.refl _) (Rn.s rfl Yv.bd (Rn.nil)) (WO.act (he := Ef.boxL (ldcs ms mr ls0 lm0) hs2 (fun b w3 k3 hs3 => WO.rd (is := [4]) (js := []) (Keep.refl _) (Rn.s rfl Yv.as (Rn.nil)) (WO.done ?_))))))))))
  have hst : St w [] w3 [Ch.cells b 66 (ldcs ms mr ls0 lm0), Ch.mp KyS VF ms (foldF (files.take 0) []), Ch.mp KyS VI mr ([] : List (Bs × Int)), Ch.cells ba1 27 ft0.cs] := hs3.pick [0, 2, 1, 3]
  clear hs1 hs2 hs3 hsa1
  refine Wp.seq (Wp.seq (Wp.reads (is := [0, 1, 2]) (Keep.refl _) (Rn.s rfl Yv.mv (Rn.s rfl (Yv.len_v (e := 33) (m := 2)) (Rn.s rfl Yv.mv (Rn.nil)))) ?_))
  refine Wp.block ?_
  refine Wp.loop (α := Nat) (fun k ρ ds w' => ds = [] ∧ k ≤ files.length ∧ St w [] w' [Ch.cells b 66 (ldcs ms mr ls0 lm0), Ch.mp KyS VF ms (foldF (files.take k) []), Ch.mp KyS VI mr ([] : List (Bs × Int)), Ch.cells ba1 27 ft0.cs] ∧
    Sub [(0, .slice A files.length c), (1, S root), (5, PB ba1), (6, PB b), (15, .slice A files.length c), (16, .int .i64 (files.length : Int)), (17, .int .i64 (k : Int))] ρ) (fun k => files.length - k) 0
    ⟨rfl, Nat.zero_le _, hst, rfl, rfl, rfl, rfl, rfl, rfl, rfl, trivial⟩ ?_
  clear hst
  rintro k ρ ds w4 ⟨rfl, hk, hst, hsub⟩
  refine Wp.forget _ ?_ hsub
  clear hsub ρ
  have hr' := hr.keep hst.keep
  refine Wp.seq (Wp.reads (is := [0]) (Keep.refl _) (Rn.s rfl (Yv.cmp _ rfl) (Rn.nil)) ?_)
  refine Wp.seq (Wp.cond rfl (fun h1 => ?_) (fun h1 => ?_))
  · have h1 := of_decide_eq_true h1
    have hkl : k < files.length := by omega
    have hget : nth files (k : Int) = files[k] := nth_of (List.getElem?_eq_getElem hkl)
    refine Wp.skip (Wp.seq (Wp.block ?_))
    refine Wp.seq (Wp.regionL (l := [0, 1, 2, 3]) (WO.rd (is := [0, 1]) (js := [2, 3]) (Keep.refl _) (Rn.s rfl (Yv.ia (e := 33) hr' (by omega) (by omega)) (Rn.s rfl (Yv.ldel hr' rfl rfl (by omega) (by omega)) (Rn.nil))) (WO.act (hc := rfl) (he := Ef.allocL (vs := [S [], S []]) hst (fun bx1 wx1 kx1 hsx1 => WO.act (hc := rfl) (he := Ef.stores hsx1 0 (fun wx2 hsx2 => WO.done ?_)))))))
    have hst : St w [] wx2 (Ch.cells bx1 33 (nth files (k : Int)).cs :: [Ch.cells b 66 (ldcs ms mr ls0 lm0), Ch.mp KyS VF ms (foldF (files.take k) []), Ch.mp KyS VI mr ([] : List (Bs × Int)), Ch.cells ba1 27 ft0.cs]) := hsx2
    clear hsx1 hsx2
    have c8 := hst.cells 0
    have hc := hst.cells 1
    refine Wp.draws [7] mixed (WD.rd (is := [0, 1, 2, 3, 4, 5, 6]) (fun _ _ _ _ _ h => h) (Keep.drew _) (Rn.s rfl Yv.mv (Rn.s rfl Yv.nc (Rn.s rfl (Yv.fa (off := 0)) (Rn.s rfl (Yv.ld (hc.at_ 0)) (Rn.s rfl (Yv.fa (off := 0)) (Rn.s rfl (Yv.ld (c8.at_ 0)) (Rn.s rfl (Yv.ldb c8) (Rn.nil)))))))) ?_)
    refine WD.act 7 (hc := rfl) (he := Ef.mapput (v := nth files (k : Int)) (hst.quiet (Keep.drew _)) 2 ?_)
    intro w6 hs6
    refine ⟨fun h => (h (by simp)).elim, WD.done ?_⟩
    refine Wp.reads (is := [0, 1]) (Keep.refl _) (Rn.s rfl (Yv.add (by unfold inI; omega)) (Rn.s rfl Yv.mv (Rn.nil))) ?_
    have e1 : foldF (files.take (k + 1)) [] = aput (nth files (k : Int)).name (nth files (k : Int)) (foldF (files.take k) []) := by
      unfold foldF
      rw [List.take_add_one, List.getElem?_eq_getElem hkl, ← hget]
      simp
    refine ⟨k + 1, ⟨rfl, by omega, ?_, rfl, rfl, rfl, rfl, rfl, rfl, rfl, trivial⟩, by omega⟩
    rw [e1]
    exact hs6.pick [2, 0, 3, 4]
  · have h1 := of_decide_eq_false h1
    have e : files.take k = files := List.take_of_length_le (by omega)
    rw [e] at hst
    have hst : St w [] w4 [Ch.cells b 66 (ldcs ms mr ls0 lm0), Ch.mp KyS VF ms (setS files), Ch.mp KyS VI mr ([] : List (Bs × Int)), Ch.cells ba1 27 ft0.cs] := hst
    refine Wp.exit ?_
    have hc := hst.cells 0
    have hrows : ∀ {w' : World} {X : List Chunk}, St w [] w' (Ch.cells b 66 (ldcs ms mr ls0 lm0) :: Ch.mp KyS VF ms (setS files) :: Ch.mp KyS VI mr ([] : List (Bs × Int)) :: X) → St w [] w' (ChL b ms mr (setS files) ls0 lm0 ++ X) := by
      intro w' X h
      have h2 := (((h.nilrow StE 9).nilrow TsE 43).nilrow StE 9).nilrow StE 9
      exact h2.pickT (P := [_, _, _, _, _, _, _]) (T := X) [4, 5, 6, 0, 1, 2, 3]
    refine Wp.seq (Wp.seq (Wp.reads (is := [0, 1, 2, 3, 4, 5, 6, 7, 8, 9, 10, 11, 12]) (Keep.refl _) (Rn.s rfl Yv.mv (Rn.s rfl (Yv.len_v (e := 33) (m := 2)) (Rn.s rfl (Yv.cmp _ rfl) (Rn.s rfl Yv.mv (Rn.or (is := [4, 5, 6, 7, 8, 9, 10, 11, 12]) (js := []) (t := 32) (d := 41) (hg := rfl) (hf := fun h3 => have h3 := of_decide_eq_false h3; Rn.s rfl Yv.mv (Rn.s rfl Yv.nc (Rn.s rfl (Yv.fa (off := 0)) (Rn.s rfl (Yv.ld (hc.at_ 0)) (Rn.s rfl (Yv.len_m (hst.at_ 1 rfl)) (Rn.s rfl Yv.mv (Rn.s rfl (Yv.len_v (e := 33) (m := 2)) (Rn.s rfl (Yv.cmp _ rfl) (Rn.s rfl Yv.pick_f ((Rn.e 9 rfl rfl))))))))))) (ht := fun _ => Rn.no rfl (Rn.no rfl (Rn.no rfl (Rn.no rfl (Rn.no rfl (Rn.no rfl (Rn.no rfl (Rn.no rfl (Rn.s rfl Yv.pick_t (Rn.e 9 rfl rfl)))))))))) (k := Rn.nil)))))) ?_))
    refine Wp.cond rfl (fun h2 => ?_) (fun h2 => ?_)
    · have h2 : 64 < files.length ∨ (setS files).length < files.length := by
        simp only [Bool.or_eq_true, decide_eq_true_eq] at h2
        omega
      refine Wp.seq (Wp.regionL (l := [0, 1, 2, 3]) (WO.rd (is := [0, 1, 2]) (js := [3]) (Keep.refl _) (Rn.s rfl Yv.mv (Rn.s rfl (Yv.bd (cs := Ft.cs ⟨70, [], 0, 0⟩)) (Rn.s rfl Yv.as (Rn.nil)))) (WO.act (hc := rfl) (he := Ef.stores hst 3 (fun wx1 hsx1 => WO.done ?_)))))
      refine Wp.ret (Fin.ret (resTA rfl rfl rfl (hsx1.cells 0)) ?_)
      unfold loadS
      rw [if_pos h2]
      refine ⟨b, ms, mr, lm0, rfl, rfl, setS files, ?_⟩
      exact hrows (hsx1.pick [1, 2, 3])
    have h2 : ¬ (64 < files.length ∨ (setS files).length < files.length) := by
      simp only [Bool.or_eq_false_iff, decide_eq_false_iff_not] at h2
      omega
    have hset : (setS files).length ≤ 64 := by
      have := foldF_le files []
      have e : setS files = foldF files [] := rfl
      rw [e] at h2 ⊢
      simp only [List.length_nil, Nat.zero_add] at this
      omega
    refine Wp.skip (Wp.seq (Wp.seq (Wp.regionL (l := [0, 1, 2, 3, 4, 5, 6, 7, 8, 9, 10, 11]) (WO.rd (is := [0, 1, 2, 3, 4, 5, 6, 7, 8]) (js := [9, 10, 11]) (Keep.refl _) (Rn.s rfl Yv.mv (Rn.s rfl Yv.nc (Rn.s rfl (Yv.fa (off := 0)) (Rn.s rfl (Yv.ld (hc.at_ 0)) (Rn.s rfl Yv.mv (Rn.s rfl (Yv.look2 (hst.at_ 1 rfl) ⟨[], []⟩) (Rn.s rfl Yv.mv (Rn.s rfl Yv.ex (Rn.s rfl Yv.ex (Rn.nil)))))))))) (WO.act (hc := rfl) (he := Ef.allocL (vs := [S [], S []]) hst (fun bx1 wx1 kx1 hsx1 => WO.act (hc := rfl) (he := Ef.stores hsx1 0 (fun wx2 hsx2 => WO.rd (is := [11]) (js := []) (Keep.refl _) (Rn.s rfl Yv.as (Rn.nil)) (WO.done ?_))))))))))
    have hst : St w [] wx2 [Ch.cells b 66 (ldcs ms mr ls0 lm0), Ch.mp KyS VF ms (setS files), Ch.mp KyS VI mr ([] : List (Bs × Int)), Ch.cells ba1 27 ft0.cs] := hsx2.pick [1, 2, 3, 4]
    clear hsx1 hsx2
    refine Wp.seq (Wp.reads (is := [0, 1]) (Keep.refl _) (Rn.s rfl Yv.mv (Rn.s rfl Yv.not (Rn.nil))) ?_)
    refine Wp.cond rfl (fun h3 => ?_) (fun h3 => ?_)
    · have h3 : (alook root (setS files)).isSome = false := by simpa using h3
      refine Wp.seq (Wp.regionL (l := [0, 1, 2, 3]) (WO.rd (is := [0, 1, 2]) (js := [3]) (Keep.refl _) (Rn.s rfl Yv.mv (Rn.s rfl (Yv.bd (cs := Ft.cs ⟨71, [], 0, 0⟩)) (Rn.s rfl Yv.as (Rn.nil)))) (WO.act (hc := rfl) (he := Ef.stores hst 3 (fun wx1 hsx1 => WO.done ?_)))))
      refine Wp.ret (Fin.ret (resTA rfl rfl rfl (hsx1.cells 0)) ?_)
      unfold loadS
      rw [if_neg h2, if_pos h3]
      refine ⟨b, ms, mr, lm0, rfl, rfl, setS files, ?_⟩
      exact hrows (hsx1.pick [1, 2, 3])
    have h3 : ¬ (alook root (setS files)).isSome = false := by
      have h5 : (!(alook root (setS files)).isSome) = false := h3
      cases q : (alook root (setS files)).isSome with
      | true => decide
      | false => rw [q] at h5; cases h5
    have h4 : (alook root (setS files)).isSome = true := by rw [Bool.not_eq_false] at h3; exact h3
    have hall := all_calls b ms mr (setS files) hset root w wx2 hg [Ch.cells ba1 27 ft0.cs] (hrows hst) h4
    refine Wp.skip (Wp.seq (Wp.regionL (l := [0, 1, 2, 3, 4, 5]) (WO.rd (is := [0, 1, 2]) (js := [3, 4, 5]) (Keep.refl _) (Rn.s rfl Yv.mv (Rn.s rfl Yv.mv (Rn.s rfl Yv.mv (Rn.nil)))) (WO.act (hc := rfl) (he := Ef.callv Tryd.func49 (Calls.mono hall ?_))))))
    rintro e w5 ⟨rfl, m', hm', hs5⟩
    have hs5 := hs5.perm (perm_in (F := [Ch.cells ba1 27 ft0.cs]) (X := ChL b ms mr (setS files) (loadF (setS files) 16 ls0 root).1 m') (Y := trows m'.trs) (D := [])).symm
    refine WO.rd (is := [4]) (js := [5]) (Keep.refl _) (Rn.s rfl Yv.as (Rn.nil)) (WO.act (he := Ef.stores hs5 0 (fun w6 hs6 => WO.done ?_)))
    refine Wp.ret (Fin.ret (resTA rfl rfl rfl (hs6.cells 0)) ?_)
    unfold loadS
    rw [if_neg h2, if_neg h3]
    refine ⟨b, ms, mr, m', rfl, hm', setS files, ?_⟩
    have h7 := hs6.pickT (P := [_, _, _, _, _, _, _, _]) (T := trows m'.trs ++ []) [1, 2, 3, 4, 5, 6, 7]
    rw [List.append_nil] at h7
    exact h7
/-! ### what is handed back -/
def outN (files : List Fl) (root : Bs) : List Bs := if (loadS files root).2.code ≠ 0 then [] else (loadS files root).1.nms
def outT (files : List Fl) (root : Bs) : List (List Nd) := if (loadS files root).2.code ≠ 0 then [] else (loadS files root).1.trs
def outF (files : List Fl) (root : Bs) : Ft := if (loadS files root).2.code ≠ 0 then (loadS files root).2 else ft0
def outC (files : List Fl) (root : Bs) : List Bs := if (loadS files root).2.code ≠ 74 then [] else (loadS files root).1.cyc
theorem resTTA {P : Program} {fn : Func} {N n : Nat} {ρ : Env} {w : World} {t u v b : Nat} {ty : TypeId} {vs : List Value} {x y : Value} (h : fn.results = #[.tmp u, .tmp v, .cell t ty]) (hx : lk ρ u = some x) (hy : lk ρ v = some y) (hp : lk ρ t = some (PB b)) (hc : Cells w b vs) (hn : vs.length = n := by rfl) (ht : agB P ty n = true := by kernel_rfl) : Res P fn N ρ w (.tuple #[x, y, .agg vs.toArray]) := fun a ds ha => by
  have h1 := ha.val t _ hp
  have h3 := ha.val u _ hx
  have h4 := ha.val v _ hy
  have h2 : (loadVar ty ⟨b, 0, none⟩).run P w = .ok (.agg vs.toArray) w := run_loadVar_ag (agB_of ht) ⟨b, 0, none⟩ vs hn (fun j v hj => by rw [add_off, Nat.zero_add]; exact hc j v hj)
  simp only [results, h]
  simp at h1 h3 h4
  simp [h1, h2, h3, h4, asAddr]
theorem load_cx (A : Option Addr) (c : Nat) (files : List Fl) (root : Bs) (w : World) (hg : Gm w) (hr : Rd FlE w A files) (hl : files.length ≤ 4398046511100) :
    Cx Tryd.prog 11 [.slice A files.length c, S root] [] (fun v D => ∃ NA nc TA tc ts, v = .tuple #[.slice NA (outN files root).length nc, .slice TA (outT files root).length tc, .agg (outF files root).cs.toArray] ∧ ts.map ts1 = outT files root ∧
      D = Ch.row StE 9 NA nc (outN files root) :: Ch.row TsE 43 TA tc ts :: trows ts) w := by
  refine calls_of_Wp (vs := [_, _]) Tryd.func11 ?_
  refine Wp.seq (Wp.regionL (l := [0, 1, 2]) (WO.rd (is := [0, 1]) (js := [2]) (Keep.refl _) (Rn.s rfl Yv.as (Rn.s rfl Yv.as (Rn.nil))) (WO.act (hc := rfl) (he := Ef.allocL (vs := [.int .i64 0, S [], .int .i64 0, .int .i64 0]) (St.init w) (fun ba1 wa1 ka1 hsa1 => WO.done ?_)))))
  have hlc := load_calls A c files root wa1 (hg.keep ka1) (hr.keep ka1) hl
  refine Wp.seq (Wp.regionL (l := [0, 1, 2, 3, 4, 5, 6, 7, 8]) (WO.rd (is := [0, 1]) (js := [2, 3, 4, 5, 6, 7, 8]) (Keep.refl _) (Rn.s rfl Yv.mv (Rn.s rfl Yv.mv (Rn.nil))) (WO.act (hc := rfl) (he := Ef.callv Tryd.func32 (Calls.mono hlc ?_)))))
  rintro e w2 ⟨b, ms, mr, m', rfl, hm', set', hs2⟩
  have hs2 := hsa1.call0 hs2
  refine WO.rd (is := [3, 4, 5]) (js := [6, 7, 8]) (Keep.refl _) (Rn.s rfl Yv.mv (Rn.s rfl Yv.ex (Rn.s rfl Yv.ex (Rn.nil)))) (WO.act (he := Ef.allocL (vs := ft0.cs) hs2 (fun b8 w3 k3 hs3 => WO.rd (is := [7]) (js := [8]) (Keep.refl _) (Rn.s rfl Yv.as (Rn.nil)) (WO.act (he := Ef.stores hs3 0 (fun w4 hs4 => WO.done ?_))))))
  obtain ⟨s, F, hS⟩ : ∃ s F, loadS files root = (s, F) := ⟨_, _, rfl⟩
  have eN : outN files root = if F.code ≠ 0 then [] else s.nms := by unfold outN; rw [hS]
  have eT : outT files root = if F.code ≠ 0 then [] else s.trs := by unfold outT; rw [hS]
  have eF : outF files root = if F.code ≠ 0 then F else ft0 := by unfold outF; rw [hS]
  rw [eN, eT, eF]
  rw [hS] at hs4 hm'
  simp only at hs4 hm'
  have hst : St w [] w4 ([Ch.cells b8 27 F.cs, _, _, _, _, _, _, _] ++ (trows m'.trs ++ [Ch.cells ba1 27 ft0.cs])) := hs4
  have hst := hst.perm (List.Perm.append_left _ (List.perm_append_comm (l₁ := trows m'.trs) (l₂ := [Ch.cells ba1 27 ft0.cs])))
  clear hs2 hs3 hs4
  have c8 := hst.cells 0
  refine Wp.seq (Wp.seq (Wp.reads (is := [0, 1, 2]) (Keep.refl _) (Rn.s rfl (Yv.fa (off := 0)) (Rn.s rfl (Yv.ld (c8.at_ 0)) (Rn.s rfl (Yv.cmp _ rfl) (Rn.nil)))) ?_))
  refine Wp.cond rfl (fun h => ?_) (fun h => ?_)
  · have h : F.code ≠ 0 := bne_iff_ne.1 h
    refine Wp.seq (Wp.draws [3] mixed (WD.rd (is := [0, 1, 2]) (fun _ _ _ _ _ h => h) (Keep.drew _) (Rn.s rfl (Yv.ldb c8) (Rn.s rfl Yv.as (Rn.s rfl Yv.as (Rn.nil)))) (WD.act 3 (hc := rfl) (he := Ef.stores (hst.quiet (Keep.drew _)) 8 (fun wx1 hsx1 => ⟨fun hn => (hn (by decide)).elim, WD.done ?_⟩)))))
    refine Wp.ret (Fin.ret (resTTA rfl rfl rfl rfl (hsx1.cells 0)) ?_)
    rw [if_pos h, if_pos h, if_pos h]
    refine ⟨_, _, rfl, ⟨none, 0, none, 0, [], rfl, rfl, rfl⟩, ?_⟩
    exact ((hsx1.sub (List.nil_sublist _)).nilrow TsE 43).nilrow StE 9
  · have h : ¬ F.code ≠ 0 := fun q => by rw [bne_eq_false_iff_eq.1 h] at q; exact q rfl
    have hc := hst.cells 1
    refine Wp.skip (Wp.seq (Wp.draws [11] mixed (WD.rd (is := [0, 1, 2, 3, 4, 5, 6, 7, 8, 9, 10]) (fun _ _ _ _ _ h => h) (Keep.drew _) (Rn.s rfl Yv.mv (Rn.s rfl Yv.nc (Rn.s rfl (Yv.fa (off := 3)) (Rn.s rfl (Yv.ld (hc.at_ 3)) (Rn.s rfl Yv.mv (Rn.s rfl Yv.nc (Rn.s rfl (Yv.fa (off := 4)) (Rn.s rfl (Yv.ld (hc.at_ 4)) (Rn.s rfl (Yv.bd (cs := ft0.cs)) (Rn.s rfl Yv.as (Rn.s rfl Yv.as (Rn.nil)))))))))))) (WD.act 11 (hc := rfl) (he := Ef.stores (hst.quiet (Keep.drew _)) 8 (fun wx1 hsx1 => ⟨fun hn => (hn (by decide)).elim, WD.done ?_⟩))))))
    refine Wp.ret (Fin.ret (resTTA rfl rfl rfl rfl (hsx1.cells 0)) ?_)
    rw [if_neg h, if_neg h, if_neg h]
    refine ⟨_, _, rfl, ⟨m'.Nm, m'.nc, m'.T, m'.tc, m'.trs, ?_, hm', rfl⟩, ?_⟩
    · rw [← hm', List.length_map]; rfl
    · exact hsx1.pickT (P := [_, _, _, _, _, _, _, _, _]) (T := trows m'.trs) [6, 7]
theorem cycle_cx (A : Option Addr) (c : Nat) (files : List Fl) (root : Bs) (w : World) (hg : Gm w) (hr : Rd FlE w A files) (hl : files.length ≤ 4398046511100) :
    Cx Tryd.prog 18 [.slice A files.length c, S root] [] (fun v D => ∃ CA cc, v = .slice CA (outC files root).length cc ∧ D = [Ch.row StE 9 CA cc (outC files root)]) w := by
  refine calls_of_Wp (vs := [_, _]) Tryd.func18 ?_
  refine Wp.seq (Wp.reads (is := [0]) (Keep.refl _) (Rn.s rfl Yv.as (Rn.nil)) ?_)
  have hlc := load_calls A c files root w hg hr hl
  refine Wp.seq (Wp.regionL (l := [0, 1, 2, 3, 4, 5, 6, 7, 8]) (WO.rd (is := [0, 1]) (js := [2, 3, 4, 5, 6, 7, 8]) (Keep.refl _) (Rn.s rfl Yv.mv (Rn.s rfl Yv.mv (Rn.nil))) (WO.act (hc := rfl) (he := Ef.callv Tryd.func32 (Calls.mono hlc ?_)))))
  rintro e w2 ⟨b, ms, mr, m', rfl, hm', set', hs2⟩
  refine WO.rd (is := [3, 4, 5]) (js := [6, 7, 8]) (Keep.refl _) (Rn.s rfl Yv.mv (Rn.s rfl Yv.ex (Rn.s rfl Yv.ex (Rn.nil)))) (WO.act (he := Ef.allocL (vs := ft0.cs) hs2 (fun b8 w3 k3 hs3 => WO.rd (is := [7]) (js := [8]) (Keep.refl _) (Rn.s rfl Yv.as (Rn.nil)) (WO.act (he := Ef.stores hs3 0 (fun w4 hs4 => WO.done ?_))))))
  obtain ⟨s, F, hS⟩ : ∃ s F, loadS files root = (s, F) := ⟨_, _, rfl⟩
  have eC : outC files root = if F.code ≠ 74 then [] else s.cyc := by unfold outC; rw [hS]
  rw [eC]
  rw [hS] at hs4
  simp only at hs4
  have hst : St w [] w4 ([Ch.cells b8 27 F.cs, _, _, _, _, _, _, _] ++ trows m'.trs) := hs4
  clear hs2 hs3 hs4
  have c6 := hst.cells 0
  refine Wp.seq (Wp.seq (Wp.reads (is := [0, 1, 2]) (Keep.refl _) (Rn.s rfl (Yv.fa (off := 0)) (Rn.s rfl (Yv.ld (c6.at_ 0)) (Rn.s rfl (Yv.cmp _ rfl) (Rn.nil)))) ?_))
  refine Wp.cond rfl (fun h => ?_) (fun h => ?_)
  · have h : F.code ≠ 74 := bne_iff_ne.1 h
    refine Wp.seq (Wp.reads (is := [0]) (Keep.refl _) (Rn.s rfl Yv.as (Rn.nil)) ?_)
    refine Wp.ret (Fin.ret (Res.one rfl rfl) ?_)
    rw [if_pos h]
    exact ⟨_, _, rfl, ⟨none, 0, rfl, rfl⟩, (hst.sub (List.nil_sublist _)).nilrow _ _⟩
  · have h : ¬ F.code ≠ 74 := fun q => q (bne_eq_false_iff_eq.1 h)
    have hc := hst.cells 1
    refine Wp.skip (Wp.seq (Wp.reads (is := [0, 1, 2, 3, 4]) (Keep.refl _) (Rn.s rfl Yv.mv (Rn.s rfl Yv.nc (Rn.s rfl (Yv.fa (off := 5)) (Rn.s rfl (Yv.ld (hc.at_ 5)) (Rn.s rfl Yv.as (Rn.nil)))))) ?_))
    refine Wp.ret (Fin.ret (Res.one rfl rfl) ?_)
    rw [if_neg h]
    exact ⟨_, _, rfl, ⟨m'.C, m'.cc, rfl, rfl⟩, (hst.pickT (P := [_, _, _, _, _, _, _, _]) (T := trows m'.trs) [7]).sub (List.sublist_append_left [_] _)⟩
end Go.Proofs.YtgjhbapbomdpbaaDoor.C
