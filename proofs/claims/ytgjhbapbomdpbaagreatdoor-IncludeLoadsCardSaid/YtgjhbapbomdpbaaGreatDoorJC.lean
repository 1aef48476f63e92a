/- Files that include files: a file is read, and all that it includes: walked. -/
import Derived.Test.YtgjhbapbomdpbaaGreatDoorJB
import Derived.Test.YtgjhbapbomdpbaaGreatDoorJ6
set_option linter.unusedVariables false
set_option linter.unusedSimpArgs false
set_option maxRecDepth 10000
namespace Go.Proofs.YtgjhbapbomdpbaaGreatDoor.Sh
open Go.RowKit
/-- a field of one cell, and where it lies -/
def fldSB (P : Program) (t : TypeId) (f off : Nat) : Bool := match P.underlying t with
  | some (.struct fs) => match fs[f]? with
    | some fd => Nat.beq fd.offset off && scB P fd.type
    | none => false
  | _ => false
theorem Yv.fld {P : Program} {w : World} {t : TypeId} {x : Operand} {f off : Nat} {vs : List Value} {v : Value} (hf : fldSB P t f off = true := by kernel_rfl) (hv : vs[off]? = some v := by rfl) : Yv P w (.field t x f) [.agg vs.toArray] v :=
  Yv.mk1 (x := x) (by simp) rfl fun o e w' hop hx _ => by
    unfold fldSB at hf
    cases hu : P.underlying t with
    | none => rw [hu] at hf; cases hf
    | some d =>
      rw [hu] at hf
      cases d with
      | struct fs =>
        simp only at hf
        cases hfd : fs[f]? with
        | none => rw [hfd] at hf; cases hf
        | some fd =>
          rw [hfd] at hf
          simp only [Bool.and_eq_true] at hf
          obtain ⟨h1, h2⟩ := hf
          have h1 := Nat.eq_of_beq_eq_true h1
          subst h1
          have h3 : vs.toArray[fd.offset]? = some v := by simpa using hv
          simp [execOp, hop, hx, Instr.field, run_underlying hu, hfd, part, run_isAgg_sc (scB_of h2), asAgg, hv]
      | _ => cases hf
end Go.Proofs.YtgjhbapbomdpbaaGreatDoor.Sh
namespace Go.Proofs.YtgjhbapbomdpbaaGreatDoor.C
open Go.RowKit Go.Proofs.YtgjhbapbomdpbaaGreatDoor.Sh
theorem wcut_cx (A : Option Addr) (c : Nat) (t : List Nd) (w : World) (hr : Rd NdE w A t) (hcap : t.length ≤ c) (h0 : 0 < t.length) (hl : t.length ≤ 1000000) (hd : DepOk t) :
    Calls Tryz.prog 75 #[.slice A t.length c, S incl] w fun e w' => ∃ O co, e = .returned (.slice O (wcutS t incl).length co) ∧ Keep w w' ∧ ((O = A ∧ co = c ∧ wcutS t incl = t) ∨ St w [] w' [Ch.row NdE 62 O co (wcutS t incl)]) := by
  have hA := rd_some hr h0
  refine calls_of_Wp (vs := [_, _]) Tryz.func75 ?_
  refine Wp.seq (Wp.reads (is := [0]) (Keep.refl _) (Rn.s rfl Yv.as (Rn.nil)) ?_)
  obtain ⟨F, hF⟩ : ∃ F, F = findS t 0 incl := ⟨_, rfl⟩
  have hfb := findS_bd h0 incl
  have hfc : Cv Tryz.prog 38 [.slice A t.length c, .int .i64 0, S incl] (.int .i64 F) w := by
    rw [hF]
    exact find_cv A c t 0 incl w hr h0 (by omega) (hd 0 h0)
  unfold wcutS
  rw [← hF] at hfb ⊢
  refine Wp.seq (Wp.regionL (l := [0, 1, 2, 3]) (WO.rd (is := [0, 1]) (js := [2, 3]) (Keep.refl _) (Rn.s rfl Yv.mv (Rn.s rfl Yv.mv (Rn.nil))) (WO.cv rfl hfc (Keep.refl _) (FnOk.of Tryz.func38) (fun wx1 kx1 => WO.rd (is := [3]) (js := []) ((Keep.refl _).trans kx1) (Rn.s rfl Yv.as (Rn.nil)) (WO.done ?_)))))
  refine Wp.seq (Wp.seq (Wp.reads (is := [0, 1]) (Keep.refl _) (Rn.s rfl Yv.mv (Rn.s rfl (Yv.cmp _ rfl) (Rn.nil))) ?_))
  refine Wp.cond rfl (fun h => ?_) (fun h => ?_)
  · have h := of_decide_eq_true h
    refine Wp.seq (Wp.reads (is := [0, 1]) (Keep.refl _) (Rn.s rfl Yv.mv (Rn.s rfl Yv.as (Rn.nil))) ?_)
    refine Wp.ret (Fin.ret (Res.one rfl rfl) ?_)
    rw [if_pos h]
    exact ⟨A, c, rfl, kx1, .inl ⟨rfl, rfl, rfl⟩⟩
  have h := of_decide_eq_false h
  obtain ⟨m, hm⟩ : ∃ m : Nat, F = m := ⟨F.toNat, by omega⟩
  have hml : m < t.length := by omega
  rw [hm] at h ⊢
  rw [show ((m : Int)).toNat = m from Int.toNat_natCast m]
  obtain ⟨e1, e2⟩ := endS_bd hml
  refine Wp.skip ?_
  refine Wp.seq (Wp.regionL (l := [0, 1, 2, 3, 4, 5, 6, 7, 8, 9, 10, 11]) (WO.act (hc := rfl) (he := Ef.bsl (T := 62) NdE ([] : List Nd) ((St.init w).quiet kx1) (fun b2 w2 k2 hs2 => ?_))))
  have htk : (t.take m).length = (m : Int).toNat := by rw [Int.toNat_natCast]; simp; omega
  refine WO.rd (is := [1, 2, 3]) (js := [4, 5, 6, 7, 8, 9, 10, 11]) (Keep.refl _) (Rn.s rfl Yv.mv (Rn.s rfl Yv.mv (Rn.s rfl (Yv.sl_t (n := 8) (e := 62) (k := (t.take m).length) (by omega) (by omega) htk) (Rn.nil)))) (WO.act (hc := rfl) (he := Ef.append (ys := t.take m) hs2 0 (rdN_take (hr.keep hs2.keep)) (fun h => (hA h).elim) (fitN (by simp; omega)) ?_))
  intro O1 c1 w3 hs3
  have hs3 : St w [] w3 [Ch.row NdE 62 O1 c1 (t.take m)] := hs3
  refine WO.rd (is := [5, 6, 7]) (js := [8, 9, 10, 11]) (Keep.refl _) (Rn.s rfl Yv.mv (Rn.s rfl Yv.mv (Rn.s rfl Yv.mv (Rn.nil)))) (WO.cv rfl (end_cv' A c t m w3 (hr.keep hs3.keep) hml (by omega)) (Keep.refl _) (FnOk.of Tryz.func78) (fun w4 k4 => ?_))
  have hs4 := hs3.quiet k4
  have htd : (t.drop (endS t m)).length = t.length - (endS t m : Int).toNat := by rw [Int.toNat_natCast]; simp
  refine WO.rd (is := [9]) (js := [10, 11]) (Keep.refl _) (Rn.s rfl (Yv.sl_f (n := 8) (e := 62) (k := (t.drop (endS t m)).length) (by omega) (by omega) htd) (Rn.nil)) (WO.act (hc := rfl) (he := Ef.append (ys := t.drop (endS t m)) hs4 0 (rdN_drop (hr.keep hs4.keep) hcap) (cut_none (t := t) hA) (fitN (by simp; omega)) ?_))
  intro O2 c2 w5 hs5
  refine WO.rd (is := [11]) (js := []) (Keep.refl _) (Rn.s rfl Yv.as (Rn.nil)) (WO.done ?_)
  refine Wp.ret (Fin.ret (Res.one rfl rfl) ?_)
  rw [if_neg h]
  exact ⟨O2, c2, rfl, hs5.keep, .inr (hs5.pick [0])⟩
/-- a tree without what it includes, in place of the tree -/
theorem wcut_st {w0 w w' : World} {A : Option Addr} {c : Nat} {t : List Nd} {D : List Chunk} (h : St w0 [] w (Ch.row NdE 62 A c t :: D)) {O : Option Addr} {co : Nat} (k : Keep w w') (h2 : (O = A ∧ co = c ∧ wcutS t incl = t) ∨ St w [] w' [Ch.row NdE 62 O co (wcutS t incl)]) :
    St w0 [] w' (Ch.row NdE 62 O co (wcutS t incl) :: D) := by
  rcases h2 with ⟨rfl, rfl, e⟩ | h2
  · rw [e]; exact h.quiet k
  · exact (h.call0 h2).sub (List.Sublist.cons_cons _ (List.sublist_cons_self _ _))
theorem perm_in {F X Y D : List Chunk} : (F ++ (X ++ (Y ++ D))).Perm (X ++ (Y ++ (F ++ D))) :=
  (List.perm_append_comm_assoc F X (Y ++ D)).trans ((List.perm_append_comm_assoc F Y D).append_left X)
set_option maxHeartbeats 6400000 in
theorem read_calls (b bl br ms mr : Nat) (set : List (Bs × Fl)) (hset : set.length ≤ 64) (w0 : World) (hg : Gm w0) : ∀ (f : Nat) (s : LS) (m : LM) (name : Bs) (w : World) (D : List Chunk), Inv set s → 16 ≤ s.opn.length + f → s.opn.length < 16 → (alook name set).isSome = true → name ∉ s.nms → name ∉ s.opn → m.trs.map ts1 = s.trs →
    St w0 [] w (ChV b bl br ms mr set s m ++ (trows m.trs ++ D)) →
    Calls Tryz.prog 72 #[S name, PB bl, PB br] w fun e w' => e = .returned (.agg (loadF set f s name).2.cs.toArray) ∧ ∃ m', m'.trs.map ts1 = (loadF set f s name).1.trs ∧ St w0 [] w' (ChV b bl br ms mr set (loadF set f s name).1 m' ++ (trows m'.trs ++ D)) := by
  intro f
  induction f with
  | zero => intro s m name w D hi hf ho hs hn hp htr hst; omega
  | succ f IH =>
    intro s m name w D hi hf ho hs hn hp htr hst
    refine calls_of_Wp (vs := [_, _, _]) Tryz.func72 ?_
    refine Wp.seq (Wp.regionL (l := [0]) (WO.act (hc := rfl) (he := Ef.allocL (vs := [.int .i64 0, S [], .int .i64 0, .int .i64 0]) hst (fun ba1 wa1 ka1 hsa1 => WO.done ?_))))
    have hst : St w0 [] wa1 (Ch.cells ba1 27 ft0.cs :: (ChV b bl br ms mr set s m ++ (trows m.trs ++ D))) := hsa1
    clear hsa1
    have c1 := hst.cells 8
    have hc := hst.cells 1
    obtain ⟨T, F, hP⟩ : ∃ T F, parseS name (fileS set name) = (T, F) := ⟨_, _, rfl⟩
    have hpc := parse_cx name (fileS set name) wa1 (hg.keep hst.keep)
    have hTl := parseS_len name (fileS set name)
    have hlaw : (parseS name (fileS set name)).2.code = 0 → isS (parseS name (fileS set name)).1 = true := by
      intro h
      obtain ⟨l1, l2, l3⟩ := parseS_law name (fileS set name)
      by_cases he : (linesS (fileS set name)).e = 0
      · exact (l3 he h).2.1
      · rw [l1 he] at h; exact (he h).elim
    rw [loadF]
    rw [hP] at hpc hTl hlaw ⊢
    simp only at hpc hTl hlaw ⊢
    refine Wp.seq (Wp.regionL (l := [0, 1, 2, 3, 4, 5, 6, 7, 8, 9, 10, 11, 12, 13, 14]) (WO.rd (is := [0, 1, 2, 3, 4, 5, 6, 7]) (js := [8, 9, 10, 11, 12, 13, 14]) (Keep.refl _) (Rn.s rfl Yv.mv (Rn.s rfl (Yv.ld (c1.at_ 0)) (Rn.s rfl Yv.nc (Rn.s rfl (Yv.fa (off := 0)) (Rn.s rfl (Yv.ld (hc.at_ 0)) (Rn.s rfl Yv.mv (Rn.s rfl (Yv.look (hst.at_ 2 rfl) ⟨[], []⟩) (Rn.s rfl (Yv.fld (off := 1)) (Rn.nil))))))))) (WO.act (hc := rfl) (he := Ef.cx hpc hst (FnOk.of Tryz.func44) ?_))))
    rintro v D1 w1 ⟨PA, pc, rfl, rfl⟩ hs1
    refine WO.rd (is := [9, 10, 11]) (js := [12, 13, 14]) (Keep.refl _) (Rn.s rfl Yv.mv (Rn.s rfl Yv.ex (Rn.s rfl Yv.ex (Rn.nil)))) (WO.act (he := Ef.allocL (vs := ft0.cs) hs1 (fun b6 w2 k2 hs2 => WO.rd (is := [13]) (js := [14]) (Keep.refl _) (Rn.s rfl Yv.as (Rn.nil)) (WO.act (he := Ef.stores hs2 0 (fun w3 hs3 => WO.done ?_))))))
    have hst : St w0 [] w3 (Ch.cells b6 27 F.cs :: Ch.row NdE 62 PA pc T :: Ch.cells ba1 27 ft0.cs :: (ChV b bl br ms mr set s m ++ (trows m.trs ++ D))) := hs3
    clear hs1 hpc hc c1
    have c6 := hst.cells 0
    refine Wp.seq (Wp.seq (Wp.reads (is := [0, 1, 2]) (Keep.refl _) (Rn.s rfl (Yv.fa (off := 0)) (Rn.s rfl (Yv.ld (c6.at_ 0)) (Rn.s rfl (Yv.cmp _ rfl) (Rn.nil)))) ?_))
    refine Wp.cond rfl (fun h => ?_) (fun h => ?_)
    · have h : F.code ≠ 0 := bne_iff_ne.1 h
      refine Wp.seq (Wp.regionL (l := [0, 1]) (WO.rd (is := [0]) (js := [1]) (Keep.refl _) (Rn.s rfl (Yv.ldb c6) (Rn.nil)) (WO.act (hc := rfl) (he := Ef.stores hst 2 (fun wx1 hsx1 => WO.done ?_)))))
      refine Wp.ret (Fin.ret (resCA rfl rfl (hsx1.cells 0)) ?_)
      rw [if_pos h]
      exact ⟨rfl, m, htr, hsx1.pickT (P := [_, _, _, _, _, _, _, _, _, _, _, _]) (T := trows m.trs ++ D) [3, 4, 5, 6, 7, 8, 9, 10, 11]⟩
    have h : F.code = 0 := bne_eq_false_iff_eq.1 h
    have hq1 : ¬ F.code ≠ 0 := fun q => q h
    have hTis : isS T = true := hlaw h
    obtain ⟨hT0, hT1, hTd⟩ := isS_depth hTis
    have hdT : DepOk T := fun i hi => by have := hTd i hi; omega
    refine Wp.skip ?_
    obtain ⟨ns, NF, hN⟩ : ∃ ns NF, namesS T = (ns, NF) := ⟨_, _, rfl⟩
    have hnc := names_cx PA pc T w3 (hst.rd 1) hT0 (by omega) hdT
    rw [hN] at hnc ⊢
    simp only at hnc ⊢
    refine Wp.seq (Wp.regionL (l := [0, 1, 2, 3, 4, 5, 6]) (WO.rd (is := [0]) (js := [1, 2, 3, 4, 5, 6]) (Keep.refl _) (Rn.s rfl Yv.mv (Rn.nil)) (WO.act (hc := rfl) (he := Ef.cx hnc hst (FnOk.of Tryz.func73) ?_))))
    rintro v D1 w4 ⟨NA, nc, rfl, rfl⟩ hs4
    refine WO.rd (is := [2, 3, 4, 5]) (js := [6]) (Keep.refl _) (Rn.s rfl Yv.mv (Rn.s rfl Yv.ex (Rn.s rfl Yv.ex (Rn.s rfl Yv.as (Rn.nil))))) (WO.act (he := Ef.stores hs4 1 (fun w5 hs5 => WO.done ?_)))
    have hst : St w0 [] w5 (Ch.cells b6 27 NF.cs :: Ch.row NdE 62 NA nc ns :: Ch.row NdE 62 PA pc T :: Ch.cells ba1 27 ft0.cs :: (ChV b bl br ms mr set s m ++ (trows m.trs ++ D))) := hs5
    clear hs4 hnc c6
    have c6 := hst.cells 0
    refine Wp.seq (Wp.seq (Wp.reads (is := [0, 1, 2]) (Keep.refl _) (Rn.s rfl (Yv.fa (off := 0)) (Rn.s rfl (Yv.ld (c6.at_ 0)) (Rn.s rfl (Yv.cmp _ rfl) (Rn.nil)))) ?_))
    refine Wp.cond rfl (fun h => ?_) (fun h => ?_)
    · have h : NF.code ≠ 0 := bne_iff_ne.1 h
      refine Wp.seq (Wp.regionL (l := [0, 1]) (WO.rd (is := [0]) (js := [1]) (Keep.refl _) (Rn.s rfl (Yv.ldb c6) (Rn.nil)) (WO.act (hc := rfl) (he := Ef.stores hst 3 (fun wx1 hsx1 => WO.done ?_)))))
      refine Wp.ret (Fin.ret (resCA rfl rfl (hsx1.cells 0)) ?_)
      rw [if_neg hq1, if_pos h]
      exact ⟨rfl, m, htr, hsx1.pickT (P := [_, _, _, _, _, _, _, _, _, _, _, _, _]) (T := trows m.trs ++ D) [4, 5, 6, 7, 8, 9, 10, 11, 12]⟩
    have hq2 : ¬ NF.code ≠ 0 := fun q => q (bne_eq_false_iff_eq.1 h)
    refine Wp.skip ?_
    have hnsl : ns.length ≤ 16384 := by
      have e : (namesS T).1.length ≤ T.length := by
        unfold namesS
        have hb := findS_bd hT0 incl
        split
        · simp
        split
        · simp
        · rename_i q1 q2
          have := (textsS_mem (t := T) (i := (findS T 0 incl).toNat) (by omega)).2.2
          simpa using this
      rw [hN] at e
      simp only at e
      omega
    -- it is open
    have c1 := hst.cells 11
    have hc := hst.cells 4
    have hd := hst.quiet (Keep.drew w5)
    refine Wp.seq (Wp.mid (fun ρ ds w' => ds = [] ∧ (∃ m1 : LM, m1.trs = m.trs ∧ St w0 [] w' (Ch.cells b6 27 NF.cs :: Ch.row NdE 62 NA nc ns :: Ch.row NdE 62 PA pc T :: Ch.cells ba1 27 ft0.cs :: (ChV b bl br ms mr set (pushS s name) m1 ++ (trows m.trs ++ D)))) ∧ Sub [(0, S name), (1, PB bl), (2, PB br), (4, PB ba1), (5, .slice PA T.length pc), (6, PB b6), (7, .slice NA ns.length nc)] ρ) ?_ ?_)
    · refine Wp.drawsB [7, 10] mixed (WDB.rd (is := [1, 2, 3, 4, 5]) (fun _ _ _ _ _ h => h) (Keep.refl _) (Keep.drew _) (Rn.s rfl (Yv.ld (c1.at_ 0)) (Rn.s rfl Yv.nc (Rn.s rfl (Yv.fa (off := 2)) (Rn.s rfl (Yv.ld (hc.at_ 2)) (Rn.s rfl Yv.mv (Rn.nil)))))) ?_)
      refine WDB.act2 0 6 (hci := rfl) (hcj := rfl) (hi := Ef.yv (Yv.ld ((hd.cells 11).at_ 0)) ⟨fun _ h => h, ?_⟩) (hj := Ef.bsl (T := 9) StE [name] hd (fun bA2 wA2 kA2 hsA2 => ⟨fun _ h => h.trans kA2, ?_⟩))
      · refine WDB.act 6 (hc := rfl) (he := Ef.bsl (T := 9) StE [name] hd (fun bA3 wA3 kA3 hsA3 => ⟨fun _ h => h.trans kA3, ?_⟩))
        refine WDB.act 7 (hc := rfl) (he := Ef.append (ys := [name]) hsA3 8 (hsA3.rd 0) (by simp) (fitT (by simp only [List.length_cons, List.length_nil]; omega)) (fun AB4 cB4 wB4 hsB4 => ⟨fun h => (h (by simp)).elim, ?_⟩))
        refine WDB.rd0 (is := [8, 9]) (fun _ _ _ _ _ h => h) (Keep.refl _) (Rn.s rfl Yv.nc (Rn.s rfl (Yv.fa (off := 2)) (Rn.nil))) ?_
        refine WDB.act 10 (hc := rfl) (he := Ef.store hsB4 6 (fun wC5 hsC5 => ⟨fun h => (h (by simp)).elim, WDB.done ?_⟩))
        exact ⟨rfl, ⟨{ m with O := AB4, oc := cB4 }, rfl, hsC5.pickT (P := [_, _, _, _, _, _, _, _, _, _, _, _, _, _]) (T := trows m.trs ++ D) [3, 4, 5, 6, 0, 7, 8, 1, 9, 10, 11, 12, 13]⟩, rfl, rfl, rfl, rfl, rfl, rfl, rfl, trivial⟩
      · refine WDB.act2 0 7 (hci := rfl) (hcj := rfl) (hi := Ef.yv (Yv.ld ((hsA2.cells 12).at_ 0)) ⟨fun _ h => h, ?_⟩) (hj := Ef.append (ys := [name]) hsA2 8 (hsA2.rd 0) (by simp) (fitT (by simp only [List.length_cons, List.length_nil]; omega)) (fun AB7 cB7 wB7 hsB7 => ⟨fun h => (h (by simp)).elim, ?_⟩))
        · refine WDB.act 7 (hc := rfl) (he := Ef.append (ys := [name]) hsA2 8 (hsA2.rd 0) (by simp) (fitT (by simp only [List.length_cons, List.length_nil]; omega)) (fun AB8 cB8 wB8 hsB8 => ⟨fun h => (h (by simp)).elim, ?_⟩))
          refine WDB.rd0 (is := [8, 9]) (fun _ _ _ _ _ h => h) (Keep.refl _) (Rn.s rfl Yv.nc (Rn.s rfl (Yv.fa (off := 2)) (Rn.nil))) ?_
          refine WDB.act 10 (hc := rfl) (he := Ef.store hsB8 6 (fun wC9 hsC9 => ⟨fun h => (h (by simp)).elim, WDB.done ?_⟩))
          exact ⟨rfl, ⟨{ m with O := AB8, oc := cB8 }, rfl, hsC9.pickT (P := [_, _, _, _, _, _, _, _, _, _, _, _, _, _]) (T := trows m.trs ++ D) [3, 4, 5, 6, 0, 7, 8, 1, 9, 10, 11, 12, 13]⟩, rfl, rfl, rfl, rfl, rfl, rfl, rfl, trivial⟩
        · refine WDB.act 0 (hc := rfl) (he := Ef.yv (Yv.ld ((hsB7.cells 12).at_ 0)) ⟨fun _ h => h, ?_⟩)
          refine WDB.rd0 (is := [8, 9]) (fun _ _ _ _ _ h => h) (Keep.refl _) (Rn.s rfl Yv.nc (Rn.s rfl (Yv.fa (off := 2)) (Rn.nil))) ?_
          refine WDB.act 10 (hc := rfl) (he := Ef.store hsB7 6 (fun wC11 hsC11 => ⟨fun h => (h (by simp)).elim, WDB.done ?_⟩))
          exact ⟨rfl, ⟨{ m with O := AB7, oc := cB7 }, rfl, hsC11.pickT (P := [_, _, _, _, _, _, _, _, _, _, _, _, _, _]) (T := trows m.trs ++ D) [3, 4, 5, 6, 0, 7, 8, 1, 9, 10, 11, 12, 13]⟩, rfl, rfl, rfl, rfl, rfl, rfl, rfl, trivial⟩
    clear hst hd hc c1 c6
    rintro ρ ds w6 ⟨rfl, ⟨m1, hm1, hst⟩, hsub⟩
    refine Wp.forget _ ?_ hsub
    clear hsub ρ
    rw [← hm1] at hst htr
    clear hm1
    obtain ⟨G, hG⟩ : ∃ G, G = visL (loadF set f) set ns (pushS s name) := ⟨_, rfl⟩
    rw [← hG]
    have hip := push_inv hi hn
    refine Wp.seq (Wp.seq (Wp.reads (is := [0, 1, 2]) (Keep.refl _) (Rn.s rfl Yv.mv (Rn.s rfl (Yv.len_v (e := 62) (m := 8)) (Rn.s rfl Yv.mv (Rn.nil)))) ?_))
    refine Wp.block ?_
    refine Wp.loop (α := Nat) (fun k ρ ds w' => ds = [] ∧ k ≤ ns.length ∧ (∃ (s2 : LS) (m2 : LM), visL (loadF set f) set (ns.drop k) s2 = G ∧ Inv set s2 ∧ s2.opn = s.opn ++ [name] ∧ m2.trs.map ts1 = s2.trs ∧
        St w0 [] w' (Ch.cells b6 27 NF.cs :: Ch.row NdE 62 NA nc ns :: Ch.row NdE 62 PA pc T :: Ch.cells ba1 27 ft0.cs :: (ChV b bl br ms mr set s2 m2 ++ (trows m2.trs ++ D)))) ∧
      Sub [(0, S name), (1, PB bl), (2, PB br), (4, PB ba1), (5, .slice PA T.length pc), (6, PB b6), (47, .slice NA ns.length nc), (48, .int .i64 (ns.length : Int)), (49, .int .i64 (k : Int))] ρ) (fun k => ns.length - k) 0
      ⟨rfl, Nat.zero_le _, ⟨pushS s name, m1, hG.symm, hip, rfl, htr, hst⟩, rfl, rfl, rfl, rfl, rfl, rfl, rfl, rfl, rfl, trivial⟩ ?_
    clear hst
    rintro k ρ ds w7 ⟨rfl, hk, ⟨s2, m2, hv, hi2, ho2, ht2, hst⟩, hsub⟩
    refine Wp.forget _ ?_ hsub
    clear hsub ρ
    have hol2 : s2.opn.length = s.opn.length + 1 := by rw [ho2]; simp
    refine Wp.seq (Wp.reads (is := [0]) (Keep.refl _) (Rn.s rfl (Yv.cmp _ rfl) (Rn.nil)) ?_)
    refine Wp.seq (Wp.cond rfl (fun h1 => ?_) (fun h1 => ?_))
    · have h1 := of_decide_eq_true h1
      have hkl : k < ns.length := by omega
      have hget : nth ns (k : Int) = ns[k] := nth_of (List.getElem?_eq_getElem hkl)
      rw [List.drop_eq_getElem_cons hkl, ← hget, visL] at hv
      have hrn := hst.rd 1
      refine Wp.skip (Wp.seq (Wp.block ?_))
      refine Wp.seq (Wp.regionL (l := [0, 1, 2, 3]) (WO.rd (is := [0, 1]) (js := [2, 3]) (Keep.refl _) (Rn.s rfl (Yv.ia (e := 62) hrn (by omega) (by omega)) (Rn.s rfl (Yv.ldel hrn rfl rfl (by omega) (by omega)) (Rn.nil))) (WO.act (hc := rfl) (he := Ef.allocL (vs := [.int .i64 0, .int .i64 0, S [], S [], S [], .int .i64 0, .int .i64 0, .int .i64 0]) hst (fun bx1 wx1 kx1 hsx1 => WO.act (hc := rfl) (he := Ef.stores hsx1 0 (fun wx2 hsx2 => WO.done ?_)))))))
      obtain ⟨n, hne⟩ : ∃ n, n = nth ns (k : Int) := ⟨_, rfl⟩
      rw [← hne] at hv
      have hst : St w0 [] wx2 (Ch.cells bx1 62 n.cs :: Ch.cells b6 27 NF.cs :: Ch.row NdE 62 NA nc ns :: Ch.row NdE 62 PA pc T :: Ch.cells ba1 27 ft0.cs :: (ChV b bl br ms mr set s2 m2 ++ (trows m2.trs ++ D))) := by rw [hne]; exact hsx2
      clear hsx1 hsx2
      have c9 := hst.cells 0
      have c1 := hst.cells 12
      have hsw := hst.perm (List.perm_append_comm_assoc [_, _, _, _, _] (ChV b bl br ms mr set s2 m2) (trows m2.trs ++ D))
      refine Wp.seq (Wp.regionL (l := [0, 1, 2, 3, 4, 5, 6, 7, 8]) (WO.rd (is := [0, 1]) (js := [2, 3, 4, 5, 6, 7, 8]) (Keep.refl _) (Rn.s rfl (Yv.ld (c1.at_ 0)) (Rn.s rfl (Yv.ldb c9) (Rn.nil))) (WO.act (hc := rfl) (he := Ef.callv Tryz.func74 (Calls.mono (may_calls b bl br ms mr set s2 m2 n w0 wx2 _ hsw (by omega)) ?_)))))
      rintro e w8 ⟨rfl, m3, hm3, hs8⟩
      have hs8 := hs8.perm (List.perm_append_comm_assoc (ChV b bl br ms mr set (mayS set s2 n).2.2 m3) [_, _, _, _, _] (trows m2.trs ++ D))
      refine WO.rd (is := [3, 4, 5]) (js := [6, 7, 8]) (Keep.refl _) (Rn.s rfl Yv.mv (Rn.s rfl Yv.ex (Rn.s rfl Yv.ex (Rn.nil)))) (WO.act (he := Ef.allocL (vs := ft0.cs) hs8 (fun b11 w9 k9 hs9 => WO.rd (is := [7]) (js := [8]) (Keep.refl _) (Rn.s rfl Yv.as (Rn.nil)) (WO.act (he := Ef.stores hs9 0 (fun w10 hs10 => WO.done ?_))))))
      rw [← hm3] at hs10 ht2
      have hst : St w0 [] w10 (Ch.cells b11 27 (mayS set s2 n).2.1.cs :: Ch.cells bx1 62 n.cs :: Ch.cells b6 27 NF.cs :: Ch.row NdE 62 NA nc ns :: Ch.row NdE 62 PA pc T :: Ch.cells ba1 27 ft0.cs :: (ChV b bl br ms mr set (mayS set s2 n).2.2 m3 ++ (trows m3.trs ++ D))) := hs10
      clear hs8 hsw c1 c9
      have c9 := hst.cells 1
      have c2 := hst.cells 14
      refine Wp.seq (Wp.mid (fun ρ ds w' => ds = [] ∧ (∃ (s3 : LS) (m5 : LM) (R : Ft), (R.code ≠ 0 → G = (s3, R)) ∧ (R.code = 0 → visL (loadF set f) set (ns.drop (k + 1)) s3 = G ∧ Inv set s3 ∧ s3.opn = s.opn ++ [name]) ∧ m5.trs.map ts1 = s3.trs ∧
        St w0 [] w' (Ch.cells b11 27 R.cs :: Ch.cells bx1 62 n.cs :: Ch.cells b6 27 NF.cs :: Ch.row NdE 62 NA nc ns :: Ch.row NdE 62 PA pc T :: Ch.cells ba1 27 ft0.cs :: (ChV b bl br ms mr set s3 m5 ++ (trows m5.trs ++ D)))) ∧
        Sub [(0, S name), (1, PB bl), (2, PB br), (4, PB ba1), (5, .slice PA T.length pc), (6, PB b6), (11, PB b11), (47, .slice NA ns.length nc), (48, .int .i64 (ns.length : Int)), (49, .int .i64 (k : Int))] ρ) ?_ ?_)
      · refine Wp.seq (Wp.reads (is := [0]) (Keep.refl _) (Rn.s rfl Yv.mv (Rn.nil)) ?_)
        refine Wp.cond rfl (fun h2 => ?_) (fun h2 => ?_)
        · have h2 : (mayS set s2 n).1 = true := h2
          obtain ⟨q1, q2, q3, q4, q5, q6⟩ := mayS_true h2
          rw [if_pos h2, q1] at hv
          rw [q1] at hst
          have hsw := hst.perm (perm_in (F := [_, _, _, _, _, _]) (X := ChV b bl br ms mr set s2 m3) (Y := trows m3.trs) (D := D))
          have hnn : n.text ∉ s2.nms := fun hm => q5 ((hi2.rd _).2 hm)
          have ih := IH s2 m3 n.text w10 _ hi2 (by omega) q6 q3 hnn q4 ht2 hsw
          have e0 : ([S n.text].toArray ++ #[PB bl, PB br] : Array Value) = #[S n.text, PB bl, PB br] := by simp
          rw [← e0] at ih
          refine Wp.regionL (l := [0, 1, 2, 3, 4]) (WO.rd (is := [0, 1, 2]) (js := [3, 4]) (Keep.refl _) (Rn.s rfl (Yv.ld (c2.at_ 0)) (Rn.s rfl (Yv.fa (off := 3)) (Rn.s rfl (Yv.ld (c9.at_ 3)) (Rn.nil)))) (WO.act (hc := rfl) (he := Ef.callv Tryz.func72 (Calls.mono ih ?_))))
          rintro e w11 ⟨rfl, m4, hm4, hs11⟩
          have hs11 := hs11.perm (perm_in (F := [_, _, _, _, _, _]) (X := ChV b bl br ms mr set (loadF set f s2 n.text).1 m4) (Y := trows m4.trs) (D := D)).symm
          refine WO.act (he := Ef.stores hs11 0 (fun w12 hs12 => WO.done ?_))
          refine ⟨rfl, ⟨(loadF set f s2 n.text).1, m4, (loadF set f s2 n.text).2, ?_, ?_, hm4, hs12⟩, rfl, rfl, rfl, rfl, rfl, rfl, rfl, rfl, rfl, rfl, trivial⟩
          · intro q; rw [if_pos q] at hv; exact hv.symm
          · intro q
            rw [if_neg (fun q' => q' q)] at hv
            obtain ⟨g1, g2, g3, -⟩ := loadF_good set f s2 n.text hi2 (by omega) q3 hnn q4 q6 q
            exact ⟨hv, g1, by rw [g2, ho2]⟩
        · have h2 : ¬ (mayS set s2 n).1 = true := by rw [show (mayS set s2 n).1 = false from h2]; decide
          rw [if_neg h2] at hv
          obtain ⟨e1, e2, e3, e4⟩ := mayS_st set s2 n
          refine Wp.skip ⟨rfl, ⟨(mayS set s2 n).2.2, m3, (mayS set s2 n).2.1, ?_, ?_, by rw [e4]; exact ht2, hst⟩, rfl, rfl, rfl, rfl, rfl, rfl, rfl, rfl, rfl, rfl, trivial⟩
          · intro q; rw [if_pos q] at hv; exact hv.symm
          · intro q
            rw [if_neg (fun q' => q' q)] at hv
            exact ⟨hv, mayS_inv hi2 n, by rw [e2, ho2]⟩
      clear hst c9 c2 hv ht2 hm3
      rintro ρ ds w11 ⟨rfl, ⟨s3, m5, R, r1, r2, ht5, hst⟩, hsub⟩
      refine Wp.forget _ ?_ hsub
      clear hsub ρ
      have c11 := hst.cells 0
      refine Wp.seq (Wp.reads (is := [0, 1, 2]) (Keep.refl _) (Rn.s rfl (Yv.fa (off := 0)) (Rn.s rfl (Yv.ld (c11.at_ 0)) (Rn.s rfl (Yv.cmp _ rfl) (Rn.nil)))) ?_)
      refine Wp.cond rfl (fun h2 => ?_) (fun h2 => ?_)
      · have h2 : R.code ≠ 0 := bne_iff_ne.1 h2
        refine Wp.seq (Wp.regionL (l := [0, 1]) (WO.rd (is := [0]) (js := [1]) (Keep.refl _) (Rn.s rfl (Yv.ldb c11) (Rn.nil)) (WO.act (hc := rfl) (he := Ef.stores hst 5 (fun wx1 hsx1 => WO.done ?_)))))
        refine Wp.ret (Fin.ret (resCA rfl rfl (hsx1.cells 0)) ?_)
        have hGR := r1 h2
        rw [if_neg hq1, if_neg hq2, hGR, if_pos h2]
        exact ⟨rfl, m5, ht5, hsx1.pickT (P := [_, _, _, _, _, _, _, _, _, _, _, _, _, _, _]) (T := trows m5.trs ++ D) [6, 7, 8, 9, 10, 11, 12, 13, 14]⟩
      · have h2 : R.code = 0 := bne_eq_false_iff_eq.1 h2
        obtain ⟨g1, g2, g3⟩ := r2 h2
        refine Wp.skip (Wp.reads (is := [0, 1]) (Keep.refl _) (Rn.s rfl (Yv.add (by unfold inI; omega)) (Rn.s rfl Yv.mv (Rn.nil))) ?_)
        exact ⟨k + 1, ⟨rfl, by omega, ⟨s3, m5, g1, g2, g3, ht5, hst.pickT (P := [_, _, _, _, _, _, _, _, _, _, _, _, _, _, _]) (T := trows m5.trs ++ D) [2, 3, 4, 5, 6, 7, 8, 9, 10, 11, 12, 13, 14]⟩, rfl, rfl, rfl, rfl, rfl, rfl, rfl, rfl, rfl, trivial⟩, by omega⟩
    have h1 := of_decide_eq_false h1
    rw [List.drop_eq_nil_of_le (by omega), visL] at hv
    rw [← hv]
    refine Wp.exit ?_
    have hnn : name ∉ s2.nms := hi2.opn name (by rw [ho2]; simp)
    have hgd0 : (alook name s2.rd).getD 0 = 0 := by
      have h2 := hi2.pos name
      by_cases q : 0 < (alook name s2.rd).getD 0
      · exact (hnn ((hi2.rd name).1 q)).elim
      · omega
    have hnl := hi2.le
    have htl2 : m2.trs.length ≤ 64 := by
      have h5 := hi2.len
      rw [← ht2] at h5
      simp only [List.length_map] at h5
      omega
    -- it is not open any more
    have c1 := hst.cells 11
    have hc := hst.cells 4
    have hcap := hst.cap (E := StE) (A := m2.O) (c := m2.oc) (xs := s2.opn) 7
    refine Wp.seq (Wp.draws [14] mixed (WD.rd (is := [0, 1, 2, 3, 4, 5, 6, 7, 8, 9, 10, 11, 12, 13]) (fun _ _ _ _ _ h => h) (Keep.drew _) (Rn.s rfl (Yv.ld (c1.at_ 0)) (Rn.s rfl (Yv.ld (c1.at_ 0)) (Rn.s rfl Yv.nc (Rn.s rfl (Yv.fa (off := 2)) (Rn.s rfl (Yv.ld (hc.at_ 2)) (Rn.s rfl (Yv.ld (c1.at_ 0)) (Rn.s rfl Yv.nc (Rn.s rfl (Yv.fa (off := 2)) (Rn.s rfl (Yv.ld (hc.at_ 2)) (Rn.s rfl (Yv.len_v (e := 9) (m := 1)) (Rn.s rfl (Yv.sub (by unfold inI; omega)) (Rn.s rfl (Yv.sl_t (n := 1) (e := 9) (by omega) (by omega)) (Rn.s rfl Yv.nc (Rn.s rfl (Yv.fa (off := 2)) (Rn.nil))))))))))))))) (WD.act 14 (hc := rfl) (he := Ef.store (hst.quiet (Keep.drew _)) 4 (fun wx1 hsx1 => ⟨fun hn => (hn (by decide)).elim, WD.done ?_⟩)))))
    have hst : St w0 [] wx1 (Ch.row NdE 62 PA pc T :: Ch.cells ba1 27 ft0.cs :: (ChV b bl br ms mr set { s2 with opn := s2.opn.dropLast } m2 ++ (trows m2.trs ++ D))) := by
      have h9 := hsx1.pickT (P := [_, _, _, _, _, _, _, _, _, _, _, _, _]) (T := trows m2.trs ++ D) [7, 3, 4, 0, 5, 6, 8, 9, 10, 11, 12]
      have e2 : ((s2.opn.length : Int) - 1).toNat = s2.opn.dropLast.length := by rw [List.length_dropLast]; omega
      have e3 : s2.opn = s2.opn.dropLast ++ [name] := by rw [ho2]; simp
      rw [e2] at h9
      have h10 : Ch.row StE 9 m2.O m2.oc s2.opn = Ch.row StE 9 m2.O m2.oc (s2.opn.dropLast ++ [name]) := by rw [← e3]
      have h9 : St w0 [] wx1 (Ch.row StE 9 m2.O m2.oc s2.opn :: _) := h9
      rw [h10] at h9
      have h11 := h9.shrink
      exact h11.pickT (P := [_, _, _, _, _, _, _, _, _, _, _]) (T := trows m2.trs ++ D) [1, 2, 3, 4, 5, 0, 6, 7, 8, 9, 10]
    clear hsx1
    have hdl : s2.opn.dropLast.length = s.opn.length := by rw [ho2]; simp
    obtain ⟨s4, hs4⟩ : ∃ s4 : LS, s4 = { s2 with opn := s2.opn.dropLast } := ⟨_, rfl⟩
    rw [← hs4] at hst
    have e4 : s4.rd = s2.rd ∧ s4.nms = s2.nms ∧ s4.trs = s2.trs ∧ s4.cyc = s2.cyc ∧ s4.opn = s2.opn.dropLast := by rw [hs4]; exact ⟨rfl, rfl, rfl, rfl, rfl⟩
    -- it has been read
    have c1 := hst.cells 9
    have hc := hst.cells 2
    refine Wp.seq (Wp.regionL (l := [0, 1, 2, 3, 4, 5, 6, 7]) (WO.rd (is := [0, 1, 2, 3, 4, 5, 6]) (js := [7]) (Keep.refl _) (Rn.s rfl (Yv.ld (c1.at_ 0)) (Rn.s rfl Yv.nc (Rn.s rfl (Yv.fa (off := 1)) (Rn.s rfl (Yv.ld (hc.at_ 1)) (Rn.s rfl Yv.mv (Rn.s rfl (Yv.look (hst.at_ 4 rfl) 0) (Rn.s rfl (Yv.add (by rw [e4.1, hgd0]; unfold inI; omega)) (Rn.nil)))))))) (WO.act (hc := rfl) (he := Ef.mapput hst 4 (fun w8 hs8 => WO.done ?_)))))
    obtain ⟨s5, hs5⟩ : ∃ s5 : LS, s5 = { s4 with rd := aput name ((alook name s4.rd).getD 0 + 1) s4.rd } := ⟨_, rfl⟩
    have hst : St w0 [] w8 (Ch.row NdE 62 PA pc T :: Ch.cells ba1 27 ft0.cs :: (ChV b bl br ms mr set s5 m2 ++ (trows m2.trs ++ D))) := by
      rw [hs5]
      exact hs8.pickT (P := [_, _, _, _, _, _, _, _, _, _, _]) (T := trows m2.trs ++ D) [1, 2, 3, 4, 0, 5, 6, 7, 8, 9, 10]
    clear hs8 c1 hc
    have e5 : s5.nms = s2.nms ∧ s5.trs = s2.trs ∧ s5.cyc = s2.cyc ∧ s5.opn = s2.opn.dropLast ∧ s5.rd = aput name ((alook name s2.rd).getD 0 + 1) s2.rd := by rw [hs5]; simp only; rw [e4.1]; exact ⟨e4.2.1, e4.2.2.1, e4.2.2.2.1, e4.2.2.2.2, rfl⟩
    -- its name
    have c1 := hst.cells 9
    have hc := hst.cells 2
    have hd := hst.quiet (Keep.drew w8)
    have hnl5 : s5.nms.length ≤ 64 := by rw [e5.1]; omega
    refine Wp.seq (Wp.mid (fun ρ ds w' => ds = [] ∧ (∃ m6 : LM, m6.trs = m2.trs ∧ St w0 [] w' (Ch.row NdE 62 PA pc T :: Ch.cells ba1 27 ft0.cs :: (ChV b bl br ms mr set { s5 with nms := s5.nms ++ [name] } m6 ++ (trows m2.trs ++ D)))) ∧ Sub [(1, PB bl), (4, PB ba1), (5, .slice PA T.length pc)] ρ) ?_ ?_)
    · refine Wp.drawsB [7, 10] mixed (WDB.rd (is := [1, 2, 3, 4, 5]) (fun _ _ _ _ _ h => h) (Keep.refl _) (Keep.drew _) (Rn.s rfl (Yv.ld (c1.at_ 0)) (Rn.s rfl Yv.nc (Rn.s rfl (Yv.fa (off := 3)) (Rn.s rfl (Yv.ld (hc.at_ 3)) (Rn.s rfl Yv.mv (Rn.nil)))))) ?_)
      refine WDB.act2 0 6 (hci := rfl) (hcj := rfl) (hi := Ef.yv (Yv.ld ((hd.cells 9).at_ 0)) ⟨fun _ h => h, ?_⟩) (hj := Ef.bsl (T := 9) StE [name] hd (fun bA2 wA2 kA2 hsA2 => ⟨fun _ h => h.trans kA2, ?_⟩))
      · refine WDB.act 6 (hc := rfl) (he := Ef.bsl (T := 9) StE [name] hd (fun bA3 wA3 kA3 hsA3 => ⟨fun _ h => h.trans kA3, ?_⟩))
        refine WDB.act 7 (hc := rfl) (he := Ef.append (ys := [name]) hsA3 7 (hsA3.rd 0) (by simp) (fitT (by simp only [List.length_cons, List.length_nil]; omega)) (fun AB4 cB4 wB4 hsB4 => ⟨fun h => (h (by simp)).elim, ?_⟩))
        refine WDB.rd0 (is := [8, 9]) (fun _ _ _ _ _ h => h) (Keep.refl _) (Rn.s rfl Yv.nc (Rn.s rfl (Yv.fa (off := 3)) (Rn.nil))) ?_
        refine WDB.act 10 (hc := rfl) (he := Ef.store hsB4 4 (fun wC5 hsC5 => ⟨fun h => (h (by simp)).elim, WDB.done ?_⟩))
        exact ⟨rfl, ⟨{ m2 with Nm := AB4, nc := cB4 }, rfl, hsC5.pickT (P := [_, _, _, _, _, _, _, _, _, _, _, _]) (T := trows m2.trs ++ D) [3, 4, 0, 5, 6, 7, 1, 8, 9, 10, 11]⟩, rfl, rfl, rfl, trivial⟩
      · refine WDB.act2 0 7 (hci := rfl) (hcj := rfl) (hi := Ef.yv (Yv.ld ((hsA2.cells 10).at_ 0)) ⟨fun _ h => h, ?_⟩) (hj := Ef.append (ys := [name]) hsA2 7 (hsA2.rd 0) (by simp) (fitT (by simp only [List.length_cons, List.length_nil]; omega)) (fun AB7 cB7 wB7 hsB7 => ⟨fun h => (h (by simp)).elim, ?_⟩))
        · refine WDB.act 7 (hc := rfl) (he := Ef.append (ys := [name]) hsA2 7 (hsA2.rd 0) (by simp) (fitT (by simp only [List.length_cons, List.length_nil]; omega)) (fun AB8 cB8 wB8 hsB8 => ⟨fun h => (h (by simp)).elim, ?_⟩))
          refine WDB.rd0 (is := [8, 9]) (fun _ _ _ _ _ h => h) (Keep.refl _) (Rn.s rfl Yv.nc (Rn.s rfl (Yv.fa (off := 3)) (Rn.nil))) ?_
          refine WDB.act 10 (hc := rfl) (he := Ef.store hsB8 4 (fun wC9 hsC9 => ⟨fun h => (h (by simp)).elim, WDB.done ?_⟩))
          exact ⟨rfl, ⟨{ m2 with Nm := AB8, nc := cB8 }, rfl, hsC9.pickT (P := [_, _, _, _, _, _, _, _, _, _, _, _]) (T := trows m2.trs ++ D) [3, 4, 0, 5, 6, 7, 1, 8, 9, 10, 11]⟩, rfl, rfl, rfl, trivial⟩
        · refine WDB.act 0 (hc := rfl) (he := Ef.yv (Yv.ld ((hsB7.cells 10).at_ 0)) ⟨fun _ h => h, ?_⟩)
          refine WDB.rd0 (is := [8, 9]) (fun _ _ _ _ _ h => h) (Keep.refl _) (Rn.s rfl Yv.nc (Rn.s rfl (Yv.fa (off := 3)) (Rn.nil))) ?_
          refine WDB.act 10 (hc := rfl) (he := Ef.store hsB7 4 (fun wC11 hsC11 => ⟨fun h => (h (by simp)).elim, WDB.done ?_⟩))
          exact ⟨rfl, ⟨{ m2 with Nm := AB7, nc := cB7 }, rfl, hsC11.pickT (P := [_, _, _, _, _, _, _, _, _, _, _, _]) (T := trows m2.trs ++ D) [3, 4, 0, 5, 6, 7, 1, 8, 9, 10, 11]⟩, rfl, rfl, rfl, trivial⟩
    clear hst hd hc c1
    rintro ρ ds w9 ⟨rfl, ⟨m6, hm6, hst⟩, hsub⟩
    refine Wp.forget _ ?_ hsub
    clear hsub ρ
    rw [← hm6] at hst ht2 htl2
    clear hm6
    obtain ⟨s6, hs6⟩ : ∃ s6 : LS, s6 = { s5 with nms := s5.nms ++ [name] } := ⟨_, rfl⟩
    rw [← hs6] at hst
    -- its tree
    have c1 := hst.cells 9
    have hc := hst.cells 2
    have hd := hst.quiet (Keep.drew w9)
    have hcapT := hst.cap (E := NdE) (A := PA) (c := pc) (xs := T) 0
    refine Wp.seq (Wp.mid (fun ρ ds w' => ds = [] ∧ (∃ m7 : LM, m7.trs.map ts1 = s6.trs ++ [wcutS T incl] ∧ St w0 [] w' (Ch.cells ba1 27 ft0.cs :: (ChV b bl br ms mr set { s6 with trs := s6.trs ++ [wcutS T incl] } m7 ++ (trows m7.trs ++ D)))) ∧ Sub [(4, PB ba1)] ρ) ?_ ?_)
    · have hfin : ∀ (w' : World) (O : Option Addr) (co : Nat) (TA : Option Addr) (tc : Nat) {C : Chunk}, St w0 [] w' ([Ch.cells b 60 [.map (some ms), .map (some mr), .slice m6.O s6.opn.length m6.oc, .slice m6.Nm s6.nms.length m6.nc, .slice TA (m6.trs ++ [(O, co, wcutS T incl)]).length tc, .slice m6.C s6.cyc.length m6.cc], Ch.row TsE 38 TA tc (m6.trs ++ [(O, co, wcutS T incl)]), C, Ch.row NdE 62 O co (wcutS T incl), Ch.cells ba1 27 ft0.cs, Ch.mp KyS VF ms set, Ch.mp KyS VI mr s6.rd, Ch.row StE 9 m6.O m6.oc s6.opn, Ch.row StE 9 m6.Nm m6.nc s6.nms, Ch.row StE 9 m6.C m6.cc s6.cyc, Ch.cells bl 54 [PB b], Ch.cells br 98 [rdF bl br]] ++ (trows m6.trs ++ D)) →
          ∃ m7 : LM, m7.trs.map ts1 = s6.trs ++ [wcutS T incl] ∧ St w0 [] w' (Ch.cells ba1 27 ft0.cs :: (ChV b bl br ms mr set { s6 with trs := s6.trs ++ [wcutS T incl] } m7 ++ (trows m7.trs ++ D))) := by
        intro w' O co TA tc C h
        refine ⟨{ m6 with T := TA, tc := tc, trs := m6.trs ++ [(O, co, wcutS T incl)] }, ?_, ?_⟩
        · have e6 : s6.trs = s2.trs := by rw [hs6]; exact e5.2.1
          simp only [List.map_append, List.map_cons, List.map_nil]
          rw [ht2, e6]
        · have h2 := h.pickT (P := [_, _, _, _, _, _, _, _, _, _, _, _]) (T := trows m6.trs ++ D) [4, 0, 5, 6, 7, 8, 1, 9, 10, 11, 3]
          have h3 : St w0 [] w' ([_, _, _, _, _, _, _, _, _, _] ++ (trow (O, co, wcutS T incl) :: (trows m6.trs ++ D))) := h2
          have h4 := h3.perm ((List.perm_middle (l₁ := trows m6.trs) (l₂ := D) (a := trow (O, co, wcutS T incl))).symm.append_left [_, _, _, _, _, _, _, _, _, _])
          have e7 : trows (m6.trs ++ [(O, co, wcutS T incl)]) ++ D = trows m6.trs ++ (trow (O, co, wcutS T incl) :: D) := by unfold trows; simp
          show St w0 [] w' (_ :: (ChV b bl br ms mr set _ _ ++ (trows (m6.trs ++ [(O, co, wcutS T incl)]) ++ D)))
          rw [e7]
          exact h4
      have hwc := fun w' (k : Keep w9 w') => wcut_cx PA pc T w' ((hst.rd 0).keep k) hcapT hT0 (by omega) hdT
      refine Wp.drawsB [8, 11] mixed (WDB.rd (is := [1, 2, 3, 4, 5]) (fun _ _ _ _ _ h => h) (Keep.refl _) (Keep.drew _) (Rn.s rfl (Yv.ld (c1.at_ 0)) (Rn.s rfl Yv.nc (Rn.s rfl (Yv.fa (off := 4)) (Rn.s rfl (Yv.ld (hc.at_ 4)) (Rn.s rfl Yv.mv (Rn.nil)))))) ?_)
      refine WDB.act2 0 6 (hci := rfl) (hcj := rfl) (hi := Ef.yv (Yv.ld ((hd.cells 9).at_ 0)) ⟨fun _ h => h, ?_⟩) (hj := Ef.callv Tryz.func75 (Calls.mono (hwc _ (Keep.drew _)) ?_))
      · refine WDB.act 6 (hc := rfl) (he := Ef.callv Tryz.func75 (Calls.mono (hwc _ (Keep.drew _)) ?_))
        rintro e wW3 ⟨OW3, cW3, rfl, kW3, hV3⟩; have hW3 := wcut_st hd kW3 hV3; refine ⟨fun _ h => h.trans kW3, ?_⟩
        refine WDB.act 7 (hc := rfl) (he := Ef.bsl (T := 38) TsE [((OW3, cW3, wcutS T incl) : Tr)] hW3 (fun bA4 wA4 kA4 hsA4 => ⟨fun _ h => h.trans kA4, ?_⟩))
        refine WDB.act 8 (hc := rfl) (he := Ef.append (ys := [((OW3, cW3, wcutS T incl) : Tr)]) hsA4 8 (hsA4.rd 0) (by simp) (.inl (by simp only [List.length_cons, List.length_nil]; omega)) (fun AB5 cB5 wB5 hsB5 => ⟨fun h => (h (by simp)).elim, ?_⟩))
        refine WDB.rd0 (is := [9, 10]) (fun _ _ _ _ _ h => h) (Keep.refl _) (Rn.s rfl Yv.nc (Rn.s rfl (Yv.fa (off := 4)) (Rn.nil))) ?_
        refine WDB.act 11 (hc := rfl) (he := Ef.store hsB5 4 (fun wC6 hsC6 => ⟨fun h => (h (by simp)).elim, WDB.done ?_⟩))
        exact ⟨rfl, hfin _ OW3 cW3 AB5 cB5 hsC6, rfl, trivial⟩
      · rintro e wW2 ⟨OW2, cW2, rfl, kW2, hV2⟩; have hW2 := wcut_st hd kW2 hV2; refine ⟨fun _ h => h.trans kW2, ?_⟩
        refine WDB.act2 0 7 (hci := rfl) (hcj := rfl) (hi := Ef.yv (Yv.ld ((hW2.cells 9).at_ 0)) ⟨fun _ h => h, ?_⟩) (hj := Ef.bsl (T := 38) TsE [((OW2, cW2, wcutS T incl) : Tr)] hW2 (fun bA8 wA8 kA8 hsA8 => ⟨fun _ h => h.trans kA8, ?_⟩))
        · refine WDB.act 7 (hc := rfl) (he := Ef.bsl (T := 38) TsE [((OW2, cW2, wcutS T incl) : Tr)] hW2 (fun bA9 wA9 kA9 hsA9 => ⟨fun _ h => h.trans kA9, ?_⟩))
          refine WDB.act 8 (hc := rfl) (he := Ef.append (ys := [((OW2, cW2, wcutS T incl) : Tr)]) hsA9 8 (hsA9.rd 0) (by simp) (.inl (by simp only [List.length_cons, List.length_nil]; omega)) (fun AB10 cB10 wB10 hsB10 => ⟨fun h => (h (by simp)).elim, ?_⟩))
          refine WDB.rd0 (is := [9, 10]) (fun _ _ _ _ _ h => h) (Keep.refl _) (Rn.s rfl Yv.nc (Rn.s rfl (Yv.fa (off := 4)) (Rn.nil))) ?_
          refine WDB.act 11 (hc := rfl) (he := Ef.store hsB10 4 (fun wC11 hsC11 => ⟨fun h => (h (by simp)).elim, WDB.done ?_⟩))
          exact ⟨rfl, hfin _ OW2 cW2 AB10 cB10 hsC11, rfl, trivial⟩
        · refine WDB.act2 0 8 (hci := rfl) (hcj := rfl) (hi := Ef.yv (Yv.ld ((hsA8.cells 10).at_ 0)) ⟨fun _ h => h, ?_⟩) (hj := Ef.append (ys := [((OW2, cW2, wcutS T incl) : Tr)]) hsA8 8 (hsA8.rd 0) (by simp) (.inl (by simp only [List.length_cons, List.length_nil]; omega)) (fun AB13 cB13 wB13 hsB13 => ⟨fun h => (h (by simp)).elim, ?_⟩))
          · refine WDB.act 8 (hc := rfl) (he := Ef.append (ys := [((OW2, cW2, wcutS T incl) : Tr)]) hsA8 8 (hsA8.rd 0) (by simp) (.inl (by simp only [List.length_cons, List.length_nil]; omega)) (fun AB14 cB14 wB14 hsB14 => ⟨fun h => (h (by simp)).elim, ?_⟩))
            refine WDB.rd0 (is := [9, 10]) (fun _ _ _ _ _ h => h) (Keep.refl _) (Rn.s rfl Yv.nc (Rn.s rfl (Yv.fa (off := 4)) (Rn.nil))) ?_
            refine WDB.act 11 (hc := rfl) (he := Ef.store hsB14 4 (fun wC15 hsC15 => ⟨fun h => (h (by simp)).elim, WDB.done ?_⟩))
            exact ⟨rfl, hfin _ OW2 cW2 AB14 cB14 hsC15, rfl, trivial⟩
          · refine WDB.act 0 (hc := rfl) (he := Ef.yv (Yv.ld ((hsB13.cells 10).at_ 0)) ⟨fun _ h => h, ?_⟩)
            refine WDB.rd0 (is := [9, 10]) (fun _ _ _ _ _ h => h) (Keep.refl _) (Rn.s rfl Yv.nc (Rn.s rfl (Yv.fa (off := 4)) (Rn.nil))) ?_
            refine WDB.act 11 (hc := rfl) (he := Ef.store hsB13 4 (fun wC17 hsC17 => ⟨fun h => (h (by simp)).elim, WDB.done ?_⟩))
            exact ⟨rfl, hfin _ OW2 cW2 AB13 cB13 hsC17, rfl, trivial⟩
    clear hst hd hc c1
    rintro ρ ds w10 ⟨rfl, ⟨m7, hm7, hst⟩, hsub⟩
    refine Wp.forget _ ?_ hsub
    clear hsub ρ
    refine Wp.seq (Wp.regionL (l := [0, 1]) (WO.rd (is := [0]) (js := [1]) (Keep.refl _) (Rn.s rfl (Yv.bd (cs := ft0.cs)) (Rn.nil)) (WO.act (hc := rfl) (he := Ef.stores hst 0 (fun wx1 hsx1 => WO.done ?_)))))
    refine Wp.ret (Fin.ret (resCA rfl rfl (hsx1.cells 0)) ?_)
    have ew : w64 ((alook name s2.rd).getD 0 + 1) = (alook name s2.rd).getD 0 + 1 := by rw [hgd0]; decide
    have eD : doneS s2 name T = { s6 with trs := s6.trs ++ [wcutS T incl] } := by
      unfold doneS
      rw [hs6, ew]
      obtain ⟨x1, x2, x3, x4, x5⟩ := e5
      rw [← x1, ← x2, ← x3, ← x4, ← x5]
    rw [if_neg hq1, if_neg hq2, if_neg (fun q => q rfl), eD]
    exact ⟨rfl, m7, hm7, hsx1.pickT (P := [_, _, _, _, _, _, _, _, _, _]) (T := trows m7.trs ++ D) [1, 2, 3, 4, 5, 6, 7, 8, 9]⟩
end Go.Proofs.YtgjhbapbomdpbaaGreatDoor.C
/- Files that include files: plain laws: a tree's texts are no longer than the text; a file's name decides nothing but the places; what a set's lookups decide. -/
set_option linter.unusedVariables false
set_option linter.unusedSimpArgs false
set_option maxRecDepth 10000
namespace Go.Proofs.YtgjhbapbomdpbaaGreatDoor.C
open Go.RowKit Go.Proofs.YtgjhbapbomdpbaaGreatDoor.Sh
/-! ### a tree's texts are no longer than the text -/
theorem lineOf_le {n : Nat} {l : Bs} {x : Ln} (h : lineOf n l = some x) : x.text.length ≤ l.length := by
  unfold lineOf at h
  simp only at h
  split at h
  · cases h
  · injection h with h
    subst h
    exact trimB_le l 32
theorem linesR_le (m : Nat) : ∀ (xs : List (Nat × Bs)) (acc : List Ln), (∀ x ∈ xs, x.2.length ≤ m) → (∀ l ∈ acc, l.text.length ≤ m) → ∀ l ∈ (linesR xs acc).ls, l.text.length ≤ m
  | [], acc, _, h => by simpa only [linesR] using h
  | (n, l) :: xs, acc, hx, h => by
    have hl := hx (n, l) (by simp)
    have hxs : ∀ x ∈ xs, x.2.length ≤ m := fun x hm => hx x (List.mem_cons_of_mem _ hm)
    simp only [linesR]
    split
    · simp
    split
    · simp
    · cases hlo : lineOf n l with
      | none => exact linesR_le m xs acc hxs h
      | some x =>
        refine linesR_le m xs (acc ++ [x]) hxs (fun y hm => ?_)
        rcases List.mem_append.1 hm with hm | hm
        · exact h y hm
        · obtain rfl := List.mem_singleton.1 hm
          have := lineOf_le hlo
          simp only at hl
          omega
theorem linesS_le (s : Bs) : ∀ l ∈ (linesS s).ls, l.text.length ≤ s.length := by
  unfold linesS
  split
  · simp
  · refine linesR_le s.length (rawFrom 1 s) [] (fun x hx => ?_) (by simp)
    obtain ⟨k, hk⟩ := List.mem_iff_getElem?.1 hx
    exact (raw_line_le s k x hk).1
theorem tailS_v {s : Bs} {n : Nat} {key : Bs} {a : Int} {o : Ct} (h : tailS s n key = .ok a o) : o.value = [] := by
  unfold tailS at h
  split at h
  · cases h
  split at h
  · cases h
  · injection h with _ h; subst h; rfl
theorem headS_v {s : Bs} {a : Int} {o : Ct} (h : headS s = .ok a o) : o.value = [] := by
  unfold headS at h
  split at h
  · injection h with _ h; subst h; rfl
  split at h
  · split at h
    · split at h
      · cases h
      · exact tailS_v h
    · cases h
  · split at h
    · exact tailS_v h
    · cases h
theorem trimR_le (l : Bs) (c : UInt8) : (Lib.trimRightB l c).length ≤ l.length := by
  unfold Lib.trimRightB
  have h2 := (List.dropWhile_sublist (fun x => x == c) (l := l.reverse)).length_le
  simp only [List.length_reverse] at h2 ⊢
  omega
theorem bareS_v (s : Bs) (a : Nat) (o : Ct) (h : o.value = []) : (bareS s a o).value.length ≤ s.length := by
  unfold bareS
  simp only
  split
  · simp only [h]; simp
  split
  · simp only [h]; simp
  · have h1 := trimR_le (Lib.cut (s.drop a) [32, 35]).1 32
    have h2 := cut_fst_le (s.drop a) [32, 35]
    simp only [List.length_drop] at h2
    simp only
    omega
theorem valueS_v {s : Bs} {a : Nat} {o : Ct} {a' : Int} {o' : Ct} (h : valueS s a o = .ok a' o') (h0 : o.value = []) : o'.value.length ≤ s.length := by
  unfold valueS at h
  split at h
  · injection h with _ h; subst h; rw [h0]; simp
  split at h
  · injection h with _ h; subst h; exact bareS_v s a _ h0
  split at h
  · split at h
    · cases h
    · injection h with _ h; subst h
      have := (quoteR_bd (s.drop a)).2.2
      simp only [List.length_drop] at this
      simp only
      omega
  · cases h
theorem readC_v (s : Bs) : (readC s).1.value.length ≤ s.length := by
  unfold readC
  cases h1 : headS s with
  | err why col => simp
  | ok a o =>
    simp only
    cases h2 : valueS s (gapN s a.toNat) o with
    | err why col => simp
    | ok a' o' => exact valueS_v h2 (headS_v h1)
theorem nodes1_tx (nodes : List Nd) (last : Bool) (ind : Int) (l : Ln) (o : Ct) : (nodes1 nodes last ind l o).map Nd.text = nodes.map Nd.text := by
  unfold nodes1
  split
  · rw [List.map_set]
    refine List.ext_getElem? fun i => ?_
    by_cases hi : nodes.length - 1 = i
    · subst hi
      by_cases hl : nodes.length - 1 < nodes.length
      · simp [hl, List.getElem?_eq_getElem hl, Nd.kd]
      · have : nodes = [] := List.eq_nil_of_length_eq_zero (by omega)
        subst this; rfl
    · rw [List.getElem?_set_ne hi]
  · rfl
theorem enterS_nodes (nodes : List Nd) (st : List OB) (last : Bool) (ind : Int) (l : Ln) (o : Ct) : (enterS nodes st last ind l o).2.1 = [] ∨ (enterS nodes st last ind l o).2.1 = nodes1 nodes last ind l o := by
  unfold enterS
  split
  · exact .inl rfl
  split
  · exact .inl rfl
  split
  · exact .inl rfl
  split
  · exact .inl rfl
  split
  · exact .inl rfl
  · exact .inr rfl
theorem goS_txt (file : Bs) (m : Nat) : ∀ (ls : List Ln) (nodes : List Nd) (st : List OB) (last : Bool) (ind : Int), (∀ l ∈ ls, l.text.length ≤ m) → (∀ x ∈ nodes.map Nd.text, x.length ≤ m) → ∀ x ∈ (goS file ls nodes st last ind).1.map Nd.text, x.length ≤ m
  | [], nodes, st, last, ind, _, h => by simpa only [goS] using h
  | l :: ls, nodes, st, last, ind, hl, h => by
    rw [goS]
    split
    · simp
    split
    · simp
    · refine goS_txt file m ls _ _ _ _ (fun x hx => hl x (List.mem_cons_of_mem _ hx)) (fun x hx => ?_)
      rw [List.map_append] at hx
      rcases List.mem_append.1 hx with hx | hx
      · rcases enterS_nodes nodes st last ind l (readC l.text).1 with e | e
        · rw [e] at hx; cases hx
        · rw [e, nodes1_tx] at hx; exact h x hx
      · simp only [List.map_cons, List.map_nil, List.mem_singleton] at hx
        rw [hx]
        have h1 := readC_v l.text
        have h2 := hl l (List.mem_cons_self ..)
        show (readC l.text).1.value.length ≤ m
        omega
theorem parseS_txt (file s : Bs) : ∀ n ∈ (parseS file s).1, n.text.length ≤ s.length := by
  unfold parseS
  split
  · simp
  · intro n hn
    exact goS_txt file s.length (linesS s).ls [nd0 file] [ob0] false 0 (linesS_le s) (by simp) n.text (List.mem_map_of_mem hn)
/-! ### a file's name decides nothing but the places -/
def Nd.fl (f : Bs) (n : Nd) : Nd := ⟨n.kind, n.depth, n.key, n.text, f, n.line, n.col, n.val⟩
theorem nodes1_fl (f : Bs) (nodes : List Nd) (last : Bool) (ind : Int) (l : Ln) (o : Ct) : nodes1 (nodes.map (Nd.fl f)) last ind l o = (nodes1 nodes last ind l o).map (Nd.fl f) := by
  unfold nodes1
  split
  · rw [List.map_set, List.length_map]
    cases hn : nodes with
    | nil => rfl
    | cons x r =>
      have hl : (x :: r).length - 1 < (x :: r).length := by simp
      congr 1
      rw [List.getD_eq_getElem?_getD, List.getD_eq_getElem?_getD, List.getElem?_map, List.getElem?_eq_getElem hl]
      rfl
  · rfl
theorem enterS_fl (f : Bs) (nodes : List Nd) (st : List OB) (last : Bool) (ind : Int) (l : Ln) (o : Ct) : enterS (nodes.map (Nd.fl f)) st last ind l o = ((enterS nodes st last ind l o).1, (enterS nodes st last ind l o).2.1.map (Nd.fl f), (enterS nodes st last ind l o).2.2) := by
  unfold enterS
  rw [nodes1_fl, List.length_map]
  split
  · rfl
  split
  · rfl
  split
  · rfl
  split
  · rfl
  split
  · rfl
  · rfl
theorem goS_fl (f g : Bs) : ∀ (ls : List Ln) (nodes : List Nd) (st : List OB) (last : Bool) (ind : Int), (goS g ls (nodes.map (Nd.fl g)) st last ind).1 = (goS f ls nodes st last ind).1.map (Nd.fl g) ∧ (goS g ls (nodes.map (Nd.fl g)) st last ind).2.code = (goS f ls nodes st last ind).2.code
  | [], nodes, st, last, ind => ⟨rfl, rfl⟩
  | l :: ls, nodes, st, last, ind => by
    rw [goS, goS, enterS_fl]
    by_cases h1 : (readC l.text).2.2 ≠ 0
    · rw [if_pos h1, if_pos h1]; exact ⟨rfl, rfl⟩
    rw [if_neg h1, if_neg h1]
    by_cases h2 : (enterS nodes st last ind l (readC l.text).1).1 ≠ 0
    · rw [if_pos h2, if_pos h2]; exact ⟨rfl, rfl⟩
    rw [if_neg h2, if_neg h2]
    have := goS_fl f g ls ((enterS nodes st last ind l (readC l.text).1).2.1 ++ [nodeS f (enterS nodes st last ind l (readC l.text).1).2.2.length l (readC l.text).1]) (enterS nodes st last ind l (readC l.text).1).2.2 (!(readC l.text).1.has) l.indent
    rw [List.map_append] at this
    exact this
theorem parseS_fl (f g s : Bs) : (parseS g s).1 = (parseS f s).1.map (Nd.fl g) ∧ (parseS g s).2.code = (parseS f s).2.code := by
  unfold parseS
  split
  · exact ⟨rfl, rfl⟩
  · exact goS_fl f g (linesS s).ls [nd0 f] [ob0] false 0
theorem parseS_file (f s : Bs) : ∀ n ∈ (parseS f s).1, n.file = f := by
  intro n hn
  rw [(parseS_fl f f s).1] at hn
  obtain ⟨x, _, rfl⟩ := List.mem_map.1 hn
  rfl
/-! ### what a set's lookups decide -/
theorem aput_len {k : Bs} (v : Fl) : ∀ l : List (Bs × Fl), (aput k v l).length = if (alook k l).isSome then l.length else l.length + 1
  | [] => rfl
  | (a, u) :: l => by
    have ih := aput_len (k := k) v l
    by_cases h : a = k
    · simp [aput, alook, h]
    · have e1 : alook k ((a, u) :: l) = alook k l := by simp [alook, h]
      have e2 : aput k v ((a, u) :: l) = (a, u) :: aput k v l := by simp [aput, h]
      rw [e1, e2, List.length_cons, ih]
      split <;> simp
abbrev foldF (fs : List Fl) (m : List (Bs × Fl)) : List (Bs × Fl) := fs.foldl (fun m f => aput f.name f m) m
theorem foldF_le : ∀ (fs : List Fl) (m : List (Bs × Fl)), (foldF fs m).length ≤ m.length + fs.length
  | [], m => by simp [foldF]
  | f :: fs, m => by
    have h := foldF_le fs (aput f.name f m)
    rw [aput_len] at h
    show (foldF fs (aput f.name f m)).length ≤ _
    simp only [List.length_cons]
    split at h <;> omega
theorem foldF_eq : ∀ (fs : List Fl) (m : List (Bs × Fl)), (foldF fs m).length = m.length + fs.length ↔ (fs.map Fl.name).Nodup ∧ ∀ f ∈ fs, alook f.name m = none
  | [], m => by simp [foldF]
  | f :: fs, m => by
    have hle := foldF_le fs (aput f.name f m)
    have ih := foldF_eq fs (aput f.name f m)
    show (foldF fs (aput f.name f m)).length = _ ↔ _
    rw [aput_len] at ih hle
    simp only [List.length_cons, List.map_cons, List.nodup_cons]
    by_cases h : (alook f.name m).isSome
    · rw [if_pos h] at hle
      constructor
      · intro q; omega
      · rintro ⟨_, q⟩
        rw [q f (List.mem_cons_self ..)] at h
        cases h
    · rw [if_neg h] at ih
      have hn : alook f.name m = none := by simpa using h
      rw [show m.length + (fs.length + 1) = m.length + 1 + fs.length by omega, ih]
      constructor
      · rintro ⟨q1, q2⟩
        have q3 : ∀ g ∈ fs, f.name ≠ g.name ∧ alook g.name m = none := by
          intro g hg
          have := q2 g hg
          rw [alook_aput] at this
          split at this
          · cases this
          · exact ⟨by assumption, this⟩
        refine ⟨⟨?_, q1⟩, ?_⟩
        · intro hm
          obtain ⟨g, hg, e⟩ := List.mem_map.1 hm
          exact (q3 g hg).1 e.symm
        · intro g hg
          rcases List.mem_cons.1 hg with rfl | hg
          · exact hn
          · exact (q3 g hg).2
      · rintro ⟨⟨q1, q2⟩, q3⟩
        refine ⟨q2, fun g hg => ?_⟩
        rw [alook_aput, if_neg]
        · exact q3 g (List.mem_cons_of_mem _ hg)
        · intro e
          exact q1 (e ▸ List.mem_map_of_mem hg)
theorem foldF_out {key : Bs} : ∀ (fs : List Fl) (m : List (Bs × Fl)), key ∉ fs.map Fl.name → alook key (foldF fs m) = alook key m
  | [], m, _ => rfl
  | f :: fs, m, h => by
    simp only [List.map_cons, List.mem_cons, not_or] at h
    have := foldF_out fs (aput f.name f m) h.2
    rw [alook_aput, if_neg (fun e => h.1 e.symm)] at this
    exact this
theorem foldF_in : ∀ (fs : List Fl) (m : List (Bs × Fl)), (fs.map Fl.name).Nodup → ∀ f ∈ fs, alook f.name (foldF fs m) = some f
  | [], m, _, f, h => by cases h
  | g :: fs, m, h, f, hf => by
    rw [List.map_cons, List.nodup_cons] at h
    show alook f.name (foldF fs (aput g.name g m)) = some f
    rcases List.mem_cons.1 hf with rfl | hf
    · rw [foldF_out fs _ h.1, alook_aput, if_pos rfl]
    · exact foldF_in fs _ h.2 f hf
theorem setS_nodup (files : List Fl) : ¬ (setS files).length < files.length ↔ (files.map Fl.name).Nodup := by
  have h1 := foldF_le files []
  have h2 := foldF_eq files []
  have e : setS files = foldF files [] := rfl
  rw [e]
  simp only [List.length_nil, Nat.zero_add] at h1 h2
  constructor
  · intro h; exact (h2.1 (by omega)).1
  · intro h
    have := h2.2 ⟨h, fun _ _ => rfl⟩
    omega
theorem setS_some {files : List Fl} {key : Bs} {f : Fl} (h : alook key (setS files) = some f) (hn : (files.map Fl.name).Nodup) : f ∈ files ∧ f.name = key := by
  by_cases hk : key ∈ files.map Fl.name
  · obtain ⟨g, hg, rfl⟩ := List.mem_map.1 hk
    have := foldF_in files [] hn g hg
    have e : setS files = foldF files [] := rfl
    rw [e, this] at h
    injection h with h
    subst h
    exact ⟨hg, rfl⟩
  · have := foldF_out files [] hk
    have e : setS files = foldF files [] := rfl
    rw [e, this] at h
    cases h
theorem setS_none {files : List Fl} {key : Bs} (h : key ∉ files.map Fl.name) : alook key (setS files) = none := foldF_out files [] h
theorem setS_in {files : List Fl} (hn : (files.map Fl.name).Nodup) {f : Fl} (h : f ∈ files) : alook f.name (setS files) = some f := foldF_in files [] hn f h
/-- two lists of files with the same files, but for one name -/
theorem setS_congr {fs gs : List Fl} (hf : (fs.map Fl.name).Nodup) (hg : (gs.map Fl.name).Nodup) {lone : Bs} (h : ∀ f : Fl, f.name ≠ lone → (f ∈ fs ↔ f ∈ gs)) {key : Bs} (hk : key ≠ lone) : alook key (setS fs) = alook key (setS gs) := by
  by_cases h1 : key ∈ fs.map Fl.name
  · obtain ⟨f, hm, rfl⟩ := List.mem_map.1 h1
    rw [setS_in hf hm, setS_in hg ((h f hk).1 hm)]
  · rw [setS_none h1, setS_none]
    intro h2
    obtain ⟨f, hm, rfl⟩ := List.mem_map.1 h2
    exact h1 (List.mem_map_of_mem ((h f hk).2 hm))
/-- the names that are met are a tree's texts -/
theorem namesS_mem (t : List Nd) : ∀ n ∈ (namesS t).1, n ∈ t := by
  unfold namesS
  split
  · simp
  rename_i h
  split
  · simp
  · intro n hn
    have h0 : 0 < t.length := by
      cases t with
      | nil => exact (h (by decide)).elim
      | cons a r => simp
    have hb := findS_bd h0 incl
    obtain ⟨m, hm⟩ : ∃ m : Nat, findS t 0 incl = m := ⟨(findS t 0 incl).toNat, by omega⟩
    rw [hm, Int.toNat_natCast] at hn
    rw [hm] at hb
    obtain ⟨x, hx, rfl⟩ := List.mem_map.1 hn
    have := (textsS_mem (by omega)).1 x hx
    rw [nth_nat, List.getD_eq_getElem?_getD, List.getElem?_eq_getElem this]
    exact List.getElem_mem this
theorem mayS_congr {set set' : List (Bs × Fl)} {n : Nd} (h : alook n.text set = alook n.text set') (s : LS) : mayS set s n = mayS set' s n := by
  unfold mayS
  rw [h]
theorem visL_congr {set set' : List (Bs × Fl)} {m : Nat} (h : ∀ key : Bs, key.length ≤ m → alook key set = alook key set') {rd rd' : LS → Bs → LS × Ft} (hr : ∀ s (key : Bs), key.length ≤ m → rd s key = rd' s key) : ∀ (ns : List Nd) (s : LS), (∀ n ∈ ns, n.text.length ≤ m) → visL rd set ns s = visL rd' set' ns s
  | [], s, _ => rfl
  | n :: r, s, hn => by
    have h1 := hn n (List.mem_cons_self ..)
    have ih := fun s => visL_congr h hr r s (fun x hx => hn x (List.mem_cons_of_mem _ hx))
    rw [visL, visL, mayS_congr (h _ h1), hr _ _ h1, ih, ih]
theorem loadF_congr {set set' : List (Bs × Fl)} {m : Nat} (h : ∀ key : Bs, key.length ≤ m → alook key set = alook key set') (ht : ∀ key f, alook key set' = some f → f.text.length ≤ m) : ∀ (f : Nat) (s : LS) (name : Bs), name.length ≤ m → loadF set f s name = loadF set' f s name
  | 0, _, _, _ => rfl
  | f + 1, s, name, hn => by
    have e : fileS set name = fileS set' name := by unfold fileS; rw [h _ hn]
    have hl : (fileS set' name).length ≤ m := by
      unfold fileS
      cases q : alook name set' with
      | none => simp
      | some g => exact ht name g q
    have hv : ∀ s, visL (loadF set f) set (namesS (parseS name (fileS set' name)).1).1 s = visL (loadF set' f) set' (namesS (parseS name (fileS set' name)).1).1 s := fun s =>
      visL_congr h (fun s key hk => loadF_congr h ht f s key hk) _ s (fun n hm => Nat.le_trans (parseS_txt _ _ n (namesS_mem _ n hm)) hl)
    rw [loadF, loadF, e, hv]
/-- what include.load's own refusals leave -/
theorem loadS_ok {files : List Fl} {root : Bs} (h : (loadS files root).2.code ≠ 70) : files.length ≤ 64 ∧ (files.map Fl.name).Nodup := by
  unfold loadS at h
  split at h
  · exact (h rfl).elim
  · rename_i q
    rw [not_or] at q
    exact ⟨by omega, (setS_nodup files).1 q.2⟩
/-! ### the order of files, and a file that nobody includes -/
def loneN (files : List Fl) (root : Bs) : Nat := files.foldl (fun n f => max (max n f.name.length) f.text.length) root.length
theorem loneN_le : ∀ (files : List Fl) (n : Nat), n ≤ files.foldl (fun n f => max (max n f.name.length) f.text.length) n ∧ ∀ f ∈ files, f.name.length ≤ files.foldl (fun n f => max (max n f.name.length) f.text.length) n ∧ f.text.length ≤ files.foldl (fun n f => max (max n f.name.length) f.text.length) n
  | [], n => by simp
  | g :: fs, n => by
    obtain ⟨h1, h2⟩ := loneN_le fs (max (max n g.name.length) g.text.length)
    simp only [List.foldl_cons]
    refine ⟨by omega, fun f hf => ?_⟩
    rcases List.mem_cons.1 hf with rfl | hf
    · omega
    · exact h2 f hf
def loneS (files : List Fl) (root : Bs) : Bs := List.replicate (loneN files root + 1) 120
theorem sets_law {files : List Fl} {root : Bs} (h : (loadS files root).2.code ≠ 70) : loadS files.reverse root = loadS files root := by
  obtain ⟨h1, h2⟩ := loadS_ok h
  have hr : (files.reverse.map Fl.name).Nodup := by rw [List.map_reverse]; exact (List.reverse_perm _).nodup_iff.2 h2
  have hk : ∀ key, alook key (setS files.reverse) = alook key (setS files) := fun key =>
    setS_congr (lone := 0 :: key) hr h2 (fun f _ => by rw [List.mem_reverse]) (fun e => by have := congrArg List.length e; simp at this)
  obtain ⟨g1, g2⟩ := loneN_le files root.length
  have hl := loadF_congr (m := loneN files root) (fun key _ => hk key) (fun key f hs => (g2 f (setS_some hs h2).1).2) 16 ls0 root g1
  have e1 : (setS files.reverse).length = (setS files).length := by
    have q1 := mt (setS_nodup files.reverse).2
    have q2 := (setS_nodup files.reverse).2 hr
    have q3 := (setS_nodup files).2 h2
    have q4 := foldF_le files []
    have q5 := foldF_le files.reverse []
    simp only [List.length_nil, Nat.zero_add, List.length_reverse] at q2 q4 q5
    have q6 : (setS files).length ≤ files.length := q4
    have q7 : (setS files.reverse).length ≤ files.length := q5
    omega
  unfold loadS
  rw [List.length_reverse, e1, hk, hl]
theorem lone_law {files : List Fl} {root : Bs} (more : Bs) (k : Nat) (h : (loadS files root).2.code ≠ 70) (hl : files.length < 64) :
    loadS (files.take k ++ ⟨loneS files root, more⟩ :: files.drop k) root = loadS files root := by
  obtain ⟨h1, h2⟩ := loadS_ok h
  obtain ⟨g1, g2⟩ := loneN_le files root.length
  have hp : (files.take k ++ ⟨loneS files root, more⟩ :: files.drop k).Perm (⟨loneS files root, more⟩ :: files) := by
    have := List.perm_middle (l₁ := files.take k) (l₂ := files.drop k) (a := (⟨loneS files root, more⟩ : Fl))
    rwa [List.take_append_drop] at this
  have hlen : ∀ key : Bs, key.length ≤ loneN files root → key ≠ loneS files root := by
    rintro key hk rfl
    unfold loneS at hk
    rw [List.length_replicate] at hk
    omega
  have hn : ((files.take k ++ ⟨loneS files root, more⟩ :: files.drop k).map Fl.name).Nodup := by
    rw [(hp.map Fl.name).nodup_iff, List.map_cons, List.nodup_cons]
    refine ⟨fun hm => ?_, h2⟩
    obtain ⟨g, hg, e⟩ := List.mem_map.1 hm
    exact hlen g.name (g2 g hg).1 e
  have hk : ∀ key : Bs, key.length ≤ loneN files root → alook key (setS (files.take k ++ ⟨loneS files root, more⟩ :: files.drop k)) = alook key (setS files) := fun key hl =>
    setS_congr (lone := loneS files root) hn h2 (fun f hf => by
      rw [hp.mem_iff, List.mem_cons]
      constructor
      · rintro (rfl | q)
        · exact (hf rfl).elim
        · exact q
      · exact .inr) (hlen key hl)
  have hlf := loadF_congr (m := loneN files root) hk (fun key f hs => (g2 f (setS_some hs h2).1).2) 16 ls0 root g1
  have q1 := (setS_nodup _).2 hn
  have q2 := (setS_nodup files).2 h2
  have e1 : (files.take k ++ (⟨loneS files root, more⟩ : Fl) :: files.drop k).length = files.length + 1 := by rw [hp.length_eq]; rfl
  have q3 : ¬ (64 < (files.take k ++ (⟨loneS files root, more⟩ : Fl) :: files.drop k).length ∨ (setS (files.take k ++ (⟨loneS files root, more⟩ : Fl) :: files.drop k)).length < (files.take k ++ (⟨loneS files root, more⟩ : Fl) :: files.drop k).length) := by
    rw [not_or]
    exact ⟨by rw [e1]; omega, q1⟩
  have q4 : ¬ (64 < files.length ∨ (setS files).length < files.length) := by
    rw [not_or]
    exact ⟨by omega, q2⟩
  unfold loadS
  rw [if_neg q3, if_neg q4, hk root g1, hlf]
end Go.Proofs.YtgjhbapbomdpbaaGreatDoor.C
/- Files that include files: plain laws: each file stands once, behind all that it includes; a cycle that is told is one. -/
set_option linter.unusedVariables false
set_option linter.unusedSimpArgs false
set_option maxRecDepth 10000
namespace Go.Proofs.YtgjhbapbomdpbaaGreatDoor.C
open Go.RowKit Go.Proofs.YtgjhbapbomdpbaaGreatDoor.Sh
def incT (t : List Nd) : List Bs := (namesS t).1.map Nd.text
def trS (set : List (Bs × Fl)) (name : Bs) : List Nd := (parseS name (fileS set name)).1
def ReadOk (set : List (Bs × Fl)) (name : Bs) : Prop := (parseS name (fileS set name)).2.code = 0 ∧ (namesS (trS set name)).2.code = 0
/-! ### each file once, behind all that it includes -/
structure OI (set : List (Bs × Fl)) (s : LS) : Prop where
  len : s.trs.length = s.nms.length
  at_ : ∀ (i : Nat) (name : Bs), s.nms[i]? = some name → ReadOk set name ∧ s.trs[i]? = some (wcutS (trS set name) incl) ∧ ∀ x ∈ incT (trS set name), x ∈ s.nms.take i
theorem mayS_oi {set : List (Bs × Fl)} {s : LS} (h : OI set s) (n : Nd) : OI set (mayS set s n).2.2 := by
  obtain ⟨e1, e2, e3, e4⟩ := mayS_st set s n
  exact ⟨by rw [e3, e4]; exact h.len, by rw [e3, e4]; exact h.at_⟩
theorem mayS_read {set : List (Bs × Fl)} {s : LS} {n : Nd} (h : ¬ (mayS set s n).1 = true) (h2 : (mayS set s n).2.1.code = 0) : 0 < (alook n.text s.rd).getD 0 := by
  unfold mayS at h h2
  split at h
  · rename_i q; rw [if_pos q] at h2; cases h2
  rename_i q; rw [if_neg q] at h2
  split at h
  · rename_i q; rw [if_pos q] at h2; cases h2
  rename_i q; rw [if_neg q] at h2
  split at h
  · assumption
  rename_i q; rw [if_neg q] at h2
  split at h
  · rename_i q; rw [if_pos q] at h2; cases h2
  · exact (h rfl).elim
def GoodO (set : List (Bs × Fl)) (f : Nat) (rd : LS → Bs → LS × Ft) : Prop := ∀ s name, Inv set s → OI set s → 16 ≤ s.opn.length + f → (alook name set).isSome = true → name ∉ s.nms → name ∉ s.opn → s.opn.length < 16 → (rd s name).2.code = 0 → OI set (rd s name).1
theorem visL_oi {set : List (Bs × Fl)} {f : Nat} {rd : LS → Bs → LS × Ft} (hg : Good set f rd) (ho : GoodO set f rd) : ∀ (ns : List Nd) (s : LS), Inv set s → OI set s → 16 ≤ s.opn.length + f → (visL rd set ns s).2.code = 0 → OI set (visL rd set ns s).1 ∧ ∀ n ∈ ns, n.text ∈ (visL rd set ns s).1.nms
  | [], s, h, h1, _, _ => ⟨h1, fun _ q => by cases q⟩
  | n :: r, s, h, h1, hf, he => by
    rw [visL] at he ⊢
    by_cases q1 : (mayS set s n).1 = true
    · rw [if_pos q1] at he ⊢
      obtain ⟨e1, e2, e3, e4, e5, e6⟩ := mayS_true q1
      rw [e1] at he ⊢
      by_cases h2 : (rd s n.text).2.code ≠ 0
      · rw [if_pos h2] at he; exact (h2 he).elim
      · rw [if_neg h2] at he ⊢
        have h3 : (rd s n.text).2.code = 0 := by simpa using h2
        have hnn : n.text ∉ s.nms := fun hm => e5 ((h.rd _).2 hm)
        obtain ⟨g1, g2, g3, more, g4⟩ := hg s n.text h hf e3 hnn e4 e6 h3
        have g5 := ho s n.text h h1 hf e3 hnn e4 e6 h3
        obtain ⟨k1, k2⟩ := visL_oi hg ho r _ g1 g5 (by rw [g2]; exact hf) he
        obtain ⟨_, _, more', k3⟩ := visL_good hg r _ g1 (by rw [g2]; exact hf) he
        refine ⟨k1, fun x hx => ?_⟩
        rcases List.mem_cons.1 hx with rfl | hx
        · rw [k3]; exact List.mem_append_left _ g3
        · exact k2 x hx
    · rw [if_neg q1] at he ⊢
      by_cases h2 : (mayS set s n).2.1.code ≠ 0
      · rw [if_pos h2] at he; exact (h2 he).elim
      · rw [if_neg h2] at he ⊢
        have h3 := mayS_read q1 (by simpa using h2)
        obtain ⟨e1, e2, e3, e4⟩ := mayS_st set s n
        obtain ⟨k1, k2⟩ := visL_oi hg ho r _ (mayS_inv h n) (mayS_oi h1 n) (by rw [e2]; exact hf) he
        obtain ⟨_, _, more', k3⟩ := visL_good hg r _ (mayS_inv h n) (by rw [e2]; exact hf) he
        refine ⟨k1, fun x hx => ?_⟩
        rcases List.mem_cons.1 hx with rfl | hx
        · rw [k3, e3]; exact List.mem_append_left _ ((h.rd _).1 h3)
        · exact k2 x hx
theorem done_oi {set : List (Bs × Fl)} {s : LS} {name : Bs} (h : OI set s) (hr : ReadOk set name) (hi : ∀ x ∈ incT (trS set name), x ∈ s.nms) : OI set (doneS s name (trS set name)) := by
  have hl := h.len
  refine ⟨by show (s.trs ++ [_]).length = (s.nms ++ [_]).length; simp [hl], fun i nm hn => ?_⟩
  have hn : (s.nms ++ [name])[i]? = some nm := hn
  show ReadOk set nm ∧ (s.trs ++ [wcutS (trS set name) incl])[i]? = _ ∧ ∀ x ∈ _, x ∈ (s.nms ++ [name]).take i
  by_cases q : i < s.nms.length
  · rw [List.getElem?_append_left q] at hn
    rw [List.getElem?_append_left (by omega), List.take_append_of_le_length (by omega)]
    exact h.at_ i nm hn
  · have hi2 : i < (s.nms ++ [name]).length := (List.getElem?_eq_some_iff.1 hn).1
    simp only [List.length_append, List.length_cons, List.length_nil] at hi2
    have e : i = s.nms.length := by omega
    subst e
    have e2 : nm = name := by simpa using hn.symm
    subst e2
    refine ⟨hr, ?_, ?_⟩
    · rw [← hl]; simp
    · rw [List.take_left]; exact hi
theorem loadF_oi (set : List (Bs × Fl)) : ∀ f, GoodO set f (loadF set f)
  | 0 => fun s name h _ hf hs hn ho hl _ => by omega
  | f + 1 => fun s name h h1 hf hs hn ho hl he => by
    rw [loadF] at he ⊢
    split at he
    · rename_i q; exact (q he).elim
    rename_i q1
    rw [if_neg q1]
    split at he
    · rename_i q; exact (q he).elim
    rename_i q2
    rw [if_neg q2]
    split at he
    · rename_i q; exact (q he).elim
    rename_i q3
    rw [if_neg q3]
    obtain ⟨g1, g2⟩ := visL_oi (loadF_good set f) (loadF_oi set f) _ (pushS s name) (push_inv h hn) ⟨h1.len, h1.at_⟩ (by simp [pushS]; omega) (by simpa using q3)
    refine done_oi g1 ⟨Decidable.not_not.1 q1, Decidable.not_not.1 q2⟩ (fun x hx => ?_)
    obtain ⟨n, hm, rfl⟩ := List.mem_map.1 hx
    exact g2 n hm
theorem loadF_last {set : List (Bs × Fl)} {f : Nat} {s : LS} {name : Bs} (he : (loadF set (f + 1) s name).2.code = 0) : (loadF set (f + 1) s name).1.nms.getLast? = some name := by
  rw [loadF] at he ⊢
  split at he
  · rename_i q; exact (q he).elim
  rename_i q1
  rw [if_neg q1]
  split at he
  · rename_i q; exact (q he).elim
  rename_i q2
  rw [if_neg q2]
  split at he
  · rename_i q; exact (q he).elim
  rename_i q3
  rw [if_neg q3]
  show (_ ++ [name]).getLast? = some name
  simp
theorem ls0_inv (set : List (Bs × Fl)) : Inv set ls0 := ⟨fun _ => Int.le_refl _, fun key => (by show 0 < (0 : Int) ↔ key ∈ []; simp), List.nodup_nil, fun _ h => (by cases h), fun _ h => (by cases h), rfl⟩
theorem ls0_oi (set : List (Bs × Fl)) : OI set ls0 := ⟨rfl, fun i name h => by cases h⟩
theorem loadS_root {files : List Fl} {root : Bs} (h : (loadS files root).2.code ≠ 70) (h1 : (loadS files root).2.code ≠ 71) : (alook root (setS files)).isSome = true ∧ loadS files root = loadF (setS files) 16 ls0 root := by
  obtain ⟨q1, q2⟩ := loadS_ok h
  unfold loadS at h1 ⊢
  rw [if_neg (by rw [not_or]; exact ⟨by omega, (setS_nodup files).2 q2⟩)] at h1 ⊢
  split at h1
  · exact (h1 rfl).elim
  · rename_i q
    rw [if_neg q]
    exact ⟨(by rw [Bool.not_eq_false] at q; exact q), rfl⟩
theorem order_law {files : List Fl} {root : Bs} (h : (loadS files root).2.code = 0) : Inv (setS files) (loadS files root).1 ∧ OI (setS files) (loadS files root).1 ∧ (loadS files root).1.nms.getLast? = some root := by
  obtain ⟨h1, h2⟩ := loadS_root (files := files) (root := root) (by rw [h]; decide) (by rw [h]; decide)
  rw [h2] at h ⊢
  have hn : root ∉ ls0.nms := fun q => by cases q
  have ho : root ∉ ls0.opn := fun q => by cases q
  exact ⟨(loadF_good (setS files) 16 ls0 root (ls0_inv _) (by decide) h1 hn ho (by decide) h).1, loadF_oi (setS files) 16 ls0 root (ls0_inv _) (ls0_oi _) (by decide) h1 hn ho (by decide) h, loadF_last h⟩
/-! ### a cycle that is told is one -/
theorem linesR_e : ∀ (xs : List (Nat × Bs)) (acc : List Ln), (linesR xs acc).e ≤ 12
  | [], _ => by simp [linesR]
  | (n, l) :: xs, acc => by
    simp only [linesR]
    split
    · simp
    split
    · simp
    · cases lineOf n l with
      | none => exact linesR_e xs acc
      | some x => exact linesR_e xs (acc ++ [x])
theorem linesS_e (s : Bs) : (linesS s).e ≤ 12 := by
  unfold linesS
  split
  · simp
  · exact linesR_e _ _
theorem tailS_e {s : Bs} {n : Nat} {key : Bs} {why col : Int} (h : tailS s n key = .err why col) : why ≤ 22 := by
  unfold tailS at h
  split at h
  · injection h with h _; omega
  split at h
  · injection h with h _; omega
  · cases h
theorem headS_e {s : Bs} {why col : Int} (h : headS s = .err why col) : why ≤ 22 := by
  unfold headS at h
  split at h
  · cases h
  split at h
  · split at h
    · split at h
      · injection h with h _; omega
      · exact tailS_e h
    · injection h with h _; omega
  · split at h
    · exact tailS_e h
    · injection h with h _; omega
theorem valueS_e {s : Bs} {a : Nat} {o : Ct} {why col : Int} (h : valueS s a o = .err why col) : why ≤ 22 := by
  unfold valueS at h
  split at h
  · cases h
  split at h
  · cases h
  split at h
  · split at h
    · injection h with h _; omega
    · cases h
  · injection h with h _; omega
theorem readC_e (s : Bs) : (readC s).2.2 ≤ 22 := by
  unfold readC
  cases h1 : headS s with
  | err why col => exact headS_e h1
  | ok a o =>
    simp only
    cases h2 : valueS s (gapN s a.toNat) o with
    | err why col => exact valueS_e h2
    | ok a' o' => simp
theorem enterS_e (nodes : List Nd) (st : List OB) (last : Bool) (ind : Int) (l : Ln) (o : Ct) : (enterS nodes st last ind l o).1 ≤ 43 := by
  unfold enterS
  split
  · simp
  split
  · simp
  split
  · simp
  split
  · simp
  split
  · simp
  · simp
theorem goS_e (file : Bs) : ∀ (ls : List Ln) (nodes : List Nd) (st : List OB) (last : Bool) (ind : Int), (goS file ls nodes st last ind).2.code ≤ 43
  | [], _, _, _, _ => by simp [goS]
  | l :: ls, nodes, st, last, ind => by
    rw [goS]
    split
    · have := readC_e l.text; simp only; omega
    split
    · exact enterS_e ..
    · exact goS_e file ls ..
theorem parseS_e (file s : Bs) : (parseS file s).2.code ≤ 43 := by
  unfold parseS
  split
  · have := linesS_e s; simp only; omega
  · exact goS_e ..
theorem namesS_e (t : List Nd) : (namesS t).2.code ≤ 72 := by
  unfold namesS
  split
  · simp
  split
  · simp [placeS]
  · simp
def Chn (set : List (Bs × Fl)) (l : List Bs) : Prop := ∀ (i : Nat) (a b : Bs), l[i]? = some a → l[i + 1]? = some b → ReadOk set a ∧ b ∈ incT (trS set a)
structure Cy (set : List (Bs × Fl)) (c : List Bs) (file : Bs) : Prop where
  last : c.getLast? = some file
  nd : c.Nodup
  chn : Chn set c
  ok : ReadOk set file
  back : ∃ x, c[0]? = some x ∧ x ∈ incT (trS set file)
  len : c.length ≤ 16
theorem chn_push {set : List (Bs × Fl)} {l : List Bs} {cur x : Bs} (h : Chn set l) (hl : l.getLast? = some cur) (hr : ReadOk set cur) (hx : x ∈ incT (trS set cur)) : Chn set (l ++ [x]) := by
  intro i a b ha hb
  have hi := (List.getElem?_eq_some_iff.1 hb).1
  simp only [List.length_append, List.length_cons, List.length_nil] at hi
  rw [List.getElem?_append_left (by omega)] at ha
  by_cases q : i + 1 < l.length
  · rw [List.getElem?_append_left q] at hb
    exact h i a b ha hb
  · have e : i + 1 = l.length := by omega
    rw [e] at hb
    have e2 : b = x := by simpa using hb.symm
    have e3 : a = cur := by
      rw [List.getLast?_eq_getElem?, show l.length - 1 = i by omega, ha] at hl
      injection hl
    subst e2 e3
    exact ⟨hr, hx⟩
def GoodC (set : List (Bs × Fl)) (f : Nat) (rd : LS → Bs → LS × Ft) : Prop := ∀ s name, Inv set s → 16 ≤ s.opn.length + f → (alook name set).isSome = true → name ∉ s.nms → name ∉ s.opn → s.opn.length < 16 → s.opn.Nodup → Chn set (s.opn ++ [name]) → (rd s name).2.code = 74 → Cy set (rd s name).1.cyc (rd s name).2.file
theorem mayS_cyc {set : List (Bs × Fl)} {s : LS} {n : Nd} (h : (mayS set s n).2.1.code = 74) : (mayS set s n).2.1.file = n.file ∧ n.text ∈ s.opn ∧ (mayS set s n).2.2.cyc = s.opn.drop (idxS s.opn n.text) := by
  unfold mayS at h ⊢
  split at h
  · cases h
  rename_i q; rw [if_neg q]
  split at h
  · rename_i q; rw [if_pos q]; exact ⟨rfl, q, rfl⟩
  split at h
  · cases h
  split at h
  · cases h
  · cases h
theorem visL_cy {set : List (Bs × Fl)} {f : Nat} {rd : LS → Bs → LS × Ft} (hg : Good set f rd) (hc : GoodC set f rd) (cur : Bs) (hr : ReadOk set cur) : ∀ (ns : List Nd) (s : LS), Inv set s → 16 ≤ s.opn.length + f → s.opn.Nodup → Chn set s.opn → s.opn.getLast? = some cur → s.opn.length ≤ 16 → (∀ n ∈ ns, n.text ∈ incT (trS set cur) ∧ n.file = cur) →
    (visL rd set ns s).2.code = 74 → Cy set (visL rd set ns s).1.cyc (visL rd set ns s).2.file
  | [], s, _, _, _, _, _, _, _, he => by cases he
  | n :: r, s, h, hf, hnd, hch, hla, hol, hns, he => by
    obtain ⟨hn1, hn2⟩ := hns n (List.mem_cons_self ..)
    have hns' : ∀ x ∈ r, x.text ∈ incT (trS set cur) ∧ x.file = cur := fun x hx => hns x (List.mem_cons_of_mem _ hx)
    rw [visL] at he ⊢
    by_cases q1 : (mayS set s n).1 = true
    · rw [if_pos q1] at he ⊢
      obtain ⟨e1, e2, e3, e4, e5, e6⟩ := mayS_true q1
      rw [e1] at he ⊢
      have hnn : n.text ∉ s.nms := fun hm => e5 ((h.rd _).2 hm)
      by_cases h2 : (rd s n.text).2.code ≠ 0
      · rw [if_pos h2] at he ⊢
        exact hc s n.text h hf e3 hnn e4 e6 hnd (chn_push hch hla hr hn1) he
      · rw [if_neg h2] at he ⊢
        obtain ⟨g1, g2, g3, more, g4⟩ := hg s n.text h hf e3 hnn e4 e6 (by simpa using h2)
        exact visL_cy hg hc cur hr r _ g1 (by rw [g2]; exact hf) (by rw [g2]; exact hnd) (by rw [g2]; exact hch) (by rw [g2]; exact hla) (by rw [g2]; exact hol) hns' he
    · rw [if_neg q1] at he ⊢
      obtain ⟨e1, e2, e3, e4⟩ := mayS_st set s n
      by_cases h2 : (mayS set s n).2.1.code ≠ 0
      · rw [if_pos h2] at he ⊢
        obtain ⟨c1, c2, c3⟩ := mayS_cyc he
        have hix : idxS s.opn n.text < s.opn.length := List.idxOf_lt_length_of_mem c2
        show Cy set (mayS set s n).2.2.cyc (mayS set s n).2.1.file
        rw [c1, c3, hn2]
        refine ⟨?_, hnd.sublist (List.drop_sublist _ _), ?_, hr, ⟨n.text, ?_, hn1⟩, by simp only [List.length_drop]; omega⟩
        · rw [List.getLast?_drop, if_neg (by omega)]; exact hla
        · intro i a b ha hb
          rw [List.getElem?_drop] at ha hb
          exact hch _ a b ha (by rw [← hb]; congr 1)
        · rw [List.getElem?_drop, Nat.add_zero, List.getElem?_eq_getElem hix]
          exact congrArg some (List.getElem_idxOf hix)
      · rw [if_neg h2] at he ⊢
        exact visL_cy hg hc cur hr r _ (mayS_inv h n) (by rw [e2]; exact hf) (by rw [e2]; exact hnd) (by rw [e2]; exact hch) (by rw [e2]; exact hla) (by rw [e2]; exact hol) hns' he
theorem loadF_cy (set : List (Bs × Fl)) : ∀ f, GoodC set f (loadF set f)
  | 0 => fun s name h hf hs hn ho hl _ _ _ => by omega
  | f + 1 => fun s name h hf hs hn ho hl hnd hch he => by
    rw [loadF] at he ⊢
    split at he
    · have he : (parseS name (fileS set name)).2.code = 74 := he
      have := parseS_e name (fileS set name); omega
    rename_i q1
    rw [if_neg q1]
    split at he
    · have he : (namesS (parseS name (fileS set name)).1).2.code = 74 := he
      have := namesS_e (parseS name (fileS set name)).1; omega
    rename_i q2
    rw [if_neg q2]
    split at he
    · rename_i q3
      rw [if_pos q3]
      refine visL_cy (loadF_good set f) (loadF_cy set f) name ⟨Decidable.not_not.1 q1, Decidable.not_not.1 q2⟩ _ (pushS s name) (push_inv h hn) (by simp [pushS]; omega) ?_ hch (by simp [pushS]) (by simp [pushS]; omega) ?_ he
      · show (s.opn ++ [name]).Nodup
        rw [List.nodup_append]
        refine ⟨hnd, by simp, fun a ha b hb => ?_⟩
        rw [List.mem_singleton] at hb
        rintro rfl
        exact ho (hb ▸ ha)
      · intro n hm
        exact ⟨List.mem_map_of_mem hm, parseS_file _ _ n (namesS_mem _ n hm)⟩
    · cases he
theorem cycle_law {files : List Fl} {root : Bs} (h : (loadS files root).2.code = 74) : Cy (setS files) (loadS files root).1.cyc (loadS files root).2.file := by
  obtain ⟨h1, h2⟩ := loadS_root (files := files) (root := root) (by rw [h]; decide) (by rw [h]; decide)
  rw [h2] at h ⊢
  refine loadF_cy (setS files) 16 ls0 root (ls0_inv _) (by decide) h1 (fun q => by cases q) (fun q => by cases q) (by decide) List.nodup_nil ?_ h
  intro i a b ha hb
  have := (List.getElem?_eq_some_iff.1 hb).1
  simp [ls0] at this
/-! ### the names that a file's text includes -/
theorem nth_fl {g : Bs} {t : List Nd} {i : Nat} (hi : i < t.length) : nth (t.map (Nd.fl g)) (i : Int) = (nth t (i : Int)).fl g := by
  rw [nth_nat, nth_nat]
  simp [hi]
theorem partsR_fl (g : Bs) (d : Int) : ∀ (r : List Nd) (k : Nat), partsR d (r.map (Nd.fl g)) k = partsR d r k
  | [], k => rfl
  | n :: r, k => by
    rw [List.map_cons, partsR, partsR, partsR_fl g d r (k + 1)]
    rfl
theorem partsS_fl {g : Bs} {t : List Nd} {i : Nat} (hi : i < t.length) : partsS (t.map (Nd.fl g)) i = partsS t i := by
  unfold partsS
  rw [nth_fl hi, ← List.map_drop, partsR_fl]
  rfl
theorem find_eqv {α : Type} {p q : α → Bool} : ∀ {l : List α}, (∀ x ∈ l, p x = q x) → l.find? p = l.find? q
  | [], _ => rfl
  | x :: l, h => by
    rw [List.find?_cons, List.find?_cons, h x (List.mem_cons_self ..), find_eqv fun y hy => h y (List.mem_cons_of_mem _ hy)]
theorem findS_fl {g : Bs} {t : List Nd} {i : Nat} (hi : i < t.length) (key : Bs) : findS (t.map (Nd.fl g)) i key = findS t i key := by
  unfold findS
  rw [partsS_fl hi, find_eqv (q := fun n : Nat => (nth t (n : Int)).key == key)]
  intro x hx
  rw [nth_fl (partsS_mem hi x hx).2]
  rfl
theorem textsS_fl {g : Bs} {t : List Nd} {i : Nat} (hi : i < t.length) : textsS (t.map (Nd.fl g)) i = textsS t i := by
  unfold textsS
  rw [nth_fl hi, partsS_fl hi, find_eqv (q := fun n : Nat => (nth t (n : Int)).kind != 3)]
  · have e : ∀ G, textsG (t.map (Nd.fl g)) i G = textsG t i G := by
      intro G
      cases G with
      | none => simp only [textsG]; rw [partsS_fl hi]
      | some n => rfl
    rw [e]
    rfl
  · intro x hx
    rw [nth_fl (partsS_mem hi x hx).2]
    rfl
theorem namesS_fl {g : Bs} {t : List Nd} (h0 : 0 < t.length) : incT (t.map (Nd.fl g)) = incT t ∧ (namesS (t.map (Nd.fl g))).2.code = (namesS t).2.code := by
  unfold incT namesS
  rw [findS_fl h0]
  have hb := findS_bd h0 incl
  by_cases h : findS t 0 incl < 0
  · rw [if_pos h, if_pos h]; exact ⟨rfl, rfl⟩
  rw [if_neg h, if_neg h]
  have hm : (findS t 0 incl).toNat < t.length := by omega
  rw [textsS_fl hm]
  by_cases h2 : (textsS t (findS t 0 incl).toNat).2.2 = false
  · rw [if_pos h2, if_pos h2]; exact ⟨rfl, rfl⟩
  rw [if_neg h2, if_neg h2]
  refine ⟨?_, rfl⟩
  simp only [List.map_map]
  refine List.map_congr_left fun x hx => ?_
  have := (textsS_mem hm).1 x hx
  simp only [Function.comp]
  rw [nth_fl this]
  rfl
theorem isGo_fits (t : List Nd) : ∀ (r : List Nd) (a : Nd) (i : Int) (st : List OB), isGo t r a i st = true → ∀ j : Nat, j < r.length → fitsB (nth r (j : Int)) (nth (a :: r) (j : Int)) = true
  | [], _, _, _, _, j, hj => by cases hj
  | n :: r, a, i, st, h, j, hj => by
    rw [isGo] at h
    split at h
    · cases h
    rename_i hf
    have hf : fitsB n a = true := by simpa using hf
    have ih : ∀ st', isGo t r n (i + 1) st' = true → ∀ j : Nat, j < r.length → fitsB (nth r (j : Int)) (nth (n :: r) (j : Int)) = true := fun st' => isGo_fits t r n (i + 1) st'
    cases j with
    | zero => exact hf
    | succ j =>
      have hj : j < r.length := by simpa using hj
      have e1 : nth (n :: r) ((j + 1 : Nat) : Int) = nth r (j : Int) := by rw [nth_nat, nth_nat]; rfl
      have e2 : nth (a :: n :: r) ((j + 1 : Nat) : Int) = nth (n :: r) (j : Int) := by rw [nth_nat, nth_nat]; rfl
      rw [e1, e2]
      split at h
      · cases h
      split at h
      · split at h
        · cases h
        · exact ih _ h j hj
      · split at h
        · cases h
        · exact ih _ h j hj
theorem isS_fits {t : List Nd} (h : isS t = true) {i : Nat} (hi : i + 1 < t.length) : fitsB (nth t ((i + 1 : Nat) : Int)) (nth t (i : Int)) = true := by
  cases t with
  | nil => cases h
  | cons a r =>
    unfold isS at h
    simp only at h
    split at h
    · cases h
    split at h
    · cases h
    have hi : i < r.length := by simpa using hi
    have e1 : nth (a :: r) ((i + 1 : Nat) : Int) = nth r (i : Int) := by rw [nth_nat, nth_nat]; rfl
    rw [e1]
    exact isGo_fits _ r a 1 _ h i hi
theorem isS_text {t : List Nd} (h : isS t = true) {i : Nat} (hi : i < t.length) (hk : (nth t (i : Int)).kind = 3) : partsS t i = [] := by
  unfold partsS
  by_cases q : i + 1 < t.length
  · have hf := isS_fits h q
    rw [drop_cons q, partsR, if_neg]
    unfold fitsB at hf
    simp only [Bool.and_eq_true, Bool.or_eq_true, decide_eq_true_eq, beq_iff_eq, bne_iff_ne] at hf
    obtain ⟨⟨_, h2⟩, _⟩ := hf
    rcases h2 with h2 | h2
    · omega
    · exact (h2.2 hk).elim
  · rw [List.drop_eq_nil_of_le (by omega), partsR]
/-- does a tree include a name? -/
def nmsB (t : List Nd) (name : Bs) : Bool :=
  if findS t 0 incl < 0 then false
  else if (nth t (findS t 0 incl)).kind = 3 ∧ (nth t (findS t 0 incl)).text = name then true
  else (partsS t (findS t 0 incl).toNat).any fun i : Nat => decide ((nth t (i : Int)).text = name)
theorem nmsB_inc {t : List Nd} (hs : isS t = true) (hc : (namesS t).2.code = 0) (name : Bs) : nmsB t name = decide (name ∈ incT t) := by
  have h0 := (isS_depth hs).1
  have hb := findS_bd h0 incl
  unfold incT nmsB
  unfold namesS at hc ⊢
  by_cases h : findS t 0 incl < 0
  · rw [if_pos h, if_pos h]; simp
  rw [if_neg h] at hc
  rw [if_neg h, if_neg h]
  obtain ⟨m, hm⟩ : ∃ m : Nat, findS t 0 incl = m := ⟨(findS t 0 incl).toNat, by omega⟩
  rw [hm] at hb hc ⊢
  rw [Int.toNat_natCast] at hc ⊢
  have hml : m < t.length := by omega
  by_cases h3 : (nth t (m : Int)).kind = 3
  · have ht : textsS t m = ([m], 0, true) := by unfold textsS; rw [if_pos h3]
    rw [ht]
    show (if (nth t (m : Int)).kind = 3 ∧ (nth t (m : Int)).text = name then true else (partsS t m).any fun i : Nat => decide ((nth t (i : Int)).text = name)) = decide (name ∈ [(nth t (m : Int)).text])
    rw [isS_text hs hml h3]
    by_cases q : (nth t (m : Int)).text = name
    · rw [if_pos ⟨h3, q⟩]; simp [q]
    · rw [if_neg (fun x => q x.2)]
      have q2 : ¬ name = (nth t (m : Int)).text := fun e => q e.symm
      simp [q2]
  · rw [if_neg (fun x => h3 x.1)]
    by_cases h1 : (nth t (m : Int)).kind = 1
    · have ht : textsS t m = ([], (m : Int), false) := by unfold textsS; rw [if_neg h3, if_pos h1]
      rw [ht, if_pos rfl] at hc
      cases hc
    · have ht : textsS t m = textsG t m ((partsS t m).find? (fun n : Nat => (nth t (n : Int)).kind != 3)) := by unfold textsS; rw [if_neg h3, if_neg h1]
      cases hG : (partsS t m).find? (fun n : Nat => (nth t (n : Int)).kind != 3) with
      | some n =>
        rw [hG] at ht
        rw [ht] at hc
        simp only [textsG] at hc
        rw [if_pos trivial] at hc
        cases hc
      | none =>
        rw [hG] at ht
        rw [ht]
        show ((partsS t m).any fun i : Nat => decide ((nth t (i : Int)).text = name)) = decide (name ∈ ((partsS t m).map (fun n : Nat => nth t (n : Int))).map Nd.text)
        rw [Bool.eq_iff_iff, List.any_eq_true, decide_eq_true_eq]
        simp only [List.map_map, List.mem_map, Function.comp, decide_eq_true_eq]
/-- does a file's text include a name? -/
def nmsS (s name : Bs) : Bool := if getS (parseS [102] s).1 [incl] < 0 then false
  else if (nth (parseS [102] s).1 (getS (parseS [102] s).1 [incl])).kind = 3 ∧ (nth (parseS [102] s).1 (getS (parseS [102] s).1 [incl])).text = name then true
  else (partsS (parseS [102] s).1 (getS (parseS [102] s).1 [incl]).toNat).any fun i : Nat => decide ((nth (parseS [102] s).1 (i : Int)).text = name)
theorem parseS_is {f s : Bs} (h : (parseS f s).2.code = 0) : isS (parseS f s).1 = true := by
  obtain ⟨h1, h2, h3⟩ := parseS_law f s
  by_cases q : (linesS s).e = 0
  · exact (h3 q h).2.1
  · have := h1 q
    rw [this] at h
    exact (q h).elim
theorem getS_find {t : List Nd} (h : isS t = true) (key : Bs) : getS t [key] = findS t 0 key := by
  have h0 := (isS_depth h).1
  have hb := findS_bd h0 key
  have hk : (nth t ((0 : Nat) : Int)).kind = 1 := by
    cases t with
    | nil => cases h
    | cons a r =>
      unfold isS at h
      simp only at h
      split at h
      · cases h
      split at h
      · cases h
      rename_i h2
      have h2 : rootOk a = true := by simpa using h2
      unfold rootOk at h2
      show a.kind = 1
      simp at h2
      exact h2.1.1.1
  have e : stepS t 0 key = findS t 0 key := by unfold stepS; rw [if_pos hk]
  unfold getS
  rw [if_pos h, getGo, e]
  split
  · omega
  · rw [getGo]; omega
theorem nmsS_inc {set : List (Bs × Fl)} {nm : Bs} (h : ReadOk set nm) (name : Bs) : nmsS (fileS set nm) name = decide (name ∈ incT (trS set nm)) := by
  obtain ⟨h1, h2⟩ := h
  obtain ⟨e1, e2⟩ := parseS_fl nm [102] (fileS set nm)
  have hs := parseS_is h1
  have h3 : isS (parseS [102] (fileS set nm)).1 = true := parseS_is (by rw [e2]; exact h1)
  have e3 : nmsS (fileS set nm) name = nmsB (parseS [102] (fileS set nm)).1 name := by
    unfold nmsS nmsB
    rw [getS_find h3]
  obtain ⟨e4, e5⟩ := namesS_fl (g := [102]) (isS_depth hs).1
  rw [e3, nmsB_inc h3 (by rw [e1, e5]; exact h2), e1, e4]
  rfl
end Go.Proofs.YtgjhbapbomdpbaaGreatDoor.C
/- Files that include files: include.load, Load and Cycle: walked. -/
set_option linter.unusedVariables false
set_option linter.unusedSimpArgs false
set_option maxRecDepth 10000
namespace Go.Proofs.YtgjhbapbomdpbaaGreatDoor.Sh
open Go.RowKit
theorem Yv.len_m {κ β : Type} [DecidableEq κ] {Y : Ky κ} {V : β → Value} {P : Program} {w : World} {b : Nat} {l : List (κ × β)} {t : TypeId} {x : Operand} (h : (Ch.mp Y V b l).ok w) (ht : mapB P t Y.d = true := by kernel_rfl) : Yv P w (.call { callee := .builtin .len, args := #[x], argTypes := #[t] }) [.map (some b)] (.int .i64 (l.length : Int)) :=
  Yv.mk1 (x := x) (by simp) rfl fun o e w' hop hx hk => by
    obtain ⟨es, clock, hb, hl⟩ := mp_keep (hk rfl) h
    obtain ⟨kt, et, hm, hk2⟩ := mapB_of ht
    have hsz : es.size = l.length := by have := congrArg List.length hl; simpa using this
    simp only [execOp, hop, resolve, invoke, builtin, Sem.run_bind, Sem.run_pure, Result.andThen_ok, List.map_toArray, List.map_cons, List.map_nil, hx]
    simp [Builtin.len_, run_underlying hm, MapKept.run_getObj_map hb, goInt, Result.andThen, hsz]
end Go.Proofs.YtgjhbapbomdpbaaGreatDoor.Sh
namespace Go.Proofs.YtgjhbapbomdpbaaGreatDoor.C
open Go.RowKit Go.Proofs.YtgjhbapbomdpbaaGreatDoor.Sh
/-- a loader and its parts -/
abbrev ChLd (b ms mr : Nat) (set : List (Bs × Fl)) (s : LS) (m : LM) : List Chunk :=
  [Ch.cells b 60 (ldcs ms mr s m), Ch.mp KyS VF ms set, Ch.mp KyS VI mr s.rd, Ch.row StE 9 m.O m.oc s.opn, Ch.row StE 9 m.Nm m.nc s.nms, Ch.row TsE 38 m.T m.tc m.trs, Ch.row StE 9 m.C m.cc s.cyc]
abbrev lm0 : LM := ⟨none, 0, none, 0, none, 0, none, 0, []⟩
theorem all_calls (b ms mr : Nat) (set : List (Bs × Fl)) (hset : set.length ≤ 64) (root : Bs) (w0 w : World) (hg : Gm w0) (D : List Chunk) (hst : St w0 [] w (ChLd b ms mr set ls0 lm0 ++ D)) (hroot : (alook root set).isSome = true) :
    Calls Tryz.prog 49 #[PB b, S root] w fun e w' => e = .returned (.agg (loadF set 16 ls0 root).2.cs.toArray) ∧ ∃ m', m'.trs.map ts1 = (loadF set 16 ls0 root).1.trs ∧ St w0 [] w' (ChLd b ms mr set (loadF set 16 ls0 root).1 m' ++ (trows m'.trs ++ D)) := by
  refine calls_of_Wp (vs := [_, _]) Tryz.func49 ?_
  refine Wp.seq (Wp.regionL (l := [0, 1]) (WO.act (hc := rfl) (he := Ef.boxL ([PB b]) hst (fun ba1 wa1 ka1 hsa1 => WO.act (hc := rfl) (he := Ef.allocL (vs := [.int .i64 0, S [], .int .i64 0, .int .i64 0]) hsa1 (fun ba2 wa2 ka2 hsa2 => WO.done ?_))))))
  refine Wp.seq (Wp.regionL (l := [0]) (WO.act (hc := rfl) (he := Ef.allocL (vs := [.nilFunc]) hsa2 (fun bx1 wx1 kx1 hsx1 => WO.done ?_))))
  refine Wp.seq (Wp.regionL (l := [0, 1]) (WO.rd (is := [0]) (js := [1]) (Keep.refl _) (Rn.s rfl Yv.mf (Rn.nil)) (WO.act (hc := rfl) (he := Ef.store hsx1 0 (fun wy1 hsy1 => WO.done ?_)))))
  have hst : St w0 [] wy1 (ChV b ba1 bx1 ms mr set ls0 lm0 ++ (trows lm0.trs ++ (Ch.cells ba2 27 ft0.cs :: D))) :=
    hsy1.pickT (P := [_, _, _, _, _, _, _, _, _, _]) (T := D) [3, 4, 5, 6, 7, 8, 9, 2, 0, 1]
  clear hsa1 hsa2 hsx1 hsy1
  have c5 := hst.cells 8
  have hc := read_calls b ba1 bx1 ms mr set hset w0 hg 16 ls0 lm0 root wy1 _ (ls0_inv set) (by decide) (by decide) hroot (fun q => by cases q) (fun q => by cases q) rfl hst
  have e0 : ([S root].toArray ++ #[PB ba1, PB bx1] : Array Value) = #[S root, PB ba1, PB bx1] := by simp
  rw [← e0] at hc
  refine Wp.seq (Wp.regionL (l := [0, 1, 2, 3]) (WO.rd (is := [0, 1]) (js := [2, 3]) (Keep.refl _) (Rn.s rfl (Yv.ld (c5.at_ 0)) (Rn.s rfl Yv.mv (Rn.nil))) (WO.act (hc := rfl) (he := Ef.callv Tryz.func72 (Calls.mono hc ?_)))))
  rintro e w2 ⟨rfl, m', hm', hs2⟩
  have hs2 := hs2.perm (perm_in (F := [Ch.cells ba2 27 ft0.cs]) (X := ChV b ba1 bx1 ms mr set (loadF set 16 ls0 root).1 m') (Y := trows m'.trs) (D := D)).symm
  refine WO.act (he := Ef.stores hs2 0 (fun w3 hs3 => WO.done ?_))
  refine Wp.ret (Fin.ret (resCA rfl rfl (hs3.cells 0)) ⟨rfl, m', hm', ?_⟩)
  exact hs3.pickT (P := [_, _, _, _, _, _, _, _, _, _]) (T := trows m'.trs ++ D) [1, 2, 3, 4, 5, 6, 7]
set_option maxHeartbeats 1600000 in
theorem load_calls (A : Option Addr) (c : Nat) (files : List Fl) (root : Bs) (w : World) (hg : Gm w) (hr : Rd FlE w A files) (hl : files.length ≤ 4398046511100) :
    Calls Tryz.prog 26 #[.slice A files.length c, S root] w fun e w' => ∃ b ms mr m', e = .returned (.tuple #[PB b, .agg (loadS files root).2.cs.toArray]) ∧ m'.trs.map ts1 = (loadS files root).1.trs ∧ ∃ set', St w [] w' (ChLd b ms mr set' (loadS files root).1 m' ++ trows m'.trs) := by
  refine calls_of_Wp (vs := [_, _]) Tryz.func26 ?_
  refine Wp.seq (Wp.regionL (l := [0, 1]) (WO.rd (is := [0]) (js := [1]) (Keep.refl _) (Rn.s rfl Yv.as (Rn.nil)) (WO.act (hc := rfl) (he := Ef.allocL (vs := [.int .i64 0, S [], .int .i64 0, .int .i64 0]) (St.init w) (fun ba1 wa1 ka1 hsa1 => WO.done ?_)))))
  refine Wp.seq (Wp.regionL (l := [0, 1, 2, 3, 4]) (WO.act (he := Ef.makeMap KyS VF hsa1 (fun ms w1 k1 hs1 => WO.act (he := Ef.makeMap KyS VI hs1 (fun mr w2 k2 hs2 => WO.rd (is := [2]) (js := [3, 4]) (Keep.refl _) (Rn.s rfl Yv.bd (Rn.nil)) (WO.act (he := Ef.boxL (ldcs ms mr ls0 lm0) hs2 (fun b w3 k3 hs3 => WO.rd (is := [4]) (js := []) (Keep.refl _) (Rn.s rfl Yv.as (Rn.nil)) (WO.done ?_))))))))))
  have hst : St w [] w3 [Ch.cells b 60 (ldcs ms mr ls0 lm0), Ch.mp KyS VF ms (foldF (files.take 0) []), Ch.mp KyS VI mr ([] : List (Bs × Int)), Ch.cells ba1 27 ft0.cs] := hs3.pick [0, 2, 1, 3]
  clear hs1 hs2 hs3 hsa1
  refine Wp.seq (Wp.seq (Wp.reads (is := [0, 1, 2]) (Keep.refl _) (Rn.s rfl Yv.mv (Rn.s rfl (Yv.len_v (e := 49) (m := 2)) (Rn.s rfl Yv.mv (Rn.nil)))) ?_))
  refine Wp.block ?_
  refine Wp.loop (α := Nat) (fun k ρ ds w' => ds = [] ∧ k ≤ files.length ∧ St w [] w' [Ch.cells b 60 (ldcs ms mr ls0 lm0), Ch.mp KyS VF ms (foldF (files.take k) []), Ch.mp KyS VI mr ([] : List (Bs × Int)), Ch.cells ba1 27 ft0.cs] ∧
    Sub [(0, .slice A files.length c), (1, S root), (5, PB ba1), (6, PB b), (15, .slice A files.length c), (16, .int .i64 (files.length : Int)), (17, .int .i64 (k : Int))] ρ) (fun k => files.length - k) 0
    ⟨rfl, Nat.zero_le _, hst, rfl, rfl, rfl, rfl, rfl, rfl, rfl, trivial⟩ ?_
  clear hst
  rintro k ρ ds w4 ⟨rfl, hk, hst, hsub⟩
  refine Wp.forget _ ?_ hsub
  clear hsub ρ
  have hr' := hr.keep hst.keep
  refine Wp.seq (Wp.reads (is := [0]) (Keep.refl _) (Rn.s rfl (Yv.cmp _ rfl) (Rn.nil)) ?_)
  refine Wp.seq (Wp.cond rfl (fun h1 => ?_) (fun h1 => ?_))
  · have h1 := of_decide_eq_true h1
    have hkl : k < files.length := by omega
    have hget : nth files (k : Int) = files[k] := nth_of (List.getElem?_eq_getElem hkl)
    refine Wp.skip (Wp.seq (Wp.block ?_))
    refine Wp.seq (Wp.regionL (l := [0, 1, 2, 3]) (WO.rd (is := [0, 1]) (js := [2, 3]) (Keep.refl _) (Rn.s rfl (Yv.ia (e := 49) hr' (by omega) (by omega)) (Rn.s rfl (Yv.ldel hr' rfl rfl (by omega) (by omega)) (Rn.nil))) (WO.act (hc := rfl) (he := Ef.allocL (vs := [S [], S []]) hst (fun bx1 wx1 kx1 hsx1 => WO.act (hc := rfl) (he := Ef.stores hsx1 0 (fun wx2 hsx2 => WO.done ?_)))))))
    have hst : St w [] wx2 (Ch.cells bx1 49 (nth files (k : Int)).cs :: [Ch.cells b 60 (ldcs ms mr ls0 lm0), Ch.mp KyS VF ms (foldF (files.take k) []), Ch.mp KyS VI mr ([] : List (Bs × Int)), Ch.cells ba1 27 ft0.cs]) := hsx2
    clear hsx1 hsx2
    have c8 := hst.cells 0
    have hc := hst.cells 1
    refine Wp.draws [7] mixed (WD.rd (is := [0, 1, 2, 3, 4, 5, 6]) (fun _ _ _ _ _ h => h) (Keep.drew _) (Rn.s rfl Yv.mv (Rn.s rfl Yv.nc (Rn.s rfl (Yv.fa (off := 0)) (Rn.s rfl (Yv.ld (hc.at_ 0)) (Rn.s rfl (Yv.fa (off := 0)) (Rn.s rfl (Yv.ld (c8.at_ 0)) (Rn.s rfl (Yv.ldb c8) (Rn.nil)))))))) ?_)
    refine WD.act 7 (hc := rfl) (he := Ef.mapput (v := nth files (k : Int)) (hst.quiet (Keep.drew _)) 2 ?_)
    intro w6 hs6
    refine ⟨fun h => (h (by simp)).elim, WD.done ?_⟩
    refine Wp.reads (is := [0, 1]) (Keep.refl _) (Rn.s rfl (Yv.add (by unfold inI; omega)) (Rn.s rfl Yv.mv (Rn.nil))) ?_
    have e1 : foldF (files.take (k + 1)) [] = aput (nth files (k : Int)).name (nth files (k : Int)) (foldF (files.take k) []) := by
      unfold foldF
      rw [List.take_add_one, List.getElem?_eq_getElem hkl, ← hget]
      simp
    refine ⟨k + 1, ⟨rfl, by omega, ?_, rfl, rfl, rfl, rfl, rfl, rfl, rfl, trivial⟩, by omega⟩
    rw [e1]
    exact hs6.pick [2, 0, 3, 4]
  · have h1 := of_decide_eq_false h1
    have e : files.take k = files := List.take_of_length_le (by omega)
    rw [e] at hst
    have hst : St w [] w4 [Ch.cells b 60 (ldcs ms mr ls0 lm0), Ch.mp KyS VF ms (setS files), Ch.mp KyS VI mr ([] : List (Bs × Int)), Ch.cells ba1 27 ft0.cs] := hst
    refine Wp.exit ?_
    have hc := hst.cells 0
    have hrows : ∀ {w' : World} {X : List Chunk}, St w [] w' (Ch.cells b 60 (ldcs ms mr ls0 lm0) :: Ch.mp KyS VF ms (setS files) :: Ch.mp KyS VI mr ([] : List (Bs × Int)) :: X) → St w [] w' (ChLd b ms mr (setS files) ls0 lm0 ++ X) := by
      intro w' X h
      have h2 := (((h.nilrow StE 9).nilrow TsE 38).nilrow StE 9).nilrow StE 9
      exact h2.pickT (P := [_, _, _, _, _, _, _]) (T := X) [4, 5, 6, 0, 1, 2, 3]
    refine Wp.seq (Wp.seq (Wp.reads (is := [0, 1, 2, 3, 4, 5, 6, 7, 8, 9, 10, 11, 12]) (Keep.refl _) (Rn.s rfl Yv.mv (Rn.s rfl (Yv.len_v (e := 49) (m := 2)) (Rn.s rfl (Yv.cmp _ rfl) (Rn.s rfl Yv.mv (Rn.or (is := [4, 5, 6, 7, 8, 9, 10, 11, 12]) (js := []) (t := 32) (d := 41) (hg := rfl) (hf := fun h3 => have h3 := of_decide_eq_false h3; Rn.s rfl Yv.mv (Rn.s rfl Yv.nc (Rn.s rfl (Yv.fa (off := 0)) (Rn.s rfl (Yv.ld (hc.at_ 0)) (Rn.s rfl (Yv.len_m (hst.at_ 1 rfl)) (Rn.s rfl Yv.mv (Rn.s rfl (Yv.len_v (e := 49) (m := 2)) (Rn.s rfl (Yv.cmp _ rfl) (Rn.s rfl Yv.pick_f ((Rn.e 9 rfl rfl))))))))))) (ht := fun _ => Rn.no rfl (Rn.no rfl (Rn.no rfl (Rn.no rfl (Rn.no rfl (Rn.no rfl (Rn.no rfl (Rn.no rfl (Rn.s rfl Yv.pick_t (Rn.e 9 rfl rfl)))))))))) (k := Rn.nil)))))) ?_))
    refine Wp.cond rfl (fun h2 => ?_) (fun h2 => ?_)
    · have h2 : 64 < files.length ∨ (setS files).length < files.length := by
        simp only [Bool.or_eq_true, decide_eq_true_eq] at h2
        omega
      refine Wp.seq (Wp.regionL (l := [0, 1, 2, 3]) (WO.rd (is := [0, 1, 2]) (js := [3]) (Keep.refl _) (Rn.s rfl Yv.mv (Rn.s rfl (Yv.bd (cs := Ft.cs ⟨70, [], 0, 0⟩)) (Rn.s rfl Yv.as (Rn.nil)))) (WO.act (hc := rfl) (he := Ef.stores hst 3 (fun wx1 hsx1 => WO.done ?_)))))
      refine Wp.ret (Fin.ret (resTA rfl rfl rfl (hsx1.cells 0)) ?_)
      unfold loadS
      rw [if_pos h2]
      refine ⟨b, ms, mr, lm0, rfl, rfl, setS files, ?_⟩
      exact hrows (hsx1.pick [1, 2, 3])
    have h2 : ¬ (64 < files.length ∨ (setS files).length < files.length) := by
      simp only [Bool.or_eq_false_iff, decide_eq_false_iff_not] at h2
      omega
    have hset : (setS files).length ≤ 64 := by
      have := foldF_le files []
      have e : setS files = foldF files [] := rfl
      rw [e] at h2 ⊢
      simp only [List.length_nil, Nat.zero_add] at this
      omega
    refine Wp.skip (Wp.seq (Wp.seq (Wp.regionL (l := [0, 1, 2, 3, 4, 5, 6, 7, 8, 9, 10, 11]) (WO.rd (is := [0, 1, 2, 3, 4, 5, 6, 7, 8]) (js := [9, 10, 11]) (Keep.refl _) (Rn.s rfl Yv.mv (Rn.s rfl Yv.nc (Rn.s rfl (Yv.fa (off := 0)) (Rn.s rfl (Yv.ld (hc.at_ 0)) (Rn.s rfl Yv.mv (Rn.s rfl (Yv.look2 (hst.at_ 1 rfl) ⟨[], []⟩) (Rn.s rfl Yv.mv (Rn.s rfl Yv.ex (Rn.s rfl Yv.ex (Rn.nil)))))))))) (WO.act (hc := rfl) (he := Ef.allocL (vs := [S [], S []]) hst (fun bx1 wx1 kx1 hsx1 => WO.act (hc := rfl) (he := Ef.stores hsx1 0 (fun wx2 hsx2 => WO.rd (is := [11]) (js := []) (Keep.refl _) (Rn.s rfl Yv.as (Rn.nil)) (WO.done ?_))))))))))
    have hst : St w [] wx2 [Ch.cells b 60 (ldcs ms mr ls0 lm0), Ch.mp KyS VF ms (setS files), Ch.mp KyS VI mr ([] : List (Bs × Int)), Ch.cells ba1 27 ft0.cs] := hsx2.pick [1, 2, 3, 4]
    clear hsx1 hsx2
    refine Wp.seq (Wp.reads (is := [0, 1]) (Keep.refl _) (Rn.s rfl Yv.mv (Rn.s rfl Yv.not (Rn.nil))) ?_)
    refine Wp.cond rfl (fun h3 => ?_) (fun h3 => ?_)
    · have h3 : (alook root (setS files)).isSome = false := by simpa using h3
      refine Wp.seq (Wp.regionL (l := [0, 1, 2, 3]) (WO.rd (is := [0, 1, 2]) (js := [3]) (Keep.refl _) (Rn.s rfl Yv.mv (Rn.s rfl (Yv.bd (cs := Ft.cs ⟨71, [], 0, 0⟩)) (Rn.s rfl Yv.as (Rn.nil)))) (WO.act (hc := rfl) (he := Ef.stores hst 3 (fun wx1 hsx1 => WO.done ?_)))))
      refine Wp.ret (Fin.ret (resTA rfl rfl rfl (hsx1.cells 0)) ?_)
      unfold loadS
      rw [if_neg h2, if_pos h3]
      refine ⟨b, ms, mr, lm0, rfl, rfl, setS files, ?_⟩
      exact hrows (hsx1.pick [1, 2, 3])
    have h3 : ¬ (alook root (setS files)).isSome = false := by
      have h5 : (!(alook root (setS files)).isSome) = false := h3
      cases q : (alook root (setS files)).isSome with
      | true => decide
      | false => rw [q] at h5; cases h5
    have h4 : (alook root (setS files)).isSome = true := by rw [Bool.not_eq_false] at h3; exact h3
    have hall := all_calls b ms mr (setS files) hset root w wx2 hg [Ch.cells ba1 27 ft0.cs] (hrows hst) h4
    refine Wp.skip (Wp.seq (Wp.regionL (l := [0, 1, 2, 3, 4, 5]) (WO.rd (is := [0, 1, 2]) (js := [3, 4, 5]) (Keep.refl _) (Rn.s rfl Yv.mv (Rn.s rfl Yv.mv (Rn.s rfl Yv.mv (Rn.nil)))) (WO.act (hc := rfl) (he := Ef.callv Tryz.func49 (Calls.mono hall ?_))))))
    rintro e w5 ⟨rfl, m', hm', hs5⟩
    have hs5 := hs5.perm (perm_in (F := [Ch.cells ba1 27 ft0.cs]) (X := ChLd b ms mr (setS files) (loadF (setS files) 16 ls0 root).1 m') (Y := trows m'.trs) (D := [])).symm
    refine WO.rd (is := [4]) (js := [5]) (Keep.refl _) (Rn.s rfl Yv.as (Rn.nil)) (WO.act (he := Ef.stores hs5 0 (fun w6 hs6 => WO.done ?_)))
    refine Wp.ret (Fin.ret (resTA rfl rfl rfl (hs6.cells 0)) ?_)
    unfold loadS
    rw [if_neg h2, if_neg h3]
    refine ⟨b, ms, mr, m', rfl, hm', setS files, ?_⟩
    have h7 := hs6.pickT (P := [_, _, _, _, _, _, _, _]) (T := trows m'.trs ++ []) [1, 2, 3, 4, 5, 6, 7]
    rw [List.append_nil] at h7
    exact h7
/-! ### what is handed back -/
def outN (files : List Fl) (root : Bs) : List Bs := if (loadS files root).2.code ≠ 0 then [] else (loadS files root).1.nms
def outT (files : List Fl) (root : Bs) : List (List Nd) := if (loadS files root).2.code ≠ 0 then [] else (loadS files root).1.trs
def outF (files : List Fl) (root : Bs) : Ft := if (loadS files root).2.code ≠ 0 then (loadS files root).2 else ft0
def outC (files : List Fl) (root : Bs) : List Bs := if (loadS files root).2.code ≠ 74 then [] else (loadS files root).1.cyc
theorem resTTA {P : Program} {fn : Func} {N n : Nat} {ρ : Env} {w : World} {t u v b : Nat} {ty : TypeId} {vs : List Value} {x y : Value} (h : fn.results = #[.tmp u, .tmp v, .cell t ty]) (hx : lk ρ u = some x) (hy : lk ρ v = some y) (hp : lk ρ t = some (PB b)) (hc : Cells w b vs) (hn : vs.length = n := by rfl) (ht : agB P ty n = true := by kernel_rfl) : Res P fn N ρ w (.tuple #[x, y, .agg vs.toArray]) := fun a ds ha => by
  have h1 := ha.val t _ hp
  have h3 := ha.val u _ hx
  have h4 := ha.val v _ hy
  have h2 : (loadVar ty ⟨b, 0, none⟩).run P w = .ok (.agg vs.toArray) w := run_loadVar_ag (agB_of ht) ⟨b, 0, none⟩ vs hn (fun j v hj => by rw [add_off, Nat.zero_add]; exact hc j v hj)
  simp only [results, h]
  simp at h1 h3 h4
  simp [h1, h2, h3, h4, asAddr]
theorem load_cx (A : Option Addr) (c : Nat) (files : List Fl) (root : Bs) (w : World) (hg : Gm w) (hr : Rd FlE w A files) (hl : files.length ≤ 4398046511100) :
    Cx Tryz.prog 8 [.slice A files.length c, S root] [] (fun v D => ∃ NA nc TA tc ts, v = .tuple #[.slice NA (outN files root).length nc, .slice TA (outT files root).length tc, .agg (outF files root).cs.toArray] ∧ ts.map ts1 = outT files root ∧
      D = Ch.row StE 9 NA nc (outN files root) :: Ch.row TsE 38 TA tc ts :: trows ts) w := by
  refine calls_of_Wp (vs := [_, _]) Tryz.func8 ?_
  refine Wp.seq (Wp.regionL (l := [0, 1, 2]) (WO.rd (is := [0, 1]) (js := [2]) (Keep.refl _) (Rn.s rfl Yv.as (Rn.s rfl Yv.as (Rn.nil))) (WO.act (hc := rfl) (he := Ef.allocL (vs := [.int .i64 0, S [], .int .i64 0, .int .i64 0]) (St.init w) (fun ba1 wa1 ka1 hsa1 => WO.done ?_)))))
  have hlc := load_calls A c files root wa1 (hg.keep ka1) (hr.keep ka1) hl
  refine Wp.seq (Wp.regionL (l := [0, 1, 2, 3, 4, 5, 6, 7, 8]) (WO.rd (is := [0, 1]) (js := [2, 3, 4, 5, 6, 7, 8]) (Keep.refl _) (Rn.s rfl Yv.mv (Rn.s rfl Yv.mv (Rn.nil))) (WO.act (hc := rfl) (he := Ef.callv Tryz.func26 (Calls.mono hlc ?_)))))
  rintro e w2 ⟨b, ms, mr, m', rfl, hm', set', hs2⟩
  have hs2 := hsa1.call0 hs2
  refine WO.rd (is := [3, 4, 5]) (js := [6, 7, 8]) (Keep.refl _) (Rn.s rfl Yv.mv (Rn.s rfl Yv.ex (Rn.s rfl Yv.ex (Rn.nil)))) (WO.act (he := Ef.allocL (vs := ft0.cs) hs2 (fun b8 w3 k3 hs3 => WO.rd (is := [7]) (js := [8]) (Keep.refl _) (Rn.s rfl Yv.as (Rn.nil)) (WO.act (he := Ef.stores hs3 0 (fun w4 hs4 => WO.done ?_))))))
  obtain ⟨s, F, hS⟩ : ∃ s F, loadS files root = (s, F) := ⟨_, _, rfl⟩
  have eN : outN files root = if F.code ≠ 0 then [] else s.nms := by unfold outN; rw [hS]
  have eT : outT files root = if F.code ≠ 0 then [] else s.trs := by unfold outT; rw [hS]
  have eF : outF files root = if F.code ≠ 0 then F else ft0 := by unfold outF; rw [hS]
  rw [eN, eT, eF]
  rw [hS] at hs4 hm'
  simp only at hs4 hm'
  have hst : St w [] w4 ([Ch.cells b8 27 F.cs, _, _, _, _, _, _, _] ++ (trows m'.trs ++ [Ch.cells ba1 27 ft0.cs])) := hs4
  have hst := hst.perm (List.Perm.append_left _ (List.perm_append_comm (l₁ := trows m'.trs) (l₂ := [Ch.cells ba1 27 ft0.cs])))
  clear hs2 hs3 hs4
  have c8 := hst.cells 0
  refine Wp.seq (Wp.seq (Wp.reads (is := [0, 1, 2]) (Keep.refl _) (Rn.s rfl (Yv.fa (off := 0)) (Rn.s rfl (Yv.ld (c8.at_ 0)) (Rn.s rfl (Yv.cmp _ rfl) (Rn.nil)))) ?_))
  refine Wp.cond rfl (fun h => ?_) (fun h => ?_)
  · have h : F.code ≠ 0 := bne_iff_ne.1 h
    refine Wp.seq (Wp.draws [3] mixed (WD.rd (is := [0, 1, 2]) (fun _ _ _ _ _ h => h) (Keep.drew _) (Rn.s rfl (Yv.ldb c8) (Rn.s rfl Yv.as (Rn.s rfl Yv.as (Rn.nil)))) (WD.act 3 (hc := rfl) (he := Ef.stores (hst.quiet (Keep.drew _)) 8 (fun wx1 hsx1 => ⟨fun hn => (hn (by decide)).elim, WD.done ?_⟩)))))
    refine Wp.ret (Fin.ret (resTTA rfl rfl rfl rfl (hsx1.cells 0)) ?_)
    rw [if_pos h, if_pos h, if_pos h]
    refine ⟨_, _, rfl, ⟨none, 0, none, 0, [], rfl, rfl, rfl⟩, ?_⟩
    exact ((hsx1.sub (List.nil_sublist _)).nilrow TsE 38).nilrow StE 9
  · have h : ¬ F.code ≠ 0 := fun q => by rw [bne_eq_false_iff_eq.1 h] at q; exact q rfl
    have hc := hst.cells 1
    refine Wp.skip (Wp.seq (Wp.draws [11] mixed (WD.rd (is := [0, 1, 2, 3, 4, 5, 6, 7, 8, 9, 10]) (fun _ _ _ _ _ h => h) (Keep.drew _) (Rn.s rfl Yv.mv (Rn.s rfl Yv.nc (Rn.s rfl (Yv.fa (off := 3)) (Rn.s rfl (Yv.ld (hc.at_ 3)) (Rn.s rfl Yv.mv (Rn.s rfl Yv.nc (Rn.s rfl (Yv.fa (off := 4)) (Rn.s rfl (Yv.ld (hc.at_ 4)) (Rn.s rfl (Yv.bd (cs := ft0.cs)) (Rn.s rfl Yv.as (Rn.s rfl Yv.as (Rn.nil)))))))))))) (WD.act 11 (hc := rfl) (he := Ef.stores (hst.quiet (Keep.drew _)) 8 (fun wx1 hsx1 => ⟨fun hn => (hn (by decide)).elim, WD.done ?_⟩))))))
    refine Wp.ret (Fin.ret (resTTA rfl rfl rfl rfl (hsx1.cells 0)) ?_)
    rw [if_neg h, if_neg h, if_neg h]
    refine ⟨_, _, rfl, ⟨m'.Nm, m'.nc, m'.T, m'.tc, m'.trs, ?_, hm', rfl⟩, ?_⟩
    · rw [← hm', List.length_map]; rfl
    · exact hsx1.pickT (P := [_, _, _, _, _, _, _, _, _]) (T := trows m'.trs) [6, 7]
theorem cycle_cx (A : Option Addr) (c : Nat) (files : List Fl) (root : Bs) (w : World) (hg : Gm w) (hr : Rd FlE w A files) (hl : files.length ≤ 4398046511100) :
    Cx Tryz.prog 17 [.slice A files.length c, S root] [] (fun v D => ∃ CA cc, v = .slice CA (outC files root).length cc ∧ D = [Ch.row StE 9 CA cc (outC files root)]) w := by
  refine calls_of_Wp (vs := [_, _]) Tryz.func17 ?_
  refine Wp.seq (Wp.reads (is := [0]) (Keep.refl _) (Rn.s rfl Yv.as (Rn.nil)) ?_)
  have hlc := load_calls A c files root w hg hr hl
  refine Wp.seq (Wp.regionL (l := [0, 1, 2, 3, 4, 5, 6, 7, 8]) (WO.rd (is := [0, 1]) (js := [2, 3, 4, 5, 6, 7, 8]) (Keep.refl _) (Rn.s rfl Yv.mv (Rn.s rfl Yv.mv (Rn.nil))) (WO.act (hc := rfl) (he := Ef.callv Tryz.func26 (Calls.mono hlc ?_)))))
  rintro e w2 ⟨b, ms, mr, m', rfl, hm', set', hs2⟩
  refine WO.rd (is := [3, 4, 5]) (js := [6, 7, 8]) (Keep.refl _) (Rn.s rfl Yv.mv (Rn.s rfl Yv.ex (Rn.s rfl Yv.ex (Rn.nil)))) (WO.act (he := Ef.allocL (vs := ft0.cs) hs2 (fun b8 w3 k3 hs3 => WO.rd (is := [7]) (js := [8]) (Keep.refl _) (Rn.s rfl Yv.as (Rn.nil)) (WO.act (he := Ef.stores hs3 0 (fun w4 hs4 => WO.done ?_))))))
  obtain ⟨s, F, hS⟩ : ∃ s F, loadS files root = (s, F) := ⟨_, _, rfl⟩
  have eC : outC files root = if F.code ≠ 74 then [] else s.cyc := by unfold outC; rw [hS]
  rw [eC]
  rw [hS] at hs4
  simp only at hs4
  have hst : St w [] w4 ([Ch.cells b8 27 F.cs, _, _, _, _, _, _, _] ++ trows m'.trs) := hs4
  clear hs2 hs3 hs4
  have c6 := hst.cells 0
  refine Wp.seq (Wp.seq (Wp.reads (is := [0, 1, 2]) (Keep.refl _) (Rn.s rfl (Yv.fa (off := 0)) (Rn.s rfl (Yv.ld (c6.at_ 0)) (Rn.s rfl (Yv.cmp _ rfl) (Rn.nil)))) ?_))
  refine Wp.cond rfl (fun h => ?_) (fun h => ?_)
  · have h : F.code ≠ 74 := bne_iff_ne.1 h
    refine Wp.seq (Wp.reads (is := [0]) (Keep.refl _) (Rn.s rfl Yv.as (Rn.nil)) ?_)
    refine Wp.ret (Fin.ret (Res.one rfl rfl) ?_)
    rw [if_pos h]
    exact ⟨_, _, rfl, ⟨none, 0, rfl, rfl⟩, (hst.sub (List.nil_sublist _)).nilrow _ _⟩
  · have h : ¬ F.code ≠ 74 := fun q => q (bne_eq_false_iff_eq.1 h)
    have hc := hst.cells 1
    refine Wp.skip (Wp.seq (Wp.reads (is := [0, 1, 2, 3, 4]) (Keep.refl _) (Rn.s rfl Yv.mv (Rn.s rfl Yv.nc (Rn.s rfl (Yv.fa (off := 5)) (Rn.s rfl (Yv.ld (hc.at_ 5)) (Rn.s rfl Yv.as (Rn.nil)))))) ?_))
    refine Wp.ret (Fin.ret (Res.one rfl rfl) ?_)
    rw [if_neg h]
    exact ⟨_, _, rfl, ⟨m'.C, m'.cc, rfl, rfl⟩, (hst.pickT (P := [_, _, _, _, _, _, _, _]) (T := trows m'.trs) [7]).sub (List.sublist_append_left [_] _)⟩
end Go.Proofs.YtgjhbapbomdpbaaGreatDoor.C
