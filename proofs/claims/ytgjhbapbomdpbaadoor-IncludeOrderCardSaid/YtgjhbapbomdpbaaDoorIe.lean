/- Files that include files: a file is read, and all that it includes: walked. -/
import Derived.Test.YtgjhbapbomdpbaaDoorId
set_option linter.unusedVariables false
set_option linter.unusedSimpArgs false
set_option maxRecDepth 10000
namespace Go.Proofs.YtgjhbapbomdpbaaDoor.Sh
open Go.RowKit
/-- a field of one cell, and where it lies -/
def fldSB (P : Program) (t : TypeId) (f off : Nat) : Bool := match P.underlying t with
  | some (.struct fs) => match fs[f]? with
    | some fd => Nat.beq fd.offset off && scB P fd.type
    | none => false
  | _ => false
theorem Yv.fld {P : Program} {w : World} {t : TypeId} {x : Operand} {f off : Nat} {vs : List Value} {v : Value} (hf : fldSB P t f off = true := by kernel_rfl) (hv : vs[off]? = some v := by rfl) : Yv P w (.field t x f) [.agg vs.toArray] v :=
  Yv.mk1 (x := x) (by simp) rfl fun o e w' hop hx _ => by
    unfold fldSB at hf
    cases hu : P.underlying t with
    | none => rw [hu] at hf; cases hf
    | some d =>
      rw [hu] at hf
      cases d with
      | struct fs =>
        simp only at hf
        cases hfd : fs[f]? with
        | none => rw [hfd] at hf; cases hf
        | some fd =>
          rw [hfd] at hf
          simp only [Bool.and_eq_true] at hf
          obtain ⟨h1, h2⟩ := hf
          have h1 := Nat.eq_of_beq_eq_true h1
          subst h1
          have h3 : vs.toArray[fd.offset]? = some v := by simpa using hv
          simp [execOp, hop, hx, Instr.field, run_underlying hu, hfd, part, run_isAgg_sc (scB_of h2), asAgg, hv]
      | _ => cases hf
end Go.Proofs.YtgjhbapbomdpbaaDoor.Sh
namespace Go.Proofs.YtgjhbapbomdpbaaDoor.C
open Go.RowKit Go.Proofs.YtgjhbapbomdpbaaDoor.Sh
theorem wcut_cx (A : Option Addr) (c : Nat) (t : List Nd) (w : World) (hr : Rd NdE w A t) (hcap : t.length ≤ c) (h0 : 0 < t.length) (hl : t.length ≤ 1000000) (hd : DepOk t) :
    Calls Tryd.prog 68 #[.slice A t.length c, S incl] w fun e w' => ∃ O co, e = .returned (.slice O (wcutS t incl).length co) ∧ Keep w w' ∧ ((O = A ∧ co = c ∧ wcutS t incl = t) ∨ St w [] w' [Ch.row NdE 48 O co (wcutS t incl)]) := by
  have hA := rd_some hr h0
  refine calls_of_Wp (vs := [_, _]) Tryd.func68 ?_
  refine Wp.seq (Wp.reads (is := [0]) (Keep.refl _) (Rn.s rfl Yv.as (Rn.nil)) ?_)
  obtain ⟨F, hF⟩ : ∃ F, F = findS t 0 incl := ⟨_, rfl⟩
  have hfb := findS_bd h0 incl
  have hfc : Cv Tryd.prog 39 [.slice A t.length c, .int .i64 0, S incl] (.int .i64 F) w := by
    rw [hF]
    exact find_cv A c t 0 incl w hr h0 (by omega) (hd 0 h0)
  unfold wcutS
  rw [← hF] at hfb ⊢
  refine Wp.seq (Wp.regionL (l := [0, 1, 2, 3]) (WO.rd (is := [0, 1]) (js := [2, 3]) (Keep.refl _) (Rn.s rfl Yv.mv (Rn.s rfl Yv.mv (Rn.nil))) (WO.cv rfl hfc (Keep.refl _) (FnOk.of Tryd.func39) (fun wx1 kx1 => WO.rd (is := [3]) (js := []) ((Keep.refl _).trans kx1) (Rn.s rfl Yv.as (Rn.nil)) (WO.done ?_)))))
  refine Wp.seq (Wp.seq (Wp.reads (is := [0, 1]) (Keep.refl _) (Rn.s rfl Yv.mv (Rn.s rfl (Yv.cmp _ rfl) (Rn.nil))) ?_))
  refine Wp.cond rfl (fun h => ?_) (fun h => ?_)
  · have h := of_decide_eq_true h
    refine Wp.seq (Wp.reads (is := [0, 1]) (Keep.refl _) (Rn.s rfl Yv.mv (Rn.s rfl Yv.as (Rn.nil))) ?_)
    refine Wp.ret (Fin.ret (Res.one rfl rfl) ?_)
    rw [if_pos h]
    exact ⟨A, c, rfl, kx1, .inl ⟨rfl, rfl, rfl⟩⟩
  have h := of_decide_eq_false h
  obtain ⟨m, hm⟩ : ∃ m : Nat, F = m := ⟨F.toNat, by omega⟩
  have hml : m < t.length := by omega
  rw [hm] at h ⊢
  rw [show ((m : Int)).toNat = m from Int.toNat_natCast m]
  obtain ⟨e1, e2⟩ := endS_bd hml
  refine Wp.skip ?_
  refine Wp.seq (Wp.regionL (l := [0, 1, 2, 3, 4, 5, 6, 7, 8, 9, 10, 11]) (WO.act (hc := rfl) (he := Ef.bsl (T := 48) NdE ([] : List Nd) ((St.init w).quiet kx1) (fun b2 w2 k2 hs2 => ?_))))
  have htk : (t.take m).length = (m : Int).toNat := by rw [Int.toNat_natCast]; simp; omega
  refine WO.rd (is := [1, 2, 3]) (js := [4, 5, 6, 7, 8, 9, 10, 11]) (Keep.refl _) (Rn.s rfl Yv.mv (Rn.s rfl Yv.mv (Rn.s rfl (Yv.sl_t (n := 8) (e := 48) (k := (t.take m).length) (by omega) (by omega) htk) (Rn.nil)))) (WO.act (hc := rfl) (he := Ef.append (ys := t.take m) hs2 0 (rd_take (hr.keep hs2.keep)) (fun h => (hA h).elim) (fitN (by simp; omega)) ?_))
  intro O1 c1 w3 hs3
  have hs3 : St w [] w3 [Ch.row NdE 48 O1 c1 (t.take m)] := hs3
  refine WO.rd (is := [5, 6, 7]) (js := [8, 9, 10, 11]) (Keep.refl _) (Rn.s rfl Yv.mv (Rn.s rfl Yv.mv (Rn.s rfl Yv.mv (Rn.nil)))) (WO.cv rfl (end_cv' A c t m w3 (hr.keep hs3.keep) hml (by omega)) (Keep.refl _) (FnOk.of Tryd.func46) (fun w4 k4 => ?_))
  have hs4 := hs3.quiet k4
  have htd : (t.drop (endS t m)).length = t.length - (endS t m : Int).toNat := by rw [Int.toNat_natCast]; simp
  refine WO.rd (is := [9]) (js := [10, 11]) (Keep.refl _) (Rn.s rfl (Yv.sl_f (n := 8) (e := 48) (k := (t.drop (endS t m)).length) (by omega) (by omega) htd) (Rn.nil)) (WO.act (hc := rfl) (he := Ef.append (ys := t.drop (endS t m)) hs4 0 (rd_drop (hr.keep hs4.keep) hcap) (cut_none (t := t) hA) (fitN (by simp; omega)) ?_))
  intro O2 c2 w5 hs5
  refine WO.rd (is := [11]) (js := []) (Keep.refl _) (Rn.s rfl Yv.as (Rn.nil)) (WO.done ?_)
  refine Wp.ret (Fin.ret (Res.one rfl rfl) ?_)
  rw [if_neg h]
  exact ⟨O2, c2, rfl, hs5.keep, .inr (hs5.pick [0])⟩
/-- a tree without what it includes, in place of the tree -/
theorem wcut_st {w0 w w' : World} {A : Option Addr} {c : Nat} {t : List Nd} {D : List Chunk} (h : St w0 [] w (Ch.row NdE 48 A c t :: D)) {O : Option Addr} {co : Nat} (k : Keep w w') (h2 : (O = A ∧ co = c ∧ wcutS t incl = t) ∨ St w [] w' [Ch.row NdE 48 O co (wcutS t incl)]) :
    St w0 [] w' (Ch.row NdE 48 O co (wcutS t incl) :: D) := by
  rcases h2 with ⟨rfl, rfl, e⟩ | h2
  · rw [e]; exact h.quiet k
  · exact (h.call0 h2).sub (List.Sublist.cons_cons _ (List.sublist_cons_self _ _))
theorem perm_in {F X Y D : List Chunk} : (F ++ (X ++ (Y ++ D))).Perm (X ++ (Y ++ (F ++ D))) :=
  (List.perm_append_comm_assoc F X (Y ++ D)).trans ((List.perm_append_comm_assoc F Y D).append_left X)
set_option maxHeartbeats 6400000 in
theorem read_calls (b bl br ms mr : Nat) (set : List (Bs × Fl)) (hset : set.length ≤ 64) (w0 : World) (hg : Gm w0) : ∀ (f : Nat) (s : LS) (m : LM) (name : Bs) (w : World) (D : List Chunk), Inv set s → 16 ≤ s.opn.length + f → s.opn.length < 16 → (alook name set).isSome = true → name ∉ s.nms → name ∉ s.opn → m.trs.map ts1 = s.trs →
    St w0 [] w (ChV b bl br ms mr set s m ++ (trows m.trs ++ D)) →
    Calls Tryd.prog 65 #[S name, PB bl, PB br] w fun e w' => e = .returned (.agg (loadF set f s name).2.cs.toArray) ∧ ∃ m', m'.trs.map ts1 = (loadF set f s name).1.trs ∧ St w0 [] w' (ChV b bl br ms mr set (loadF set f s name).1 m' ++ (trows m'.trs ++ D)) := by
  intro f
  induction f with
  | zero => intro s m name w D hi hf ho hs hn hp htr hst; omega
  | succ f IH =>
    intro s m name w D hi hf ho hs hn hp htr hst
    refine calls_of_Wp (vs := [_, _, _]) Tryd.func65 ?_
    refine Wp.seq (Wp.regionL (l := [0]) (WO.act (hc := rfl) (he := Ef.allocL (vs := [.int .i64 0, S [], .int .i64 0, .int .i64 0]) hst (fun ba1 wa1 ka1 hsa1 => WO.done ?_))))
    have hst : St w0 [] wa1 (Ch.cells ba1 27 ft0.cs :: (ChV b bl br ms mr set s m ++ (trows m.trs ++ D))) := hsa1
    clear hsa1
    have c1 := hst.cells 8
    have hc := hst.cells 1
    obtain ⟨T, F, hP⟩ : ∃ T F, parseS name (fileS set name) = (T, F) := ⟨_, _, rfl⟩
    have hpc := parse_cx name (fileS set name) wa1 (hg.keep hst.keep)
    have hTl := parseS_len name (fileS set name)
    have hlaw : (parseS name (fileS set name)).2.code = 0 → isS (parseS name (fileS set name)).1 = true := by
      intro h
      obtain ⟨l1, l2, l3⟩ := parseS_law name (fileS set name)
      by_cases he : (linesS (fileS set name)).e = 0
      · exact (l3 he h).2.1
      · rw [l1 he] at h; exact (he h).elim
    rw [loadF]
    rw [hP] at hpc hTl hlaw ⊢
    simp only at hpc hTl hlaw ⊢
    refine Wp.seq (Wp.regionL (l := [0, 1, 2, 3, 4, 5, 6, 7, 8, 9, 10, 11, 12, 13, 14]) (WO.rd (is := [0, 1, 2, 3, 4, 5, 6, 7]) (js := [8, 9, 10, 11, 12, 13, 14]) (Keep.refl _) (Rn.s rfl Yv.mv (Rn.s rfl (Yv.ld (c1.at_ 0)) (Rn.s rfl Yv.nc (Rn.s rfl (Yv.fa (off := 0)) (Rn.s rfl (Yv.ld (hc.at_ 0)) (Rn.s rfl Yv.mv (Rn.s rfl (Yv.look (hst.at_ 2 rfl) ⟨[], []⟩) (Rn.s rfl (Yv.fld (off := 1)) (Rn.nil))))))))) (WO.act (hc := rfl) (he := Ef.cx hpc hst (FnOk.of Tryd.func21) ?_))))
    rintro v D1 w1 ⟨PA, pc, rfl, rfl⟩ hs1
    refine WO.rd (is := [9, 10, 11]) (js := [12, 13, 14]) (Keep.refl _) (Rn.s rfl Yv.mv (Rn.s rfl Yv.ex (Rn.s rfl Yv.ex (Rn.nil)))) (WO.act (he := Ef.allocL (vs := ft0.cs) hs1 (fun b6 w2 k2 hs2 => WO.rd (is := [13]) (js := [14]) (Keep.refl _) (Rn.s rfl Yv.as (Rn.nil)) (WO.act (he := Ef.stores hs2 0 (fun w3 hs3 => WO.done ?_))))))
    have hst : St w0 [] w3 (Ch.cells b6 27 F.cs :: Ch.row NdE 48 PA pc T :: Ch.cells ba1 27 ft0.cs :: (ChV b bl br ms mr set s m ++ (trows m.trs ++ D))) := hs3
    clear hs1 hpc hc c1
    have c6 := hst.cells 0
    refine Wp.seq (Wp.seq (Wp.reads (is := [0, 1, 2]) (Keep.refl _) (Rn.s rfl (Yv.fa (off := 0)) (Rn.s rfl (Yv.ld (c6.at_ 0)) (Rn.s rfl (Yv.cmp _ rfl) (Rn.nil)))) ?_))
    refine Wp.cond rfl (fun h => ?_) (fun h => ?_)
    · have h : F.code ≠ 0 := bne_iff_ne.1 h
      refine Wp.seq (Wp.regionL (l := [0, 1]) (WO.rd (is := [0]) (js := [1]) (Keep.refl _) (Rn.s rfl (Yv.ldb c6) (Rn.nil)) (WO.act (hc := rfl) (he := Ef.stores hst 2 (fun wx1 hsx1 => WO.done ?_)))))
      refine Wp.ret (Fin.ret (resCA rfl rfl (hsx1.cells 0)) ?_)
      rw [if_pos h]
      exact ⟨rfl, m, htr, hsx1.pickT (P := [_, _, _, _, _, _, _, _, _, _, _, _]) (T := trows m.trs ++ D) [3, 4, 5, 6, 7, 8, 9, 10, 11]⟩
    have h : F.code = 0 := bne_eq_false_iff_eq.1 h
    have hq1 : ¬ F.code ≠ 0 := fun q => q h
    have hTis : isS T = true := hlaw h
    obtain ⟨hT0, hT1, hTd⟩ := isS_depth hTis
    have hdT : DepOk T := fun i hi => by have := hTd i hi; omega
    refine Wp.skip ?_
    obtain ⟨ns, NF, hN⟩ : ∃ ns NF, namesS T = (ns, NF) := ⟨_, _, rfl⟩
    have hnc := names_cx PA pc T w3 (hst.rd 1) hT0 (by omega) hdT
    rw [hN] at hnc ⊢
    simp only at hnc ⊢
    refine Wp.seq (Wp.regionL (l := [0, 1, 2, 3, 4, 5, 6]) (WO.rd (is := [0]) (js := [1, 2, 3, 4, 5, 6]) (Keep.refl _) (Rn.s rfl Yv.mv (Rn.nil)) (WO.act (hc := rfl) (he := Ef.cx hnc hst (FnOk.of Tryd.func66) ?_))))
    rintro v D1 w4 ⟨NA, nc, rfl, rfl⟩ hs4
    refine WO.rd (is := [2, 3, 4, 5]) (js := [6]) (Keep.refl _) (Rn.s rfl Yv.mv (Rn.s rfl Yv.ex (Rn.s rfl Yv.ex (Rn.s rfl Yv.as (Rn.nil))))) (WO.act (he := Ef.stores hs4 1 (fun w5 hs5 => WO.done ?_)))
    have hst : St w0 [] w5 (Ch.cells b6 27 NF.cs :: Ch.row NdE 48 NA nc ns :: Ch.row NdE 48 PA pc T :: Ch.cells ba1 27 ft0.cs :: (ChV b bl br ms mr set s m ++ (trows m.trs ++ D))) := hs5
    clear hs4 hnc c6
    have c6 := hst.cells 0
    refine Wp.seq (Wp.seq (Wp.reads (is := [0, 1, 2]) (Keep.refl _) (Rn.s rfl (Yv.fa (off := 0)) (Rn.s rfl (Yv.ld (c6.at_ 0)) (Rn.s rfl (Yv.cmp _ rfl) (Rn.nil)))) ?_))
    refine Wp.cond rfl (fun h => ?_) (fun h => ?_)
    · have h : NF.code ≠ 0 := bne_iff_ne.1 h
      refine Wp.seq (Wp.regionL (l := [0, 1]) (WO.rd (is := [0]) (js := [1]) (Keep.refl _) (Rn.s rfl (Yv.ldb c6) (Rn.nil)) (WO.act (hc := rfl) (he := Ef.stores hst 3 (fun wx1 hsx1 => WO.done ?_)))))
      refine Wp.ret (Fin.ret (resCA rfl rfl (hsx1.cells 0)) ?_)
      rw [if_neg hq1, if_pos h]
      exact ⟨rfl, m, htr, hsx1.pickT (P := [_, _, _, _, _, _, _, _, _, _, _, _, _]) (T := trows m.trs ++ D) [4, 5, 6, 7, 8, 9, 10, 11, 12]⟩
    have hq2 : ¬ NF.code ≠ 0 := fun q => q (bne_eq_false_iff_eq.1 h)
    refine Wp.skip ?_
    have hnsl : ns.length ≤ 16384 := by
      have e : (namesS T).1.length ≤ T.length := by
        unfold namesS
        have hb := findS_bd hT0 incl
        split
        · simp
        split
        · simp
        · rename_i q1 q2
          have := (textsS_mem (t := T) (i := (findS T 0 incl).toNat) (by omega)).2.2
          simpa using this
      rw [hN] at e
      simp only at e
      omega
    -- it is open
    have c1 := hst.cells 11
    have hc := hst.cells 4
    have hd := hst.quiet (Keep.drew w5)
    refine Wp.seq (Wp.mid (fun ρ ds w' => ds = [] ∧ (∃ m1 : LM, m1.trs = m.trs ∧ St w0 [] w' (Ch.cells b6 27 NF.cs :: Ch.row NdE 48 NA nc ns :: Ch.row NdE 48 PA pc T :: Ch.cells ba1 27 ft0.cs :: (ChV b bl br ms mr set (pushS s name) m1 ++ (trows m.trs ++ D)))) ∧ Sub [(0, S name), (1, PB bl), (2, PB br), (4, PB ba1), (5, .slice PA T.length pc), (6, PB b6), (7, .slice NA ns.length nc)] ρ) ?_ ?_)
    · refine Wp.drawsB [7, 10] mixed (WDB.rd (is := [1, 2, 3, 4, 5]) (fun _ _ _ _ _ h => h) (Keep.refl _) (Keep.drew _) (Rn.s rfl (Yv.ld (c1.at_ 0)) (Rn.s rfl Yv.nc (Rn.s rfl (Yv.fa (off := 2)) (Rn.s rfl (Yv.ld (hc.at_ 2)) (Rn.s rfl Yv.mv (Rn.nil)))))) ?_)
      refine WDB.act2 0 6 (hci := rfl) (hcj := rfl) (hi := Ef.yv (Yv.ld ((hd.cells 11).at_ 0)) ⟨fun _ h => h, ?_⟩) (hj := Ef.bsl (T := 9) StE [name] hd (fun bA2 wA2 kA2 hsA2 => ⟨fun _ h => h.trans kA2, ?_⟩))
      · refine WDB.act 6 (hc := rfl) (he := Ef.bsl (T := 9) StE [name] hd (fun bA3 wA3 kA3 hsA3 => ⟨fun _ h => h.trans kA3, ?_⟩))
        refine WDB.act 7 (hc := rfl) (he := Ef.append (ys := [name]) hsA3 8 (hsA3.rd 0) (by simp) (fitT (by simp only [List.length_cons, List.length_nil]; omega)) (fun AB4 cB4 wB4 hsB4 => ⟨fun h => (h (by simp)).elim, ?_⟩))
        refine WDB.rd0 (is := [8, 9]) (fun _ _ _ _ _ h => h) (Keep.refl _) (Rn.s rfl Yv.nc (Rn.s rfl (Yv.fa (off := 2)) (Rn.nil))) ?_
        refine WDB.act 10 (hc := rfl) (he := Ef.store hsB4 6 (fun wC5 hsC5 => ⟨fun h => (h (by simp)).elim, WDB.done ?_⟩))
        exact ⟨rfl, ⟨{ m with O := AB4, oc := cB4 }, rfl, hsC5.pickT (P := [_, _, _, _, _, _, _, _, _, _, _, _, _, _]) (T := trows m.trs ++ D) [3, 4, 5, 6, 0, 7, 8, 1, 9, 10, 11, 12, 13]⟩, rfl, rfl, rfl, rfl, rfl, rfl, rfl, trivial⟩
      · refine WDB.act2 0 7 (hci := rfl) (hcj := rfl) (hi := Ef.yv (Yv.ld ((hsA2.cells 12).at_ 0)) ⟨fun _ h => h, ?_⟩) (hj := Ef.append (ys := [name]) hsA2 8 (hsA2.rd 0) (by simp) (fitT (by simp only [List.length_cons, List.length_nil]; omega)) (fun AB7 cB7 wB7 hsB7 => ⟨fun h => (h (by simp)).elim, ?_⟩))
        · refine WDB.act 7 (hc := rfl) (he := Ef.append (ys := [name]) hsA2 8 (hsA2.rd 0) (by simp) (fitT (by simp only [List.length_cons, List.length_nil]; omega)) (fun AB8 cB8 wB8 hsB8 => ⟨fun h => (h (by simp)).elim, ?_⟩))
          refine WDB.rd0 (is := [8, 9]) (fun _ _ _ _ _ h => h) (Keep.refl _) (Rn.s rfl Yv.nc (Rn.s rfl (Yv.fa (off := 2)) (Rn.nil))) ?_
          refine WDB.act 10 (hc := rfl) (he := Ef.store hsB8 6 (fun wC9 hsC9 => ⟨fun h => (h (by simp)).elim, WDB.done ?_⟩))
          exact ⟨rfl, ⟨{ m with O := AB8, oc := cB8 }, rfl, hsC9.pickT (P := [_, _, _, _, _, _, _, _, _, _, _, _, _, _]) (T := trows m.trs ++ D) [3, 4, 5, 6, 0, 7, 8, 1, 9, 10, 11, 12, 13]⟩, rfl, rfl, rfl, rfl, rfl, rfl, rfl, trivial⟩
        · refine WDB.act 0 (hc := rfl) (he := Ef.yv (Yv.ld ((hsB7.cells 12).at_ 0)) ⟨fun _ h => h, ?_⟩)
          refine WDB.rd0 (is := [8, 9]) (fun _ _ _ _ _ h => h) (Keep.refl _) (Rn.s rfl Yv.nc (Rn.s rfl (Yv.fa (off := 2)) (Rn.nil))) ?_
          refine WDB.act 10 (hc := rfl) (he := Ef.store hsB7 6 (fun wC11 hsC11 => ⟨fun h => (h (by simp)).elim, WDB.done ?_⟩))
          exact ⟨rfl, ⟨{ m with O := AB7, oc := cB7 }, rfl, hsC11.pickT (P := [_, _, _, _, _, _, _, _, _, _, _, _, _, _]) (T := trows m.trs ++ D) [3, 4, 5, 6, 0, 7, 8, 1, 9, 10, 11, 12, 13]⟩, rfl, rfl, rfl, rfl, rfl, rfl, rfl, trivial⟩
    clear hst hd hc c1 c6
    rintro ρ ds w6 ⟨rfl, ⟨m1, hm1, hst⟩, hsub⟩
    refine Wp.forget _ ?_ hsub
    clear hsub ρ
    rw [← hm1] at hst htr
    clear hm1
    obtain ⟨G, hG⟩ : ∃ G, G = visL (loadF set f) set ns (pushS s name) := ⟨_, rfl⟩
    rw [← hG]
    have hip := push_inv hi hn
    refine Wp.seq (Wp.seq (Wp.reads (is := [0, 1, 2]) (Keep.refl _) (Rn.s rfl Yv.mv (Rn.s rfl (Yv.len_v (e := 48) (m := 8)) (Rn.s rfl Yv.mv (Rn.nil)))) ?_))
    refine Wp.block ?_
    refine Wp.loop (α := Nat) (fun k ρ ds w' => ds = [] ∧ k ≤ ns.length ∧ (∃ (s2 : LS) (m2 : LM), visL (loadF set f) set (ns.drop k) s2 = G ∧ Inv set s2 ∧ s2.opn = s.opn ++ [name] ∧ m2.trs.map ts1 = s2.trs ∧
        St w0 [] w' (Ch.cells b6 27 NF.cs :: Ch.row NdE 48 NA nc ns :: Ch.row NdE 48 PA pc T :: Ch.cells ba1 27 ft0.cs :: (ChV b bl br ms mr set s2 m2 ++ (trows m2.trs ++ D)))) ∧
      Sub [(0, S name), (1, PB bl), (2, PB br), (4, PB ba1), (5, .slice PA T.length pc), (6, PB b6), (47, .slice NA ns.length nc), (48, .int .i64 (ns.length : Int)), (49, .int .i64 (k : Int))] ρ) (fun k => ns.length - k) 0
      ⟨rfl, Nat.zero_le _, ⟨pushS s name, m1, hG.symm, hip, rfl, htr, hst⟩, rfl, rfl, rfl, rfl, rfl, rfl, rfl, rfl, rfl, trivial⟩ ?_
    clear hst
    rintro k ρ ds w7 ⟨rfl, hk, ⟨s2, m2, hv, hi2, ho2, ht2, hst⟩, hsub⟩
    refine Wp.forget _ ?_ hsub
    clear hsub ρ
    have hol2 : s2.opn.length = s.opn.length + 1 := by rw [ho2]; simp
    refine Wp.seq (Wp.reads (is := [0]) (Keep.refl _) (Rn.s rfl (Yv.cmp _ rfl) (Rn.nil)) ?_)
    refine Wp.seq (Wp.cond rfl (fun h1 => ?_) (fun h1 => ?_))
    · have h1 := of_decide_eq_true h1
      have hkl : k < ns.length := by omega
      have hget : nth ns (k : Int) = ns[k] := nth_of (List.getElem?_eq_getElem hkl)
      rw [List.drop_eq_getElem_cons hkl, ← hget, visL] at hv
      have hrn := hst.rd 1
      refine Wp.skip (Wp.seq (Wp.block ?_))
      refine Wp.seq (Wp.regionL (l := [0, 1, 2, 3]) (WO.rd (is := [0, 1]) (js := [2, 3]) (Keep.refl _) (Rn.s rfl (Yv.ia (e := 48) hrn (by omega) (by omega)) (Rn.s rfl (Yv.ldel hrn rfl rfl (by omega) (by omega)) (Rn.nil))) (WO.act (hc := rfl) (he := Ef.allocL (vs := [.int .i64 0, .int .i64 0, S [], S [], S [], .int .i64 0, .int .i64 0, .int .i64 0]) hst (fun bx1 wx1 kx1 hsx1 => WO.act (hc := rfl) (he := Ef.stores hsx1 0 (fun wx2 hsx2 => WO.done ?_)))))))
      obtain ⟨n, hne⟩ : ∃ n, n = nth ns (k : Int) := ⟨_, rfl⟩
      rw [← hne] at hv
      have hst : St w0 [] wx2 (Ch.cells bx1 48 n.cs :: Ch.cells b6 27 NF.cs :: Ch.row NdE 48 NA nc ns :: Ch.row NdE 48 PA pc T :: Ch.cells ba1 27 ft0.cs :: (ChV b bl br ms mr set s2 m2 ++ (trows m2.trs ++ D))) := by rw [hne]; exact hsx2
      clear hsx1 hsx2
      have c9 := hst.cells 0
      have c1 := hst.cells 12
      have hsw := hst.perm (List.perm_append_comm_assoc [_, _, _, _, _] (ChV b bl br ms mr set s2 m2) (trows m2.trs ++ D))
      refine Wp.seq (Wp.regionL (l := [0, 1, 2, 3, 4, 5, 6, 7, 8]) (WO.rd (is := [0, 1]) (js := [2, 3, 4, 5, 6, 7, 8]) (Keep.refl _) (Rn.s rfl (Yv.ld (c1.at_ 0)) (Rn.s rfl (Yv.ldb c9) (Rn.nil))) (WO.act (hc := rfl) (he := Ef.callv Tryd.func67 (Calls.mono (may_calls b bl br ms mr set s2 m2 n w0 wx2 _ hsw (by omega)) ?_)))))
      rintro e w8 ⟨rfl, m3, hm3, hs8⟩
      have hs8 := hs8.perm (List.perm_append_comm_assoc (ChV b bl br ms mr set (mayS set s2 n).2.2 m3) [_, _, _, _, _] (trows m2.trs ++ D))
      refine WO.rd (is := [3, 4, 5]) (js := [6, 7, 8]) (Keep.refl _) (Rn.s rfl Yv.mv (Rn.s rfl Yv.ex (Rn.s rfl Yv.ex (Rn.nil)))) (WO.act (he := Ef.allocL (vs := ft0.cs) hs8 (fun b11 w9 k9 hs9 => WO.rd (is := [7]) (js := [8]) (Keep.refl _) (Rn.s rfl Yv.as (Rn.nil)) (WO.act (he := Ef.stores hs9 0 (fun w10 hs10 => WO.done ?_))))))
      rw [← hm3] at hs10 ht2
      have hst : St w0 [] w10 (Ch.cells b11 27 (mayS set s2 n).2.1.cs :: Ch.cells bx1 48 n.cs :: Ch.cells b6 27 NF.cs :: Ch.row NdE 48 NA nc ns :: Ch.row NdE 48 PA pc T :: Ch.cells ba1 27 ft0.cs :: (ChV b bl br ms mr set (mayS set s2 n).2.2 m3 ++ (trows m3.trs ++ D))) := hs10
      clear hs8 hsw c1 c9
      have c9 := hst.cells 1
      have c2 := hst.cells 14
      refine Wp.seq (Wp.mid (fun ρ ds w' => ds = [] ∧ (∃ (s3 : LS) (m5 : LM) (R : Ft), (R.code ≠ 0 → G = (s3, R)) ∧ (R.code = 0 → visL (loadF set f) set (ns.drop (k + 1)) s3 = G ∧ Inv set s3 ∧ s3.opn = s.opn ++ [name]) ∧ m5.trs.map ts1 = s3.trs ∧
        St w0 [] w' (Ch.cells b11 27 R.cs :: Ch.cells bx1 48 n.cs :: Ch.cells b6 27 NF.cs :: Ch.row NdE 48 NA nc ns :: Ch.row NdE 48 PA pc T :: Ch.cells ba1 27 ft0.cs :: (ChV b bl br ms mr set s3 m5 ++ (trows m5.trs ++ D)))) ∧
        Sub [(0, S name), (1, PB bl), (2, PB br), (4, PB ba1), (5, .slice PA T.length pc), (6, PB b6), (11, PB b11), (47, .slice NA ns.length nc), (48, .int .i64 (ns.length : Int)), (49, .int .i64 (k : Int))] ρ) ?_ ?_)
      · refine Wp.seq (Wp.reads (is := [0]) (Keep.refl _) (Rn.s rfl Yv.mv (Rn.nil)) ?_)
        refine Wp.cond rfl (fun h2 => ?_) (fun h2 => ?_)
        · have h2 : (mayS set s2 n).1 = true := h2
          obtain ⟨q1, q2, q3, q4, q5, q6⟩ := mayS_true h2
          rw [if_pos h2, q1] at hv
          rw [q1] at hst
          have hsw := hst.perm (perm_in (F := [_, _, _, _, _, _]) (X := ChV b bl br ms mr set s2 m3) (Y := trows m3.trs) (D := D))
          have hnn : n.text ∉ s2.nms := fun hm => q5 ((hi2.rd _).2 hm)
          have ih := IH s2 m3 n.text w10 _ hi2 (by omega) q6 q3 hnn q4 ht2 hsw
          have e0 : ([S n.text].toArray ++ #[PB bl, PB br] : Array Value) = #[S n.text, PB bl, PB br] := by simp
          rw [← e0] at ih
          refine Wp.regionL (l := [0, 1, 2, 3, 4]) (WO.rd (is := [0, 1, 2]) (js := [3, 4]) (Keep.refl _) (Rn.s rfl (Yv.ld (c2.at_ 0)) (Rn.s rfl (Yv.fa (off := 3)) (Rn.s rfl (Yv.ld (c9.at_ 3)) (Rn.nil)))) (WO.act (hc := rfl) (he := Ef.callv Tryd.func65 (Calls.mono ih ?_))))
          rintro e w11 ⟨rfl, m4, hm4, hs11⟩
          have hs11 := hs11.perm (perm_in (F := [_, _, _, _, _, _]) (X := ChV b bl br ms mr set (loadF set f s2 n.text).1 m4) (Y := trows m4.trs) (D := D)).symm
          refine WO.act (he := Ef.stores hs11 0 (fun w12 hs12 => WO.done ?_))
          refine ⟨rfl, ⟨(loadF set f s2 n.text).1, m4, (loadF set f s2 n.text).2, ?_, ?_, hm4, hs12⟩, rfl, rfl, rfl, rfl, rfl, rfl, rfl, rfl, rfl, rfl, trivial⟩
          · intro q; rw [if_pos q] at hv; exact hv.symm
          · intro q
            rw [if_neg (fun q' => q' q)] at hv
            obtain ⟨g1, g2, g3, -⟩ := loadF_good set f s2 n.text hi2 (by omega) q3 hnn q4 q6 q
            exact ⟨hv, g1, by rw [g2, ho2]⟩
        · have h2 : ¬ (mayS set s2 n).1 = true := by rw [show (mayS set s2 n).1 = false from h2]; decide
          rw [if_neg h2] at hv
          obtain ⟨e1, e2, e3, e4⟩ := mayS_st set s2 n
          refine Wp.skip ⟨rfl, ⟨(mayS set s2 n).2.2, m3, (mayS set s2 n).2.1, ?_, ?_, by rw [e4]; exact ht2, hst⟩, rfl, rfl, rfl, rfl, rfl, rfl, rfl, rfl, rfl, rfl, trivial⟩
          · intro q; rw [if_pos q] at hv; exact hv.symm
          · intro q
            rw [if_neg (fun q' => q' q)] at hv
            exact ⟨hv, mayS_inv hi2 n, by rw [e2, ho2]⟩
      clear hst c9 c2 hv ht2 hm3
      rintro ρ ds w11 ⟨rfl, ⟨s3, m5, R, r1, r2, ht5, hst⟩, hsub⟩
      refine Wp.forget _ ?_ hsub
      clear hsub ρ
      have c11 := hst.cells 0
      refine Wp.seq (Wp.reads (is := [0, 1, 2]) (Keep.refl _) (Rn.s rfl (Yv.fa (off := 0)) (Rn.s rfl (Yv.ld (c11.at_ 0)) (Rn.s rfl (Yv.cmp _ rfl) (Rn.nil)))) ?_)
      refine Wp.cond rfl (fun h2 => ?_) (fun h2 => ?_)
      · have h2 : R.code ≠ 0 := bne_iff_ne.1 h2
        refine Wp.seq (Wp.regionL (l := [0, 1]) (WO.rd (is := [0]) (js := [1]) (Keep.refl _) (Rn.s rfl (Yv.ldb c11) (Rn.nil)) (WO.act (hc := rfl) (he := Ef.stores hst 5 (fun wx1 hsx1 => WO.done ?_)))))
        refine Wp.ret (Fin.ret (resCA rfl rfl (hsx1.cells 0)) ?_)
        have hGR := r1 h2
        rw [if_neg hq1, if_neg hq2, hGR, if_pos h2]
        exact ⟨rfl, m5, ht5, hsx1.pickT (P := [_, _, _, _, _, _, _, _, _, _, _, _, _, _, _]) (T := trows m5.trs ++ D) [6, 7, 8, 9, 10, 11, 12, 13, 14]⟩
      · have h2 : R.code = 0 := bne_eq_false_iff_eq.1 h2
        obtain ⟨g1, g2, g3⟩ := r2 h2
        refine Wp.skip (Wp.reads (is := [0, 1]) (Keep.refl _) (Rn.s rfl (Yv.add (by unfold inI; omega)) (Rn.s rfl Yv.mv (Rn.nil))) ?_)
        exact ⟨k + 1, ⟨rfl, by omega, ⟨s3, m5, g1, g2, g3, ht5, hst.pickT (P := [_, _, _, _, _, _, _, _, _, _, _, _, _, _, _]) (T := trows m5.trs ++ D) [2, 3, 4, 5, 6, 7, 8, 9, 10, 11, 12, 13, 14]⟩, rfl, rfl, rfl, rfl, rfl, rfl, rfl, rfl, rfl, trivial⟩, by omega⟩
    have h1 := of_decide_eq_false h1
    rw [List.drop_eq_nil_of_le (by omega), visL] at hv
    rw [← hv]
    refine Wp.exit ?_
    have hnn : name ∉ s2.nms := hi2.opn name (by rw [ho2]; simp)
    have hgd0 : (alook name s2.rd).getD 0 = 0 := by
      have h2 := hi2.pos name
      by_cases q : 0 < (alook name s2.rd).getD 0
      · exact (hnn ((hi2.rd name).1 q)).elim
      · omega
    have hnl := hi2.le
    have htl2 : m2.trs.length ≤ 64 := by
      have h5 := hi2.len
      rw [← ht2] at h5
      simp only [List.length_map] at h5
      omega
    -- it is not open any more
    have c1 := hst.cells 11
    have hc := hst.cells 4
    have hcap := hst.cap (E := StE) (A := m2.O) (c := m2.oc) (xs := s2.opn) 7
    refine Wp.seq (Wp.draws [14] mixed (WD.rd (is := [0, 1, 2, 3, 4, 5, 6, 7, 8, 9, 10, 11, 12, 13]) (fun _ _ _ _ _ h => h) (Keep.drew _) (Rn.s rfl (Yv.ld (c1.at_ 0)) (Rn.s rfl (Yv.ld (c1.at_ 0)) (Rn.s rfl Yv.nc (Rn.s rfl (Yv.fa (off := 2)) (Rn.s rfl (Yv.ld (hc.at_ 2)) (Rn.s rfl (Yv.ld (c1.at_ 0)) (Rn.s rfl Yv.nc (Rn.s rfl (Yv.fa (off := 2)) (Rn.s rfl (Yv.ld (hc.at_ 2)) (Rn.s rfl (Yv.len_v (e := 9) (m := 1)) (Rn.s rfl (Yv.sub (by unfold inI; omega)) (Rn.s rfl (Yv.sl_t (n := 1) (e := 9) (by omega) (by omega)) (Rn.s rfl Yv.nc (Rn.s rfl (Yv.fa (off := 2)) (Rn.nil))))))))))))))) (WD.act 14 (hc := rfl) (he := Ef.store (hst.quiet (Keep.drew _)) 4 (fun wx1 hsx1 => ⟨fun hn => (hn (by decide)).elim, WD.done ?_⟩)))))
    have hst : St w0 [] wx1 (Ch.row NdE 48 PA pc T :: Ch.cells ba1 27 ft0.cs :: (ChV b bl br ms mr set { s2 with opn := s2.opn.dropLast } m2 ++ (trows m2.trs ++ D))) := by
      have h9 := hsx1.pickT (P := [_, _, _, _, _, _, _, _, _, _, _, _, _]) (T := trows m2.trs ++ D) [7, 3, 4, 0, 5, 6, 8, 9, 10, 11, 12]
      have e2 : ((s2.opn.length : Int) - 1).toNat = s2.opn.dropLast.length := by rw [List.length_dropLast]; omega
      have e3 : s2.opn = s2.opn.dropLast ++ [name] := by rw [ho2]; simp
      rw [e2] at h9
      have h10 : Ch.row StE 9 m2.O m2.oc s2.opn = Ch.row StE 9 m2.O m2.oc (s2.opn.dropLast ++ [name]) := by rw [← e3]
      have h9 : St w0 [] wx1 (Ch.row StE 9 m2.O m2.oc s2.opn :: _) := h9
      rw [h10] at h9
      have h11 := h9.shrink
      exact h11.pickT (P := [_, _, _, _, _, _, _, _, _, _, _]) (T := trows m2.trs ++ D) [1, 2, 3, 4, 5, 0, 6, 7, 8, 9, 10]
    clear hsx1
    have hdl : s2.opn.dropLast.length = s.opn.length := by rw [ho2]; simp
    obtain ⟨s4, hs4⟩ : ∃ s4 : LS, s4 = { s2 with opn := s2.opn.dropLast } := ⟨_, rfl⟩
    rw [← hs4] at hst
    have e4 : s4.rd = s2.rd ∧ s4.nms = s2.nms ∧ s4.trs = s2.trs ∧ s4.cyc = s2.cyc ∧ s4.opn = s2.opn.dropLast := by rw [hs4]; exact ⟨rfl, rfl, rfl, rfl, rfl⟩
    -- it has been read
    have c1 := hst.cells 9
    have hc := hst.cells 2
    refine Wp.seq (Wp.regionL (l := [0, 1, 2, 3, 4, 5, 6, 7]) (WO.rd (is := [0, 1, 2, 3, 4, 5, 6]) (js := [7]) (Keep.refl _) (Rn.s rfl (Yv.ld (c1.at_ 0)) (Rn.s rfl Yv.nc (Rn.s rfl (Yv.fa (off := 1)) (Rn.s rfl (Yv.ld (hc.at_ 1)) (Rn.s rfl Yv.mv (Rn.s rfl (Yv.look (hst.at_ 4 rfl) 0) (Rn.s rfl (Yv.add (by rw [e4.1, hgd0]; unfold inI; omega)) (Rn.nil)))))))) (WO.act (hc := rfl) (he := Ef.mapput hst 4 (fun w8 hs8 => WO.done ?_)))))
    obtain ⟨s5, hs5⟩ : ∃ s5 : LS, s5 = { s4 with rd := aput name ((alook name s4.rd).getD 0 + 1) s4.rd } := ⟨_, rfl⟩
    have hst : St w0 [] w8 (Ch.row NdE 48 PA pc T :: Ch.cells ba1 27 ft0.cs :: (ChV b bl br ms mr set s5 m2 ++ (trows m2.trs ++ D))) := by
      rw [hs5]
      exact hs8.pickT (P := [_, _, _, _, _, _, _, _, _, _, _]) (T := trows m2.trs ++ D) [1, 2, 3, 4, 0, 5, 6, 7, 8, 9, 10]
    clear hs8 c1 hc
    have e5 : s5.nms = s2.nms ∧ s5.trs = s2.trs ∧ s5.cyc = s2.cyc ∧ s5.opn = s2.opn.dropLast ∧ s5.rd = aput name ((alook name s2.rd).getD 0 + 1) s2.rd := by rw [hs5]; simp only; rw [e4.1]; exact ⟨e4.2.1, e4.2.2.1, e4.2.2.2.1, e4.2.2.2.2, rfl⟩
    -- its name
    have c1 := hst.cells 9
    have hc := hst.cells 2
    have hd := hst.quiet (Keep.drew w8)
    have hnl5 : s5.nms.length ≤ 64 := by rw [e5.1]; omega
    refine Wp.seq (Wp.mid (fun ρ ds w' => ds = [] ∧ (∃ m6 : LM, m6.trs = m2.trs ∧ St w0 [] w' (Ch.row NdE 48 PA pc T :: Ch.cells ba1 27 ft0.cs :: (ChV b bl br ms mr set { s5 with nms := s5.nms ++ [name] } m6 ++ (trows m2.trs ++ D)))) ∧ Sub [(1, PB bl), (4, PB ba1), (5, .slice PA T.length pc)] ρ) ?_ ?_)
    · refine Wp.drawsB [7, 10] mixed (WDB.rd (is := [1, 2, 3, 4, 5]) (fun _ _ _ _ _ h => h) (Keep.refl _) (Keep.drew _) (Rn.s rfl (Yv.ld (c1.at_ 0)) (Rn.s rfl Yv.nc (Rn.s rfl (Yv.fa (off := 3)) (Rn.s rfl (Yv.ld (hc.at_ 3)) (Rn.s rfl Yv.mv (Rn.nil)))))) ?_)
      refine WDB.act2 0 6 (hci := rfl) (hcj := rfl) (hi := Ef.yv (Yv.ld ((hd.cells 9).at_ 0)) ⟨fun _ h => h, ?_⟩) (hj := Ef.bsl (T := 9) StE [name] hd (fun bA2 wA2 kA2 hsA2 => ⟨fun _ h => h.trans kA2, ?_⟩))
      · refine WDB.act 6 (hc := rfl) (he := Ef.bsl (T := 9) StE [name] hd (fun bA3 wA3 kA3 hsA3 => ⟨fun _ h => h.trans kA3, ?_⟩))
        refine WDB.act 7 (hc := rfl) (he := Ef.append (ys := [name]) hsA3 7 (hsA3.rd 0) (by simp) (fitT (by simp only [List.length_cons, List.length_nil]; omega)) (fun AB4 cB4 wB4 hsB4 => ⟨fun h => (h (by simp)).elim, ?_⟩))
        refine WDB.rd0 (is := [8, 9]) (fun _ _ _ _ _ h => h) (Keep.refl _) (Rn.s rfl Yv.nc (Rn.s rfl (Yv.fa (off := 3)) (Rn.nil))) ?_
        refine WDB.act 10 (hc := rfl) (he := Ef.store hsB4 4 (fun wC5 hsC5 => ⟨fun h => (h (by simp)).elim, WDB.done ?_⟩))
        exact ⟨rfl, ⟨{ m2 with Nm := AB4, nc := cB4 }, rfl, hsC5.pickT (P := [_, _, _, _, _, _, _, _, _, _, _, _]) (T := trows m2.trs ++ D) [3, 4, 0, 5, 6, 7, 1, 8, 9, 10, 11]⟩, rfl, rfl, rfl, trivial⟩
      · refine WDB.act2 0 7 (hci := rfl) (hcj := rfl) (hi := Ef.yv (Yv.ld ((hsA2.cells 10).at_ 0)) ⟨fun _ h => h, ?_⟩) (hj := Ef.append (ys := [name]) hsA2 7 (hsA2.rd 0) (by simp) (fitT (by simp only [List.length_cons, List.length_nil]; omega)) (fun AB7 cB7 wB7 hsB7 => ⟨fun h => (h (by simp)).elim, ?_⟩))
        · refine WDB.act 7 (hc := rfl) (he := Ef.append (ys := [name]) hsA2 7 (hsA2.rd 0) (by simp) (fitT (by simp only [List.length_cons, List.length_nil]; omega)) (fun AB8 cB8 wB8 hsB8 => ⟨fun h => (h (by simp)).elim, ?_⟩))
          refine WDB.rd0 (is := [8, 9]) (fun _ _ _ _ _ h => h) (Keep.refl _) (Rn.s rfl Yv.nc (Rn.s rfl (Yv.fa (off := 3)) (Rn.nil))) ?_
          refine WDB.act 10 (hc := rfl) (he := Ef.store hsB8 4 (fun wC9 hsC9 => ⟨fun h => (h (by simp)).elim, WDB.done ?_⟩))
          exact ⟨rfl, ⟨{ m2 with Nm := AB8, nc := cB8 }, rfl, hsC9.pickT (P := [_, _, _, _, _, _, _, _, _, _, _, _]) (T := trows m2.trs ++ D) [3, 4, 0, 5, 6, 7, 1, 8, 9, 10, 11]⟩, rfl, rfl, rfl, trivial⟩
        · refine WDB.act 0 (hc := rfl) (he := Ef.yv (Yv.ld ((hsB7.cells 10).at_ 0)) ⟨fun _ h => h, ?_⟩)
          refine WDB.rd0 (is := [8, 9]) (fun _ _ _ _ _ h => h) (Keep.refl _) (Rn.s rfl Yv.nc (Rn.s rfl (Yv.fa (off := 3)) (Rn.nil))) ?_
          refine WDB.act 10 (hc := rfl) (he := Ef.store hsB7 4 (fun wC11 hsC11 => ⟨fun h => (h (by simp)).elim, WDB.done ?_⟩))
          exact ⟨rfl, ⟨{ m2 with Nm := AB7, nc := cB7 }, rfl, hsC11.pickT (P := [_, _, _, _, _, _, _, _, _, _, _, _]) (T := trows m2.trs ++ D) [3, 4, 0, 5, 6, 7, 1, 8, 9, 10, 11]⟩, rfl, rfl, rfl, trivial⟩
    clear hst hd hc c1
    rintro ρ ds w9 ⟨rfl, ⟨m6, hm6, hst⟩, hsub⟩
    refine Wp.forget _ ?_ hsub
    clear hsub ρ
    rw [← hm6] at hst ht2 htl2
    clear hm6
    obtain ⟨s6, hs6⟩ : ∃ s6 : LS, s6 = { s5 with nms := s5.nms ++ [name] } := ⟨_, rfl⟩
    rw [← hs6] at hst
    -- its tree
    have c1 := hst.cells 9
    have hc := hst.cells 2
    have hd := hst.quiet (Keep.drew w9)
    have hcapT := hst.cap (E := NdE) (A := PA) (c := pc) (xs := T) 0
    refine Wp.seq (Wp.mid (fun ρ ds w' => ds = [] ∧ (∃ m7 : LM, m7.trs.map ts1 = s6.trs ++ [wcutS T incl] ∧ St w0 [] w' (Ch.cells ba1 27 ft0.cs :: (ChV b bl br ms mr set { s6 with trs := s6.trs ++ [wcutS T incl] } m7 ++ (trows m7.trs ++ D)))) ∧ Sub [(4, PB ba1)] ρ) ?_ ?_)
    · have hfin : ∀ (w' : World) (O : Option Addr) (co : Nat) (TA : Option Addr) (tc : Nat) {C : Chunk}, St w0 [] w' ([Ch.cells b 66 [.map (some ms), .map (some mr), .slice m6.O s6.opn.length m6.oc, .slice m6.Nm s6.nms.length m6.nc, .slice TA (m6.trs ++ [(O, co, wcutS T incl)]).length tc, .slice m6.C s6.cyc.length m6.cc], Ch.row TsE 43 TA tc (m6.trs ++ [(O, co, wcutS T incl)]), C, Ch.row NdE 48 O co (wcutS T incl), Ch.cells ba1 27 ft0.cs, Ch.mp KyS VF ms set, Ch.mp KyS VI mr s6.rd, Ch.row StE 9 m6.O m6.oc s6.opn, Ch.row StE 9 m6.Nm m6.nc s6.nms, Ch.row StE 9 m6.C m6.cc s6.cyc, Ch.cells bl 60 [PB b], Ch.cells br 109 [rdF bl br]] ++ (trows m6.trs ++ D)) →
          ∃ m7 : LM, m7.trs.map ts1 = s6.trs ++ [wcutS T incl] ∧ St w0 [] w' (Ch.cells ba1 27 ft0.cs :: (ChV b bl br ms mr set { s6 with trs := s6.trs ++ [wcutS T incl] } m7 ++ (trows m7.trs ++ D))) := by
        intro w' O co TA tc C h
        refine ⟨{ m6 with T := TA, tc := tc, trs := m6.trs ++ [(O, co, wcutS T incl)] }, ?_, ?_⟩
        · have e6 : s6.trs = s2.trs := by rw [hs6]; exact e5.2.1
          simp only [List.map_append, List.map_cons, List.map_nil]
          rw [ht2, e6]
        · have h2 := h.pickT (P := [_, _, _, _, _, _, _, _, _, _, _, _]) (T := trows m6.trs ++ D) [4, 0, 5, 6, 7, 8, 1, 9, 10, 11, 3]
          have h3 : St w0 [] w' ([_, _, _, _, _, _, _, _, _, _] ++ (trow (O, co, wcutS T incl) :: (trows m6.trs ++ D))) := h2
          have h4 := h3.perm ((List.perm_middle (l₁ := trows m6.trs) (l₂ := D) (a := trow (O, co, wcutS T incl))).symm.append_left [_, _, _, _, _, _, _, _, _, _])
          have e7 : trows (m6.trs ++ [(O, co, wcutS T incl)]) ++ D = trows m6.trs ++ (trow (O, co, wcutS T incl) :: D) := by unfold trows; simp
          show St w0 [] w' (_ :: (ChV b bl br ms mr set _ _ ++ (trows (m6.trs ++ [(O, co, wcutS T incl)]) ++ D)))
          rw [e7]
          exact h4
      have hwc := fun w' (k : Keep w9 w') => wcut_cx PA pc T w' ((hst.rd 0).keep k) hcapT hT0 (by omega) hdT
      refine Wp.drawsB [8, 11] mixed (WDB.rd (is := [1, 2, 3, 4, 5]) (fun _ _ _ _ _ h => h) (Keep.refl _) (Keep.drew _) (Rn.s rfl (Yv.ld (c1.at_ 0)) (Rn.s rfl Yv.nc (Rn.s rfl (Yv.fa (off := 4)) (Rn.s rfl (Yv.ld (hc.at_ 4)) (Rn.s rfl Yv.mv (Rn.nil)))))) ?_)
      refine WDB.act2 0 6 (hci := rfl) (hcj := rfl) (hi := Ef.yv (Yv.ld ((hd.cells 9).at_ 0)) ⟨fun _ h => h, ?_⟩) (hj := Ef.callv Tryd.func68 (Calls.mono (hwc _ (Keep.drew _)) ?_))
      · refine WDB.act 6 (hc := rfl) (he := Ef.callv Tryd.func68 (Calls.mono (hwc _ (Keep.drew _)) ?_))
        rintro e wW3 ⟨OW3, cW3, rfl, kW3, hV3⟩; have hW3 := wcut_st hd kW3 hV3; refine ⟨fun _ h => h.trans kW3, ?_⟩
        refine WDB.act 7 (hc := rfl) (he := Ef.bsl (T := 43) TsE [((OW3, cW3, wcutS T incl) : Tr)] hW3 (fun bA4 wA4 kA4 hsA4 => ⟨fun _ h => h.trans kA4, ?_⟩))
        refine WDB.act 8 (hc := rfl) (he := Ef.append (ys := [((OW3, cW3, wcutS T incl) : Tr)]) hsA4 8 (hsA4.rd 0) (by simp) (.inl (by simp only [List.length_cons, List.length_nil]; omega)) (fun AB5 cB5 wB5 hsB5 => ⟨fun h => (h (by simp)).elim, ?_⟩))
        refine WDB.rd0 (is := [9, 10]) (fun _ _ _ _ _ h => h) (Keep.refl _) (Rn.s rfl Yv.nc (Rn.s rfl (Yv.fa (off := 4)) (Rn.nil))) ?_
        refine WDB.act 11 (hc := rfl) (he := Ef.store hsB5 4 (fun wC6 hsC6 => ⟨fun h => (h (by simp)).elim, WDB.done ?_⟩))
        exact ⟨rfl, hfin _ OW3 cW3 AB5 cB5 hsC6, rfl, trivial⟩
      · rintro e wW2 ⟨OW2, cW2, rfl, kW2, hV2⟩; have hW2 := wcut_st hd kW2 hV2; refine ⟨fun _ h => h.trans kW2, ?_⟩
        refine WDB.act2 0 7 (hci := rfl) (hcj := rfl) (hi := Ef.yv (Yv.ld ((hW2.cells 9).at_ 0)) ⟨fun _ h => h, ?_⟩) (hj := Ef.bsl (T := 43) TsE [((OW2, cW2, wcutS T incl) : Tr)] hW2 (fun bA8 wA8 kA8 hsA8 => ⟨fun _ h => h.trans kA8, ?_⟩))
        · refine WDB.act 7 (hc := rfl) (he := Ef.bsl (T := 43) TsE [((OW2, cW2, wcutS T incl) : Tr)] hW2 (fun bA9 wA9 kA9 hsA9 => ⟨fun _ h => h.trans kA9, ?_⟩))
          refine WDB.act 8 (hc := rfl) (he := Ef.append (ys := [((OW2, cW2, wcutS T incl) : Tr)]) hsA9 8 (hsA9.rd 0) (by simp) (.inl (by simp only [List.length_cons, List.length_nil]; omega)) (fun AB10 cB10 wB10 hsB10 => ⟨fun h => (h (by simp)).elim, ?_⟩))
          refine WDB.rd0 (is := [9, 10]) (fun _ _ _ _ _ h => h) (Keep.refl _) (Rn.s rfl Yv.nc (Rn.s rfl (Yv.fa (off := 4)) (Rn.nil))) ?_
          refine WDB.act 11 (hc := rfl) (he := Ef.store hsB10 4 (fun wC11 hsC11 => ⟨fun h => (h (by simp)).elim, WDB.done ?_⟩))
          exact ⟨rfl, hfin _ OW2 cW2 AB10 cB10 hsC11, rfl, trivial⟩
        · refine WDB.act2 0 8 (hci := rfl) (hcj := rfl) (hi := Ef.yv (Yv.ld ((hsA8.cells 10).at_ 0)) ⟨fun _ h => h, ?_⟩) (hj := Ef.append (ys := [((OW2, cW2, wcutS T incl) : Tr)]) hsA8 8 (hsA8.rd 0) (by simp) (.inl (by simp only [List.length_cons, List.length_nil]; omega)) (fun AB13 cB13 wB13 hsB13 => ⟨fun h => (h (by simp)).elim, ?_⟩))
          · refine WDB.act 8 (hc := rfl) (he := Ef.append (ys := [((OW2, cW2, wcutS T incl) : Tr)]) hsA8 8 (hsA8.rd 0) (by simp) (.inl (by simp only [List.length_cons, List.length_nil]; omega)) (fun AB14 cB14 wB14 hsB14 => ⟨fun h => (h (by simp)).elim, ?_⟩))
            refine WDB.rd0 (is := [9, 10]) (fun _ _ _ _ _ h => h) (Keep.refl _) (Rn.s rfl Yv.nc (Rn.s rfl (Yv.fa (off := 4)) (Rn.nil))) ?_
            refine WDB.act 11 (hc := rfl) (he := Ef.store hsB14 4 (fun wC15 hsC15 => ⟨fun h => (h (by simp)).elim, WDB.done ?_⟩))
            exact ⟨rfl, hfin _ OW2 cW2 AB14 cB14 hsC15, rfl, trivial⟩
          · refine WDB.act 0 (hc := rfl) (he := Ef.yv (Yv.ld ((hsB13.cells 10).at_ 0)) ⟨fun _ h => h, ?_⟩)
            refine WDB.rd0 (is := [9, 10]) (fun _ _ _ _ _ h => h) (Keep.refl _) (Rn.s rfl Yv.nc (Rn.s rfl (Yv.fa (off := 4)) (Rn.nil))) ?_
            refine WDB.act 11 (hc := rfl) (he := Ef.store hsB13 4 (fun wC17 hsC17 => ⟨fun h => (h (by simp)).elim, WDB.done ?_⟩))
            exact ⟨rfl, hfin _ OW2 cW2 AB13 cB13 hsC17, rfl, trivial⟩
    clear hst hd hc c1
    rintro ρ ds w10 ⟨rfl, ⟨m7, hm7, hst⟩, hsub⟩
    refine Wp.forget _ ?_ hsub
    clear hsub ρ
    refine Wp.seq (Wp.regionL (l := [0, 1]) (WO.rd (is := [0]) (js := [1]) (Keep.refl _) (Rn.s rfl (Yv.bd (cs := ft0.cs)) (Rn.nil)) (WO.act (hc := rfl) (he := Ef.stores hst 0 (fun wx1 hsx1 => WO.done ?_)))))
    refine Wp.ret (Fin.ret (resCA rfl rfl (hsx1.cells 0)) ?_)
    have ew : w64 ((alook name s2.rd).getD 0 + 1) = (alook name s2.rd).getD 0 + 1 := by rw [hgd0]; decide
    have eD : doneS s2 name T = { s6 with trs := s6.trs ++ [wcutS T incl] } := by
      unfold doneS
      rw [hs6, ew]
      obtain ⟨x1, x2, x3, x4, x5⟩ := e5
      rw [← x1, ← x2, ← x3, ← x4, ← x5]
    rw [if_neg hq1, if_neg hq2, if_neg (fun q => q rfl), eD]
    exact ⟨rfl, m7, hm7, hsx1.pickT (P := [_, _, _, _, _, _, _, _, _, _]) (T := trows m7.trs ++ D) [1, 2, 3, 4, 5, 6, 7, 8, 9]⟩
end Go.Proofs.YtgjhbapbomdpbaaDoor.C
