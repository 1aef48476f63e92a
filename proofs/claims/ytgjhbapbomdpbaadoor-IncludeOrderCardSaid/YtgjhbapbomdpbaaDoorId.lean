/- Files that include files: a name that is met, and a file that is read: walked. -/
import Derived.Test.YtgjhbapbomdpbaaDoorIc
import Derived.Test.YtgjhbapbomdpbaaDoorBf
set_option linter.unusedVariables false
set_option linter.unusedSimpArgs false
set_option maxRecDepth 10000
namespace Go.Proofs.YtgjhbapbomdpbaaDoor.C
open Go.RowKit Go.Proofs.YtgjhbapbomdpbaaDoor.Sh
abbrev Tr := Option Addr × Nat × List Nd
abbrev TsE : Enc Tr := ⟨1, fun x => [.slice x.1 x.2.2.length x.2.1], fun _ => rfl⟩
abbrev ts1 (x : Tr) : List Nd := x.2.2
abbrev trow (x : Tr) : Chunk := Ch.row NdE 48 x.1 x.2.1 x.2.2
def trows (l : List Tr) : List Chunk := l.map trow
/-- where a loader's parts lie -/
structure LM where
  O : Option Addr
  oc : Nat
  Nm : Option Addr
  nc : Nat
  T : Option Addr
  tc : Nat
  C : Option Addr
  cc : Nat
  trs : List Tr
abbrev ldcs (ms mr : Nat) (s : LS) (m : LM) : List Value := [.map (some ms), .map (some mr), .slice m.O s.opn.length m.oc, .slice m.Nm s.nms.length m.nc, .slice m.T m.trs.length m.tc, .slice m.C s.cyc.length m.cc]
abbrev rdF (bl br : Nat) : Value := .func (.func 65) #[] #[PB bl, PB br]
/-- a loader, its parts, and the two variables that its reader holds -/
abbrev ChV (b bl br ms mr : Nat) (set : List (Bs × Fl)) (s : LS) (m : LM) : List Chunk :=
  [Ch.cells b 66 (ldcs ms mr s m), Ch.mp KyS VF ms set, Ch.mp KyS VI mr s.rd, Ch.row StE 9 m.O m.oc s.opn, Ch.row StE 9 m.Nm m.nc s.nms, Ch.row TsE 43 m.T m.tc m.trs, Ch.row StE 9 m.C m.cc s.cyc, Ch.cells bl 60 [PB b], Ch.cells br 109 [rdF bl br]]
set_option maxHeartbeats 1600000 in
theorem may_calls {M : List Nat} (b bl br ms mr : Nat) (set : List (Bs × Fl)) (s : LS) (m : LM) (n : Nd) (w0 w : World) (D : List Chunk) (hst : St w0 M w (ChV b bl br ms mr set s m ++ D)) (hol : s.opn.length ≤ 1000) :
    Calls Tryd.prog 67 #[PB b, .agg n.cs.toArray] w fun e w' => e = .returned (.tuple #[.bool (mayS set s n).1, .agg (mayS set s n).2.1.cs.toArray]) ∧ ∃ m', m'.trs = m.trs ∧ St w0 M w' (ChV b bl br ms mr set (mayS set s n).2.2 m' ++ D) := by
  refine calls_of_Wp (vs := [_, _]) Tryd.func67 ?_
  refine Wp.seq (Wp.regionL (l := [0, 1, 2]) (WO.act (hc := rfl) (he := Ef.boxL (n.cs) hst (fun ba1 wa1 ka1 hsa1 => WO.rd (is := [1]) (js := [2]) ((Keep.refl _).trans ka1) (Rn.s rfl Yv.as (Rn.nil)) (WO.act (hc := rfl) (he := Ef.allocL (vs := [.int .i64 0, S [], .int .i64 0, .int .i64 0]) hsa1 (fun ba2 wa2 ka2 hsa2 => WO.done ?_)))))))
  have hst : St w0 M wa2 (Ch.cells ba2 27 ft0.cs :: Ch.cells ba1 48 n.cs :: (ChV b bl br ms mr set s m ++ D)) := hsa2
  clear hsa1 hsa2
  have c3 := hst.cells 1
  have hc := hst.cells 2
  have hm := mp_keep (Keep.drew _) (hst.at_ 3 rfl)
  refine Wp.seq (Wp.seq (Wp.draws [11] mixed (WD.rd (is := [0, 1, 2, 3, 4, 5, 6, 7, 8, 9]) (fun _ _ _ _ _ h => h) (Keep.drew _) (Rn.s rfl Yv.mv (Rn.s rfl Yv.nc (Rn.s rfl (Yv.fa (off := 0)) (Rn.s rfl (Yv.ld (hc.at_ 0)) (Rn.s rfl (Yv.fa (off := 3)) (Rn.s rfl (Yv.ld (c3.at_ 3)) (Rn.s rfl (Yv.look2 (hst.at_ 3 rfl) ⟨[], []⟩) (Rn.s rfl Yv.mv (Rn.s rfl Yv.ex (Rn.s rfl Yv.ex (Rn.nil))))))))))) (WD.act 10 (hc := rfl) (he := Ef.allocL (vs := [S [], S []]) (hst.quiet (Keep.drew _)) (fun bx1 wx1 kx1 hsx1 => ⟨fun _ => kx1, WD.act 11 (hc := rfl) (he := Ef.stores hsx1 0 (fun wx2 hsx2 => ⟨fun hn => (hn (by decide)).elim, WD.rd (is := [12]) (fun _ _ _ _ _ h => h) (Keep.refl _) (Rn.s rfl Yv.as (Rn.nil)) (WD.done ?_)⟩))⟩))))))
  have hst : St w0 M wx2 (Ch.cells ba2 27 ft0.cs :: Ch.cells ba1 48 n.cs :: (ChV b bl br ms mr set s m ++ D)) := hsx2.pickT (P := [_, _, _, _, _, _, _, _, _, _, _, _]) (T := D) [1, 2, 3, 4, 5, 6, 7, 8, 9, 10, 11]
  clear hsx1 hsx2 hm
  have c3 := hst.cells 1
  have hc := hst.cells 2
  unfold mayS
  refine Wp.block ?_
  refine Wp.seq (Wp.reads (is := [0, 1, 2]) (Keep.refl _) (Rn.s rfl Yv.mv (Rn.s rfl Yv.not (Rn.s rfl Yv.as (Rn.nil)))) ?_)
  refine Wp.cond rfl (fun h => ?_) (fun h => ?_)
  · have h : (alook n.text set).isSome = false := by simpa using h
    refine Wp.seq (Wp.regionL (l := [0, 1, 2, 3]) (WO.rd (is := [0]) (js := [1, 2, 3]) (Keep.refl _) (Rn.s rfl (Yv.ldb c3) (Rn.nil)) (WO.cv rfl (place_cv 73 n _) (Keep.refl _) (FnOk.of Tryd.func40) (fun wy1 ky1 => WO.rd (is := [2]) (js := [3]) ((Keep.refl _).trans ky1) (Rn.s rfl Yv.as (Rn.nil)) (WO.act (hc := rfl) (he := Ef.stores (hst.quiet ky1) 0 (fun wy2 hsy2 => WO.done ?_)))))))
    refine Wp.ret (Fin.ret (resTA rfl rfl rfl (hsy2.cells 0)) ?_)
    rw [if_pos h]
    exact ⟨rfl, m, rfl, hsy2.pickT (P := [_, _, _, _, _, _, _, _, _, _, _]) (T := D) [2, 3, 4, 5, 6, 7, 8, 9, 10]⟩
  have h : ¬ (alook n.text set).isSome = false := by
    have h5 : (!(alook n.text set).isSome) = false := h
    cases q : (alook n.text set).isSome with
    | true => decide
    | false => rw [q] at h5; cases h5
  have hro := hst.rd (E := StE) (A := m.O) (c := m.oc) (xs := s.opn) 5
  refine Wp.seq (Wp.draws [] mixed (WD.rd (is := [0, 1, 2, 3, 4, 5]) (fun _ _ _ _ _ h => h) (Keep.drew _) (Rn.s rfl Yv.mv (Rn.s rfl Yv.nc (Rn.s rfl (Yv.fa (off := 2)) (Rn.s rfl (Yv.ld (hc.at_ 2)) (Rn.s rfl (Yv.fa (off := 3)) (Rn.s rfl (Yv.ld (c3.at_ 3)) (Rn.nil))))))) (WD.cv 6 rfl (contains_cv m.O m.oc s.opn n.text wx2 hro (by omega)) (Keep.drew _) (FnOk.of Tryd.func92) (fun wy1 ky1 => WD.rd (is := [7]) (fun _ _ _ _ _ h => h) ((Keep.drew _).trans ky1) (Rn.s rfl Yv.as (Rn.nil)) (WD.done ?_)))))
  have hst := hst.quiet ((Keep.drew _).trans ky1)
  have c3 := hst.cells 1
  have hc := hst.cells 2
  have hro := hst.rd (E := StE) (A := m.O) (c := m.oc) (xs := s.opn) 5
  refine Wp.cond rfl (fun h2 => ?_) (fun h2 => ?_)
  · have h2 : n.text ∈ s.opn := of_decide_eq_true h2
    have hoc := hst.cap (E := StE) (A := m.O) (c := m.oc) (xs := s.opn) 5
    have h0 : 0 < s.opn.length := List.length_pos_of_mem h2
    have hix : idxS s.opn n.text < s.opn.length := List.idxOf_lt_length_of_mem h2
    have hO := rd_some hro h0
    have hdl : (s.opn.drop (idxS s.opn n.text)).length = s.opn.length - ((idxS s.opn n.text : Nat) : Int).toNat := by rw [Int.toNat_natCast]; simp
    have hd := hst.quiet (Keep.drew wy1)
    have hcn : cutA m.O m.oc (idxS s.opn n.text) 1 = none → m.oc - idxS s.opn n.text = 0 := by
      intro q
      unfold cutA at q
      split at q
      · omega
      · simp only [Option.map_eq_none_iff] at q
        exact (hO q).elim
    have hidx := index_cv m.O m.oc s.opn n.text h2 wy1 hro (by omega)
    have hcut : ∀ {w2 : World}, Keep wy1 w2 → Rd StE w2 (cutA m.O m.oc (idxS s.opn n.text) 1) (s.opn.drop (idxS s.opn n.text)) := fun k => by
      have := (hro.keep k).cut (l := idxS s.opn n.text) hoc (Nat.le_refl _)
      rwa [List.take_length] at this
    obtain ⟨s1, hs1⟩ : ∃ s1 : LS, s1 = { s with cyc := s.opn.drop (idxS s.opn n.text) } := ⟨_, rfl⟩
    refine Wp.seq (Wp.mid (fun ρ ds w' => ds = [] ∧ (∃ m', m'.trs = m.trs ∧ St w0 M w' (Ch.cells ba2 27 ft0.cs :: Ch.cells ba1 48 n.cs :: (ChV b bl br ms mr set s1 m' ++ D))) ∧ Sub [(3, PB ba1), (5, PB ba2)] ρ) ?_ ?_)
    · refine Wp.drawsB [14, 17] mixed (WDB.rd (is := [0]) (fun _ _ _ _ _ h => h) (Keep.refl _) (Keep.drew _) (Rn.s rfl Yv.mv (Rn.nil)) ?_)
      refine WDB.rd (is := [2, 3, 4, 5, 6, 7, 8, 9, 10, 11]) (fun _ _ _ _ _ h => h) (Keep.refl _) (Keep.drew _) (Rn.s rfl Yv.mv (Rn.s rfl Yv.nc (Rn.s rfl (Yv.fa (off := 2)) (Rn.s rfl (Yv.ld (hc.at_ 2)) (Rn.s rfl Yv.mv (Rn.s rfl Yv.nc (Rn.s rfl (Yv.fa (off := 2)) (Rn.s rfl (Yv.ld (hc.at_ 2)) (Rn.s rfl (Yv.fa (off := 3)) (Rn.s rfl (Yv.ld (c3.at_ 3)) (Rn.nil))))))))))) ?_
      refine WDB.act2 1 12 (hci := rfl) (hcj := rfl) (hi := Ef.bsl (T := 9) StE ([] : List Bs) hd (fun bA1 wA1 kA1 hsA1 => ⟨fun _ h => h.trans kA1, ?_⟩)) (hj := Ef.quiet hidx (Keep.drew _) (FnOk.of Tryd.func93) (fun wI2 kI2 => ⟨fun _ h => h.trans kI2, ?_⟩))
      · refine WDB.act 12 (hc := rfl) (he := Ef.quiet hidx ((Keep.drew _).trans kA1) (FnOk.of Tryd.func93) (fun wI3 kI3 => ⟨fun _ h => h.trans kI3, ?_⟩))
        refine WDB.rd0 (is := [13]) (fun _ _ _ _ _ h => h) (Keep.refl _) (Rn.s rfl (Yv.sl_f (n := 1) (e := 9) (k := (s.opn.drop (idxS s.opn n.text)).length) (by omega) (by omega) hdl) (Rn.nil)) ?_
        refine WDB.act 14 (hc := rfl) (he := Ef.append (ys := s.opn.drop (idxS s.opn n.text)) (hsA1.quiet kI3) 0 (hcut ((Keep.drew _).trans (kA1.trans kI3))) hcn (fitT (by simp; omega)) (fun AB4 cB4 wB4 hsB4 => ⟨fun h => (h (by simp)).elim, ?_⟩))
        refine WDB.rd0 (is := [15, 16]) (fun _ _ _ _ _ h => h) (Keep.refl _) (Rn.s rfl Yv.nc (Rn.s rfl (Yv.fa (off := 5)) (Rn.nil))) ?_
        refine WDB.act 17 (hc := rfl) (he := Ef.store hsB4 3 (fun wC5 hsC5 => ⟨fun h => (h (by simp)).elim, WDB.done ?_⟩))
        refine ⟨rfl, ⟨{ m with C := AB4, cc := cB4 }, rfl, ?_⟩, rfl, rfl, trivial⟩
        rw [hs1]
        exact hsC5.pickT (P := [_, _, _, _, _, _, _, _, _, _, _, _]) (T := D) [2, 3, 0, 4, 5, 6, 7, 8, 1, 10, 11]
      · refine WDB.rd0 (is := [13]) (fun _ _ _ _ _ h => h) (Keep.refl _) (Rn.s rfl (Yv.sl_f (n := 1) (e := 9) (k := (s.opn.drop (idxS s.opn n.text)).length) (by omega) (by omega) hdl) (Rn.nil)) ?_
        refine WDB.act 1 (hc := rfl) (he := Ef.bsl (T := 9) StE ([] : List Bs) (hd.quiet kI2) (fun bA6 wA6 kA6 hsA6 => ⟨fun _ h => h.trans kA6, ?_⟩))
        refine WDB.act 14 (hc := rfl) (he := Ef.append (ys := s.opn.drop (idxS s.opn n.text)) hsA6 0 (hcut ((Keep.drew _).trans (kI2.trans kA6))) hcn (fitT (by simp; omega)) (fun AB7 cB7 wB7 hsB7 => ⟨fun h => (h (by simp)).elim, ?_⟩))
        refine WDB.rd0 (is := [15, 16]) (fun _ _ _ _ _ h => h) (Keep.refl _) (Rn.s rfl Yv.nc (Rn.s rfl (Yv.fa (off := 5)) (Rn.nil))) ?_
        refine WDB.act 17 (hc := rfl) (he := Ef.store hsB7 3 (fun wC8 hsC8 => ⟨fun h => (h (by simp)).elim, WDB.done ?_⟩))
        refine ⟨rfl, ⟨{ m with C := AB7, cc := cB7 }, rfl, ?_⟩, rfl, rfl, trivial⟩
        rw [hs1]
        exact hsC8.pickT (P := [_, _, _, _, _, _, _, _, _, _, _, _]) (T := D) [2, 3, 0, 4, 5, 6, 7, 8, 1, 10, 11]
    rintro ρ ds w2 ⟨rfl, ⟨m', hm', hst⟩, hs⟩
    refine Wp.forget _ ?_ hs
    have c3 := hst.cells 1
    refine Wp.seq (Wp.regionL (l := [0, 1, 2, 3]) (WO.rd (is := [0]) (js := [1, 2, 3]) (Keep.refl _) (Rn.s rfl (Yv.ldb c3) (Rn.nil)) (WO.cv rfl (place_cv 74 n _) (Keep.refl _) (FnOk.of Tryd.func40) (fun wu1 ku1 => WO.rd (is := [2]) (js := [3]) ((Keep.refl _).trans ku1) (Rn.s rfl Yv.as (Rn.nil)) (WO.act (hc := rfl) (he := Ef.stores (hst.quiet ku1) 0 (fun wu2 hsu2 => WO.done ?_)))))))
    refine Wp.ret (Fin.ret (resTA rfl rfl rfl (hsu2.cells 0)) ?_)
    rw [if_neg h, if_pos h2]
    rw [hs1] at hsu2
    exact ⟨rfl, m', hm', hsu2.pickT (P := [_, _, _, _, _, _, _, _, _, _, _]) (T := D) [2, 3, 4, 5, 6, 7, 8, 9, 10]⟩
  have h2 : ¬ n.text ∈ s.opn := of_decide_eq_false h2
  refine Wp.seq (Wp.readsD (is := [0, 1, 2, 3, 4, 5, 6, 7, 8]) mixed (fun _ _ _ _ _ h => h) (Keep.refl _) (Rn.s rfl Yv.mv (Rn.s rfl Yv.nc (Rn.s rfl (Yv.fa (off := 1)) (Rn.s rfl (Yv.ld (hc.at_ 1)) (Rn.s rfl (Yv.fa (off := 3)) (Rn.s rfl (Yv.ld (c3.at_ 3)) (Rn.s rfl (Yv.look (hst.at_ 4 rfl) 0) (Rn.s rfl (Yv.cmp _ rfl) (Rn.s rfl Yv.as (Rn.nil)))))))))) ?_)
  have hst := hst.quiet (Keep.drew _)
  have c3 := hst.cells 1
  have hc := hst.cells 2
  refine Wp.cond rfl (fun h3 => ?_) (fun h3 => ?_)
  · have h3 : 0 < (alook n.text s.rd).getD 0 := of_decide_eq_true h3
    refine Wp.seq (Wp.regionL (l := [0, 1, 2]) (WO.rd (is := [0, 1]) (js := [2]) (Keep.refl _) (Rn.s rfl (Yv.bd (cs := ft0.cs)) (Rn.s rfl Yv.as (Rn.nil))) (WO.act (hc := rfl) (he := Ef.stores hst 0 (fun wz1 hsz1 => WO.done ?_)))))
    refine Wp.ret (Fin.ret (resTA rfl rfl rfl (hsz1.cells 0)) ?_)
    rw [if_neg h, if_neg h2, if_pos h3]
    exact ⟨rfl, m, rfl, hsz1.pickT (P := [_, _, _, _, _, _, _, _, _, _, _]) (T := D) [2, 3, 4, 5, 6, 7, 8, 9, 10]⟩
  have h3 : ¬ 0 < (alook n.text s.rd).getD 0 := of_decide_eq_false h3
  refine Wp.seq (Wp.reads (is := [0, 1, 2, 3, 4, 5, 6]) (Keep.refl _) (Rn.s rfl Yv.mv (Rn.s rfl Yv.nc (Rn.s rfl (Yv.fa (off := 2)) (Rn.s rfl (Yv.ld (hc.at_ 2)) (Rn.s rfl (Yv.len_v (e := 9) (m := 1)) (Rn.s rfl (Yv.cmp _ rfl) (Rn.s rfl Yv.as (Rn.nil)))))))) ?_)
  refine Wp.cond rfl (fun h4 => ?_) (fun h4 => ?_)
  · have h4 : 16 ≤ s.opn.length := by have := of_decide_eq_true h4; omega
    refine Wp.seq (Wp.regionL (l := [0, 1, 2, 3]) (WO.rd (is := [0]) (js := [1, 2, 3]) (Keep.refl _) (Rn.s rfl (Yv.ldb c3) (Rn.nil)) (WO.cv rfl (place_cv 75 n _) (Keep.refl _) (FnOk.of Tryd.func40) (fun wz1 kz1 => WO.rd (is := [2]) (js := [3]) ((Keep.refl _).trans kz1) (Rn.s rfl Yv.as (Rn.nil)) (WO.act (hc := rfl) (he := Ef.stores (hst.quiet kz1) 0 (fun wz2 hsz2 => WO.done ?_)))))))
    refine Wp.ret (Fin.ret (resTA rfl rfl rfl (hsz2.cells 0)) ?_)
    rw [if_neg h, if_neg h2, if_neg h3, if_pos h4]
    exact ⟨rfl, m, rfl, hsz2.pickT (P := [_, _, _, _, _, _, _, _, _, _, _]) (T := D) [2, 3, 4, 5, 6, 7, 8, 9, 10]⟩
  have h4 : ¬ 16 ≤ s.opn.length := by have := of_decide_eq_false h4; omega
  refine Wp.skip (Wp.seq (Wp.regionL (l := [0, 1, 2]) (WO.rd (is := [0, 1]) (js := [2]) (Keep.refl _) (Rn.s rfl (Yv.bd (cs := ft0.cs)) (Rn.s rfl Yv.as (Rn.nil))) (WO.act (hc := rfl) (he := Ef.stores hst 0 (fun wz1 hsz1 => WO.done ?_))))))
  refine Wp.ret (Fin.ret (resTA rfl rfl rfl (hsz1.cells 0)) ?_)
  rw [if_neg h, if_neg h2, if_neg h3, if_neg h4]
  exact ⟨rfl, m, rfl, hsz1.pickT (P := [_, _, _, _, _, _, _, _, _, _, _]) (T := D) [2, 3, 4, 5, 6, 7, 8, 9, 10]⟩
end Go.Proofs.YtgjhbapbomdpbaaDoor.C
