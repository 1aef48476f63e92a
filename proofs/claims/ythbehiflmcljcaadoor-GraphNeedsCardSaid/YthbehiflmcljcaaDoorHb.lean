/- GraphMore walked (of bulk at most 1048576). -/
import Derived.Test.YthbehiflmcljcaaDoorHa
set_option linter.unusedVariables false
set_option linter.unusedSimpArgs false
set_option maxRecDepth 10000
namespace Go.Proofs.YthbehiflmcljcaaDoor.C
open Go.RowKit Go.Proofs.YthbehiflmcljcaaDoor.Sh
theorem Yv.max2 {P : Program} {w : World} {ts : Array TypeId} {x y : Operand} {a b : Int} (m : Int) (h : (if b > a then b else a) = m) : Yv P w (.call { callee := .builtin .max, args := #[x, y], argTypes := ts }) [.int .i64 a, .int .i64 b] (.int .i64 m) :=
  ⟨by simp, fun o e hop hv w' _ => by
    subst h
    have hx : e x = .int .i64 a ∧ e y = .int .i64 b := by simpa [Op.operands, Call.operands] using hv
    simp only [execOp, hop, resolve, invoke, builtin, Sem.run_bind, Sem.run_pure, Result.andThen_ok, List.map_toArray, List.map_cons, List.map_nil, hx.1, hx.2]
    simp [Builtin.max_, Builtin.max2]⟩
/-- small instances -/
structure SmI (x : Ist) : Prop where
  needs : x.needs.2.2.length ≤ 1048576
  texts : ∀ y ∈ x.needs.2.2, y.text.length ≤ 1048576
theorem dat_needs {x y : Ist} (h : datI y = datI x) : y.needs.2.2 = x.needs.2.2 := by
  have := congrArg (fun z : Ist => z.needs.2.2) h
  exact this
theorem tx_small {t : Bs} (h : t.length ≤ 1048576) : TxOk t := ⟨by omega, Nat.le_trans List.count_le_length (by omega)⟩
theorem bld_small {is : List Ist} (hl : is.length ≤ 1048577) (hv : ∀ x ∈ is, x.vars.2.2.length ≤ 4398046511104) (hs : ∀ x ∈ is, SmI x) : BldOk is :=
  ⟨by omega, fun x hx => by have := hv x hx; omega, fun x hx _ => by
    have := Nat.mul_le_mul (hs x hx).needs hl
    omega, fun x hx _ y hy => tx_small ((hs x hx).texts y hy)⟩
/-- the name that no need can mean -/
abbrev noName : Bs := [110, 111, 32, 110, 97, 109, 101]
theorem noName_no (job : Bs) (h : nameB job = true) : ofB job noName = false := by
  unfold ofB
  rw [Bool.or_eq_false_iff]
  refine ⟨?_, ?_⟩
  · rw [beq_eq_false_iff_ne]
    intro e
    rw [← e] at h
    revert h
    decide +kernel
  · rw [decide_eq_false_iff_not]
    rintro ⟨-, h2⟩
    have h3 : (91 : UInt8) ∈ noName.take (job ++ [91]).length := by rw [h2]; simp
    have h4 := List.mem_of_mem_take h3
    revert h4
    decide
abbrev loneI (top : Int) : Ist := ⟨noName, 0, (none, 0, []), (none, 0, []), [], (none, 0, []), top, 0, false, 0, (none, 0, []), false, ft0⟩
theorem more_calls (A : Option Addr) (c : Nat) (is : List Ist) (w : World) (h : IsAt w A is) (hok : ∀ x ∈ is, InOk x) (hl : is.length ≤ 1048576) (hsm : ∀ x ∈ is, SmI x) :
    Calls Tryd.prog 9 #[.slice A is.length c] w fun e w' => e = .returned (.bool true) ∧ Keep w w' := by
  refine calls_of_Wp (vs := [_]) Tryd.func9 ?_
  refine Wp.seq (Wp.reads (is := [0]) (Keep.refl _) (Rn.s rfl Yv.as (Rn.nil)) ?_)
  refine Wp.seq (Wp.regionL (l := [0, 1, 2, 3, 4, 5, 6, 7, 8]) (WO.rd (is := [0]) (js := [1, 2, 3, 4, 5, 6, 7, 8]) (Keep.refl _) (Rn.s rfl Yv.mv (Rn.nil)) (WO.act (hc := rfl) (he := Ef.cx (caps := []) (A := []) (copyIs_cx A c is w h hok (by omega)) (St.init w) (FnOk.of Tryd.func22) ?_))))
  rintro v D w1 ⟨O, co, is1, hdat, rfl, rfl⟩ hs1
  have hs1 : St w [] w1 (Ch.row IsE 46 O co is1 :: is1.flatMap inC) := by simpa using hs1
  have hl1 : is1.length = is.length := by have := congrArg List.length hdat; simpa using this
  have hin1 : ∀ x ∈ is1, InAt w1 x := fun x hx => inC_at hs1 (fun C hC => List.mem_cons_of_mem _ (List.mem_flatMap.2 ⟨x, hx, hC⟩))
  have hgood : ∀ {js : List Ist}, js.map datI = is.map datI → (∀ x ∈ js, x.vars.2.2.length ≤ 4398046511104) ∧ ∀ x ∈ js, SmI x := fun {js} hj => by
    refine ⟨fun x hx => ?_, fun x hx => ?_⟩
    · obtain ⟨z, hz, e⟩ := dat_mem hj hx
      rw [← dat_vars e]
      exact (hok z hz).vars.2
    · obtain ⟨z, hz, e⟩ := dat_mem hj hx
      have e2 := dat_needs e
      exact ⟨by rw [← e2]; exact (hsm z hz).needs, by rw [← e2]; exact (hsm z hz).texts⟩
  obtain ⟨g1, g2⟩ := hgood hdat
  have hbc := build_cx O co is1 w1 ⟨hs1.rd 0, fun x hx => (hin1 x hx).vars, fun x hx => (hin1 x hx).needs⟩ (bld_small (by omega) g1 g2)
  rw [buildS_eq hdat] at hbc
  refine WO.act (hc := rfl) (he := Ef.cx (caps := []) (A := []) hbc hs1 (FnOk.of Tryd.func23) ?_)
  rintro v D w2 ⟨Oe, coe, rr, hrr, rfl, rfl⟩ hs2
  refine WO.rd (is := [3, 4, 5]) (js := [6, 7, 8]) (Keep.refl _) (Rn.s rfl Yv.mv (Rn.s rfl Yv.ex (Rn.s rfl Yv.ex (Rn.nil)))) (WO.act (hc := rfl) (he := Ef.allocL (vs := ft0.cs) hs2 (fun b4 w3 k3 hs3 => WO.rd (is := [7]) (js := [8]) (Keep.refl _) (Rn.s rfl Yv.as (Rn.nil)) (WO.act (hc := rfl) (he := Ef.stores hs3 0 (fun w4 hs4 => WO.done ?_))))))
  have hs4 : St w [] w4 (Ch.cells b4 44 (buildS is).2.cs :: (Ch.row ShE 23 Oe coe rr :: RsD rr)) := by
    refine St.sub (D := Ch.cells b4 44 (buildS is).2.cs :: ((Ch.row ShE 23 Oe coe rr :: RsD rr) ++ (Ch.row IsE 46 O co is1 :: is1.flatMap inC))) hs4 ?_
    exact List.Sublist.cons_cons _ (List.sublist_append_left _ _)
  have c4 := hs4.cells 0
  clear hs1 hs2 hs3
  have h4 := h.rd.keep hs4.keep
  refine Wp.seq (Wp.reads (is := [0]) (Keep.refl _) (Rn.s rfl Yv.as (Rn.nil)) ?_)
  refine Wp.seq (Wp.seq (Wp.reads (is := [0]) (Keep.refl _) (Rn.s rfl Yv.as (Rn.nil)) ?_))
  refine Wp.mid (fun ρ ds w' => ds = [] ∧ Keep w4 w' ∧ ∃ top : Int, 0 ≤ top ∧ (∀ i : Nat, i < is.length → (nth is (i : Int)).stage ≤ top) ∧ Sub [(0, .slice A is.length c), (3, .slice Oe rr.length coe), (4, PB b4), (5, .int .i64 top)] ρ) (Wp.block ?_) ?_
  · refine Wp.loop (α := Nat) (fun k ρ ds w' => ds = [] ∧ Keep w4 w' ∧ k ≤ is.length ∧ ∃ top : Int, 0 ≤ top ∧ (∀ i : Nat, i < k → (nth is (i : Int)).stage ≤ top) ∧ Sub [(0, .slice A is.length c), (3, .slice Oe rr.length coe), (4, PB b4), (5, .int .i64 top), (6, .int .i64 (k : Int))] ρ) (fun k => is.length - k) 0
      ⟨rfl, Keep.refl _, by omega, 0, by omega, fun i hi => absurd hi (Nat.not_lt_zero i), rfl, rfl, rfl, rfl, rfl, trivial⟩ ?_
    rintro k ρ ds w5 ⟨rfl, hk5, hk, top, ht0, htop, hs⟩
    refine Wp.forget _ ?_ hs
    clear hs ρ
    have h5 := h4.keep hk5
    refine Wp.seq (Wp.seq (Wp.reads (is := [0, 1, 2, 3]) (Keep.refl _) (Rn.s rfl Yv.mv (Rn.s rfl Yv.mv (Rn.s rfl (Yv.len_v (e := 46) (m := 16)) (Rn.s rfl (Yv.cmp _ rfl) (Rn.nil))))) ?_))
    refine Wp.cond rfl (fun hlt => ?_) (fun hlt => ?_)
    · have hlt : k < is.length := by have := of_decide_eq_true hlt; omega
      obtain ⟨m, hm⟩ : ∃ m, (if (nth is (k : Int)).stage > top then (nth is (k : Int)).stage else top) = m := ⟨_, rfl⟩
      have hm2 : top ≤ m ∧ (nth is (k : Int)).stage ≤ m := by
        rw [← hm]
        split <;> omega
      refine Wp.skip (Wp.seq (Wp.block ?_))
      refine Wp.reads (is := [0, 1, 2, 3, 4, 5, 6, 7]) (Keep.refl _) (Rn.s rfl Yv.mv (Rn.s rfl Yv.mv (Rn.s rfl Yv.mv (Rn.s rfl (Yv.ia (e := 46) h5 (by omega) (by omega)) (Rn.s rfl (Yv.fa (off := 6)) (Rn.s rfl (Yv.ld (h5.ld 6 (by omega) (by omega))) (Rn.s rfl (Yv.max2 m hm) (Rn.s rfl Yv.as (Rn.nil))))))))) ?_
      refine Wp.reads (is := [0, 1, 2]) (Keep.refl _) (Rn.s rfl Yv.mv (Rn.s rfl (Yv.add (by unfold inI; omega)) (Rn.s rfl Yv.as (Rn.nil)))) ?_
      refine ⟨k + 1, ⟨rfl, hk5, by omega, m, by omega, fun i hi => ?_, rfl, rfl, rfl, rfl, rfl, trivial⟩, by omega⟩
      by_cases q : i = k
      · rw [q]; exact hm2.2
      · have := htop i (by omega); omega
    · have hlt : k = is.length := by have := of_decide_eq_false hlt; omega
      subst hlt
      exact Wp.exit ⟨rfl, hk5, top, ht0, htop, rfl, rfl, rfl, rfl, trivial⟩
  · rintro ρ ds w5 ⟨rfl, hk5, top, ht0, htop, hs⟩
    refine Wp.forget _ ?_ hs
    clear hs ρ
    have hst := hs4.quiet hk5
    have c4 := hst.cells 0
    refine Wp.seq (Wp.seq (Wp.reads (is := [0, 1, 2, 3, 4, 5, 6]) (Keep.refl _) (Rn.s rfl Yv.mv (Rn.s rfl (Yv.cmp _ rfl) (Rn.s rfl Yv.mv (Rn.or (is := [3, 4, 5, 6]) (js := []) (t := 30) (d := 34) (hg := rfl) (hf := fun h2 => have h2 := of_decide_eq_false h2; Rn.s rfl (Yv.fa (off := 0)) (Rn.s rfl (Yv.ld (c4.at_ 0)) (Rn.s rfl (Yv.cmp _ rfl) (Rn.s rfl Yv.pick_f ((Rn.e 4 rfl rfl)))))) (ht := fun _ => Rn.no rfl (Rn.no rfl (Rn.no rfl (Rn.s rfl Yv.pick_t (Rn.e 4 rfl rfl))))) (k := Rn.nil))))) ?_))
    refine Wp.cond rfl (fun hc => ?_) (fun hc => ?_)
    · refine Wp.seq (Wp.regionL (l := [0, 1]) (WO.cv rfl (awake_cv w5) (Keep.refl _) (FnOk.of Tryd.func19) (fun wa1 ka1 => WO.rd (is := [1]) (js := []) ((Keep.refl _).trans ka1) (Rn.s rfl Yv.as (Rn.nil)) (WO.done ?_))))
      exact Wp.ret (Fin.ret (Res.one rfl rfl) ⟨rfl, hst.keep.trans ka1⟩)
    have hc2 : top < 1099511627776 ∧ (buildS is).2.code = 0 := by
      simp only [Bool.or_eq_false_iff, decide_eq_false_iff_not, bne_eq_false_iff_eq] at hc
      exact ⟨by omega, hc.2⟩
    obtain ⟨ht40, hcode⟩ := hc2
    refine Wp.skip ?_
    have h5 := h.keep hst.keep
    refine Wp.seq (Wp.regionL (l := [0, 1, 2, 3, 4, 5, 6, 7, 8, 9, 10, 11, 12, 13]) (WO.rd (is := [0]) (js := [1, 2, 3, 4, 5, 6, 7, 8, 9, 10, 11, 12, 13]) (Keep.refl _) (Rn.s rfl Yv.mv (Rn.nil)) (WO.act (hc := rfl) (he := Ef.cx (caps := []) (A := []) (copyIs_cx A c is w5 h5 hok (by omega)) hst (FnOk.of Tryd.func22) ?_))))
    rintro v D w6 ⟨O6, co6, is6, hdat6, rfl, rfl⟩ hs6
    have hl6 : is6.length = is.length := by have := congrArg List.length hdat6; simpa using this
    obtain ⟨g3, g4⟩ := hgood hdat6
    refine WO.rd (is := [2, 3, 4]) (js := [5, 6, 7, 8, 9, 10, 11, 12, 13]) (Keep.refl _) (Rn.s rfl Yv.mv (Rn.s rfl (Yv.add ⟨by omega, by omega⟩) (Rn.s rfl (Yv.bd (cs := IsE.cells (loneI (top + 1)))) (Rn.nil)))) ?_
    have hs6 : St w [] w6 (Ch.row IsE 46 O6 co6 is6 :: (is6.flatMap inC ++ (Ch.cells b4 44 (buildS is).2.cs :: Ch.row ShE 23 Oe coe rr :: RsD rr))) := hs6
    refine WO.app IsE [loneI (top + 1)] rfl (fun _ => rfl) hs6 0 (fitIs (by simp only [List.length_cons, List.length_nil]; omega)) (fun b7 A7 c7 w7 hs7 => ?_)
    have hs7 : St w [] w7 (Ch.row IsE 46 A7 c7 (is6 ++ [loneI (top + 1)]) :: (is6.flatMap inC ++ (Ch.cells b4 44 (buildS is).2.cs :: Ch.row ShE 23 Oe coe rr :: RsD rr))) := hs7
    have hin7 : ∀ x ∈ is6, InAt w7 x := fun x hx => inC_at hs7 (fun C hC => List.mem_cons_of_mem _ (List.mem_append.2 (.inl (List.mem_flatMap.2 ⟨x, hx, hC⟩))))
    have hB7 : IsB w7 A7 (is6 ++ [loneI (top + 1)]) := by
      refine ⟨hs7.rd 0, fun x hx => ?_, fun x hx => ?_⟩
      all_goals
        rcases List.mem_append.1 hx with hx | hx
      · exact (hin7 x hx).vars
      · rw [List.mem_singleton.1 hx]; exact rd_nil _ _
      · exact (hin7 x hx).needs
      · rw [List.mem_singleton.1 hx]; exact rd_nil _ _
    have hbo : BldOk (is6 ++ [loneI (top + 1)]) := by
      refine bld_small (by simp; omega) (fun x hx => ?_) (fun x hx => ?_)
      all_goals
        rcases List.mem_append.1 hx with hx | hx
      · exact g3 x hx
      · rw [List.mem_singleton.1 hx]; simp
      · exact g4 x hx
      · rw [List.mem_singleton.1 hx]
        exact ⟨by simp, fun y hy => by cases hy⟩
    have hstage : ∀ k : Nat, k < is6.length → (nth is6 (k : Int)).stage = (nth is (k : Int)).stage := fun k hk => by
      have h1 := nth_dat is6 (k : Int)
      have h2 := nth_dat is (k : Int)
      rw [hdat6, h2] at h1
      have := congrArg (fun z : Ist => z.stage) h1
      exact this.symm
    have hlone : Lone is6 (loneI (top + 1)) := ⟨rfl, fun job _ hj => noName_no job hj, fun k hk => by
      rw [hstage k hk]
      have := htop k (by omega)
      show _ < top + 1
      omega⟩
    have hcode6 : (buildS is6).2.code = 0 := by rw [buildS_eq hdat6]; exact hcode
    have hmore := more_law hlone hcode6
    have hedge6 : edgesS is6 = pl rr := by
      have h1 := (build_ok hcode6).1
      rw [buildS_eq hdat6] at h1
      rw [hrr, h1]
    have hrrl : rr.length = is.length := by
      have := congrArg List.length hedge6
      rw [edges_len] at this
      simp only [List.length_map] at this
      omega
    have hbc7 := build_cx A7 c7 (is6 ++ [loneI (top + 1)]) w7 hB7 hbo
    rw [hmore, hedge6] at hbc7
    refine WO.act (hc := rfl) (he := Ef.cx (caps := []) (A := []) hbc7 hs7 (FnOk.of Tryd.func23) ?_)
    rintro v D w8 ⟨O8, co8, rr8, hrr8, rfl, rfl⟩ hs8
    refine WO.rd (is := [8, 9, 10]) (js := [11, 12, 13]) (Keep.refl _) (Rn.s rfl Yv.mv (Rn.s rfl Yv.ex (Rn.s rfl Yv.ex (Rn.nil)))) (WO.act (hc := rfl) (he := Ef.allocL (vs := ft0.cs) hs8 (fun b9 w9 k9 hs9 => WO.rd (is := [12]) (js := [13]) (Keep.refl _) (Rn.s rfl Yv.as (Rn.nil)) (WO.act (hc := rfl) (he := Ef.stores hs9 0 (fun w10 hs10 => WO.done ?_))))))
    have hrr8 : pl rr8 = pl rr ++ [castN (List.range is6.length)] := hrr8
    have hrr8l : rr8.length = is.length + 1 := by
      have := congrArg List.length hrr8
      simp only [List.length_map, List.length_append, List.length_cons, List.length_nil] at this
      omega
    have hs10 : St w [] w10 (Ch.cells b9 44 ft0.cs :: ((Ch.row ShE 23 O8 co8 rr8 :: RsD rr8) ++ (Ch.row IsE 46 A7 c7 (is6 ++ [loneI (top + 1)]) :: (is6.flatMap inC ++ (Ch.cells b4 44 (buildS is).2.cs :: Ch.row ShE 23 Oe coe rr :: RsD rr))))) := hs10
    have c9 := hs10.cells 0
    have hle : LsAt w10 Oe rr := ls_of (co := coe) hs10 (by simp) (fun C hC => by simp [hC])
    have hle8 : LsAt w10 O8 rr8 := ls_of (co := co8) hs10 (by simp) (fun C hC => List.mem_cons_of_mem _ (List.mem_append.2 (.inl (List.mem_cons_of_mem _ hC))))
    have hcap8 : rr8.length ≤ co8 := row_cap (h := hs10.ok (Ch.row ShE 23 O8 co8 rr8) (by simp))
    have hlt8 : LsAt w10 O8 (rr8.take is.length) := ⟨rd_take hle8.rd _, fun y hy => hle8.each y (List.mem_of_mem_take hy)⟩
    have hpl8 : pl (rr8.take is.length) = pl rr := by
      have e1 : pl (rr8.take is.length) = (pl rr8).take is.length := List.map_take
      rw [e1, hrr8, List.take_append_of_le_length (by rw [List.length_map]; omega), List.take_of_length_le (by rw [List.length_map]; omega)]
    have htl : (rr8.take is.length).length = is.length := by rw [List.length_take]; omega
    have hbnd : ∀ x ∈ rr, x.2.2.length ≤ 17592186044416 := fun x hx => by
      have h1 : x.2.2 ∈ edgesS is6 := by rw [hedge6]; exact List.mem_map.2 ⟨x, hx, rfl⟩
      unfold edgesS at h1
      obtain ⟨i, hi, e⟩ := List.mem_map.1 h1
      rw [← e]
      exact predsS_len (bld_small (by omega) g3 g4) (List.mem_range.1 hi)
    have hsm8 := samel_cv O8 co8 (rr8.take is.length) Oe coe rr w10 hlt8 hle (by omega) (fun x hx => by
      have := pl_bound hpl8 hbnd x hx
      omega)
    rw [decide_eq_true hpl8, htl] at hsm8
    have hlast : (nth rr8 (is.length : Int)).2.2.length = is.length := by
      rw [← nth_pl, hrr8]
      have e1 : (pl rr).length = is.length := by rw [List.length_map]; exact hrrl
      rw [← e1, nth_getElem (by simp)]
      simp [castN, hl6, hrrl]
    have hrd8 := hle8.rd
    have hki : is.length = (is.length : Int).toNat := by omega
    rw [hrrl, hrr8l]
    refine Wp.seq (Wp.seq (Wp.regionL (l := [0, 1, 2, 3, 4, 5, 6, 7, 8, 9, 10, 11, 12, 13, 14, 15, 16, 17, 18, 19, 20, 21, 22, 23, 24, 25, 26, 27, 28, 29, 30]) (WO.rd (is := [0, 1, 2, 3, 4, 5, 6, 7, 8, 9, 10, 11]) (js := [12, 13, 14, 15, 16, 17, 18, 19, 20, 21, 22, 23, 24, 25, 26, 27, 28, 29, 30]) (Keep.refl _) (Rn.s rfl (Yv.fa (off := 0)) (Rn.s rfl (Yv.ld (c9.at_ 0)) (Rn.s rfl (Yv.cmp _ rfl) (Rn.s rfl Yv.mv (Rn.or (is := [4, 5, 6, 7, 8, 9, 10]) (js := [11]) (t := 50) (d := 57) (hg := rfl) (hf := fun h3 => have h3 := bne_eq_false_iff_eq.1 h3; Rn.s rfl Yv.mv (Rn.s rfl (Yv.len_v (e := 23) (m := 1)) (Rn.s rfl Yv.mv (Rn.s rfl (Yv.len_v (e := 23) (m := 1)) (Rn.s rfl (Yv.add ⟨by omega, by omega⟩) (Rn.s rfl (Yv.cmp _ rfl) (Rn.s rfl Yv.pick_f ((Rn.e 7 rfl rfl))))))))) (ht := fun _ => Rn.no rfl (Rn.no rfl (Rn.no rfl (Rn.no rfl (Rn.no rfl (Rn.no rfl (Rn.s rfl Yv.pick_t (Rn.e 7 rfl rfl)))))))) (k := Rn.s rfl Yv.mv (Rn.nil))))))) (WO.or (js := [20, 21, 22, 23, 24, 25, 26, 27, 28, 29, 30]) 58 66 (b := (!true)) (hg := rfl) (hf := fun h11 qf1 => WO.rd (is := [12, 13, 14, 15, 16]) (js := [17, 18, 19, 20, 21, 22, 23, 24, 25, 26, 27, 28, 29, 30]) (Keep.refl _) (Rn.s rfl Yv.mv (Rn.s rfl Yv.mv (Rn.s rfl (Yv.len_v (e := 23) (m := 1)) (Rn.s rfl (Yv.sl_t (n := 1) (e := 23) (k := is.length) (by omega) (by omega) hki) (Rn.s rfl Yv.mv (Rn.nil)))))) (WO.cv rfl (hrrl ▸ hsm8) (Keep.refl _) (FnOk.of Tryd.func14) (fun wf2 kf2 => WO.rd (is := [18, 19]) (js := [20, 21, 22, 23, 24, 25, 26, 27, 28, 29, 30]) ((Keep.refl _).trans kf2) (Rn.s rfl Yv.not (Rn.s rfl Yv.pick_f (Rn.nil))) (WO.e 8 (qf1 _ ((Keep.refl _).trans kf2)))))) (ht := fun _ qf1 => WO.rd (is := [12, 13, 14, 15, 16, 17, 18, 19]) (js := [20, 21, 22, 23, 24, 25, 26, 27, 28, 29, 30]) (Keep.refl _) (Rn.no rfl (Rn.no rfl (Rn.no rfl (Rn.no rfl (Rn.no rfl (Rn.no rfl (Rn.no rfl (Rn.s rfl Yv.pick_t Rn.nil)))))))) (WO.e 8 (qf1 _ (Keep.refl _)))) (k := fun wf1 kf1 => WO.rd (is := [20, 21, 22, 23, 24, 25, 26, 27, 28, 29, 30]) (js := []) ((Keep.refl _).trans kf1) (Rn.s rfl Yv.mv (Rn.or (is := [21, 22, 23, 24, 25, 26, 27, 28, 29, 30]) (js := []) (t := 67) (d := 77) (hg := rfl) (hf := fun h20 => Rn.s rfl Yv.mv (Rn.s rfl Yv.mv (Rn.s rfl (Yv.len_v (e := 23) (m := 1)) (Rn.s rfl (Yv.ia (e := 23) hrd8 (by omega) (by omega) hrr8l.symm) (Rn.s rfl (Yv.ld (hrd8.ld 0 (by omega) (by omega))) (Rn.s rfl (Yv.len_v (e := 3) (m := 1)) (Rn.s rfl Yv.mv (Rn.s rfl (Yv.len_v (e := 23) (m := 1)) (Rn.s rfl (Yv.cmp _ rfl) (Rn.s rfl Yv.pick_f ((Rn.e 10 rfl rfl)))))))))))) (ht := fun _ => Rn.no rfl (Rn.no rfl (Rn.no rfl (Rn.no rfl (Rn.no rfl (Rn.no rfl (Rn.no rfl (Rn.no rfl (Rn.no rfl (Rn.s rfl Yv.pick_t (Rn.e 10 rfl rfl))))))))))) (k := Rn.nil))) (WO.done ?_))))))
    rw [hlast]
    have e1 : (((is.length + 1 : Nat) : Int) != (is.length : Int) + 1) = false := by
      rw [bne_eq_false_iff_eq]
      omega
    have e2 : ((is.length : Int) != (is.length : Int)) = false := by simp
    rw [e1, e2]
    refine Wp.cond_f rfl ?_
    refine Wp.skip ?_
    refine Wp.seq (Wp.regionL (l := [0, 1]) (WO.cv rfl (awake_cv wf1) (Keep.refl _) (FnOk.of Tryd.func19) (fun wg1 kg1 => WO.rd (is := [1]) (js := []) ((Keep.refl _).trans kg1) (Rn.s rfl Yv.as (Rn.nil)) (WO.done ?_))))
    exact Wp.ret (Fin.ret (Res.one rfl rfl) ⟨rfl, (hs10.keep.trans kf1).trans kg1⟩)
end Go.Proofs.YthbehiflmcljcaaDoor.C
