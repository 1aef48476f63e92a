/- What the laws over include share: files copied, trees held against one another, a number without its sign, and what every such program answers. -/
import Derived.Test.YtgjhbapbomdpbaaGreatDoorJC
import Derived.Laws.MakeOwn
import Derived.Laws.OwnMore
set_option linter.unusedVariables false
set_option linter.unusedSimpArgs false
set_option maxRecDepth 10000
namespace Go.Proofs.YtgjhbapbomdpbaaGreatDoor.C
open Go.RowKit Go.Proofs.YtgjhbapbomdpbaaGreatDoor.Sh
theorem fitF {n : Nat} (h : n ≤ 4398046511104) : Fits Tryz.prog 49 n := .inr ⟨4398046511104, by kernel_rfl, h⟩
theorem copyF_cx (A : Option Addr) (c : Nat) (t : List Fl) (w : World) (hr : Rd FlE w A t) (hc : A = none → c = 0) (hl : t.length ≤ 4398046511100) : Cx Tryz.prog 10 [.slice A t.length c] [] (fun v D => ∃ B d, v = .slice B t.length d ∧ D = [Ch.row FlE 49 B d t]) w := by
  refine calls_of_Wp (vs := [_]) Tryz.func10 ?_
  refine Wp.seq (Wp.reads (is := [0]) (Keep.refl _) (Rn.s rfl Yv.as (Rn.nil)) ?_)
  refine Wp.seq (Wp.regionL (l := [0, 1, 2, 3]) (WO.act (hc := rfl) (he := Ef.bsl (T := 49) FlE ([] : List Fl) (St.init w) (fun b w1 k1 hs1 => WO.rd (is := [1]) (js := [2, 3]) (Keep.refl _) (Rn.s rfl Yv.mv (Rn.nil)) (WO.act (he := Ef.append hs1 0 (hr.keep k1) hc (fitF (by simp only [List.length_nil]; omega)) (fun A' c' w' hs' => WO.rd (is := [3]) (js := []) (Keep.refl _) (Rn.s rfl Yv.as (Rn.nil)) (WO.done ?_))))))))
  exact Wp.ret (Fin.ret (Res.one rfl rfl) ⟨_, _, rfl, ⟨A', c', rfl, rfl⟩, hs'⟩)
theorem sameTr_cv (A : Option Addr) (c : Nat) (xs : List Tr) (B : Option Addr) (d : Nat) (ys : List Tr) (w0 : World) (hx : Rd TsE w0 A xs) (hy : Rd TsE w0 B ys) (hxr : ∀ x ∈ xs, Rd NdE w0 x.1 x.2.2) (hyr : ∀ x ∈ ys, Rd NdE w0 x.1 x.2.2) (hl : xs.length < 4000000000000000000) (hxl : ∀ x ∈ xs, x.2.2.length ≤ 1000000) :
    Cv Tryz.prog 12 [.slice A xs.length c, .slice B ys.length d] (.bool (decide (xs.map ts1 = ys.map ts1))) w0 := by
  intro w hk
  have hx := hx.keep hk
  have hy := hy.keep hk
  refine calls_of_Wp (vs := [_, _]) Tryz.func12 ?_
  refine Wp.seq (Wp.reads (is := [0]) (Keep.refl _) (Rn.s rfl Yv.as (Rn.nil)) ?_)
  refine Wp.seq (Wp.seq (Wp.reads (is := [0, 1, 2, 3, 4]) (Keep.refl _) (Rn.s rfl Yv.mv (Rn.s rfl (Yv.len_v (e := 38) (m := 1)) (Rn.s rfl Yv.mv (Rn.s rfl (Yv.len_v (e := 38) (m := 1)) (Rn.s rfl (Yv.cmp _ rfl) (Rn.nil)))))) ?_))
  refine Wp.cond rfl (fun h => ?_) (fun h => ?_)
  · refine Wp.seq (Wp.reads (is := [0]) (Keep.refl _) (Rn.s rfl Yv.as (Rn.nil)) ?_)
    have hne : xs.map ts1 ≠ ys.map ts1 := by
      intro e
      have := congrArg List.length e
      simp only [List.length_map] at this
      simp [this] at h
    exact Wp.ret (Fin.ret (Res.one rfl rfl) ⟨by rw [decide_eq_false hne], Keep.refl _⟩)
  have hle : xs.length = ys.length := by
    have : (xs.length : Int) = ys.length := by simpa using h
    omega
  refine Wp.skip (Wp.seq (Wp.seq (Wp.reads (is := [0]) (Keep.refl _) (Rn.s rfl Yv.as (Rn.nil)) ?_)))
  refine Wp.block ?_
  refine Wp.loop (α := Nat) (fun i ρ ds w' => ds = [] ∧ Keep w w' ∧ i ≤ xs.length ∧ (∀ j : Nat, j < i → ts1 (nth xs (j : Int)) = ts1 (nth ys (j : Int))) ∧ Sub [(0, .slice A xs.length c), (1, .slice B ys.length d), (5, .int .i64 (i : Int))] ρ) (fun i => xs.length - i) 0
    ⟨rfl, Keep.refl _, Nat.zero_le _, fun j hj => absurd hj (Nat.not_lt_zero j), rfl, rfl, rfl, trivial⟩ ?_
  rintro i ρ ds w' ⟨rfl, hk', hi, hall, hs⟩
  refine Wp.forget _ ?_ hs
  have hx' := hx.keep hk'
  have hy' := hy.keep hk'
  refine Wp.seq (Wp.seq (Wp.reads (is := [0, 1, 2, 3]) (Keep.refl _) (Rn.s rfl Yv.mv (Rn.s rfl Yv.mv (Rn.s rfl (Yv.len_v (e := 38) (m := 1)) (Rn.s rfl (Yv.cmp _ rfl) (Rn.nil))))) ?_))
  refine Wp.cond rfl (fun h2 => ?_) (fun h2 => ?_)
  · have h2 := of_decide_eq_true h2
    have hil : i < xs.length := by omega
    have hil2 : i < ys.length := by omega
    have gx : nth xs (i : Int) ∈ xs := by rw [nth_of (List.getElem?_eq_getElem hil)]; exact List.getElem_mem hil
    have gy : nth ys (i : Int) ∈ ys := by rw [nth_of (List.getElem?_eq_getElem hil2)]; exact List.getElem_mem hil2
    have hrx := (hxr _ gx).keep (hk.trans hk')
    have hry := (hyr _ gy).keep (hk.trans hk')
    have hlx := hxl _ gx
    obtain ⟨X, hX⟩ : ∃ X, X = nth xs (i : Int) := ⟨_, rfl⟩
    obtain ⟨Y, hY⟩ : ∃ Y, Y = nth ys (i : Int) := ⟨_, rfl⟩
    refine Wp.skip (Wp.seq (Wp.block ?_))
    refine Wp.seq (Wp.draws [] mixed (WD.rd (is := [0, 1, 2, 3, 4, 5, 6, 7]) (fun _ _ _ _ _ h => h) (Keep.drew _) (Rn.s rfl Yv.mv (Rn.s rfl Yv.mv (Rn.s rfl (Yv.ia (e := 38) hx' (by omega) (by omega)) (Rn.s rfl (Yv.ld (hx'.ld 0 (by omega) (by omega))) (Rn.s rfl Yv.mv (Rn.s rfl Yv.mv (Rn.s rfl (Yv.ia (e := 38) hy' (by omega) (by omega)) (Rn.s rfl (Yv.ld (hy'.ld 0 (by omega) (by omega))) (Rn.nil))))))))) (WD.cv 8 rfl (same_cv (nth xs (i : Int)).1 (nth xs (i : Int)).2.1 (nth xs (i : Int)).2.2 (nth ys (i : Int)).1 (nth ys (i : Int)).2.1 (nth ys (i : Int)).2.2 w' hrx hry (by omega)) (Keep.drew _) (FnOk.of Tryz.func15) (fun wx1 kx1 => WD.rd (is := [9]) (fun _ _ _ _ _ h => h) ((Keep.drew _).trans kx1) (Rn.s rfl Yv.not (Rn.nil)) (WD.done ?_)))))
    refine Wp.cond rfl (fun h3 => ?_) (fun h3 => ?_)
    · refine Wp.seq (Wp.reads (is := [0]) (Keep.refl _) (Rn.s rfl Yv.as (Rn.nil)) ?_)
      have hne : xs.map ts1 ≠ ys.map ts1 := by
        intro e
        have e1 : ts1 (nth xs (i : Int)) = ts1 (nth ys (i : Int)) := by
          have := congrArg (fun l => l[i]?) e
          simp only [List.getElem?_map, List.getElem?_eq_getElem hil, List.getElem?_eq_getElem hil2, Option.map_some, Option.some.injEq] at this
          rw [nth_of (List.getElem?_eq_getElem hil), nth_of (List.getElem?_eq_getElem hil2)]
          exact this
        have e2 : (nth xs (i : Int)).2.2 = (nth ys (i : Int)).2.2 := e1
        simp [e2] at h3
      exact Wp.ret (Fin.ret (Res.one rfl rfl) ⟨by rw [decide_eq_false hne], hk'.trans ((Keep.drew _).trans kx1)⟩)
    · have h3 : ts1 (nth xs (i : Int)) = ts1 (nth ys (i : Int)) := by simpa using h3
      refine Wp.skip (Wp.reads (is := [0, 1, 2]) (Keep.refl _) (Rn.s rfl Yv.mv (Rn.s rfl (Yv.add (by unfold inI; omega)) (Rn.s rfl Yv.as (Rn.nil)))) ?_)
      refine ⟨i + 1, ⟨rfl, hk'.trans ((Keep.drew _).trans kx1), by omega, fun j hj => ?_, rfl, rfl, rfl, trivial⟩, by omega⟩
      by_cases hji : j = i
      · subst hji; exact h3
      · exact hall j (by omega)
  · have h2 := of_decide_eq_false h2
    refine Wp.exit ?_
    refine Wp.seq (Wp.reads (is := [0]) (Keep.refl _) (Rn.s rfl Yv.as (Rn.nil)) ?_)
    have he : xs.map ts1 = ys.map ts1 := by
      refine List.ext_getElem? fun j => ?_
      by_cases hj : j < xs.length
      · have hj2 : j < ys.length := by omega
        have := hall j (by omega)
        rw [nth_of (List.getElem?_eq_getElem hj), nth_of (List.getElem?_eq_getElem hj2)] at this
        simp only [List.getElem?_map, List.getElem?_eq_getElem hj, List.getElem?_eq_getElem hj2, Option.map_some, this]
      · simp only [List.getElem?_map]
        rw [List.getElem?_eq_none (by omega), List.getElem?_eq_none (by omega)]
    exact Wp.ret (Fin.ret (Res.one rfl rfl) ⟨by rw [decide_eq_true he], hk'⟩)
theorem andI_max (a : Int) (m : Nat) (hm : m ≤ 9223372036854775807) : 0 ≤ andI .i64 a m ∧ andI .i64 a m ≤ m := by
  have e : (BitVec.ofInt 64 a &&& BitVec.ofInt 64 (m : Int)).toNat = (BitVec.ofInt 64 a).toNat &&& m := by
    rw [BitVec.toNat_and, BitVec.ofInt_natCast, BitVec.toNat_ofNat, Nat.mod_eq_of_lt (by omega)]
  have h := Nat.and_le_right (n := (BitVec.ofInt 64 a).toNat) (m := m)
  have w : andI .i64 a m = (((BitVec.ofInt 64 a).toNat &&& m : Nat) : Int) := by
    show IntKind.i64.wrap ((BitVec.ofInt 64 a &&& BitVec.ofInt 64 (m : Int)).toNat : Int) = _
    rw [e]
    exact wrapI ⟨by omega, by omega⟩
  rw [w]
  omega
def lowI (n : Int) : Int := andI .i64 n 9223372036854775807
theorem lowI_bd (n : Int) : 0 ≤ lowI n ∧ lowI n ≤ 9223372036854775807 := andI_max n 9223372036854775807 (by omega)
/-! ### how large what is handed back can be -/
theorem endS_ge {t : List Nd} {i : Nat} : i + 1 ≤ endS t i := by
  unfold endS
  exact (endR_bd _ _ _).1
theorem wcutS_len (t : List Nd) (key : Bs) : (wcutS t key).length ≤ t.length := by
  unfold wcutS
  split
  · exact Nat.le_refl _
  · have := endS_ge (t := t) (i := (findS t 0 key).toNat)
    simp only [List.length_append, List.length_take, List.length_drop]
    omega
theorem outT_len (files : List Fl) (root : Bs) : ∀ t ∈ outT files root, t.length ≤ 16384 := by
  unfold outT
  split
  · simp
  rename_i h
  have h : (loadS files root).2.code = 0 := Decidable.not_not.1 h
  obtain ⟨h1, h2, h3⟩ := order_law h
  intro t ht
  obtain ⟨i, hi⟩ := List.mem_iff_getElem?.1 ht
  have hil := (List.getElem?_eq_some_iff.1 hi).1
  have hin : i < (loadS files root).1.nms.length := by rw [← h2.len]; exact hil
  obtain ⟨q1, q2, q3⟩ := h2.at_ i _ (List.getElem?_eq_getElem hin)
  rw [hi] at q2
  injection q2 with q2
  rw [q2]
  exact Nat.le_trans (wcutS_len _ _) (isS_depth (parseS_is q1.1)).2.1
theorem outN_len (files : List Fl) (root : Bs) : (outN files root).length ≤ 64 ∧ (outT files root).length = (outN files root).length := by
  unfold outN outT
  by_cases h : (loadS files root).2.code ≠ 0
  · rw [if_pos h, if_pos h]; exact ⟨by simp, rfl⟩
  · rw [if_neg h, if_neg h]
    have h : (loadS files root).2.code = 0 := Decidable.not_not.1 h
    obtain ⟨h1, h2, h3⟩ := order_law h
    obtain ⟨g1, g2⟩ := loadS_ok (files := files) (root := root) (by rw [h]; decide)
    refine ⟨?_, h2.len⟩
    have := h1.le
    have h4 := foldF_le files []
    have e : setS files = foldF files [] := rfl
    rw [e] at this
    simp only [List.length_nil, Nat.zero_add] at h4
    omega
theorem trows_mem {ts : List Tr} {x : Tr} (h : x ∈ ts) : trow x ∈ trows ts := List.mem_map_of_mem h
/-- a tree that is handed back is to be read -/
theorem st_trows {w0 w : World} {M : List Nat} {D E : List Chunk} {ts : List Tr} (h : St w0 M w (D ++ (trows ts ++ E))) : ∀ x ∈ ts, Rd NdE w x.1 x.2.2 := by
  intro x hx
  obtain ⟨i, hi⟩ := List.mem_iff_getElem?.1 hx
  have hil := (List.getElem?_eq_some_iff.1 hi).1
  have e : (D ++ (trows ts ++ E))[D.length + i]? = some (Ch.row NdE 62 x.1 x.2.1 x.2.2) := by
    rw [List.getElem?_append_right (by omega), show D.length + i - D.length = i by omega, List.getElem?_append_left (by simpa [trows] using hil)]
    unfold trows
    rw [List.getElem?_map, hi]
    rfl
  exact h.rd _ e
/-! ### the law's awake -/
def awF1 : List Fl := [⟨[97], [105, 110, 99, 108, 117, 100, 101, 58, 32, 98, 10, 120, 58, 32, 49]⟩, ⟨[98], [121, 58, 32, 50]⟩]
def awF2 : List Fl := [⟨[97], [105, 110, 99, 108, 117, 100, 101, 58, 32, 97]⟩]
def awT : List (List Nd) := outT awF1 [97]
theorem aw1 : outN awF1 [97] = [[98], [97]] ∧ outF awF1 [97] = ft0 := by decide +kernel
theorem aw2 : outT awF1 [97] = [[⟨1, 0, [], [], [98], 0, 0, 0⟩, ⟨3, 1, [121], [50], [98], 1, 1, 4⟩], [⟨1, 0, [], [], [97], 0, 0, 0⟩, ⟨3, 1, [120], [49], [97], 2, 1, 4⟩]] := by decide +kernel
theorem aw3 : outC awF2 [97] = [[97]] := by decide +kernel
theorem awake7_cv (w0 : World) (hg : Gm w0) : Cv Tryz.prog 16 [] (.bool true) w0 := by
  intro w hk
  have hg := hg.keep hk
  refine calls_of_Wp (vs := []) Tryz.func16 ?_
  refine Wp.seq (Wp.reads (is := [0]) (Keep.refl _) (Rn.s rfl Yv.as (Rn.nil)) ?_)
  refine Wp.seq (Wp.regionL (l := [0, 1, 2, 3]) (WO.rd (is := [0, 1]) (js := [2, 3]) (Keep.refl _) (Rn.s rfl (Yv.bd (cs := Fl.cs ⟨[97], [105, 110, 99, 108, 117, 100, 101, 58, 32, 98, 10, 120, 58, 32, 49]⟩)) (Rn.s rfl (Yv.bd (cs := Fl.cs ⟨[98], [121, 58, 32, 50]⟩)) (Rn.nil))) (WO.act (hc := rfl) (he := Ef.bsl (T := 49) FlE awF1 (St.init w) (fun ba1 wa1 ka1 hsa1 => WO.rd (is := [3]) (js := []) ((Keep.refl _).trans ka1) (Rn.s rfl Yv.as (Rn.nil)) (WO.done ?_))))))
  have hl1 := load_cx (some ⟨ba1, 0, none⟩) 2 awF1 [97] wa1 (hg.keep ka1) (hsa1.rd 0) (by decide)
  obtain ⟨e1, e2⟩ := aw1
  rw [e1, e2, aw2] at hl1
  refine Wp.seq (Wp.regionL (l := [0, 1, 2, 3, 4, 5, 6, 7, 8, 9]) (WO.rd (is := [0]) (js := [1, 2, 3, 4, 5, 6, 7, 8, 9]) (Keep.refl _) (Rn.s rfl Yv.mv (Rn.nil)) (WO.act (hc := rfl) (he := Ef.cx hl1 hsa1 (FnOk.of Tryz.func8) ?_))))
  rintro v D w2 ⟨NA, nc, TA, tc, ts, rfl, hts, rfl⟩ hs2
  refine WO.rd (is := [2, 3, 4, 5]) (js := [6, 7, 8, 9]) (Keep.refl _) (Rn.s rfl Yv.mv (Rn.s rfl Yv.ex (Rn.s rfl Yv.ex (Rn.s rfl Yv.ex (Rn.nil))))) (WO.act (he := Ef.allocL (vs := ft0.cs) hs2 (fun b4 w3 k3 hs3 => WO.rd (is := [7, 8]) (js := [9]) (Keep.refl _) (Rn.s rfl Yv.as (Rn.s rfl Yv.as (Rn.nil))) (WO.act (he := Ef.stores hs3 0 (fun w4 hs4 => WO.done ?_))))))
  obtain ⟨t1, t2, rfl⟩ : ∃ t1 t2, ts = [t1, t2] := by
    have hlen := congrArg List.length hts
    simp only [List.length_map, List.length_cons, List.length_nil] at hlen
    match ts, hlen with
    | [t1, t2], _ => exact ⟨t1, t2, rfl⟩
  have ht1 : t1.2.2 = [⟨1, 0, [], [], [98], 0, 0, 0⟩, ⟨3, 1, [121], [50], [98], 1, 1, 4⟩] := by
    simp only [List.map_cons, List.map_nil, List.cons.injEq] at hts
    exact hts.1
  have hst : St w [] w4 [Ch.cells b4 27 ft0.cs, Ch.row StE 9 NA nc [[98], [97]], Ch.row TsE 38 TA tc [t1, t2], trow t1, trow t2, Ch.row FlE 49 (some ⟨ba1, 0, none⟩) 2 awF1] := hs4
  clear hs2 hs3 hs4
  refine Wp.seq (Wp.regionL (l := [0, 1, 2, 3]) (WO.rd (is := [0]) (js := [1, 2, 3]) (Keep.refl _) (Rn.s rfl (Yv.bd (cs := Fl.cs ⟨[97], [105, 110, 99, 108, 117, 100, 101, 58, 32, 97]⟩)) (Rn.nil)) (WO.act (hc := rfl) (he := Ef.bsl (T := 49) FlE awF2 hst (fun b5 w5 k5 hs5 => ?_)))))
  have hl2 := cycle_cx (some ⟨b5, 0, none⟩) 1 awF2 [97] w5 (hg.keep hs5.keep) (hs5.rd 0) (by decide)
  rw [aw3] at hl2
  refine WO.act (hc := rfl) (he := Ef.cx hl2 hs5 (FnOk.of Tryz.func17) ?_)
  rintro v D w6 ⟨CA, cc, rfl, rfl⟩ hs6
  refine WO.rd (is := [3]) (js := []) (Keep.refl _) (Rn.s rfl Yv.as (Rn.nil)) (WO.done ?_)
  have hst : St w [] w6 [Ch.row StE 9 CA cc [[97]], Ch.row FlE 49 (some ⟨b5, 0, none⟩) 1 awF2, Ch.cells b4 27 ft0.cs, Ch.row StE 9 NA nc [[98], [97]], Ch.row TsE 38 TA tc [t1, t2], trow t1, trow t2, Ch.row FlE 49 (some ⟨ba1, 0, none⟩) 2 awF1] := hs6
  clear hs5 hs6
  have c4 := hst.cells 2
  have hrN := hst.rd 3
  have hrT := hst.rd 4
  have hrC := hst.rd 0
  obtain ⟨a1, c1, l1⟩ := t1
  obtain rfl : l1 = [⟨1, 0, [], [], [98], 0, 0, 0⟩, ⟨3, 1, [121], [50], [98], 1, 1, 4⟩] := ht1
  have hr1 := hst.rd (E := NdE) (A := a1) (c := c1) (xs := [⟨1, 0, [], [], [98], 0, 0, 0⟩, ⟨3, 1, [121], [50], [98], 1, 1, 4⟩]) 5
  refine Wp.seq (Wp.regionL (l := [0, 1, 2, 3, 4, 5, 6, 7, 8, 9, 10, 11, 12, 13, 14, 15, 16, 17, 18, 19, 20, 21, 22, 23, 24, 25, 26, 27, 28, 29, 30, 31, 32, 33, 34]) (WO.rd (is := [0, 1, 2, 3]) (js := [4, 5, 6, 7, 8, 9, 10, 11, 12, 13, 14, 15, 16, 17, 18, 19, 20, 21, 22, 23, 24, 25, 26, 27, 28, 29, 30, 31, 32, 33, 34]) (Keep.refl _) (Rn.s rfl (Yv.ldb c4) (Rn.s rfl (Yv.bd (cs := ft0.cs)) (Rn.s rfl (Yv.eqs (ftEq ft0 ft0)) (Rn.s rfl Yv.mv (Rn.nil))))) (WO.and (js := [8, 9, 10, 11, 12, 13, 14, 15, 16, 17, 18, 19, 20, 21, 22, 23, 24, 25, 26, 27, 28, 29, 30, 31, 32, 33, 34]) 21 25 (hg := rfl) (ht := fun h3 qx1 => WO.rd (is := [4]) (js := [5, 6, 7, 8, 9, 10, 11, 12, 13, 14, 15, 16, 17, 18, 19, 20, 21, 22, 23, 24, 25, 26, 27, 28, 29, 30, 31, 32, 33, 34]) (Keep.refl _) (Rn.s rfl Yv.mv (Rn.nil)) (WO.act (hc := rfl) (he := Ef.bsl (T := 9) StE [[98], [97]] hst (fun bx2 wx2 kx2 hsx2 => WO.cv rfl (sameT_cv NA nc [[98], [97]] _ _ [[98], [97]] wx2 (hrN.keep kx2) (hsx2.rd 0) (by decide)) (Keep.refl _) (FnOk.of Tryz.func11) (fun wx3 kx3 => WO.rd (is := [7]) (js := [8, 9, 10, 11, 12, 13, 14, 15, 16, 17, 18, 19, 20, 21, 22, 23, 24, 25, 26, 27, 28, 29, 30, 31, 32, 33, 34]) (((Keep.refl _).trans kx2).trans kx3) (Rn.s rfl Yv.pick_t (Rn.nil)) (WO.e 4 (qx1 _ (((Keep.refl _).trans kx2).trans kx3)))))))) (hf := fun _ qx1 => WO.rd (is := [4, 5, 6, 7]) (js := [8, 9, 10, 11, 12, 13, 14, 15, 16, 17, 18, 19, 20, 21, 22, 23, 24, 25, 26, 27, 28, 29, 30, 31, 32, 33, 34]) (Keep.refl _) (Rn.no rfl (Rn.no rfl (Rn.no rfl (Rn.s rfl Yv.pick_f Rn.nil)))) (WO.e 4 (qx1 _ (Keep.refl _)))) (k := fun wx1 kx1 => WO.rd (is := [8, 9, 10, 11, 12, 13, 14, 15, 16, 17, 18, 19, 20, 21, 22, 23, 24, 25, 26, 27, 28, 29]) (js := [30, 31, 32, 33, 34]) ((Keep.refl _).trans kx1) (Rn.s rfl Yv.mv (Rn.and (is := [9, 10, 11, 12]) (js := [13, 14, 15, 16, 17, 18, 19, 20, 21, 22, 23, 24, 25, 26, 27, 28, 29]) (t := 26) (d := 30) (hg := rfl) (ht := fun h8 => Rn.s rfl Yv.mv (Rn.s rfl (Yv.len_v (e := 38) (m := 1)) (Rn.s rfl (Yv.cmp _ rfl) (Rn.s rfl Yv.pick_t ((Rn.e 4 rfl rfl)))))) (hf := fun _ => Rn.no rfl (Rn.no rfl (Rn.no rfl (Rn.s rfl Yv.pick_f (Rn.e 4 rfl rfl))))) (k := Rn.s rfl Yv.mv (Rn.and (is := [14, 15, 16, 17, 18, 19]) (js := [20, 21, 22, 23, 24, 25, 26, 27, 28, 29]) (t := 31) (d := 37) (hg := rfl) (ht := fun h13 => Rn.s rfl Yv.mv (Rn.s rfl (Yv.ia (e := 38) hrT (j := 0) (by decide) (by simp)) (Rn.s rfl (Yv.ld (hrT.ld (i := 0) 0 (by decide) (by simp))) (Rn.s rfl (Yv.len_v (e := 62) (m := 8)) (Rn.s rfl (Yv.cmp _ rfl) (Rn.s rfl Yv.pick_t ((Rn.e 6 rfl rfl)))))))) (hf := fun _ => Rn.no rfl (Rn.no rfl (Rn.no rfl (Rn.no rfl (Rn.no rfl (Rn.s rfl Yv.pick_f (Rn.e 6 rfl rfl))))))) (k := Rn.s rfl Yv.mv (Rn.and (is := [21, 22, 23, 24, 25, 26, 27, 28]) (js := [29]) (t := 38) (d := 46) (hg := rfl) (ht := fun h20 => Rn.s rfl Yv.mv (Rn.s rfl (Yv.ia (e := 38) hrT (j := 0) (by decide) (by simp)) (Rn.s rfl (Yv.ld (hrT.ld (i := 0) 0 (by decide) (by simp))) (Rn.s rfl (Yv.ia (e := 62) hr1 (j := 1) (by decide) (by decide)) (Rn.s rfl (Yv.fa (off := 2)) (Rn.s rfl (Yv.ld (hr1.ld (i := 1) 2 (by decide) (by decide))) (Rn.s rfl (Yv.scm _ rfl) (Rn.s rfl Yv.pick_t ((Rn.e 8 rfl rfl)))))))))) (hf := fun _ => Rn.no rfl (Rn.no rfl (Rn.no rfl (Rn.no rfl (Rn.no rfl (Rn.no rfl (Rn.no rfl (Rn.s rfl Yv.pick_f (Rn.e 8 rfl rfl))))))))) (k := Rn.s rfl Yv.mv (Rn.nil)))))))) (WO.and (js := [34]) 47 51 (hg := rfl) (ht := fun h29 qx4 => WO.rd (is := [30]) (js := [31, 32, 33, 34]) ((Keep.refl _).trans kx1) (Rn.s rfl Yv.mv (Rn.nil)) (WO.act (hc := rfl) (he := Ef.bsl (T := 9) StE [[97]] (hst.quiet kx1) (fun bx5 wx5 kx5 hsx5 => WO.cv rfl (sameT_cv CA cc [[97]] _ _ [[97]] wx5 (hrC.keep (kx1.trans kx5)) (hsx5.rd 0) (by decide)) (Keep.refl _) (FnOk.of Tryz.func11) (fun wx6 kx6 => WO.rd (is := [33]) (js := [34]) ((((Keep.refl _).trans kx1).trans kx5).trans kx6) (Rn.s rfl Yv.pick_t (Rn.nil)) (WO.e 4 (qx4 _ (((Keep.refl _).trans kx5).trans kx6)))))))) (hf := fun _ qx4 => WO.rd (is := [30, 31, 32, 33]) (js := [34]) ((Keep.refl _).trans kx1) (Rn.no rfl (Rn.no rfl (Rn.no rfl (Rn.s rfl Yv.pick_f Rn.nil)))) (WO.e 4 (qx4 _ (Keep.refl _)))) (k := fun wx4 kx4 => WO.rd (is := [34]) (js := []) (((Keep.refl _).trans kx1).trans kx4) (Rn.s rfl Yv.as (Rn.nil)) (WO.done ?_)))))))
  refine Wp.ret (Fin.ret (Res.one rfl rfl) ⟨?_, ?_⟩)
  · rfl
  · exact hst.keep.trans (kx1.trans kx4)
end Go.Proofs.YtgjhbapbomdpbaaGreatDoor.C
/- What the laws over include look up: a file's text, the names that a text includes, a name that is longer than all. -/
set_option linter.unusedVariables false
set_option linter.unusedSimpArgs false
set_option maxRecDepth 10000
namespace Go.Proofs.YtgjhbapbomdpbaaGreatDoor.Sh
open Go.RowKit
def mkbB (P : Program) (t T : TypeId) : Bool := slB P t T 1 && (match P.info? T with
  | some i => Nat.beq i.size 1 && Nat.beq i.bytes 1 && (match i.zero with | some (.int .u8 0) => true | _ => false)
  | none => false)
section
variable {P : Program} {w w0 : World} {r : Option Nat} {N : Nat} {ρ : Env} {ds : List Deferred} {M : List Nat} {D : List Chunk} {K : Env → World → Prop} {Q : Post} {dst : Option Nat}
theorem repl_flat : ∀ n : Nat, (List.replicate n (0 : UInt8)).flatMap ByE.cells = List.replicate n (.int .u8 0)
  | 0 => rfl
  | n + 1 => by rw [List.replicate_succ, List.replicate_succ, List.flatMap_cons, repl_flat n]; rfl
/-- new bytes, all 0 -/
theorem Ef.mkbytes {t T : TypeId} {x y : Operand} {n : Nat} (h : St w0 M w D) (k : ∀ b w', Keep w w' → St w0 M w' (Ch.row ByE T (some ⟨b, 0, none⟩) n (List.replicate n (0 : UInt8)) :: D) → K (putE ρ dst (.slice (some ⟨b, 0, none⟩) n n)) w')
    (hn : n ≤ 281474976710656) (ht : mkbB P t T = true := by kernel_rfl) : Ef r P N dst (.makeSlice t x y) [.int .i64 (n : Int), .int .i64 (n : Int)] ρ ds w K Q := by
  unfold mkbB at ht
  rw [Bool.and_eq_true] at ht
  obtain ⟨h1, h2⟩ := ht
  cases hi : P.info? T with
  | none => rw [hi] at h2; cases h2
  | some i =>
    rw [hi] at h2
    simp only [Bool.and_eq_true] at h2
    obtain ⟨⟨h3, h4⟩, h5⟩ := h2
    have h3 := Nat.eq_of_beq_eq_true h3
    have h4 := Nat.eq_of_beq_eq_true h4
    have hz : i.zero = some (.int .u8 0) := by
      revert h5
      split
      · intro _; assumption
      · intro q; cases q
    refine Ef.of_run (v := .slice (some ⟨w.heap.size, 0, none⟩) n n) (w' := w.alloc (.cells (madeCells (Value.int .u8 0).cells (n * i.size)) T)) (by simp) (fun o e hop hv => ?_) (k _ _ (Keep.alloc _ _) (h.new (Keep.alloc _ _) ?_ ?_))
    · have he : e x = .int .i64 (n : Int) ∧ e y = .int .i64 (n : Int) := by simpa [Op.operands] using hv
      have := run_make (P := P) w t T i (.int .u8 0) (slB_of h1).1 hi hz .i64 .i64 (n : Int) (n : Int) (by omega) (by omega) (by rw [h4]; omega) (by omega)
      rw [Int.toNat_natCast] at this
      simp [execOp, hop, he.1, he.2, this]
    · show (w.alloc _).ownsRow 0 T ByE.n (.slice (some ⟨w.heap.size, 0, none⟩) (List.replicate n (0 : UInt8)).length n) (List.replicate n (0 : UInt8)).length ((List.replicate n (0 : UInt8)).flatMap ByE.cells)
      have hc : (madeCells (Value.int .u8 0).cells (n * i.size)).toList = (List.replicate n (0 : UInt8)).flatMap ByE.cells := by
        rw [h3, Nat.mul_one]
        have e : (Value.int .u8 0).cells = #[.int .u8 0] := rfl
        rw [e, toList_madeCells_one, repl_flat]
      have := flat_len_own (E := ByE) (xs := List.replicate n (0 : UInt8)) (w := w.alloc (.cells (madeCells (Value.int .u8 0).cells (n * i.size)) T)) (b := w.heap.size) (T := T) hc (by rw [List.length_replicate]; unfold maxLen; omega) (heap_alloc_new w _)
      rw [List.length_replicate] at this ⊢
      exact this
    · intro b hb
      simp [Ch.row] at hb
      subst hb
      simp
end
theorem Yv.max3 {P : Program} {w : World} {ts : Array TypeId} {x y z : Operand} {a b c : Int} (m : Int) (h : (if c > (if b > a then b else a) then c else (if b > a then b else a)) = m) : Yv P w (.call { callee := .builtin .max, args := #[x, y, z], argTypes := ts }) [.int .i64 a, .int .i64 b, .int .i64 c] (.int .i64 m) :=
  ⟨by simp, fun o e hop hv w' _ => by
    subst h
    have hx : e x = .int .i64 a ∧ e y = .int .i64 b ∧ e z = .int .i64 c := by simpa [Op.operands, Call.operands] using hv
    simp only [execOp, hop, resolve, invoke, builtin, Sem.run_bind, Sem.run_pure, Result.andThen_ok, List.map_toArray, List.map_cons, List.map_nil, hx.1, hx.2.1, hx.2.2]
    simp [Builtin.max_, Builtin.max2]⟩
end Go.Proofs.YtgjhbapbomdpbaaGreatDoor.Sh
namespace Go.Proofs.YtgjhbapbomdpbaaGreatDoor.C
open Go.RowKit Go.Proofs.YtgjhbapbomdpbaaGreatDoor.Sh
/-! ### a file's text -/
def txtG : Option Fl → Bs
  | some f => f.text
  | none => []
def txtS (files : List Fl) (name : Bs) : Bs := txtG (files.find? (fun f => f.name == name))
theorem txt_file {files : List Fl} (hn : (files.map Fl.name).Nodup) (name : Bs) : txtS files name = fileS (setS files) name := by
  unfold txtS fileS
  cases h : files.find? (fun f => f.name == name) with
  | none =>
    rw [List.find?_eq_none] at h
    rw [setS_none]
    · rfl
    · intro hm
      obtain ⟨f, hf, e⟩ := List.mem_map.1 hm
      exact h f hf (by simp [e])
  | some f =>
    have hf := List.mem_of_find?_eq_some h
    have e : f.name = name := by have := List.find?_some h; simpa using this
    rw [← e, setS_in hn hf]
    rfl
/-! ### the names that a text includes -/
theorem getS_bd (t : List Nd) (key : Bs) : getS t [key] < 0 ∨ (isS t = true ∧ 0 ≤ getS t [key] ∧ getS t [key] < t.length) := by
  cases h : isS t with
  | false =>
    left
    unfold getS
    rw [h]
    simp
  | true =>
    have h0 := (isS_depth h).1
    have hb := findS_bd h0 key
    rw [getS_find h]
    by_cases q : findS t 0 key < 0
    · exact .inl q
    · exact .inr ⟨rfl, by omega, by omega⟩
/-! ### a name that is longer than all -/
theorem lone_step (files : List Fl) (root : Bs) {i : Nat} (hi : i < files.length) : loneN (files.take (i + 1)) root = max (max (loneN (files.take i) root) (nth files (i : Int)).name.length) (nth files (i : Int)).text.length := by
  unfold loneN
  rw [List.take_add_one, List.getElem?_eq_getElem hi, List.foldl_append, nth_of (List.getElem?_eq_getElem hi)]
  rfl
theorem lone_bd {m : Nat} : ∀ (files : List Fl) (n : Nat), n ≤ m → (∀ f ∈ files, f.name.length ≤ m ∧ f.text.length ≤ m) → files.foldl (fun n f => max (max n f.name.length) f.text.length) n ≤ m
  | [], n, h, _ => h
  | f :: fs, n, h, hf => by
    have := hf f (List.mem_cons_self ..)
    have h2 : max (max n f.name.length) f.text.length ≤ m := by omega
    exact lone_bd fs _ h2 (fun g hg => hf g (List.mem_cons_of_mem _ hg))
end Go.Proofs.YtgjhbapbomdpbaaGreatDoor.C
/- IncludeSets, walked. -/
set_option linter.unusedVariables false
set_option linter.unusedSimpArgs false
set_option maxRecDepth 10000
namespace Go.Proofs.YtgjhbapbomdpbaaGreatDoor.C
open Go.RowKit Go.Proofs.YtgjhbapbomdpbaaGreatDoor.Sh
theorem rdF_drop {w : World} {A : Option Addr} {t : List Fl} {c l : Nat} (hr : Rd FlE w A t) (hc : t.length ≤ c) : Rd FlE w (cutA A c l 2) (t.drop l) := by
  have := hr.cut (l := l) hc (Nat.le_refl _)
  rwa [List.take_length] at this
theorem rdF_take {w : World} {A : Option Addr} {t : List Fl} {m : Nat} (hr : Rd FlE w A t) : Rd FlE w A (t.take m) := by
  have : Rd FlE w A (t.take m ++ t.drop m) := by rw [List.take_append_drop]; exact hr
  exact rd_pre this
theorem cutF_none {A : Option Addr} {c l : Nat} (hA : A = none → c = 0) : cutA A c l 2 = none → c - l = 0 := by
  intro h
  unfold cutA at h
  split at h
  · omega
  · simp only [Option.map_eq_none_iff] at h
    have := hA h
    omega
/-- what a call of Load leaves to be read -/
structure Ld (w : World) (files : List Fl) (root : Bs) (NA TA : Option Addr) (nc tc : Nat) (ts : List Tr) (b : Nat) : Prop where
  names : Rd StE w NA (outN files root)
  trees : Rd TsE w TA ts
  tree : ∀ x ∈ ts, Rd NdE w x.1 x.2.2
  is : ts.map ts1 = outT files root
  fault : Cells w b (outF files root).cs
theorem Ld.keep {w w' : World} {files : List Fl} {root : Bs} {NA TA : Option Addr} {nc tc : Nat} {ts : List Tr} {b : Nat} (h : Ld w files root NA TA nc tc ts b) (k : Keep w w') : Ld w' files root NA TA nc tc ts b :=
  ⟨h.names.keep k, h.trees.keep k, fun x hx => (h.tree x hx).keep k, h.is, h.fault.keep k⟩
theorem ld_of {w0 w : World} {files : List Fl} {root : Bs} {NA TA : Option Addr} {nc tc : Nat} {ts : List Tr} {b : Nat} {E : List Chunk} {vs : List Value} (his : ts.map ts1 = outT files root) (hs : St w0 [] w (Ch.cells b 27 vs :: ((Ch.row StE 9 NA nc (outN files root) :: Ch.row TsE 38 TA tc ts :: trows ts) ++ E))) (hv : vs = (outF files root).cs) : Ld w files root NA TA nc tc ts b := by
  subst hv
  exact ⟨hs.rd 1, hs.rd 2, st_trows (D := [_, _, _]) hs, his, hs.cells 0⟩
theorem Ld.len {w : World} {files : List Fl} {root : Bs} {NA TA : Option Addr} {nc tc : Nat} {ts : List Tr} {b : Nat} (h : Ld w files root NA TA nc tc ts b) : ts.length ≤ 64 ∧ ts.length = (outT files root).length ∧ ∀ x ∈ ts, x.2.2.length ≤ 1000000 := by
  obtain ⟨h1, h2⟩ := outN_len files root
  have h3 : ts.length = (outT files root).length := by rw [← h.is, List.length_map]
  refine ⟨by omega, h3, fun x hx => ?_⟩
  have := outT_len files root x.2.2 (by rw [← h.is]; exact List.mem_map_of_mem hx)
  omega
/-- two answers alike: trees held against one another -/
theorem ld_same {w : World} {files gs : List Fl} {root : Bs} {NA TA NB TB : Option Addr} {nc tc nd td : Nat} {ts us : List Tr} {b d : Nat} (h : Ld w files root NA TA nc tc ts b) (h2 : Ld w gs root NB TB nd td us d) (he : outT files root = outT gs root) :
    Cv Tryz.prog 12 [.slice TA (outT files root).length tc, .slice TB (outT gs root).length td] (.bool true) w := by
  obtain ⟨g1, g2, g3⟩ := h.len
  obtain ⟨g4, g5, g6⟩ := h2.len
  have := sameTr_cv TA tc ts TB td us w h.trees h2.trees h.tree h2.tree (by omega) g3
  rw [h.is, h2.is, decide_eq_true he, g2, g5] at this
  exact this
theorem outF_code (files : List Fl) (root : Bs) : (outF files root).code = (loadS files root).2.code := by
  unfold outF
  split
  · rfl
  · rename_i h
    exact (Decidable.not_not.1 h).symm
theorem out_congr {files gs : List Fl} {root : Bs} (h : loadS gs root = loadS files root) : outN gs root = outN files root ∧ outT gs root = outT files root ∧ outF gs root = outF files root := by
  unfold outN outT outF
  rw [h]
  exact ⟨rfl, rfl, rfl⟩
end Go.Proofs.YtgjhbapbomdpbaaGreatDoor.C
