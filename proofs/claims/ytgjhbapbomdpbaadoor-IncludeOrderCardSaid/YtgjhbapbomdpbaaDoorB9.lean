/- A text as a tree: tree.Parse. -/
import Derived.Test.YtgjhbapbomdpbaaDoorB8
set_option linter.unusedVariables false
set_option linter.unusedSimpArgs false
set_option maxRecDepth 10000
namespace Go.Proofs.YtgjhbapbomdpbaaDoor.C
open Go.RowKit Go.Proofs.YtgjhbapbomdpbaaDoor.Sh
/-! ### bounds -/
theorem indexByte_bd : ∀ (l : Bs) (c : UInt8), -1 ≤ Lib.indexByte l c ∧ Lib.indexByte l c ≤ l.length
  | [], c => by simp [Lib.indexByte]
  | b :: l, c => by
    have := indexByte_bd l c
    unfold Lib.indexByte
    simp only [List.length_cons]
    split
    · omega
    · split <;> omega
structure LnOk (l : Ln) : Prop where
  text : l.text.length ≤ 65536
  i0 : -1 ≤ l.indent
  i1 : l.indent ≤ 65536
theorem lineOf_ok {n : Nat} {l : Bs} {x : Ln} (h : lineOf n l = some x) (hl : l.length ≤ 65536) : LnOk x := by
  unfold lineOf at h
  simp only at h
  split at h
  · cases h
  · injection h with h
    subst h
    have hb := indexByte_bd l (nth (Lib.trimB l 32) 0)
    have ht := trimB_le l 32
    exact ⟨by simp only; omega, hb.1, by simp only; omega⟩
theorem linesR_ok : ∀ (xs : List (Nat × Bs)) (acc : List Ln), (∀ x ∈ xs, x.2.length ≤ 65536) → (∀ l ∈ acc, LnOk l) → (∀ l ∈ (linesR xs acc).ls, LnOk l) ∧ (linesR xs acc).ls.length ≤ acc.length + xs.length
  | [], acc, _, h => by simp only [linesR]; exact ⟨h, by simp⟩
  | (n, l) :: xs, acc, hx, h => by
    have hl := hx (n, l) (by simp)
    have hxs : ∀ x ∈ xs, x.2.length ≤ 65536 := fun x hm => hx x (List.mem_cons_of_mem _ hm)
    simp only [linesR]
    split
    · simp
    split
    · simp
    · cases hlo : lineOf n l with
      | none =>
        have := linesR_ok xs acc hxs h
        simp only [List.length_cons]
        exact ⟨this.1, by omega⟩
      | some x =>
        have := linesR_ok xs (acc ++ [x]) hxs (by
          intro y hm
          rcases List.mem_append.1 hm with hm | hm
          · exact h y hm
          · obtain rfl := List.mem_singleton.1 hm
            exact lineOf_ok hlo hl)
        simp only [List.length_append, List.length_cons, List.length_nil] at this ⊢
        exact ⟨this.1, by omega⟩
theorem linesS_ok (s : Bs) : (∀ l ∈ (linesS s).ls, LnOk l) ∧ (linesS s).ls.length ≤ 65536 := by
  unfold linesS
  split
  · simp
  · rename_i h
    have := linesR_ok (rawFrom 1 s) [] (by
      intro x hx
      obtain ⟨k, hk⟩ := List.mem_iff_getElem?.1 hx
      have := (raw_line_le s k x hk).1
      omega) (by simp)
    have hl := raw_len _ 1 s (Nat.le_refl _)
    simp only [List.length_nil] at this
    exact ⟨this.1, by omega⟩
structure CtOk (n : Nat) (o : Ct) : Prop where
  c0 : 0 ≤ o.col
  c1 : o.col ≤ 1
  v0 : 0 ≤ o.val
  v1 : o.val ≤ n + 1
def OcOk (n : Nat) : Oc → Prop
  | .ok a o => 0 ≤ a ∧ a ≤ n ∧ CtOk n o
  | .err _ col => 0 ≤ col ∧ col ≤ n + 2
theorem tailS_ok (s : Bs) (n : Nat) (key : Bs) (h : n ≤ s.length) : OcOk s.length (tailS s n key) := by
  unfold tailS
  split
  · exact ⟨by omega, by omega⟩
  split
  · exact ⟨by omega, by omega⟩
  · rename_i h1 h2
    exact ⟨by omega, by omega, ⟨by simp, by simp, by simp, by simp only; omega⟩⟩
theorem headS_ok (s : Bs) : OcOk s.length (headS s) := by
  have hq := quoteR_bd s
  have hn := namedN_le s 0 (by omega)
  cases hh : headS s with
  | ok a o =>
    have hb := headS_bd hh
    refine ⟨hb.1, hb.2, ?_⟩
    unfold headS at hh
    split at hh
    · injection hh with h1 h2
      subst h2
      exact ⟨by simp, by simp, by simp, by simp only; omega⟩
    split at hh
    · split at hh
      · split at hh
        · cases hh
        · have := tailS_ok s (quoteR s).2.1.toNat (quoteR s).1 (by omega)
          rw [hh] at this
          exact this.2.2
      · cases hh
    · split at hh
      · have := tailS_ok s (namedN s 0) (s.take (namedN s 0)) hn.2
        rw [hh] at this
        exact this.2.2
      · cases hh
  | err why col =>
    unfold headS at hh
    split at hh
    · cases hh
    split at hh
    · split at hh
      · split at hh
        · injection hh with h1 h2
          subst h2
          exact ⟨by omega, by omega⟩
        · have := tailS_ok s (quoteR s).2.1.toNat (quoteR s).1 (by omega)
          rw [hh] at this
          exact this
      · injection hh with h1 h2
        subst h2
        exact ⟨by omega, by omega⟩
    · split at hh
      · have := tailS_ok s (namedN s 0) (s.take (namedN s 0)) hn.2
        rw [hh] at this
        exact this
      · injection hh with h1 h2
        subst h2
        exact ⟨by omega, by omega⟩
theorem valueS_ok (s : Bs) (a : Nat) (o : Ct) (ha : a ≤ s.length) (ho : CtOk s.length o) : OcOk s.length (valueS s a o) := by
  have hq := quoteR_bd (s.drop a)
  simp only [List.length_drop] at hq
  have hg := gapN_le s (a + (quoteR (s.drop a)).2.1.toNat) (by omega)
  obtain ⟨h0, h1, h2, h3⟩ := ho
  unfold valueS
  split
  · exact ⟨by omega, by omega, h0, h1, h2, h3⟩
  split
  · refine ⟨by omega, by omega, ?_⟩
    unfold bareS
    simp only
    split
    · exact ⟨h0, h1, by simp only; omega, by simp only; omega⟩
    split
    · exact ⟨h0, h1, by simp only; omega, by simp only; omega⟩
    · exact ⟨h0, h1, by simp only; omega, by simp only; omega⟩
  split
  · split
    · exact ⟨by omega, by omega⟩
    · exact ⟨by omega, by omega, h0, h1, by simp only; omega, by simp only; omega⟩
  · exact ⟨by omega, by omega⟩
theorem readC_ok (s : Bs) : CtOk s.length (readC s).1 ∧ 0 ≤ (readC s).2.1 ∧ (readC s).2.1 ≤ s.length + 2 := by
  have h0 : CtOk s.length ct0 := ⟨by simp, by simp, by simp, by simp only; omega⟩
  have hh := headS_ok s
  unfold readC
  cases h1 : headS s with
  | err why col =>
    rw [h1] at hh
    exact ⟨h0, hh.1, hh.2⟩
  | ok a o =>
    rw [h1] at hh
    obtain ⟨q1, q2, q3⟩ := hh
    have hg := gapN_le s a.toNat (by omega)
    have hv := valueS_ok s (gapN s a.toNat) o hg.2 q3
    simp only
    cases h2 : valueS s (gapN s a.toNat) o with
    | err why col =>
      rw [h2] at hv
      exact ⟨h0, hv.1, hv.2⟩
    | ok a' o' =>
      rw [h2] at hv
      exact ⟨hv.2.2, by simp, by simp only; omega⟩
/-! ### the tree -/
def goS (file : Bs) : List Ln → List Nd → List OB → Bool → Int → List Nd × Ft
  | [], nodes, _, _, _ => (nodes, ft0)
  | l :: ls, nodes, st, last, ind =>
    if (readC l.text).2.2 ≠ 0 then ([], ⟨(readC l.text).2.2, file, l.no, l.indent + (readC l.text).2.1⟩)
    else if (enterS nodes st last ind l (readC l.text).1).1 ≠ 0 then ([], ⟨(enterS nodes st last ind l (readC l.text).1).1, file, l.no, l.indent + 1⟩)
    else goS file ls ((enterS nodes st last ind l (readC l.text).1).2.1 ++ [nodeS file (enterS nodes st last ind l (readC l.text).1).2.2.length l (readC l.text).1]) (enterS nodes st last ind l (readC l.text).1).2.2 (!(readC l.text).1.has) l.indent
abbrev nd0 (file : Bs) : Nd := ⟨1, 0, [], [], file, 0, 0, 0⟩
abbrev ob0 : OB := ⟨0, false, 0, []⟩
def parseS (file s : Bs) : List Nd × Ft :=
  if (linesS s).e ≠ 0 then ([], ⟨(linesS s).e, file, (linesS s).no, (linesS s).col⟩) else goS file (linesS s).ls [nd0 file] [ob0] false 0
theorem resTA {P : Program} {fn : Func} {N n : Nat} {ρ : Env} {w : World} {t u b : Nat} {ty : TypeId} {vs : List Value} {x : Value} (h : fn.results = #[.tmp u, .cell t ty]) (hx : lk ρ u = some x) (hp : lk ρ t = some (PB b)) (hc : Cells w b vs) (hn : vs.length = n := by rfl) (ht : agB P ty n = true := by kernel_rfl) : Res P fn N ρ w (.tuple #[x, .agg vs.toArray]) := fun a ds ha => by
  have h1 := ha.val t _ hp
  have h3 := ha.val u _ hx
  have h2 : (loadVar ty ⟨b, 0, none⟩).run P w = .ok (.agg vs.toArray) w := run_loadVar_ag (agB_of ht) ⟨b, 0, none⟩ vs hn (fun j v hj => by rw [add_off, Nat.zero_add]; exact hc j v hj)
  simp only [results, h]
  simp at h1 h3
  simp [h1, h2, h3, asAddr]
def ParsePost (file s : Bs) (w : World) (e : Ending) (w' : World) : Prop := ∃ A c, e = .returned (.tuple #[.slice A (parseS file s).1.length c, .agg (parseS file s).2.cs.toArray]) ∧ St w [] w' [Ch.row NdE 48 A c (parseS file s).1]
theorem popS_len (ind : Int) : ∀ st : List OB, (popS ind st).length ≤ st.length
  | [] => by simp [popS]
  | [x] => by simp [popS]
  | x :: y :: r => by
    rw [popS]
    split
    · have := popS_len ind (y :: r)
      simp only [List.length_cons] at this ⊢
      omega
    · exact Nat.le_refl _
theorem enterS_len {nodes : List Nd} {st : List OB} {last : Bool} {ind : Int} {l : Ln} {o : Ct} {N2 : List Nd} {S2 : List OB} (h : enterS nodes st last ind l o = (0, N2, S2)) : N2.length = nodes.length ∧ 0 < S2.length ∧ S2.length ≤ st.length + 1 := by
  have hp := popS_len l.indent (stack1 nodes.length st last ind l o)
  have hs : (stack1 nodes.length st last ind l o).length ≤ st.length + 1 := by
    unfold stack1
    split <;> simp
  unfold enterS at h
  split at h
  · cases h
  rename_i b r hb
  rw [hb] at hp
  split at h
  · cases h
  split at h
  · cases h
  split at h
  · cases h
  split at h
  · cases h
  · injection h with _ h
    injection h with h1 h2
    subst h1 h2
    simp only [List.length_cons] at hp ⊢
    refine ⟨?_, by omega, by omega⟩
    unfold nodes1
    split <;> simp
theorem parse_calls (file s : Bs) (w0 : World) (hg : Gm w0) (w : World) (hk : Keep w0 w) : Calls Tryd.prog 21 #[S file, S s] w (ParsePost file s w) := by
  have hg := hg.keep hk
  refine calls_of_Wp (vs := [_, _]) Tryd.func21 ?_
  refine Wp.seq (Wp.regionL (l := [0, 1]) (WO.rd (is := [0]) (js := [1]) (Keep.refl _) (Rn.s rfl Yv.as (Rn.nil)) (WO.act (hc := rfl) (he := Ef.allocL (vs := [.int .i64 0, S [], .int .i64 0, .int .i64 0]) (St.init w) (fun ba1 wa1 ka1 hsa1 => WO.done ?_)))))
  have hga := hg.keep ka1
  refine Wp.seq (Wp.regionL (l := [0, 1, 2, 3, 4, 5, 6, 7, 8, 9, 10]) (WO.rd (is := [0]) (js := [1, 2, 3, 4, 5, 6, 7, 8, 9, 10]) (Keep.refl _) (Rn.s rfl Yv.mv (Rn.nil)) (WO.act (hc := rfl) (he := Ef.callv Tryd.func33 (Calls.mono (lines_calls s _ hga _ (Keep.refl _)) ?_)))))
  rintro e w1 ⟨AL, cL, rfl, hsl⟩
  have hst := hsa1.call0 hsl
  obtain ⟨R, hR⟩ : ∃ R, R = linesS s := ⟨_, rfl⟩
  obtain ⟨hlo, hll⟩ := linesS_ok s
  rw [← hR] at hst hlo hll
  rw [← hR]
  refine WO.rd (is := [2, 3, 4, 5, 6, 7, 8, 9, 10]) (js := []) (Keep.refl _) (Rn.s rfl Yv.mv (Rn.s rfl Yv.ex (Rn.s rfl Yv.ex (Rn.s rfl Yv.ex (Rn.s rfl Yv.ex (Rn.s rfl Yv.as (Rn.s rfl Yv.as (Rn.s rfl Yv.as (Rn.s rfl Yv.as (Rn.nil)))))))))) (WO.done ?_)
  refine Wp.seq (Wp.seq (Wp.reads (is := [0, 1]) (Keep.refl _) (Rn.s rfl Yv.mv (Rn.s rfl (Yv.cmp _ rfl) (Rn.nil))) ?_))
  unfold ParsePost
  refine Wp.cond rfl (fun h => ?_) (fun h => ?_)
  · have h : R.e ≠ 0 := by simpa using h
    have e : parseS file s = ([], ⟨R.e, file, R.no, R.col⟩) := by rw [parseS, ← hR, if_pos h]
    rw [e]
    refine Wp.seq (Wp.regionL (l := [0, 1, 2, 3, 4, 5, 6]) (WO.rd (is := [0, 1, 2, 3, 4, 5]) (js := [6]) (Keep.refl _) (Rn.s rfl Yv.mv (Rn.s rfl Yv.mv (Rn.s rfl Yv.mv (Rn.s rfl Yv.mv (Rn.s rfl (Yv.bd (cs := Ft.cs ⟨R.e, file, R.no, R.col⟩)) (Rn.s rfl Yv.as (Rn.nil))))))) (WO.act (hc := rfl) (he := Ef.stores hst 1 (fun wb1 hsb1 => WO.done ?_)))))
    exact Wp.ret (Fin.ret (resTA rfl rfl rfl (hsb1.cells 0)) ⟨none, 0, rfl, (hsb1.sub (List.nil_sublist _)).nilrow _ _⟩)
  have h : R.e = 0 := by simpa using h
  have e : parseS file s = goS file R.ls [nd0 file] [ob0] false 0 := by rw [parseS, ← hR, if_neg (by simp [h])]
  rw [e]
  obtain ⟨G, hG⟩ : ∃ G, G = goS file R.ls [nd0 file] [ob0] false 0 := ⟨_, rfl⟩
  rw [← hG]
  refine Wp.skip (Wp.seq (Wp.regionL (l := [0, 1, 2, 3, 4, 5, 6, 7, 8, 9]) (WO.rd (is := [0, 1, 2]) (js := [3, 4, 5, 6, 7, 8, 9]) (Keep.refl _) (Rn.s rfl Yv.mv (Rn.s rfl Yv.mv (Rn.s rfl (Yv.bd (cs := Nd.cs (nd0 file))) (Rn.nil)))) (WO.act (hc := rfl) (he := Ef.bsl (T := 48) NdE [nd0 file] hst (fun bb1 wb1 kb1 hsb1 => WO.act (hc := rfl) (he := Ef.makeMap KyS (.int .i64) hsb1 (fun bb2 wb2 kb2 hsb2 => WO.rd (is := [5]) (js := [6, 7, 8, 9]) (((Keep.refl _).trans kb1).trans kb2) (Rn.s rfl (Yv.bd (cs := BkE.cells ((ob0, bb2) : OB × Nat))) (Rn.nil)) (WO.act (hc := rfl) (he := Ef.bsl (T := 73) BkE [((ob0, bb2) : OB × Nat)] hsb2 (fun bb3 wb3 kb3 hsb3 => WO.rd (is := [7]) (js := [8, 9]) ((((Keep.refl _).trans kb1).trans kb2).trans kb3) (Rn.s rfl (Yv.bd (cs := tcs file (some ⟨bb1, 0, none⟩) 1 1 (some ⟨bb3, 0, none⟩) 1 1 false 0)) (Rn.nil)) (WO.act (hc := rfl) (he := Ef.boxL (tcs file (some ⟨bb1, 0, none⟩) 1 1 (some ⟨bb3, 0, none⟩) 1 1 false 0) hsb3 (fun bb4 wb4 kb4 hsb4 => WO.rd (is := [9]) (js := []) (((((Keep.refl _).trans kb1).trans kb2).trans kb3).trans kb4) (Rn.s rfl Yv.as (Rn.nil)) (WO.done ?_)))))))))))))))
  have hst : St w [] wb4 (Ch.row LnE 78 AL cL R.ls :: Ch.cells ba1 27 ft0.cs :: ChP bb4 file (some ⟨bb1, 0, none⟩) 1 [nd0 file] (some ⟨bb3, 0, none⟩) 1 [(ob0, bb2)] false 0) := hsb4.pick [4, 5, 0, 3, 1, 2]
  refine Wp.seq (Wp.seq (Wp.reads (is := [0, 1, 2]) (Keep.refl _) (Rn.s rfl Yv.mv (Rn.s rfl (Yv.len_v (e := 78) (m := 3)) (Rn.s rfl Yv.mv (Rn.nil)))) ?_))
  refine Wp.block ?_
  refine Wp.loop (α := Nat) (fun i ρ ds w' => ds = [] ∧ i ≤ R.ls.length ∧ (∃ A c nodes B d op last ind, goS file (R.ls.drop i) nodes (op.map (·.1)) last ind = G ∧ nodes.length = i + 1 ∧ op ≠ [] ∧ op.length ≤ i + 1 ∧
      St w [] w' (Ch.row LnE 78 AL cL R.ls :: Ch.cells ba1 27 ft0.cs :: ChP bb4 file A c nodes B d op last ind)) ∧
    Sub [(0, S file), (5, PB ba1), (10, PB bb4), (39, .slice AL R.ls.length cL), (40, .int .i64 R.ls.length), (41, .int .i64 i)] ρ) (fun i => R.ls.length - i) 0
    ⟨rfl, Nat.zero_le _, ⟨_, _, _, _, _, [(ob0, bb2)], _, _, hG.symm, rfl, by simp, by simp, hst⟩, rfl, rfl, rfl, rfl, rfl, rfl, trivial⟩ ?_
  rintro i ρ ds w' ⟨rfl, hi, ⟨A, c, nodes, B, d, op, last, ind, hgo, hnl, hop, hol, hst⟩, hs⟩
  refine Wp.forget _ ?_ hs
  refine Wp.seq (Wp.reads (is := [0]) (Keep.refl _) (Rn.s rfl (Yv.cmp _ rfl) (Rn.nil)) ?_)
  refine Wp.seq (Wp.cond rfl (fun h1 => ?_) (fun h1 => ?_))
  · have h1 := of_decide_eq_true h1
    have hil : i < R.ls.length := by omega
    have hget : R.ls[i]? = some R.ls[i] := List.getElem?_eq_getElem hil
    obtain ⟨l, hl⟩ : ∃ l, l = R.ls[i] := ⟨_, rfl⟩
    rw [← hl] at hget
    have hnth : nth R.ls (i : Int) = l := nth_of hget
    obtain ⟨lt, li0, li1⟩ := hlo l (List.mem_of_getElem? hget)
    rw [List.drop_eq_getElem_cons hil, ← hl, goS] at hgo
    obtain ⟨⟨rc0, rc1, rv0, rv1⟩, rl0, rl1⟩ := readC_ok l.text
    obtain ⟨o, col, er, hRd⟩ : ∃ o col er, readC l.text = (o, col, er) := ⟨_, _, _, rfl⟩
    rw [hRd] at hgo rc0 rc1 rv0 rv1 rl0 rl1
    simp only at hgo rc0 rc1 rv0 rv1 rl0 rl1
    have hr := hst.rd 0
    refine Wp.skip (Wp.seq (Wp.block ?_))
    refine Wp.seq (Wp.regionL (l := [0, 1, 2, 3]) (WO.rd (is := [0, 1]) (js := [2, 3]) (Keep.refl _) (Rn.s rfl (Yv.ia (e := 78) hr (by omega) (by omega)) (Rn.s rfl (Yv.ldel hr rfl rfl (by omega) (by omega)) (Rn.nil))) (WO.act (hc := rfl) (he := Ef.allocL (vs := [.int .i64 0, .int .i64 0, S []]) hst (fun bx1 wx1 kx1 hsx1 => WO.act (hc := rfl) (he := Ef.stores hsx1 0 (fun wx2 hsx2 => WO.done ?_)))))))
    rw [hnth] at hsx2
    have hst : St w [] wx2 (Ch.cells bx1 78 l.cs :: Ch.row LnE 78 AL cL R.ls :: Ch.cells ba1 27 ft0.cs :: ChP bb4 file A c nodes B d op last ind) := hsx2
    have c12 := hst.cells 0
    have hgx := hg.keep hst.keep
    have hrd := sread_cv l.text (by omega) wx2 hgx
    rw [hRd] at hrd
    have hrd : Cv Tryd.prog 34 [S l.text] (.tuple #[.agg o.cs.toArray, .int .i64 col, .int .i64 er]) wx2 := hrd
    refine Wp.seq (Wp.regionL (l := [0, 1, 2, 3, 4, 5, 6, 7, 8, 9, 10]) (WO.rd (is := [0, 1]) (js := [2, 3, 4, 5, 6, 7, 8, 9, 10]) (Keep.refl _) (Rn.s rfl (Yv.fa (off := 2)) (Rn.s rfl (Yv.ld (c12.at_ 2)) (Rn.nil))) (WO.cv rfl hrd (Keep.refl _) (FnOk.of Tryd.func34) (fun wy1 ky1 => WO.rd (is := [3, 4, 5, 6]) (js := [7, 8, 9, 10]) ((Keep.refl _).trans ky1) (Rn.s rfl Yv.mv (Rn.s rfl Yv.ex (Rn.s rfl Yv.ex (Rn.s rfl Yv.ex (Rn.nil))))) (WO.act (hc := rfl) (he := Ef.allocL (vs := [.int .i64 0, S [], .bool false, S [], .int .i64 0, .int .i64 0, .int .i64 0]) (hst.quiet ky1) (fun by2 wy2 ky2 hsy2 => WO.act (hc := rfl) (he := Ef.stores hsy2 0 (fun wy3 hsy3 => WO.rd (is := [9, 10]) (js := []) (Keep.refl _) (Rn.s rfl Yv.as (Rn.s rfl Yv.as (Rn.nil))) (WO.done ?_))))))))))
    have hst : St w [] wy3 (Ch.cells by2 80 o.cs :: Ch.cells bx1 78 l.cs :: Ch.row LnE 78 AL cL R.ls :: Ch.cells ba1 27 ft0.cs :: ChP bb4 file A c nodes B d op last ind) := hsy3
    have c12 := hst.cells 1
    have c13 := hst.cells 0
    refine Wp.seq (Wp.seq (Wp.reads (is := [0, 1]) (Keep.refl _) (Rn.s rfl Yv.mv (Rn.s rfl (Yv.cmp _ rfl) (Rn.nil))) ?_))
    by_cases h2 : er = 0
    · subst h2
      simp only [ne_eq, not_true, if_false] at hgo
      refine Wp.cond_t rfl ?_
      have hsw := hst.perm (List.perm_append_comm (l₁ := [_, _, _, _]) (l₂ := ChP bb4 file A c nodes B d op last ind))
      have hen := St.enter (A := ChP bb4 file A c nodes B d op last ind) hsw
      refine Wp.regionL (l := [0, 1, 2, 3, 4, 5]) (WO.rd (is := [0, 1, 2]) (js := [3, 4, 5]) (Keep.refl _) (Rn.s rfl Yv.mv (Rn.s rfl (Yv.ldb c12) (Rn.s rfl (Yv.ldb c13) (Rn.nil)))) (WO.act (hc := rfl) (he := Ef.callv Tryd.func35 (Calls.mono (enter_calls bb4 file A c nodes B d op last ind l o wy3 hen (by omega) (by omega) hop (by omega)) ?_))))
      rintro e3 w3 ⟨rfl, hEne, hEeq⟩
      refine WO.rd (is := [4, 5]) (js := []) (Keep.refl _) (Rn.s rfl Yv.as (Rn.s rfl Yv.as (Rn.nil))) (WO.done ?_)
      refine Wp.seq (Wp.seq (Wp.reads (is := [0, 1]) (Keep.refl _) (Rn.s rfl Yv.mv (Rn.s rfl (Yv.cmp _ rfl) (Rn.nil))) ?_))
      by_cases h3 : (enterS nodes (op.map (·.1)) last ind l o).1 = 0
      · obtain ⟨A2, c2, B2, d2, op2, hop2, hst2⟩ := hEeq h3
        have hst := (hsw.call (A := ChP bb4 file A c nodes B d op last ind) hst2).perm (List.perm_append_comm (l₂ := [_, _, _, _]))
        obtain ⟨E1, N2, S2, hE⟩ : ∃ E1 N2 S2, enterS nodes (op.map (·.1)) last ind l o = (E1, N2, S2) := ⟨_, _, _, rfl⟩
        rw [hE] at hgo h3 hop2 hst ⊢
        simp only at h3 hop2
        subst h3
        simp only [ne_eq, not_true, if_false] at hgo
        have hen2 := enterS_len hE
        simp only [List.length_map] at hen2
        have hop2l : op2.length = S2.length := by rw [← hop2]; simp
        have hst : St w [] w3 (Ch.cells by2 80 o.cs :: Ch.cells bx1 78 l.cs :: Ch.row LnE 78 AL cL R.ls :: Ch.cells ba1 27 ft0.cs :: ChP bb4 file A2 c2 N2 B2 d2 op2 last ind) := hst
        refine Wp.cond_f rfl (Wp.skip ?_)
        have c13 := hst.cells 0
        have c12 := hst.cells 1
        have c10 := hst.cells 4
        refine Wp.seq (Wp.draws [10, 13] mixed (WD.rd (is := [0, 1, 2, 3, 4, 5, 6, 7]) (fun _ _ _ _ _ h => h) (Keep.drew _) (Rn.s rfl Yv.mv (Rn.s rfl Yv.mv (Rn.s rfl Yv.nc (Rn.s rfl (Yv.fa (off := 1)) (Rn.s rfl (Yv.ld (c10.at_ 1)) (Rn.s rfl Yv.mv (Rn.s rfl (Yv.ldb c12) (Rn.s rfl (Yv.ldb c13) (Rn.nil))))))))) (WD.cv 8 rfl (node_cv bb4 file A2 N2.length c2 B2 op2.reverse.length d2 last ind l o _ c10 ⟨by omega, by omega⟩ ⟨by omega, by omega⟩) (Keep.drew _) (FnOk.of Tryd.func36) (fun wu1 ku1 => WD.app NdE [nodeS file op2.reverse.length l o] 9 10 rfl (fun _ => rfl) (hst.quiet ((Keep.drew _).trans ku1)) 5 (.inl (by simp only [List.length_cons, List.length_nil]; omega)) (fun bu2 Au2 cu2 wu2 hsu2 => WD.rd (is := [11, 12]) (fun _ _ _ _ _ h => h) (Keep.refl _) (Rn.s rfl Yv.nc (Rn.s rfl (Yv.fa (off := 1)) (Rn.nil))) (WD.act 13 (hc := rfl) (he := Ef.store hsu2 5 (fun wu3 hsu3 => ⟨fun hn => (hn (by decide)).elim, WD.done ?_⟩))))))))
        have e4 : op2.reverse.length = S2.length := by rw [List.length_reverse, hop2l]
        have hst : St w [] wu3 (Ch.cells by2 80 o.cs :: Ch.cells bx1 78 l.cs :: Ch.row LnE 78 AL cL R.ls :: Ch.cells ba1 27 ft0.cs :: ChP bb4 file Au2 cu2 (N2 ++ [nodeS file S2.length l o]) B2 d2 op2 last ind) := by
          have := hsu3.pickT (P := [_, _, _, _, _, _, _]) (T := mps op2) [2, 3, 4, 5, 0, 1, 6]
          rw [← e4]
          exact this
        have hst := hst.quiet (Keep.drew _)
        have c13 := hst.cells 0
        have c12 := hst.cells 1
        have ld3 : ∀ {W : World} {D : List Chunk}, St w [] W D → (∃ i, D[i]? = some (Ch.cells by2 80 o.cs)) → W.cell? ⟨by2, 0 + 2, none⟩ = some (.bool o.has) := fun h ⟨i, hi⟩ => (h.cells i hi).at_ 2
        have ld6 : ∀ {W : World} {D : List Chunk}, St w [] W D → (∃ i, D[i]? = some (Ch.cells bx1 78 l.cs)) → W.cell? ⟨bx1, 0 + 1, none⟩ = some (.int .i64 l.indent) := fun h ⟨i, hi⟩ => (h.cells i hi).at_ 1
        refine Wp.draws [3, 6, 9, 12] mixed (WD.rd (is := [0, 1, 2, 5]) (fun _ _ _ _ _ h => h) (Keep.drew _) (Rn.s rfl Yv.mv (Rn.s rfl Yv.mv (Rn.s rfl (Yv.fa (off := 2)) (Rn.s rfl (Yv.fa (off := 1)) (Rn.nil))))) (WD.act2 3 6 (hci := rfl) (hcj := rfl) (hi := (Ef.rd (Yv.ld (ld3 (by assumption) (by first | exact ⟨0, rfl⟩ | exact ⟨1, rfl⟩ | exact ⟨2, rfl⟩))) ⟨fun hn => (hn (by decide)).elim, WD.rd (is := [4, 7, 8]) (fun _ _ _ _ _ h => h) (Keep.refl _) (Rn.s rfl Yv.not (Rn.s rfl Yv.nc (Rn.s rfl (Yv.fa (off := 3)) (Rn.nil)))) (WD.act2 6 9 (hci := rfl) (hcj := rfl) (hi := (Ef.rd (Yv.ld (ld6 (by assumption) (by first | exact ⟨0, rfl⟩ | exact ⟨1, rfl⟩ | exact ⟨2, rfl⟩))) ⟨fun hn => (hn (by decide)).elim, WD.act 9 (hc := rfl) (he := (Ef.store (vs := tcs file Au2 (N2 ++ [nodeS file S2.length l o]).length cu2 B2 op2.reverse.length d2 last ind) hst 4 (fun wv3 hsv3 => ⟨fun hn => (hn (by decide)).elim, WD.rd (is := [10, 11]) (fun _ _ _ _ _ h => h) (Keep.refl _) (Rn.s rfl Yv.nc (Rn.s rfl (Yv.fa (off := 4)) (Rn.nil))) (WD.act 12 (hc := rfl) (he := (Ef.store (vs := tcs file Au2 (N2 ++ [nodeS file S2.length l o]).length cu2 B2 op2.reverse.length d2 (!o.has) ind) hsv3 0 (fun wv4 hsv4 => ⟨fun hn => (hn (by decide)).elim, WD.done ?_⟩))))⟩)))⟩)) (hj := (Ef.store (vs := tcs file Au2 (N2 ++ [nodeS file S2.length l o]).length cu2 B2 op2.reverse.length d2 last ind) hst 4 (fun wv5 hsv5 => ⟨fun hn => (hn (by decide)).elim, WD.act 6 (hc := rfl) (he := (Ef.rd (Yv.ld (ld6 (by assumption) (by first | exact ⟨0, rfl⟩ | exact ⟨1, rfl⟩ | exact ⟨2, rfl⟩))) ⟨fun hn => (hn (by decide)).elim, WD.rd (is := [10, 11]) (fun _ _ _ _ _ h => h) (Keep.refl _) (Rn.s rfl Yv.nc (Rn.s rfl (Yv.fa (off := 4)) (Rn.nil))) (WD.act 12 (hc := rfl) (he := (Ef.store (vs := tcs file Au2 (N2 ++ [nodeS file S2.length l o]).length cu2 B2 op2.reverse.length d2 (!o.has) ind) hsv5 0 (fun wv7 hsv7 => ⟨fun hn => (hn (by decide)).elim, WD.done ?_⟩))))⟩))⟩))))⟩)) (hj := (Ef.rd (Yv.ld (ld6 (by assumption) (by first | exact ⟨0, rfl⟩ | exact ⟨1, rfl⟩ | exact ⟨2, rfl⟩))) ⟨fun hn => (hn (by decide)).elim, WD.act 3 (hc := rfl) (he := (Ef.rd (Yv.ld (ld3 (by assumption) (by first | exact ⟨0, rfl⟩ | exact ⟨1, rfl⟩ | exact ⟨2, rfl⟩))) ⟨fun hn => (hn (by decide)).elim, WD.rd (is := [4, 7, 8]) (fun _ _ _ _ _ h => h) (Keep.refl _) (Rn.s rfl Yv.not (Rn.s rfl Yv.nc (Rn.s rfl (Yv.fa (off := 3)) (Rn.nil)))) (WD.act 9 (hc := rfl) (he := (Ef.store (vs := tcs file Au2 (N2 ++ [nodeS file S2.length l o]).length cu2 B2 op2.reverse.length d2 last ind) hst 4 (fun wv10 hsv10 => ⟨fun hn => (hn (by decide)).elim, WD.rd (is := [10, 11]) (fun _ _ _ _ _ h => h) (Keep.refl _) (Rn.s rfl Yv.nc (Rn.s rfl (Yv.fa (off := 4)) (Rn.nil))) (WD.act 12 (hc := rfl) (he := (Ef.store (vs := tcs file Au2 (N2 ++ [nodeS file S2.length l o]).length cu2 B2 op2.reverse.length d2 (!o.has) ind) hsv10 0 (fun wv11 hsv11 => ⟨fun hn => (hn (by decide)).elim, WD.done ?_⟩))))⟩))))⟩))⟩))))
        all_goals
          refine Wp.reads (is := [0, 1]) (Keep.refl _) (Rn.s rfl (Yv.add (by unfold inI; omega)) (Rn.s rfl Yv.mv (Rn.nil))) ?_
          refine ⟨i + 1, ⟨rfl, hil, ⟨Au2, cu2, N2 ++ [nodeS file S2.length l o], B2, d2, op2, !o.has, l.indent, ?_, ?_, ?_, ?_, St.pickT (P := [_, _, _, _, _]) (T := _ :: _ :: mps op2) (by assumption) [3, 4, 0]⟩, rfl, rfl, rfl, rfl, rfl, rfl, trivial⟩, by omega⟩
          · rw [← hgo, hop2]
          · simp only [List.length_append, List.length_cons, List.length_nil]; omega
          · intro e5; rw [e5] at hop2l; simp at hop2l; omega
          · omega
      · have hst2 := hEne h3
        have hst := hsw.call (A := ChP bb4 file A c nodes B d op last ind) hst2
        obtain ⟨E1, N2, S2, hE⟩ : ∃ E1 N2 S2, enterS nodes (op.map (·.1)) last ind l o = (E1, N2, S2) := ⟨_, _, _, rfl⟩
        rw [hE] at hgo h3 ⊢
        simp only at h3
        have hst : St w [] w3 [Ch.cells by2 80 o.cs, Ch.cells bx1 78 l.cs, Ch.row LnE 78 AL cL R.ls, Ch.cells ba1 27 ft0.cs] := hst
        have c12 := hst.cells 1
        simp only [ne_eq, h3, not_false_eq_true, if_true] at hgo
        refine Wp.cond_t ?_ ?_
        · have : (E1 != 0) = true := by simpa using h3
          exact congrArg (fun b => some (Value.bool b)) this
        refine Wp.seq (Wp.draws [10] mixed (WD.rd (is := [0, 1, 2, 3, 4, 5, 6, 7, 8, 9]) (fun _ _ _ _ _ h => h) (Keep.drew _) (Rn.s rfl Yv.mv (Rn.s rfl Yv.mv (Rn.s rfl (Yv.fa (off := 0)) (Rn.s rfl (Yv.ld (c12.at_ 0)) (Rn.s rfl (Yv.fa (off := 1)) (Rn.s rfl (Yv.ld (c12.at_ 1)) (Rn.s rfl Yv.mv (Rn.s rfl (Yv.add ⟨by omega, by omega⟩) (Rn.s rfl (Yv.bd (cs := Ft.cs ⟨E1, file, l.no, l.indent + 1⟩)) (Rn.s rfl Yv.as (Rn.nil))))))))))) (WD.act 10 (hc := rfl) (he := Ef.stores (hst.quiet (Keep.drew _)) 3 (fun wz1 hsz1 => ⟨fun hn => (hn (by decide)).elim, WD.done ?_⟩)))))
        refine Wp.ret (Fin.ret (resTA rfl rfl rfl (hsz1.cells 0)) ⟨none, 0, ?_, ?_⟩)
        · rw [← hgo]; rfl
        · rw [← hgo]; exact (hsz1.sub (List.nil_sublist _)).nilrow _ _
    · have e2 : (er == 0) = false := by simpa using h2
      rw [if_pos h2] at hgo
      refine Wp.cond_f ?_ (Wp.skip ?_)
      · exact congrArg (fun b => some (Value.bool b)) e2
      refine Wp.seq (Wp.seq (Wp.reads (is := [0, 1]) (Keep.refl _) (Rn.s rfl Yv.mv (Rn.s rfl (Yv.cmp _ rfl) (Rn.nil))) ?_))
      refine Wp.cond_t ?_ ?_
      · have : (er != 0) = true := by simpa using h2
        exact congrArg (fun b => some (Value.bool b)) this
      refine Wp.seq (Wp.draws [10] mixed (WD.rd (is := [0, 1, 2, 3, 4, 5, 6, 7, 8, 9]) (fun _ _ _ _ _ h => h) (Keep.drew _) (Rn.s rfl Yv.mv (Rn.s rfl Yv.mv (Rn.s rfl (Yv.fa (off := 0)) (Rn.s rfl (Yv.ld (c12.at_ 0)) (Rn.s rfl (Yv.fa (off := 1)) (Rn.s rfl (Yv.ld (c12.at_ 1)) (Rn.s rfl Yv.mv (Rn.s rfl (Yv.add ⟨by omega, by omega⟩) (Rn.s rfl (Yv.bd (cs := Ft.cs ⟨er, file, l.no, l.indent + col⟩)) (Rn.s rfl Yv.as (Rn.nil))))))))))) (WD.act 10 (hc := rfl) (he := Ef.stores (hst.quiet (Keep.drew _)) 3 (fun wz1 hsz1 => ⟨fun hn => (hn (by decide)).elim, WD.done ?_⟩)))))
      refine Wp.ret (Fin.ret (resTA rfl rfl rfl (hsz1.cells 0)) ⟨none, 0, ?_, ?_⟩)
      · rw [← hgo]; rfl
      · rw [← hgo]; exact (hsz1.sub (List.nil_sublist _)).nilrow _ _
  · have h1 := of_decide_eq_false h1
    rw [List.drop_eq_nil_of_le (by omega), goS] at hgo
    have c10 := hst.cells 2
    refine Wp.exit ?_
    refine Wp.seq (Wp.regionL (l := [0, 1, 2, 3, 4, 5, 6]) (WO.rd (is := [0, 1, 2, 3, 4, 5]) (js := [6]) (Keep.refl _) (Rn.s rfl Yv.mv (Rn.s rfl Yv.nc (Rn.s rfl (Yv.fa (off := 1)) (Rn.s rfl (Yv.ld (c10.at_ 1)) (Rn.s rfl (Yv.bd (cs := Ft.cs ft0)) (Rn.s rfl Yv.as (Rn.nil))))))) (WO.act (hc := rfl) (he := Ef.stores hst 1 (fun wz1 hsz1 => WO.done ?_)))))
    refine Wp.ret (Fin.ret (resTA rfl rfl rfl (hsz1.cells 0)) ⟨A, c, ?_, ?_⟩)
    · rw [← hgo]; rfl
    · rw [← hgo]
      exact (hsz1.pickT (P := [_, _, _, _]) (T := _ :: mps op) [3]).sub (.cons_cons _ (List.nil_sublist _))
end Go.Proofs.YtgjhbapbomdpbaaDoor.C
