/- The document's reader of a text: Parse; and TreeParses is walked: its answer is true. -/
import Derived.Test.YtbmplmehofgocaaDoorTd
import Derived.Test.YtbmplmehofgocaaDoorBw
import Derived.Test.YtbmplmehofgocaaDoorBe
set_option linter.unusedVariables false
set_option linter.unusedSimpArgs false
set_option maxRecDepth 10000
namespace Go.Proofs.YtbmplmehofgocaaDoor.C
open Go.RowKit Go.Proofs.YtbmplmehofgocaaDoor.Sh
theorem linesR_ind : ∀ (xs : List (Nat × Bs)) (acc : List Ln), (∀ l ∈ acc, 0 ≤ l.indent) → ∀ l ∈ (linesR xs acc).ls, 0 ≤ l.indent
  | [], acc, h => h
  | (n, l) :: xs, acc, h => by
    simp only [linesR]
    split
    · simp
    split
    · simp
    · cases hlo : lineOf n l with
      | none => exact linesR_ind xs acc h
      | some x =>
        refine linesR_ind xs (acc ++ [x]) ?_
        intro y hm
        rcases List.mem_append.1 hm with hm | hm
        · exact h y hm
        · obtain rfl := List.mem_singleton.1 hm
          unfold lineOf at hlo
          simp only at hlo
          split at hlo
          · cases hlo
          · rename_i hne
            injection hlo with hlo
            subst hlo
            simp only
            rw [index_trim (fun q => hne (.inl q))]
            omega
theorem linesS_ind (s : Bs) : ∀ l ∈ (linesS s).ls, 0 ≤ l.indent := by
  unfold linesS
  split
  · simp
  · exact linesR_ind _ _ (by simp)
abbrev rb0 : RB := ⟨0, false, 0, 0, [], none, 0⟩
set_option maxHeartbeats 1600000 in
theorem rparse_cx (file s : Bs) (w : World) : Cx Tryd.prog 32 [S file, S s] [] (fun v D => ∃ A c, v = .tuple #[.slice A (parseS file s).1.length c, .agg (parseS file s).2.cs.toArray] ∧ D = [Ch.row NdE 32 A c (parseS file s).1]) w := by
  refine calls_of_Wp (vs := [_, _]) Tryd.func32 ?_
  refine Wp.seq (Wp.regionL (l := [0, 1]) (WO.rd (is := [0]) (js := [1]) (Keep.refl _) (Rn.s rfl Yv.as (Rn.nil)) (WO.act (hc := rfl) (he := Ef.allocL (vs := [.int .i64 0, S [], .int .i64 0, .int .i64 0]) (St.init w) (fun ba1 wa1 ka1 hsa1 => WO.done ?_)))))
  refine Wp.seq (Wp.regionL (l := [0, 1, 2, 3, 4, 5, 6, 7, 8, 9, 10]) (WO.rd (is := [0]) (js := [1, 2, 3, 4, 5, 6, 7, 8, 9, 10]) (Keep.refl _) (Rn.s rfl Yv.mv (Rn.nil)) (WO.act (hc := rfl) (he := Ef.cx (rlines_cx s wa1) hsa1 (FnOk.of Tryd.func53) ?_))))
  rintro v D w1 ⟨AL, cL, rfl, rfl⟩ hs1
  have hst : St w [] w1 [Ch.row LnE 56 AL cL (linesS s).ls, Ch.cells ba1 42 ft0.cs] := hs1
  obtain ⟨R, hR⟩ : ∃ R, R = linesS s := ⟨_, rfl⟩
  obtain ⟨hlo, hll⟩ := linesS_ok s
  have hli := linesS_ind s
  rw [← hR] at hst hlo hll hli
  rw [← hR]
  refine WO.rd (is := [2, 3, 4, 5, 6, 7, 8, 9, 10]) (js := []) (Keep.refl _) (Rn.s rfl Yv.mv (Rn.s rfl Yv.ex (Rn.s rfl Yv.ex (Rn.s rfl Yv.ex (Rn.s rfl Yv.ex (Rn.s rfl Yv.as (Rn.s rfl Yv.as (Rn.s rfl Yv.as (Rn.s rfl Yv.as (Rn.nil)))))))))) (WO.done ?_)
  refine Wp.seq (Wp.seq (Wp.reads (is := [0, 1]) (Keep.refl _) (Rn.s rfl Yv.mv (Rn.s rfl (Yv.cmp _ rfl) (Rn.nil))) ?_))
  refine Wp.cond rfl (fun h => ?_) (fun h => ?_)
  · have h : R.e ≠ 0 := by simpa using h
    have e : parseS file s = ([], ⟨R.e, file, R.no, R.col⟩) := by rw [parseS, ← hR, if_pos h]
    rw [e]
    refine Wp.seq (Wp.regionL (l := [0, 1, 2, 3, 4, 5, 6]) (WO.rd (is := [0, 1, 2, 3, 4, 5]) (js := [6]) (Keep.refl _) (Rn.s rfl Yv.mv (Rn.s rfl Yv.mv (Rn.s rfl Yv.mv (Rn.s rfl Yv.mv (Rn.s rfl (Yv.bd (cs := Ft.cs ⟨R.e, file, R.no, R.col⟩)) (Rn.s rfl Yv.as (Rn.nil))))))) (WO.act (hc := rfl) (he := Ef.stores hst 1 (fun wb1 hsb1 => WO.done ?_)))))
    exact Wp.ret (Fin.ret (resTA rfl rfl rfl (hsb1.cells 0)) ⟨_, _, rfl, ⟨none, 0, rfl, rfl⟩, (hsb1.sub (List.nil_sublist _)).nilrow _ _⟩)
  have h : R.e = 0 := by simpa using h
  have e : parseS file s = goS file R.ls [nd0 file] [ob0] false 0 := by rw [parseS, ← hR, if_neg (by simp [h])]
  rw [e]
  obtain ⟨G, hG⟩ : ∃ G, G = goS file R.ls [nd0 file] [ob0] false 0 := ⟨_, rfl⟩
  rw [← hG]
  refine Wp.skip (Wp.seq (Wp.regionL (l := [0, 1, 2, 3, 4, 5, 6, 7, 8]) (WO.rd (is := [0, 1, 2]) (js := [3, 4, 5, 6, 7, 8]) (Keep.refl _) (Rn.s rfl Yv.mv (Rn.s rfl Yv.mv (Rn.s rfl (Yv.bd (cs := Nd.cs (nd0 file))) (Rn.nil)))) (WO.act (hc := rfl) (he := Ef.bsl (T := 32) NdE [nd0 file] hst (fun bb1 wb1 kb1 hsb1 => WO.rd (is := [4]) (js := [5, 6, 7, 8]) ((Keep.refl _).trans kb1) (Rn.s rfl (Yv.bd (cs := RbE.cells rb0)) (Rn.nil)) (WO.act (hc := rfl) (he := Ef.bsl (T := 83) RbE [rb0] hsb1 (fun bb2 wb2 kb2 hsb2 => WO.rd (is := [6]) (js := [7, 8]) (((Keep.refl _).trans kb1).trans kb2) (Rn.s rfl (Yv.bd (cs := qcs file (some ⟨bb1, 0, none⟩) 1 1 (some ⟨bb2, 0, none⟩) 1 1 false)) (Rn.nil)) (WO.act (hc := rfl) (he := Ef.boxL (qcs file (some ⟨bb1, 0, none⟩) 1 1 (some ⟨bb2, 0, none⟩) 1 1 false) hsb2 (fun bb3 wb3 kb3 hsb3 => WO.rd (is := [8]) (js := []) ((((Keep.refl _).trans kb1).trans kb2).trans kb3) (Rn.s rfl Yv.as (Rn.nil)) (WO.done ?_)))))))))))))
  have hst : St w [] wb3 (Ch.row LnE 56 AL cL R.ls :: Ch.cells ba1 42 ft0.cs :: ChQ bb3 file (some ⟨bb1, 0, none⟩) 1 [nd0 file] (some ⟨bb2, 0, none⟩) 1 [rb0] false) := (hsb3.nilrow StE 9).pick [4, 5, 1, 3, 2, 0]
  clear hs1 hsa1 hsb1 hsb2 hsb3
  refine Wp.seq (Wp.seq (Wp.reads (is := [0]) (Keep.refl _) (Rn.s rfl Yv.as (Rn.nil)) ?_))
  refine Wp.block ?_
  refine Wp.loop (α := Nat) (fun i ρ ds w' => ds = [] ∧ i ≤ R.ls.length ∧ (∃ A c nodes B d x r last st, goS file (R.ls.drop i) nodes st last x.indent = G ∧ nodes.length = i + 1 ∧ (x :: r).length ≤ i + 1 ∧ Rl (x :: r) st ∧ Bot (x :: r) ∧ (∀ y ∈ x :: r, y.keys.length ≤ i) ∧
      (last = true → (nth nodes ((nodes.length : Int) - 1)).depth = ((x :: r).length : Int)) ∧
      St w [] w' (Ch.row LnE 56 AL cL R.ls :: Ch.cells ba1 42 ft0.cs :: ChQ bb3 file A c nodes B d (x :: r) last)) ∧
    Sub [(0, S file), (5, PB ba1), (6, .slice AL R.ls.length cL), (10, PB bb3), (11, .int .i64 i)] ρ) (fun i => R.ls.length - i) 0
    ⟨rfl, Nat.zero_le _, ⟨_, _, _, _, _, rb0, [], _, [ob0], hG.symm, rfl, by simp, ⟨rfl, rfl, rfl, rfl, fun key => by simp [alook], trivial⟩, rfl, by simp, (fun h => by cases h), hst⟩, rfl, rfl, rfl, rfl, rfl, trivial⟩ ?_
  clear hst
  rintro i ρ ds w' ⟨rfl, hi, ⟨A, c, nodes, B, d, x, r, last, st, hgo, hnl, hql, hrl, hbot, hkb, hdep, hst⟩, hs⟩
  refine Wp.forget _ ?_ hs
  clear hs ρ
  refine Wp.seq (Wp.seq (Wp.reads (is := [0, 1, 2, 3]) (Keep.refl _) (Rn.s rfl Yv.mv (Rn.s rfl Yv.mv (Rn.s rfl (Yv.len_v (e := 56) (m := 3)) (Rn.s rfl (Yv.cmp _ rfl) (Rn.nil))))) ?_))
  refine Wp.cond rfl (fun h1 => ?_) (fun h1 => ?_)
  · have h1 := of_decide_eq_true h1
    have hil : i < R.ls.length := by omega
    have hget : R.ls[i]? = some R.ls[i] := List.getElem?_eq_getElem hil
    have hnth : nth R.ls (i : Int) = R.ls[i] := nth_of hget
    rw [List.drop_eq_getElem_cons hil, ← hnth, goS] at hgo
    have hmem : nth R.ls (i : Int) ∈ R.ls := by rw [hnth]; exact List.getElem_mem hil
    obtain ⟨lt, li0, li1⟩ := hlo _ hmem
    have li := hli _ hmem
    have hrL := hst.rd 0
    obtain ⟨l, hl⟩ : ∃ l, l = nth R.ls (i : Int) := ⟨_, rfl⟩
    rw [← hl] at hgo lt li0 li1 li
    have hsw := hst.perm (List.perm_append_comm (l₁ := [_, _]) (l₂ := ChQ bb3 file A c nodes B d (x :: r) last))
    have hlc := rline_calls bb3 file A c nodes B d x r last l st i w' (St.enter (A := ChQ bb3 file A c nodes B d (x :: r) last) hsw) (by omega) (by omega) (by omega) hkb (by omega) hrl hbot hdep li li1 lt
    have hlc : Calls Tryd.prog 54 #[PB bb3, .agg (Ln.cs (nth R.ls (i : Int))).toArray] w' (LinePost bb3 file nodes (x :: r) st last x.indent l i ((ChQ bb3 file A c nodes B d (x :: r) last).flatMap (·.bs)) w') := by rw [← hl]; exact hlc
    refine Wp.skip (Wp.seq (Wp.block ?_))
    refine Wp.seq (Wp.regionL (l := [0, 1, 2, 3, 4, 5, 6, 7, 8, 9, 10]) (WO.rd (is := [0, 1, 2, 3, 4]) (js := [5, 6, 7, 8, 9, 10]) (Keep.refl _) (Rn.s rfl Yv.mv (Rn.s rfl Yv.mv (Rn.s rfl Yv.mv (Rn.s rfl (Yv.ia (e := 56) hrL (by omega) (by omega)) (Rn.s rfl (Yv.ldel hrL rfl rfl (by omega) (by omega)) (Rn.nil)))))) (WO.act (hc := rfl) (he := Ef.callv Tryd.func54 (Calls.mono hlc ?_)))))
    intro e3 w3 hp
    unfold LinePost at hp
    obtain ⟨o, col, er, hRd⟩ : ∃ o col er, readC l.text = (o, col, er) := ⟨_, _, _, rfl⟩
    rw [hRd] at hgo hp
    simp only at hgo hp
    by_cases h2 : er = 0
    · subst h2
      simp only [ne_eq, not_true, if_false] at hgo hp
      obtain ⟨E1, N2, S2, hE⟩ : ∃ E1 N2 S2, enterS nodes st last x.indent l o = (E1, N2, S2) := ⟨_, _, _, rfl⟩
      rw [hE] at hgo hp
      simp only at hgo hp
      by_cases h3 : E1 = 0
      · subst h3
        simp only [ne_eq, not_true, if_false] at hgo hp
        obtain ⟨rfl, A', c', B', d', x', q', p1, p2, p3, p4, p5⟩ := hp
        refine WO.rd (is := [6, 7, 8, 9, 10]) (js := []) (Keep.refl _) (Rn.s rfl Yv.mv (Rn.s rfl Yv.ex (Rn.s rfl Yv.ex (Rn.s rfl Yv.as (Rn.s rfl Yv.as (Rn.nil)))))) (WO.done ?_)
        have hst := (hsw.call (A := ChQ bb3 file A c nodes B d (x :: r) last) p5).perm (List.perm_append_comm (l₂ := [_, _]))
        have hst : St w [] w3 (Ch.row LnE 56 AL cL R.ls :: Ch.cells ba1 42 ft0.cs :: ChQ bb3 file A' c' (N2 ++ [nodeS file S2.length l o]) B' d' (x' :: q') (!o.has)) := hst
        refine Wp.seq (Wp.reads (is := [0, 1]) (Keep.refl _) (Rn.s rfl Yv.mv (Rn.s rfl (Yv.cmp _ rfl) (Rn.nil))) ?_)
        refine Wp.cond_f rfl (Wp.skip ?_)
        refine Wp.reads (is := [0, 1, 2]) (Keep.refl _) (Rn.s rfl Yv.mv (Rn.s rfl (Yv.add (by unfold inI; omega)) (Rn.s rfl Yv.as (Rn.nil)))) ?_
        have hen2 := enterS_len hE
        have hrlen := hrl.len
        have hplen := p1.len
        refine ⟨i + 1, ⟨rfl, by omega, ⟨A', c', _, B', d', x', q', _, S2, by rw [p2]; exact hgo, by simp; omega, by omega, p1, p3, p4, ?_, hst⟩, rfl, rfl, rfl, rfl, rfl, trivial⟩, by omega⟩
        intro _
        have e5 : nth (N2 ++ [nodeS file S2.length l o]) (((N2 ++ [nodeS file S2.length l o]).length : Int) - 1) = nodeS file S2.length l o := by
          have : (((N2 ++ [nodeS file S2.length l o]).length : Int) - 1) = (N2.length : Int) := by simp
          rw [this]
          exact nth_of (by simp)
        rw [e5, hplen]
        rfl
      · rw [if_pos h3] at hgo hp
        obtain ⟨rfl, p1⟩ := hp
        refine WO.rd (is := [6, 7, 8, 9, 10]) (js := []) (Keep.refl _) (Rn.s rfl Yv.mv (Rn.s rfl Yv.ex (Rn.s rfl Yv.ex (Rn.s rfl Yv.as (Rn.s rfl Yv.as (Rn.nil)))))) (WO.done ?_)
        have hst : St w [] w3 [Ch.row LnE 56 AL cL R.ls, Ch.cells ba1 42 ft0.cs] := hsw.call (A := ChQ bb3 file A c nodes B d (x :: r) last) p1
        have hrL := hst.rd 0
        refine Wp.seq (Wp.reads (is := [0, 1]) (Keep.refl _) (Rn.s rfl Yv.mv (Rn.s rfl (Yv.cmp _ rfl) (Rn.nil))) ?_)
        refine Wp.cond rfl (fun h4 => ?_) (fun h4 => (h3 (by simpa using h4)).elim)
        refine Wp.seq (Wp.draws [10] mixed (WD.rd (is := [0, 1, 2, 3, 4, 5, 6, 7, 8, 9]) (fun _ _ _ _ _ h => h) (Keep.drew _) (Rn.s rfl Yv.mv (Rn.s rfl Yv.mv (Rn.s rfl Yv.mv (Rn.s rfl Yv.mv (Rn.s rfl (Yv.ia (e := 56) hrL (by omega) (by omega)) (Rn.s rfl (Yv.fa (off := 0)) (Rn.s rfl (Yv.ld (hrL.ld 0 (by omega) (by omega))) (Rn.s rfl Yv.mv (Rn.s rfl (Yv.bd (cs := Ft.cs ⟨E1, file, (nth R.ls (i : Int)).no, l.indent + 1⟩)) (Rn.s rfl Yv.as (Rn.nil))))))))))) (WD.act 10 (hc := rfl) (he := Ef.stores (hst.quiet (Keep.drew _)) 1 (fun wz1 hsz1 => ⟨fun hn => (hn (by decide)).elim, WD.done ?_⟩)))))
        rw [← hgo, hl]
        rw [hl] at hsz1
        exact Wp.ret (Fin.ret (resTA rfl rfl rfl (hsz1.cells 0)) ⟨_, _, rfl, ⟨none, 0, rfl, rfl⟩, (hsz1.sub (List.nil_sublist _)).nilrow _ _⟩)
    · rw [if_pos h2] at hgo hp
      obtain ⟨rfl, p1⟩ := hp
      refine WO.rd (is := [6, 7, 8, 9, 10]) (js := []) (Keep.refl _) (Rn.s rfl Yv.mv (Rn.s rfl Yv.ex (Rn.s rfl Yv.ex (Rn.s rfl Yv.as (Rn.s rfl Yv.as (Rn.nil)))))) (WO.done ?_)
      have hst : St w [] w3 [Ch.row LnE 56 AL cL R.ls, Ch.cells ba1 42 ft0.cs] := hsw.call (A := ChQ bb3 file A c nodes B d (x :: r) last) p1
      have hrL := hst.rd 0
      refine Wp.seq (Wp.reads (is := [0, 1]) (Keep.refl _) (Rn.s rfl Yv.mv (Rn.s rfl (Yv.cmp _ rfl) (Rn.nil))) ?_)
      refine Wp.cond rfl (fun h4 => ?_) (fun h4 => (h2 (by simpa using h4)).elim)
      refine Wp.seq (Wp.draws [10] mixed (WD.rd (is := [0, 1, 2, 3, 4, 5, 6, 7, 8, 9]) (fun _ _ _ _ _ h => h) (Keep.drew _) (Rn.s rfl Yv.mv (Rn.s rfl Yv.mv (Rn.s rfl Yv.mv (Rn.s rfl Yv.mv (Rn.s rfl (Yv.ia (e := 56) hrL (by omega) (by omega)) (Rn.s rfl (Yv.fa (off := 0)) (Rn.s rfl (Yv.ld (hrL.ld 0 (by omega) (by omega))) (Rn.s rfl Yv.mv (Rn.s rfl (Yv.bd (cs := Ft.cs ⟨er, file, (nth R.ls (i : Int)).no, l.indent + col⟩)) (Rn.s rfl Yv.as (Rn.nil))))))))))) (WD.act 10 (hc := rfl) (he := Ef.stores (hst.quiet (Keep.drew _)) 1 (fun wz1 hsz1 => ⟨fun hn => (hn (by decide)).elim, WD.done ?_⟩)))))
      rw [← hgo, hl]
      rw [hl] at hsz1
      exact Wp.ret (Fin.ret (resTA rfl rfl rfl (hsz1.cells 0)) ⟨_, _, rfl, ⟨none, 0, rfl, rfl⟩, (hsz1.sub (List.nil_sublist _)).nilrow _ _⟩)
  · have h1 := of_decide_eq_false h1
    rw [List.drop_eq_nil_of_le (by omega), goS] at hgo
    refine Wp.exit ?_
    have c10 := hst.cells 2
    refine Wp.seq (Wp.regionL (l := [0, 1, 2, 3, 4, 5, 6]) (WO.rd (is := [0, 1, 2, 3, 4, 5]) (js := [6]) (Keep.refl _) (Rn.s rfl Yv.mv (Rn.s rfl Yv.nc (Rn.s rfl (Yv.fa (off := 1)) (Rn.s rfl (Yv.ld (c10.at_ 1)) (Rn.s rfl (Yv.bd (cs := ft0.cs)) (Rn.s rfl Yv.as (Rn.nil))))))) (WO.act (hc := rfl) (he := Ef.stores hst 1 (fun wz1 hsz1 => WO.done ?_)))))
    rw [← hgo]
    have hst := hsz1.pickT (P := [_, _, _, _, _]) (T := krows (x :: r)) [3]
    exact Wp.ret (Fin.ret (resTA rfl rfl rfl (hsz1.cells 0)) ⟨_, _, rfl, ⟨A, c, rfl, rfl⟩, hst.sub (List.sublist_append_left _ _)⟩)
/-! ### TreeParses -/
theorem goS_len (file : Bs) : ∀ (ls : List Ln) (nodes : List Nd) (st : List OB) (last : Bool) (ind : Int), (goS file ls nodes st last ind).1.length ≤ nodes.length + ls.length
  | [], nodes, st, last, ind => by simp [goS]
  | l :: ls, nodes, st, last, ind => by
    rw [goS]
    split
    · simp
    split
    · simp
    · rename_i h2
      obtain ⟨E1, N2, S2, hE⟩ : ∃ E1 N2 S2, enterS nodes st last ind l (readC l.text).1 = (E1, N2, S2) := ⟨_, _, _, rfl⟩
      rw [hE] at h2 ⊢
      simp only [ne_eq, Decidable.not_not] at h2
      subst h2
      have h3 := (enterS_len hE).1
      have := goS_len file ls (N2 ++ [nodeS file S2.length l (readC l.text).1]) S2 (!(readC l.text).1.has) l.indent
      simp only [List.length_append, List.length_cons, List.length_nil] at this ⊢
      omega
theorem parseS_len (file s : Bs) : (parseS file s).1.length ≤ 1599289640390 := by
  unfold parseS
  split
  · simp
  · have := goS_len file (linesS s).ls [nd0 file] [ob0] false 0
    have h2 := (linesS_ok s).2
    simp only [List.length_cons, List.length_nil] at this
    omega
theorem parses_calls (file s : Bs) (w : World) (hg : Gl w) : Calls Tryd.prog 7 #[S file, S s] w fun e w' => e = .returned (.bool true) ∧ Keep w w' := by
  refine calls_of_Wp (vs := [_, _]) Tryd.func7 ?_
  refine Wp.seq (Wp.reads (is := [0]) (Keep.refl _) (Rn.s rfl Yv.as (Rn.nil)) ?_)
  obtain ⟨P, hP⟩ : ∃ P, P = (parseS file s).1 := ⟨_, rfl⟩
  obtain ⟨F, hF⟩ : ∃ F, F = (parseS file s).2 := ⟨_, rfl⟩
  have hPl := parseS_len file s
  have hr1 := fun w' => rparse_cx file s w'
  have hp1 := fun w' (h : Gm w') => parse_cx file s w' h
  rw [← hP] at hPl
  simp only [← hP, ← hF] at hr1 hp1
  clear hP hF
  refine Wp.seq (Wp.regionL (l := [0, 1, 2, 3, 4, 5, 6, 7, 8]) (WO.rd (is := [0, 1]) (js := [2, 3, 4, 5, 6, 7, 8]) (Keep.refl _) (Rn.s rfl Yv.mv (Rn.s rfl Yv.mv (Rn.nil))) (WO.act (hc := rfl) (he := Ef.cx (hr1 w) (St.init w) (FnOk.of Tryd.func32) ?_))))
  rintro v D w1 ⟨A1, c1, rfl, rfl⟩ hs1
  refine WO.rd (is := [3, 4, 5]) (js := [6, 7, 8]) (Keep.refl _) (Rn.s rfl Yv.mv (Rn.s rfl Yv.ex (Rn.s rfl Yv.ex (Rn.nil)))) (WO.act (he := Ef.allocL (vs := ft0.cs) hs1 (fun b2 w2 k2 hs2 => WO.rd (is := [7]) (js := [8]) (Keep.refl _) (Rn.s rfl Yv.as (Rn.nil)) (WO.act (he := Ef.stores hs2 0 (fun w3 hs3 => WO.done ?_))))))
  have hst : St w [] w3 [Ch.cells b2 42 F.cs, Ch.row NdE 32 A1 c1 P] := hs3
  clear hs1
  refine Wp.seq (Wp.regionL (l := [0, 1, 2, 3, 4, 5, 6, 7, 8]) (WO.rd (is := [0, 1]) (js := [2, 3, 4, 5, 6, 7, 8]) (Keep.refl _) (Rn.s rfl Yv.mv (Rn.s rfl Yv.mv (Rn.nil))) (WO.act (hc := rfl) (he := Ef.cx (hp1 w3 (hg.keep hst.keep)) hst (FnOk.of Tryd.func33) ?_))))
  rintro v D w4 ⟨A4, c4, rfl, rfl⟩ hs4
  refine WO.rd (is := [3, 4, 5]) (js := [6, 7, 8]) (Keep.refl _) (Rn.s rfl Yv.mv (Rn.s rfl Yv.ex (Rn.s rfl Yv.ex (Rn.nil)))) (WO.act (he := Ef.allocL (vs := ft0.cs) hs4 (fun b5 w5 k5 hs5 => WO.rd (is := [7]) (js := [8]) (Keep.refl _) (Rn.s rfl Yv.as (Rn.nil)) (WO.act (he := Ef.stores hs5 0 (fun w6 hs6 => WO.done ?_))))))
  have hst : St w [] w6 [Ch.cells b5 42 F.cs, Ch.row NdE 32 A4 c4 P, Ch.cells b2 42 F.cs, Ch.row NdE 32 A1 c1 P] := hs6
  clear hs4
  refine Wp.seq (Wp.regionL (l := [0, 1, 2, 3, 4, 5, 6, 7, 8]) (WO.rd (is := [0, 1]) (js := [2, 3, 4, 5, 6, 7, 8]) (Keep.refl _) (Rn.s rfl Yv.mv (Rn.s rfl Yv.mv (Rn.nil))) (WO.act (hc := rfl) (he := Ef.cx (hp1 w6 (hg.keep hst.keep)) hst (FnOk.of Tryd.func33) ?_))))
  rintro v D w7 ⟨A7, c7, rfl, rfl⟩ hs7
  refine WO.rd (is := [3, 4, 5]) (js := [6, 7, 8]) (Keep.refl _) (Rn.s rfl Yv.mv (Rn.s rfl Yv.ex (Rn.s rfl Yv.ex (Rn.nil)))) (WO.act (he := Ef.allocL (vs := ft0.cs) hs7 (fun b8 w8 k8 hs8 => WO.rd (is := [7]) (js := [8]) (Keep.refl _) (Rn.s rfl Yv.as (Rn.nil)) (WO.act (he := Ef.stores hs8 0 (fun w9 hs9 => WO.done ?_))))))
  have hst : St w [] w9 [Ch.cells b8 42 F.cs, Ch.row NdE 32 A7 c7 P, Ch.cells b5 42 F.cs, Ch.row NdE 32 A4 c4 P, Ch.cells b2 42 F.cs, Ch.row NdE 32 A1 c1 P] := hs9
  clear hs7
  have c10 := hst.cells 0
  have c8 := hst.cells 2
  have c6 := hst.cells 4
  have s1 := same_cv A4 c4 P A1 c1 P w9 (hst.rd 3) (hst.rd 5) (by omega)
  rw [decide_eq_true rfl] at s1
  have hff : vEqs F.cs F.cs = some true := by rw [ftEq]; simp
  refine Wp.seq (Wp.seq (Wp.regionL (l := [0, 1, 2, 3, 4, 5, 6, 7, 8, 9, 10, 11, 12, 13]) (WO.rd (is := [0, 1, 2, 3, 4, 5, 6, 7, 8, 9, 10]) (js := [11, 12, 13]) (Keep.refl _) (Rn.s rfl (Yv.ldb c8) (Rn.s rfl (Yv.ldb c6) (Rn.s rfl (Yv.nes hff) (Rn.s rfl Yv.mv (Rn.s rfl (Yv.ldb c10) (Rn.s rfl (Yv.ldb c6) (Rn.s rfl (Yv.nes hff) (Rn.s rfl Yv.pick_f (Rn.s rfl Yv.mv (Rn.s rfl Yv.mv (Rn.s rfl Yv.mv (Rn.nil)))))))))))) (WO.cv rfl s1 (Keep.refl _) (FnOk.of Tryd.func22) (fun w10 k10 => WO.rd (is := [12, 13]) (js := []) (Keep.refl _) (Rn.s rfl Yv.not (Rn.s rfl Yv.pick_f (Rn.nil))) (WO.done ?_))))))
  refine Wp.cond_f rfl (Wp.skip ?_)
  have hst : St w [] w10 ([Ch.row NdE 32 A4 c4 P] ++ [Ch.row NdE 32 A7 c7 P, Ch.row NdE 32 A1 c1 P]) := (hst.quiet k10).pick [3, 1, 5]
  refine Wp.seq (Wp.regionL (l := [0, 1]) (WO.rd (is := [0]) (js := [1]) (Keep.refl _) (Rn.s rfl Yv.mv (Rn.nil)) (WO.act (hc := rfl) (he := Ef.callv Tryd.func23 (Calls.mono (spoil_calls A4 c4 P w10 (St.enter (A := [Ch.row NdE 32 A4 c4 P]) hst) (by omega)) ?_)))))
  rintro e w11 ⟨rfl, hs11⟩
  refine WO.done ?_
  have hst : St w [] w11 [Ch.row NdE 32 A7 c7 P, Ch.row NdE 32 A1 c1 P] := St.call (A := [Ch.row NdE 32 A4 c4 P]) (D := [Ch.row NdE 32 A7 c7 P, Ch.row NdE 32 A1 c1 P]) hst hs11
  have s2 := same_cv A7 c7 P A1 c1 P w11 (hst.rd 0) (hst.rd 1) (by omega)
  rw [decide_eq_true rfl] at s2
  refine Wp.seq (Wp.regionL (l := [0, 1, 2, 3, 4, 5, 6]) (WO.rd (is := [0, 1]) (js := [2, 3, 4, 5, 6]) (Keep.refl _) (Rn.s rfl Yv.mv (Rn.s rfl Yv.mv (Rn.nil))) (WO.cv rfl s2 (Keep.refl _) (FnOk.of Tryd.func22) (fun w12 k12 => WO.rd (is := [3]) (js := [4, 5, 6]) (Keep.refl _) (Rn.s rfl Yv.mv (Rn.nil)) (WO.cv rfl (awake4_cv w12 (hg.keep (hst.keep.trans k12))) (Keep.refl _) (FnOk.of Tryd.func34) (fun w13 k13 => WO.rd (is := [5, 6]) (js := []) (Keep.refl _) (Rn.s rfl Yv.pick_t (Rn.s rfl Yv.as (Rn.nil))) (WO.done ?_)))))))
  exact Wp.ret (Fin.ret (Res.one rfl rfl) ⟨rfl, (hst.keep.trans k12).trans k13⟩)
end Go.Proofs.YtbmplmehofgocaaDoor.C
