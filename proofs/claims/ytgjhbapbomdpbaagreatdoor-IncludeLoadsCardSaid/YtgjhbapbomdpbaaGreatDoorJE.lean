/- The document's own include (chapter 7): places, texts, lookups, one name: walked. -/
import Derived.Test.YtgjhbapbomdpbaaGreatDoorJD
set_option linter.unusedVariables false
set_option linter.unusedSimpArgs false
set_option maxRecDepth 10000
namespace Go.Proofs.YtgjhbapbomdpbaaGreatDoor.C
open Go.RowKit Go.Proofs.YtgjhbapbomdpbaaGreatDoor.Sh
theorem keyPlace_cv (why : Int) (n : Nd) (w0 : World) : Cv Tryz.prog 31 [.agg n.cs.toArray, .int .i64 why] (.agg (Ft.cs ⟨why, n.file, n.line, n.col⟩).toArray) w0 := by
  intro w hk
  refine calls_of_Wp (vs := [_, _]) Tryz.func31 ?_
  refine Wp.seq (Wp.regionL (l := [0, 1]) (WO.act (hc := rfl) (he := Ef.boxL (n.cs) (St.init w) (fun ba1 wa1 ka1 hsa1 => WO.act (hc := rfl) (he := Ef.allocL (vs := [.int .i64 0, S [], .int .i64 0, .int .i64 0]) hsa1 (fun ba2 wa2 ka2 hsa2 => WO.done ?_))))))
  have c2 := hsa2.cells 1
  refine Wp.seq (Wp.regionL (l := [0, 1, 2, 3, 4, 5, 6, 7, 8]) (WO.rd (is := [0, 1, 2, 3, 4, 5, 6, 7]) (js := [8]) (Keep.refl _) (Rn.s rfl Yv.mv (Rn.s rfl (Yv.fa (off := 4)) (Rn.s rfl (Yv.ld (c2.at_ 4)) (Rn.s rfl (Yv.fa (off := 5)) (Rn.s rfl (Yv.ld (c2.at_ 5)) (Rn.s rfl (Yv.fa (off := 6)) (Rn.s rfl (Yv.ld (c2.at_ 6)) (Rn.s rfl (Yv.bd (cs := Ft.cs ⟨why, n.file, n.line, n.col⟩)) (Rn.nil))))))))) (WO.act (hc := rfl) (he := Ef.stores hsa2 0 (fun wx1 hsx1 => WO.done ?_)))))
  exact Wp.ret (Fin.ret (resCA rfl rfl (hsx1.cells 0)) ⟨rfl, hsx1.keep⟩)
theorem rplace_cv (why : Int) (n : Nd) (w0 : World) : Cv Tryz.prog 30 [.agg n.cs.toArray, .int .i64 why] (.agg (placeS why n).cs.toArray) w0 := by
  intro w hk
  refine calls_of_Wp (vs := [_, _]) Tryz.func30 ?_
  refine Wp.seq (Wp.regionL (l := [0, 1]) (WO.act (hc := rfl) (he := Ef.boxL (n.cs) (St.init w) (fun ba1 wa1 ka1 hsa1 => WO.act (hc := rfl) (he := Ef.allocL (vs := [.int .i64 0, S [], .int .i64 0, .int .i64 0]) hsa1 (fun ba2 wa2 ka2 hsa2 => WO.done ?_))))))
  have c2 := hsa2.cells 1
  refine Wp.seq (Wp.seq (Wp.reads (is := [0, 1, 2]) (Keep.refl _) (Rn.s rfl (Yv.fa (off := 7)) (Rn.s rfl (Yv.ld (c2.at_ 7)) (Rn.s rfl (Yv.cmp _ rfl) (Rn.nil)))) ?_))
  refine Wp.cond rfl (fun h => ?_) (fun h => ?_)
  · have h : n.val ≠ 0 := bne_iff_ne.1 h
    refine Wp.seq (Wp.regionL (l := [0, 1, 2, 3, 4, 5, 6, 7, 8]) (WO.rd (is := [0, 1, 2, 3, 4, 5, 6, 7]) (js := [8]) (Keep.refl _) (Rn.s rfl Yv.mv (Rn.s rfl (Yv.fa (off := 4)) (Rn.s rfl (Yv.ld (c2.at_ 4)) (Rn.s rfl (Yv.fa (off := 5)) (Rn.s rfl (Yv.ld (c2.at_ 5)) (Rn.s rfl (Yv.fa (off := 7)) (Rn.s rfl (Yv.ld (c2.at_ 7)) (Rn.s rfl (Yv.bd (cs := Ft.cs ⟨why, n.file, n.line, n.val⟩)) (Rn.nil))))))))) (WO.act (hc := rfl) (he := Ef.stores hsa2 0 (fun wx1 hsx1 => WO.done ?_)))))
    refine Wp.ret (Fin.ret (resCA rfl rfl (hsx1.cells 0)) ⟨?_, hsx1.keep⟩)
    unfold placeS
    rw [if_neg h]
    rfl
  · have h : n.val = 0 := bne_eq_false_iff_eq.1 h
    refine Wp.skip (Wp.seq (Wp.regionL (l := [0, 1, 2, 3]) (WO.rd (is := [0, 1]) (js := [2, 3]) (Keep.refl _) (Rn.s rfl (Yv.ldb c2) (Rn.s rfl Yv.mv (Rn.nil))) (WO.cv rfl (keyPlace_cv why n _) (Keep.refl _) (FnOk.of Tryz.func31) (fun wx1 kx1 => WO.act (hc := rfl) (he := Ef.stores (hsa2.quiet kx1) 0 (fun wx2 hsx2 => WO.done ?_)))))))
    refine Wp.ret (Fin.ret (resCA rfl rfl (hsx2.cells 0)) ⟨?_, hsx2.keep⟩)
    unfold placeS
    rw [if_pos h]
    rfl
/-! ### where a name is in a list -/
def idxT (x : Bs) : List Bs → Nat → Int
  | [], _ => -1
  | y :: l, i => if y = x then i else idxT x l (i + 1)
theorem idxT_in {x : Bs} : ∀ {l : List Bs} {i : Nat}, x ∈ l → idxT x l i = ((i + l.idxOf x : Nat) : Int)
  | [], _, h => by cases h
  | y :: l, i, h => by
    rw [idxT]
    by_cases q : y = x
    · rw [if_pos q]
      simp [List.idxOf_cons, q]
    · rw [if_neg q, idxT_in (by rcases List.mem_cons.1 h with h | h; exact (q h.symm).elim; exact h)]
      have : (y :: l).idxOf x = l.idxOf x + 1 := by
        have hb : (y == x) = false := by simp [q]
        simp [List.idxOf, List.findIdx_cons, hb]
      rw [this]
      omega
theorem idxT_out {x : Bs} : ∀ {l : List Bs} {i : Nat}, x ∉ l → idxT x l i = -1
  | [], _, _ => rfl
  | y :: l, i, h => by
    rw [List.mem_cons, not_or] at h
    rw [idxT, if_neg (fun e => h.1 e.symm), idxT_out h.2]
theorem in_cv (A : Option Addr) (c : Nat) (l : List Bs) (x : Bs) (w0 : World) (hr : Rd StE w0 A l) (hl : l.length ≤ 1000000) : Cv Tryz.prog 70 [.slice A l.length c, S x] (.int .i64 (idxT x l 0)) w0 := by
  intro w hk
  have hr := hr.keep hk
  refine calls_of_Wp (vs := [_, _]) Tryz.func70 ?_
  obtain ⟨G, hG⟩ : ∃ G, G = idxT x l 0 := ⟨_, rfl⟩
  rw [← hG]
  refine Wp.seq (Wp.reads (is := [0]) (Keep.refl _) (Rn.s rfl Yv.as (Rn.nil)) ?_)
  refine Wp.seq (Wp.seq (Wp.reads (is := [0]) (Keep.refl _) (Rn.s rfl Yv.as (Rn.nil)) ?_))
  refine Wp.block ?_
  refine Wp.loop (α := Nat) (fun i ρ ds w' => ds = [] ∧ Keep w w' ∧ i ≤ l.length ∧ idxT x (l.drop i) i = G ∧ Sub [(0, .slice A l.length c), (1, S x), (5, .int .i64 (i : Int))] ρ) (fun i => l.length - i) 0
    ⟨rfl, Keep.refl _, Nat.zero_le _, hG.symm, rfl, rfl, rfl, trivial⟩ ?_
  rintro i ρ ds w' ⟨rfl, hk', hi, hfd, hs⟩
  refine Wp.forget _ ?_ hs
  have hr' := hr.keep hk'
  refine Wp.seq (Wp.seq (Wp.reads (is := [0, 1, 2, 3]) (Keep.refl _) (Rn.s rfl Yv.mv (Rn.s rfl Yv.mv (Rn.s rfl (Yv.len_v (e := 9) (m := 1)) (Rn.s rfl (Yv.cmp _ rfl) (Rn.nil))))) ?_))
  refine Wp.cond rfl (fun h2 => ?_) (fun h2 => ?_)
  · have h2 := of_decide_eq_true h2
    have hil : i < l.length := by omega
    have hget : nth l (i : Int) = l[i] := nth_of (List.getElem?_eq_getElem hil)
    rw [List.drop_eq_getElem_cons hil, ← hget, idxT] at hfd
    refine Wp.skip (Wp.seq (Wp.block ?_))
    refine Wp.seq (Wp.reads (is := [0, 1, 2, 3, 4, 5]) (Keep.refl _) (Rn.s rfl Yv.mv (Rn.s rfl Yv.mv (Rn.s rfl (Yv.ia (e := 9) hr' (by omega) (by omega)) (Rn.s rfl (Yv.ld (hr'.ld 0 (by omega) (by omega))) (Rn.s rfl Yv.mv (Rn.s rfl (Yv.scm _ rfl) (Rn.nil))))))) ?_)
    refine Wp.cond rfl (fun h3 => ?_) (fun h3 => ?_)
    · have h3 : nth l (i : Int) = x := by simpa using h3
      refine Wp.seq (Wp.reads (is := [0, 1]) (Keep.refl _) (Rn.s rfl Yv.mv (Rn.s rfl Yv.as (Rn.nil))) ?_)
      rw [if_pos h3] at hfd
      exact Wp.ret (Fin.ret (Res.one rfl rfl) ⟨by rw [hfd], hk'⟩)
    · have h3 : ¬ nth l (i : Int) = x := by simpa using h3
      rw [if_neg h3] at hfd
      refine Wp.skip (Wp.reads (is := [0, 1, 2]) (Keep.refl _) (Rn.s rfl Yv.mv (Rn.s rfl (Yv.add (by unfold inI; omega)) (Rn.s rfl Yv.as (Rn.nil)))) ?_)
      exact ⟨i + 1, ⟨rfl, hk', by omega, hfd, rfl, rfl, rfl, trivial⟩, by omega⟩
  · have h2 := of_decide_eq_false h2
    refine Wp.exit ?_
    refine Wp.seq (Wp.reads (is := [0]) (Keep.refl _) (Rn.s rfl Yv.as (Rn.nil)) ?_)
    rw [List.drop_eq_nil_of_le (by omega), idxT] at hfd
    exact Wp.ret (Fin.ret (Res.one rfl rfl) ⟨by rw [← hfd], hk'⟩)
theorem rfindF_cv (A : Option Addr) (c : Nat) (files : List Fl) (x : Bs) (w0 : World) (hr : Rd FlE w0 A files) (hl : files.length ≤ 4398046511100) : Cv Tryz.prog 24 [.slice A files.length c, S x] (.int .i64 (idxT x (files.map Fl.name) 0)) w0 := by
  intro w hk
  have hr := hr.keep hk
  refine calls_of_Wp (vs := [_, _]) Tryz.func24 ?_
  obtain ⟨G, hG⟩ : ∃ G, G = idxT x (files.map Fl.name) 0 := ⟨_, rfl⟩
  rw [← hG]
  refine Wp.seq (Wp.reads (is := [0]) (Keep.refl _) (Rn.s rfl Yv.as (Rn.nil)) ?_)
  refine Wp.seq (Wp.seq (Wp.reads (is := [0]) (Keep.refl _) (Rn.s rfl Yv.as (Rn.nil)) ?_))
  refine Wp.block ?_
  refine Wp.loop (α := Nat) (fun i ρ ds w' => ds = [] ∧ Keep w w' ∧ i ≤ files.length ∧ idxT x ((files.drop i).map Fl.name) i = G ∧ Sub [(0, .slice A files.length c), (1, S x), (5, .int .i64 (i : Int))] ρ) (fun i => files.length - i) 0
    ⟨rfl, Keep.refl _, Nat.zero_le _, hG.symm, rfl, rfl, rfl, trivial⟩ ?_
  rintro i ρ ds w' ⟨rfl, hk', hi, hfd, hs⟩
  refine Wp.forget _ ?_ hs
  have hr' := hr.keep hk'
  refine Wp.seq (Wp.seq (Wp.reads (is := [0, 1, 2, 3]) (Keep.refl _) (Rn.s rfl Yv.mv (Rn.s rfl Yv.mv (Rn.s rfl (Yv.len_v (e := 49) (m := 2)) (Rn.s rfl (Yv.cmp _ rfl) (Rn.nil))))) ?_))
  refine Wp.cond rfl (fun h2 => ?_) (fun h2 => ?_)
  · have h2 := of_decide_eq_true h2
    have hil : i < files.length := by omega
    have hget : nth files (i : Int) = files[i] := nth_of (List.getElem?_eq_getElem hil)
    rw [List.drop_eq_getElem_cons hil, ← hget, List.map_cons, idxT] at hfd
    refine Wp.skip (Wp.seq (Wp.block ?_))
    refine Wp.seq (Wp.reads (is := [0, 1, 2, 3, 4, 5, 6]) (Keep.refl _) (Rn.s rfl Yv.mv (Rn.s rfl Yv.mv (Rn.s rfl (Yv.ia (e := 49) hr' (by omega) (by omega)) (Rn.s rfl (Yv.fa (off := 0)) (Rn.s rfl (Yv.ld (hr'.ld 0 (by omega) (by omega))) (Rn.s rfl Yv.mv (Rn.s rfl (Yv.scm _ rfl) (Rn.nil)))))))) ?_)
    refine Wp.cond rfl (fun h3 => ?_) (fun h3 => ?_)
    · have h3 : (nth files (i : Int)).name = x := by simpa using h3
      refine Wp.seq (Wp.reads (is := [0, 1]) (Keep.refl _) (Rn.s rfl Yv.mv (Rn.s rfl Yv.as (Rn.nil))) ?_)
      rw [if_pos h3] at hfd
      exact Wp.ret (Fin.ret (Res.one rfl rfl) ⟨by rw [hfd], hk'⟩)
    · have h3 : ¬ (nth files (i : Int)).name = x := by simpa using h3
      rw [if_neg h3] at hfd
      refine Wp.skip (Wp.reads (is := [0, 1, 2]) (Keep.refl _) (Rn.s rfl Yv.mv (Rn.s rfl (Yv.add (by unfold inI; omega)) (Rn.s rfl Yv.as (Rn.nil)))) ?_)
      exact ⟨i + 1, ⟨rfl, hk', by omega, hfd, rfl, rfl, rfl, trivial⟩, by omega⟩
  · have h2 := of_decide_eq_false h2
    refine Wp.exit ?_
    refine Wp.seq (Wp.reads (is := [0]) (Keep.refl _) (Rn.s rfl Yv.as (Rn.nil)) ?_)
    rw [List.drop_eq_nil_of_le (by omega), List.map_nil, idxT] at hfd
    exact Wp.ret (Fin.ret (Res.one rfl rfl) ⟨by rw [← hfd], hk'⟩)
/-- what a lookup in a file set says -/
theorem idxF_out {files : List Fl} {x : Bs} (h : (alook x (setS files)).isSome = false) (hn : (files.map Fl.name).Nodup) : idxT x (files.map Fl.name) 0 = -1 := by
  refine idxT_out (fun hm => ?_)
  obtain ⟨f, hf, rfl⟩ := List.mem_map.1 hm
  rw [setS_in hn hf] at h
  cases h
theorem idxF_in {files : List Fl} {x : Bs} (h : (alook x (setS files)).isSome = true) (hn : (files.map Fl.name).Nodup) : ∃ k : Nat, idxT x (files.map Fl.name) 0 = k ∧ k < files.length ∧ (nth files (k : Int)).name = x ∧ (nth files (k : Int)).text = fileS (setS files) x := by
  cases hf : alook x (setS files) with
  | none => rw [hf] at h; cases h
  | some f =>
    obtain ⟨h1, h2⟩ := setS_some hf hn
    have hm : x ∈ files.map Fl.name := by rw [← h2]; exact List.mem_map_of_mem h1
    have hi : (files.map Fl.name).idxOf x < (files.map Fl.name).length := List.idxOf_lt_length_of_mem hm
    have hi2 : (files.map Fl.name).idxOf x < files.length := by simpa using hi
    refine ⟨(files.map Fl.name).idxOf x, ?_, hi2, ?_, ?_⟩
    · rw [idxT_in hm, Nat.zero_add]
    all_goals
      have h3 := List.getElem_idxOf hi
      rw [List.getElem_map] at h3
      have h4 : nth files (((files.map Fl.name).idxOf x : Nat) : Int) = files[(files.map Fl.name).idxOf x] := nth_of (List.getElem?_eq_getElem hi2)
    · rw [h4, h3]
    · have h5 := setS_in hn (List.getElem_mem hi2)
      rw [h3] at h5
      rw [h4]
      unfold fileS
      rw [h5]
      rfl
/-! ### the texts of a node -/
def textsO (l : List Nd) : Option Nat → List Nd × Int
  | some n => ([], (n : Int))
  | none => (l, -1)
def textsN (t : List Nd) (m : Nat) : List Nd × Int := if (textsS t m).2.2 = false then ([], (textsS t m).2.1) else ((textsS t m).1.map (fun n : Nat => nth t (n : Int)), -1)
theorem rtexts_cx (A : Option Addr) (c : Nat) (t : List Nd) (i : Nat) (w : World) (hr : Rd NdE w A t) (hi : i < t.length) (hl : t.length ≤ 1000000) (hd : -1000000 ≤ (nth t (i : Int)).depth ∧ (nth t (i : Int)).depth ≤ 1000000)
    (hf : i + 1 < t.length → (nth t ((i + 1 : Nat) : Int)).depth ≤ (nth t (i : Int)).depth + 1) (hkd : (nth t (i : Int)).kind = 1 ∨ (nth t (i : Int)).kind = 2 ∨ (nth t (i : Int)).kind = 3) :
    Cx Tryz.prog 46 [.slice A t.length c, .int .i64 i] [] (fun v D => ∃ O co, v = .tuple #[.slice O (textsN t i).1.length co, .int .i64 (textsN t i).2] ∧ D = [Ch.row NdE 62 O co (textsN t i).1]) w := by
  refine calls_of_Wp (vs := [_, _]) Tryz.func46 ?_
  refine Wp.seq (Wp.reads (is := [0, 1]) (Keep.refl _) (Rn.s rfl Yv.as (Rn.s rfl Yv.as (Rn.nil))) ?_)
  refine Wp.seq (Wp.seq (Wp.reads (is := [0, 1, 2, 3, 4, 5]) (Keep.refl _) (Rn.s rfl Yv.mv (Rn.s rfl Yv.mv (Rn.s rfl (Yv.ia (e := 62) hr (by omega) (by omega)) (Rn.s rfl (Yv.fa (off := 0)) (Rn.s rfl (Yv.ld (hr.ld 0 (by omega) (by omega))) (Rn.s rfl (Yv.cmp _ rfl) (Rn.nil))))))) ?_))
  refine Wp.cond rfl (fun h => ?_) (fun h => ?_)
  · have h : (nth t (i : Int)).kind = 3 := by simpa using h
    have e : textsN t i = ([nth t (i : Int)], -1) := by
      have e1 : textsS t i = ([i], 0, true) := by unfold textsS; rw [if_pos h]
      unfold textsN
      rw [e1]
      rfl
    rw [e]
    refine Wp.seq (Wp.regionL (l := [0, 1, 2, 3, 4, 5, 6]) (WO.rd (is := [0, 1, 2, 3]) (js := [4, 5, 6]) (Keep.refl _) (Rn.s rfl Yv.mv (Rn.s rfl Yv.mv (Rn.s rfl (Yv.ia (e := 62) hr (by omega) (by omega)) (Rn.s rfl (Yv.ldel hr rfl rfl (by omega) (by omega)) (Rn.nil))))) (WO.act (hc := rfl) (he := Ef.bsl (T := 62) NdE [nth t (i : Int)] (St.init w) (fun bx1 wx1 kx1 hsx1 => WO.rd (is := [5, 6]) (js := []) ((Keep.refl _).trans kx1) (Rn.s rfl Yv.as (Rn.s rfl Yv.as (Rn.nil))) (WO.done ?_))))))
    exact Wp.ret (Fin.ret (Res.two rfl rfl rfl) ⟨_, _, rfl, ⟨_, _, rfl, rfl⟩, hsx1⟩)
  have h : ¬ (nth t (i : Int)).kind = 3 := by simpa using h
  refine Wp.skip (Wp.seq (Wp.seq (Wp.reads (is := [0, 1, 2, 3, 4, 5]) (Keep.refl _) (Rn.s rfl Yv.mv (Rn.s rfl Yv.mv (Rn.s rfl (Yv.ia (e := 62) hr (by omega) (by omega)) (Rn.s rfl (Yv.fa (off := 0)) (Rn.s rfl (Yv.ld (hr.ld 0 (by omega) (by omega))) (Rn.s rfl (Yv.cmp _ rfl) (Rn.nil))))))) ?_)))
  refine Wp.cond rfl (fun h2 => ?_) (fun h2 => ?_)
  · have h2 : (nth t (i : Int)).kind ≠ 2 := bne_iff_ne.1 h2
    have h3 : (nth t (i : Int)).kind = 1 := by omega
    have e : textsN t i = ([], (i : Int)) := by
      have e1 : textsS t i = ([], (i : Int), false) := by unfold textsS; rw [if_neg h, if_pos h3]
      unfold textsN
      rw [e1]
      rfl
    rw [e]
    refine Wp.seq (Wp.reads (is := [0, 1, 2]) (Keep.refl _) (Rn.s rfl Yv.mv (Rn.s rfl Yv.as (Rn.s rfl Yv.as (Rn.nil)))) ?_)
    exact Wp.ret (Fin.ret (Res.two rfl rfl rfl) ⟨_, _, rfl, ⟨none, 0, rfl, rfl⟩, (St.init w).nilrow _ _⟩)
  have h2 : (nth t (i : Int)).kind = 2 := bne_eq_false_iff_eq.1 h2
  have h3 : ¬ (nth t (i : Int)).kind = 1 := by omega
  obtain ⟨hn0, hn1⟩ := chain_cv (A := A) (c := c) hi (by omega) hd hf
  have hfst := hn0 w hr
  have hmem : ∀ (j x : Nat), (partsS t i)[j]? = some x → x < t.length := fun j x hx => (partsS_mem hi x (List.mem_of_getElem? hx)).2
  have hpl : (partsS t i).length ≤ t.length := by
    have := partsR_len (nth t (i : Int)).depth (t.drop (i + 1)) (i + 1)
    simp only [List.length_drop] at this
    unfold partsS
    omega
  obtain ⟨G, hG⟩ : ∃ G, G = (partsS t i).find? (fun n : Nat => (nth t (n : Int)).kind != 3) := ⟨_, rfl⟩
  have e : textsN t i = textsO ((partsS t i).map (fun n : Nat => nth t (n : Int))) G := by
    have e1 : textsS t i = textsG t i G := by unfold textsS; rw [if_neg h, if_neg h3, ← hG]
    unfold textsN
    rw [e1]
    cases G <;> rfl
  rw [e]
  clear e
  obtain ⟨ps, hps⟩ : ∃ ps, ps = partsS t i := ⟨_, rfl⟩
  rw [← hps] at hfst hn1 hmem hG hpl ⊢
  refine Wp.skip (Wp.seq (Wp.reads (is := [0]) (Keep.refl _) (Rn.s rfl Yv.as (Rn.nil)) ?_))
  refine Wp.seq (Wp.seq (Wp.regionL (l := [0, 1, 2, 3, 4]) (WO.rd (is := [0, 1, 2]) (js := [3, 4]) (Keep.refl _) (Rn.s rfl Yv.mv (Rn.s rfl Yv.mv (Rn.s rfl Yv.mv (Rn.nil)))) (WO.cv rfl hfst (Keep.refl _) (FnOk.of Tryz.func52) (fun wx1 kx1 => WO.rd (is := [4]) (js := []) ((Keep.refl _).trans kx1) (Rn.s rfl Yv.as (Rn.nil)) (WO.done ?_))))))
  refine Wp.block ?_
  refine Wp.loop (α := Nat) (fun j ρ ds w' => ds = [] ∧ j ≤ ps.length ∧ (ps.drop j).find? (fun n : Nat => (nth t (n : Int)).kind != 3) = G ∧ (∃ O co, St w [] w' [Ch.row NdE 62 O co ((ps.take j).map (fun n : Nat => nth t (n : Int)))] ∧
    Sub [(0, .slice A t.length c), (1, .int .i64 i), (6, .slice O ((ps.take j).map (fun n : Nat => nth t (n : Int))).length co), (7, .int .i64 (orN ps[j]?))] ρ)) (fun j => ps.length - j) 0
    ⟨rfl, Nat.zero_le _, hG.symm, ⟨none, 0, ((St.init w).quiet kx1).nilrow NdE _, rfl, rfl, rfl, rfl, trivial⟩⟩ ?_
  rintro j ρ ds w1 ⟨rfl, hj, hfd, O, co, hst, hs⟩
  refine Wp.forget _ ?_ hs
  clear hs ρ
  have hr1 := hr.keep hst.keep
  refine Wp.seq (Wp.seq (Wp.reads (is := [0, 1]) (Keep.refl _) (Rn.s rfl Yv.mv (Rn.s rfl (Yv.cmp _ rfl) (Rn.nil))) ?_))
  refine Wp.cond rfl (fun h4 => ?_) (fun h4 => ?_)
  · have h4 := of_decide_eq_true h4
    cases hx : ps[j]? with
    | none => rw [hx] at h4; exact absurd h4 (by simp [orN])
    | some x =>
    have hjl : j < ps.length := (List.getElem?_eq_some_iff.1 hx).1
    have hxl := hmem j x hx
    obtain ⟨f1, f2⟩ := find_drop hx hfd
    have hnx := hn1 j x hx
    have ex : orN (some x) = (x : Int) := rfl
    rw [ex]
    refine Wp.skip (Wp.seq (Wp.block ?_))
    refine Wp.seq (Wp.seq (Wp.reads (is := [0, 1, 2, 3, 4, 5]) (Keep.refl _) (Rn.s rfl Yv.mv (Rn.s rfl Yv.mv (Rn.s rfl (Yv.ia (e := 62) hr1 (by omega) (by omega)) (Rn.s rfl (Yv.fa (off := 0)) (Rn.s rfl (Yv.ld (hr1.ld 0 (by omega) (by omega))) (Rn.s rfl (Yv.cmp _ rfl) (Rn.nil))))))) ?_))
    refine Wp.cond rfl (fun h5 => ?_) (fun h5 => ?_)
    · rw [f1 h5]
      refine Wp.seq (Wp.reads (is := [0, 1, 2]) (Keep.refl _) (Rn.s rfl Yv.mv (Rn.s rfl Yv.as (Rn.s rfl Yv.as (Rn.nil)))) ?_)
      exact Wp.ret (Fin.ret (Res.two rfl rfl rfl) ⟨_, _, rfl, ⟨none, 0, rfl, rfl⟩, (hst.pick []).nilrow _ _⟩)
    · have etk : (ps.take (j + 1)).map (fun n : Nat => nth t (n : Int)) = (ps.take j).map (fun n : Nat => nth t (n : Int)) ++ [nth t (x : Int)] := by rw [List.take_add_one, hx, List.map_append]; rfl
      refine Wp.skip (Wp.regionL (l := [0, 1, 2, 3, 4, 5, 6, 7]) (WO.rd (is := [0, 1, 2, 3, 4]) (js := [5, 6, 7]) (Keep.refl _) (Rn.s rfl Yv.mv (Rn.s rfl Yv.mv (Rn.s rfl Yv.mv (Rn.s rfl (Yv.ia (e := 62) hr1 (by omega) (by omega)) (Rn.s rfl (Yv.ldel hr1 rfl rfl (by omega) (by omega)) (Rn.nil)))))) (WO.app NdE [nth t (x : Int)] rfl (fun _ => rfl) hst 0 (fitN (by simp; omega)) (fun by1 Ay1 cy1 wy1 hsy1 => WO.rd (is := [7]) (js := []) (Keep.refl _) (Rn.s rfl Yv.as (Rn.nil)) (WO.done ?_)))))
      have hst2 : St w [] wy1 [Ch.row NdE 62 Ay1 cy1 ((ps.take (j + 1)).map (fun n : Nat => nth t (n : Int)))] := by rw [etk]; exact hsy1.pick [0]
      refine Wp.regionL (l := [0, 1, 2, 3, 4]) (WO.rd (is := [0, 1, 2]) (js := [3, 4]) (Keep.refl _) (Rn.s rfl Yv.mv (Rn.s rfl Yv.mv (Rn.s rfl Yv.mv (Rn.nil)))) (WO.cv rfl (hnx wy1 (hr.keep hst2.keep)) (Keep.refl _) (FnOk.of Tryz.func52) (fun wz1 kz1 => WO.rd (is := [4]) (js := []) ((Keep.refl _).trans kz1) (Rn.s rfl Yv.as (Rn.nil)) (WO.done ?_))))
      refine ⟨j + 1, ⟨rfl, by omega, f2 h5, ⟨Ay1, cy1, hst2.quiet kz1, rfl, rfl, ?_, rfl, trivial⟩⟩, by omega⟩
      rw [etk]; rfl
  · have h4 := of_decide_eq_false h4
    have hjn := orN_neg h4
    have hjl : ps.length ≤ j := by
      rw [List.getElem?_eq_none_iff] at hjn; exact hjn
    rw [List.drop_eq_nil_of_le hjl, List.find?_nil] at hfd
    rw [← hfd]
    rw [List.take_of_length_le hjl] at hst ⊢
    refine Wp.exit ?_
    refine Wp.seq (Wp.reads (is := [0, 1, 2]) (Keep.refl _) (Rn.s rfl Yv.mv (Rn.s rfl Yv.as (Rn.s rfl Yv.as (Rn.nil)))) ?_)
    exact Wp.ret (Fin.ret (Res.two rfl rfl rfl) ⟨_, _, rfl, ⟨O, co, rfl, rfl⟩, hst⟩)
end Go.Proofs.YtgjhbapbomdpbaaGreatDoor.C
/- The document's own include (chapter 7): one name, and one file: walked. -/
set_option linter.unusedVariables false
set_option linter.unusedSimpArgs false
set_option maxRecDepth 10000
namespace Go.Proofs.YtgjhbapbomdpbaaGreatDoor.C
open Go.RowKit Go.Proofs.YtgjhbapbomdpbaaGreatDoor.Sh
theorem withoutL_eq (t : List Nd) (key : Bs) : withoutL t key = wcutS t key := rfl
abbrev rcs (A : Option Addr) (n c : Nat) (s : LS) (m : LM) : List Value := [.slice A n c, .slice m.O s.opn.length m.oc, .slice m.Nm s.nms.length m.nc, .slice m.T m.trs.length m.tc, .slice m.C s.cyc.length m.cc]
/-- the document's loader and its parts -/
abbrev ChX (b : Nat) (A : Option Addr) (n c : Nat) (s : LS) (m : LM) : List Chunk :=
  [Ch.cells b 52 (rcs A n c s m), Ch.row StE 9 m.O m.oc s.opn, Ch.row StE 9 m.Nm m.nc s.nms, Ch.row TsE 38 m.T m.tc m.trs, Ch.row StE 9 m.C m.cc s.cyc]
def ReadAt (b : Nat) (A : Option Addr) (c : Nat) (files : List Fl) (w0 : World) (f : Nat) : Prop :=
  ∀ (s : LS) (m : LM) (k : Nat) (fl : Fl) (w : World) (D : List Chunk), Inv (setS files) s → 16 ≤ s.opn.length + f → s.opn.length < 16 → k < files.length → nth files (k : Int) = fl → fl.text = fileS (setS files) fl.name → (alook fl.name (setS files)).isSome = true → fl.name ∉ s.nms → fl.name ∉ s.opn → m.trs.map ts1 = s.trs →
    St w0 [] w (ChX b A files.length c s m ++ (trows m.trs ++ D)) →
    Calls Tryz.prog 25 #[PB b, .int .i64 k] w fun e w' => e = .returned (.agg (loadF (setS files) f s fl.name).2.cs.toArray) ∧ ∃ s' m', m'.trs.map ts1 = s'.trs ∧ s'.cyc = (loadF (setS files) f s fl.name).1.cyc ∧ ((loadF (setS files) f s fl.name).2.code = 0 → s' = (loadF (setS files) f s fl.name).1) ∧
      St w0 [] w' (ChX b A files.length c s' m' ++ (trows m'.trs ++ D))
def InAt (b : Nat) (A : Option Addr) (c : Nat) (files : List Fl) (w0 : World) (f : Nat) : Prop :=
  ∀ (s : LS) (m : LM) (n : Nd) (w : World) (D : List Chunk), Inv (setS files) s → 16 ≤ s.opn.length + f → s.opn.length ≤ 16 → m.trs.map ts1 = s.trs →
    St w0 [] w (ChX b A files.length c s m ++ (trows m.trs ++ D)) →
    Calls Tryz.prog 47 #[PB b, .agg n.cs.toArray] w fun e w' => ∃ (R : Ft) (s' : LS) (m' : LM), e = .returned (.agg R.cs.toArray) ∧ m'.trs.map ts1 = s'.trs ∧
      (R.code ≠ 0 → ∃ S : LS, S.cyc = s'.cyc ∧ ∀ r, visL (loadF (setS files) f) (setS files) (n :: r) s = (S, R)) ∧
      (R.code = 0 → Inv (setS files) s' ∧ s'.opn = s.opn ∧ ∀ r, visL (loadF (setS files) f) (setS files) (n :: r) s = visL (loadF (setS files) f) (setS files) r s') ∧
      St w0 [] w' (ChX b A files.length c s' m' ++ (trows m'.trs ++ D))
theorem vis_no {set : List (Bs × Fl)} {rd : LS → Bs → LS × Ft} {s s' : LS} {n : Nd} {why : Int} (h : mayS set s n = (false, placeS why n, s')) (hw : why ≠ 0) (r : List Nd) : visL rd set (n :: r) s = (s', placeS why n) := by
  rw [visL, h]
  show (if false = true then _ else if why ≠ 0 then (s', placeS why n) else _) = _
  rw [if_neg (by decide), if_pos hw]
theorem vis_had {set : List (Bs × Fl)} {rd : LS → Bs → LS × Ft} {s : LS} {n : Nd} (h : mayS set s n = (false, ft0, s)) (r : List Nd) : visL rd set (n :: r) s = visL rd set r s := by
  rw [visL, h]
  rfl
theorem vis_yes {set : List (Bs × Fl)} {rd : LS → Bs → LS × Ft} {s : LS} {n : Nd} (h : mayS set s n = (true, ft0, s)) (r : List Nd) : visL rd set (n :: r) s = if (rd s n.text).2.code ≠ 0 then rd s n.text else visL rd set r (rd s n.text).1 := by
  rw [visL, h]
  rfl
set_option maxHeartbeats 1600000 in
theorem include_at (b : Nat) (A : Option Addr) (c : Nat) (files : List Fl) (w0 : World) (f : Nat) (hn : (files.map Fl.name).Nodup) (hf64 : files.length ≤ 64) (hrF : Rd FlE w0 A files) (hR : ReadAt b A c files w0 f) : InAt b A c files w0 f := by
  intro s m n w D hi hf ho htr hst
  have hset : (setS files).length ≤ 64 := by
    have := foldF_le files []
    have e : setS files = foldF files [] := rfl
    rw [e]
    simp only [List.length_nil, Nat.zero_add] at this
    omega
  have hnl := hi.le
  refine calls_of_Wp (vs := [_, _]) Tryz.func47 ?_
  refine Wp.seq (Wp.regionL (l := [0, 1]) (WO.act (hc := rfl) (he := Ef.boxL (n.cs) hst (fun ba1 wa1 ka1 hsa1 => WO.act (hc := rfl) (he := Ef.allocL (vs := [.int .i64 0, S [], .int .i64 0, .int .i64 0]) hsa1 (fun ba2 wa2 ka2 hsa2 => WO.done ?_))))))
  have hst : St w0 [] wa2 (Ch.cells ba2 27 ft0.cs :: Ch.cells ba1 62 n.cs :: (ChX b A files.length c s m ++ (trows m.trs ++ D))) := hsa2
  clear hsa1 hsa2
  have c3 := hst.cells 1
  have hc := hst.cells 2
  refine Wp.seq (Wp.draws [] mixed (WD.rd (is := [0, 1, 2, 3, 4, 5]) (fun _ _ _ _ _ h => h) (Keep.drew _) (Rn.s rfl Yv.mv (Rn.s rfl Yv.nc (Rn.s rfl (Yv.fa (off := 0)) (Rn.s rfl (Yv.ld (hc.at_ 0)) (Rn.s rfl (Yv.fa (off := 3)) (Rn.s rfl (Yv.ld (c3.at_ 3)) (Rn.nil))))))) (WD.cv 6 rfl (rfindF_cv A c files n.text wa2 (hrF.keep hst.keep) (by omega)) (Keep.drew _) (FnOk.of Tryz.func24) (fun wx1 kx1 => WD.rd (is := [7]) (fun _ _ _ _ _ h => h) ((Keep.drew _).trans kx1) (Rn.s rfl Yv.as (Rn.nil)) (WD.done ?_)))))
  have hst := hst.quiet ((Keep.drew _).trans kx1)
  have c3 := hst.cells 1
  have hc := hst.cells 2
  have hro := hst.rd (E := StE) (A := m.O) (c := m.oc) (xs := s.opn) 3
  refine Wp.seq (Wp.draws [] mixed (WD.rd (is := [0, 1, 2, 3, 4, 5]) (fun _ _ _ _ _ h => h) (Keep.drew _) (Rn.s rfl Yv.mv (Rn.s rfl Yv.nc (Rn.s rfl (Yv.fa (off := 1)) (Rn.s rfl (Yv.ld (hc.at_ 1)) (Rn.s rfl (Yv.fa (off := 3)) (Rn.s rfl (Yv.ld (c3.at_ 3)) (Rn.nil))))))) (WD.cv 6 rfl (in_cv m.O m.oc s.opn n.text wx1 hro (by omega)) (Keep.drew _) (FnOk.of Tryz.func70) (fun wy1 ky1 => WD.rd (is := [7]) (fun _ _ _ _ _ h => h) ((Keep.drew _).trans ky1) (Rn.s rfl Yv.as (Rn.nil)) (WD.done ?_)))))
  have hst := hst.quiet ((Keep.drew _).trans ky1)
  have c3 := hst.cells 1
  have hc := hst.cells 2
  refine Wp.seq (Wp.block ?_)
  refine Wp.seq (Wp.reads (is := [0, 1, 2]) (Keep.refl _) (Rn.s rfl Yv.mv (Rn.s rfl (Yv.cmp _ rfl) (Rn.s rfl Yv.as (Rn.nil)))) ?_)
  by_cases h1 : (alook n.text (setS files)).isSome = false
  · have em : mayS (setS files) s n = (false, placeS 73 n, s) := by unfold mayS; rw [if_pos h1]
    rw [idxF_out h1 hn]
    refine Wp.cond rfl (fun h => ?_) (fun h => absurd h (by decide))
    refine Wp.seq (Wp.regionL (l := [0, 1, 2]) (WO.rd (is := [0]) (js := [1, 2]) (Keep.refl _) (Rn.s rfl (Yv.ldb c3) (Rn.nil)) (WO.cv rfl (rplace_cv 73 n _) (Keep.refl _) (FnOk.of Tryz.func30) (fun wz1 kz1 => WO.act (hc := rfl) (he := Ef.stores (hst.quiet kz1) 0 (fun wz2 hsz2 => WO.done ?_))))))
    refine Wp.ret (Fin.ret (resCA rfl rfl (hsz2.cells 0)) ⟨placeS 73 n, s, m, rfl, htr, fun _ => ⟨s, rfl, vis_no em (by decide)⟩, fun q => ?_, ?_⟩)
    · cases q
    · exact hsz2.pickT (P := [_, _, _, _, _, _, _]) (T := trows m.trs ++ D) [2, 3, 4, 5, 6]
  have h1' : (alook n.text (setS files)).isSome = true := by rw [Bool.not_eq_false] at h1; exact h1
  obtain ⟨k, ek, hk, hkn, hkt⟩ := idxF_in h1' hn
  rw [ek]
  refine Wp.cond rfl (fun h => by have := of_decide_eq_true h; omega) (fun _ => ?_)
  refine Wp.seq (Wp.reads (is := [0, 1, 2]) (Keep.refl _) (Rn.s rfl Yv.mv (Rn.s rfl (Yv.cmp _ rfl) (Rn.s rfl Yv.as (Rn.nil)))) ?_)
  by_cases h2 : n.text ∈ s.opn
  · have hoc := hst.cap (E := StE) (A := m.O) (c := m.oc) (xs := s.opn) 3
    have hro := hst.rd (E := StE) (A := m.O) (c := m.oc) (xs := s.opn) 3
    have h0 : 0 < s.opn.length := List.length_pos_of_mem h2
    obtain ⟨j, hj⟩ : ∃ j, j = idxS s.opn n.text := ⟨_, rfl⟩
    have hjl : j < s.opn.length := by rw [hj]; exact List.idxOf_lt_length_of_mem h2
    have ej : idxT n.text s.opn 0 = (j : Int) := by rw [idxT_in h2, Nat.zero_add, hj]; rfl
    have em : mayS (setS files) s n = (false, placeS 74 n, { s with cyc := s.opn.drop j }) := by unfold mayS; rw [if_neg h1, if_pos h2, hj]
    rw [ej]
    have hO := rd_some hro h0
    have hdl : (s.opn.drop j).length = s.opn.length - ((j : Nat) : Int).toNat := by rw [Int.toNat_natCast]; simp
    have hcn : cutA m.O m.oc j 1 = none → m.oc - j = 0 := by
      intro q
      unfold cutA at q
      split at q
      · omega
      · simp only [Option.map_eq_none_iff] at q
        exact (hO q).elim
    have hcut : ∀ {w2 : World}, Keep wy1 w2 → Rd StE w2 (cutA m.O m.oc j 1) (s.opn.drop j) := fun k => by
      have := (hro.keep k).cut (l := j) hoc (Nat.le_refl _)
      rwa [List.take_length] at this
    refine Wp.cond rfl (fun _ => ?_) (fun h => by have := of_decide_eq_false h; omega)
    refine Wp.seq (Wp.regionL (l := [0, 1, 2, 3, 4, 5, 6, 7, 8, 9, 10, 11]) (WO.rd (is := [0]) (js := [1, 2, 3, 4, 5, 6, 7, 8, 9, 10, 11]) (Keep.refl _) (Rn.s rfl Yv.mv (Rn.nil)) (WO.act (hc := rfl) (he := Ef.bsl (T := 9) StE ([] : List Bs) hst (fun b1 w1 k1 hs1 => ?_)))))
    have hc1 := hs1.cells 3
    refine WO.rd (is := [2, 3, 4, 5, 6, 7]) (js := [8, 9, 10, 11]) (Keep.refl _) (Rn.s rfl Yv.mv (Rn.s rfl Yv.nc (Rn.s rfl (Yv.fa (off := 1)) (Rn.s rfl (Yv.ld (hc1.at_ 1)) (Rn.s rfl Yv.mv (Rn.s rfl (Yv.sl_f (n := 1) (e := 9) (k := (s.opn.drop j).length) (by omega) (by omega) hdl) (Rn.nil))))))) (WO.act (hc := rfl) (he := Ef.append (ys := s.opn.drop j) hs1 0 (hcut k1) hcn (fitT (by simp; omega)) (fun B4 c4 w4 hs4 => ?_)))
    refine WO.rd (is := [9, 10]) (js := [11]) (Keep.refl _) (Rn.s rfl Yv.nc (Rn.s rfl (Yv.fa (off := 4)) (Rn.nil))) (WO.act (he := Ef.store hs4 3 (fun w5 hs5 => WO.done ?_)))
    have hst : St w0 [] w5 (Ch.cells ba2 27 ft0.cs :: Ch.cells ba1 62 n.cs :: (ChX b A files.length c { s with cyc := s.opn.drop j } { m with C := B4, cc := c4 } ++ (trows m.trs ++ D))) :=
      hs5.pickT (P := [_, _, _, _, _, _, _, _]) (T := trows m.trs ++ D) [2, 3, 0, 4, 5, 6, 1]
    clear hs1 hs4 hs5 hc hc1
    have c3 := hst.cells 1
    refine Wp.seq (Wp.regionL (l := [0, 1, 2]) (WO.rd (is := [0]) (js := [1, 2]) (Keep.refl _) (Rn.s rfl (Yv.ldb c3) (Rn.nil)) (WO.cv rfl (rplace_cv 74 n _) (Keep.refl _) (FnOk.of Tryz.func30) (fun wz1 kz1 => WO.act (hc := rfl) (he := Ef.stores (hst.quiet kz1) 0 (fun wz2 hsz2 => WO.done ?_))))))
    refine Wp.ret (Fin.ret (resCA rfl rfl (hsz2.cells 0)) ⟨placeS 74 n, { s with cyc := s.opn.drop j }, { m with C := B4, cc := c4 }, rfl, htr, fun _ => ⟨_, rfl, vis_no em (by decide)⟩, fun q => ?_, ?_⟩)
    · cases q
    · exact hsz2.pickT (P := [_, _, _, _, _, _, _]) (T := trows m.trs ++ D) [2, 3, 4, 5, 6]
  rw [idxT_out h2]
  refine Wp.cond rfl (fun h => absurd h (by decide)) (fun _ => ?_)
  have hrn := hst.rd (E := StE) (A := m.Nm) (c := m.nc) (xs := s.nms) 4
  refine Wp.seq (Wp.draws [] mixed (WD.rd (is := [0, 1, 2, 3, 4, 5]) (fun _ _ _ _ _ h => h) (Keep.drew _) (Rn.s rfl Yv.mv (Rn.s rfl Yv.nc (Rn.s rfl (Yv.fa (off := 2)) (Rn.s rfl (Yv.ld (hc.at_ 2)) (Rn.s rfl (Yv.fa (off := 3)) (Rn.s rfl (Yv.ld (c3.at_ 3)) (Rn.nil))))))) (WD.cv 6 rfl (in_cv m.Nm m.nc s.nms n.text wy1 hrn (by omega)) (Keep.drew _) (FnOk.of Tryz.func70) (fun wu1 ku1 => WD.rd (is := [7, 8]) (fun _ _ _ _ _ h => h) ((Keep.drew _).trans ku1) (Rn.s rfl (Yv.cmp _ rfl) (Rn.s rfl Yv.as (Rn.nil))) (WD.done ?_)))))
  have hst := hst.quiet ((Keep.drew _).trans ku1)
  have c3 := hst.cells 1
  have hc := hst.cells 2
  by_cases h3 : n.text ∈ s.nms
  · have em : mayS (setS files) s n = (false, ft0, s) := by unfold mayS; rw [if_neg h1, if_neg h2, if_pos ((hi.rd _).2 h3)]
    rw [idxT_in h3]
    refine Wp.cond rfl (fun _ => ?_) (fun h => by have := of_decide_eq_false h; omega)
    refine Wp.seq (Wp.regionL (l := [0, 1]) (WO.rd (is := [0]) (js := [1]) (Keep.refl _) (Rn.s rfl (Yv.bd (cs := ft0.cs)) (Rn.nil)) (WO.act (hc := rfl) (he := Ef.stores hst 0 (fun wz1 hsz1 => WO.done ?_)))))
    refine Wp.ret (Fin.ret (resCA rfl rfl (hsz1.cells 0)) ⟨ft0, s, m, rfl, htr, fun q => absurd rfl q, fun _ => ⟨hi, rfl, vis_had em⟩, ?_⟩)
    exact hsz1.pickT (P := [_, _, _, _, _, _, _]) (T := trows m.trs ++ D) [2, 3, 4, 5, 6]
  have h3' : ¬ 0 < (alook n.text s.rd).getD 0 := fun q => h3 ((hi.rd _).1 q)
  rw [idxT_out h3]
  refine Wp.cond rfl (fun h => absurd h (by decide)) (fun _ => ?_)
  refine Wp.seq (Wp.reads (is := [0, 1, 2, 3, 4, 5, 6]) (Keep.refl _) (Rn.s rfl Yv.mv (Rn.s rfl Yv.nc (Rn.s rfl (Yv.fa (off := 1)) (Rn.s rfl (Yv.ld (hc.at_ 1)) (Rn.s rfl (Yv.len_v (e := 9) (m := 1)) (Rn.s rfl (Yv.cmp _ rfl) (Rn.s rfl Yv.as (Rn.nil)))))))) ?_)
  refine Wp.cond rfl (fun h4 => ?_) (fun h4 => ?_)
  · have h4 : 16 ≤ s.opn.length := by have := of_decide_eq_true h4; omega
    have em : mayS (setS files) s n = (false, placeS 75 n, s) := by unfold mayS; rw [if_neg h1, if_neg h2, if_neg h3', if_pos h4]
    refine Wp.seq (Wp.regionL (l := [0, 1, 2]) (WO.rd (is := [0]) (js := [1, 2]) (Keep.refl _) (Rn.s rfl (Yv.ldb c3) (Rn.nil)) (WO.cv rfl (rplace_cv 75 n _) (Keep.refl _) (FnOk.of Tryz.func30) (fun wz1 kz1 => WO.act (hc := rfl) (he := Ef.stores (hst.quiet kz1) 0 (fun wz2 hsz2 => WO.done ?_))))))
    refine Wp.ret (Fin.ret (resCA rfl rfl (hsz2.cells 0)) ⟨placeS 75 n, s, m, rfl, htr, fun _ => ⟨s, rfl, vis_no em (by decide)⟩, fun q => ?_, ?_⟩)
    · cases q
    · exact hsz2.pickT (P := [_, _, _, _, _, _, _]) (T := trows m.trs ++ D) [2, 3, 4, 5, 6]
  have h4 : ¬ 16 ≤ s.opn.length := by have := of_decide_eq_false h4; omega
  have em : mayS (setS files) s n = (true, ft0, s) := by unfold mayS; rw [if_neg h1, if_neg h2, if_neg h3', if_neg h4]
  refine Wp.skip ?_
  obtain ⟨fl, hfl⟩ : ∃ fl, fl = nth files (k : Int) := ⟨_, rfl⟩
  rw [← hfl] at hkn hkt
  have hsw := hst.perm (List.perm_append_comm_assoc [_, _] (ChX b A files.length c s m) (trows m.trs ++ D))
  have hsw := hsw.perm (List.Perm.append_left _ (List.perm_append_comm_assoc [_, _] (trows m.trs) D))
  have hcall := hR s m k fl wu1 _ hi hf (by omega) hk hfl.symm (by rw [hkt, hkn]) (by rw [hkn]; exact h1') (by rw [hkn]; exact h3) (by rw [hkn]; exact h2) htr hsw
  rw [hkn] at hcall
  refine Wp.seq (Wp.regionL (l := [0, 1, 2, 3]) (WO.rd (is := [0, 1]) (js := [2, 3]) (Keep.refl _) (Rn.s rfl Yv.mv (Rn.s rfl Yv.mv (Rn.nil))) (WO.act (hc := rfl) (he := Ef.callv Tryz.func25 (Calls.mono hcall ?_)))))
  rintro e w5 ⟨rfl, s', m', q1, q2, q3, hs5⟩
  have hs5 := hs5.perm (perm_in (F := [Ch.cells ba2 27 ft0.cs, Ch.cells ba1 62 n.cs]) (X := ChX b A files.length c s' m') (Y := trows m'.trs) (D := D)).symm
  refine WO.act (he := Ef.stores hs5 0 (fun w6 hs6 => WO.done ?_))
  have vy := fun r => vis_yes (rd := loadF (setS files) f) em r
  refine Wp.ret (Fin.ret (resCA rfl rfl (hs6.cells 0)) ⟨(loadF (setS files) f s n.text).2, s', m', rfl, q1, fun q => ⟨_, q2.symm, fun r => by rw [vy r, if_pos q]⟩, fun q => ?_, ?_⟩)
  · obtain ⟨g1, g2, -⟩ := loadF_good (setS files) f s n.text hi (by omega) h1' h3 h2 (by omega) q
    have e := q3 q
    exact ⟨by rw [e]; exact g1, by rw [e]; exact g2, fun r => by rw [vy r, if_neg (fun q' => q' q), e]⟩
  · exact hs6.pickT (P := [_, _, _, _, _, _, _]) (T := trows m'.trs ++ D) [2, 3, 4, 5, 6]
end Go.Proofs.YtgjhbapbomdpbaaGreatDoor.C
/- The document's own include (chapter 7): one file, and a file set: walked. -/
set_option linter.unusedVariables false
set_option linter.unusedSimpArgs false
set_option maxRecDepth 10000
namespace Go.Proofs.YtgjhbapbomdpbaaGreatDoor.C
open Go.RowKit Go.Proofs.YtgjhbapbomdpbaaGreatDoor.Sh
theorem namesS_neg {t : List Nd} (h : findS t 0 incl < 0) : namesS t = ([], ft0) := by unfold namesS; rw [if_pos h]
theorem namesS_bad {t : List Nd} {m : Nat} (h : findS t 0 incl = (m : Int)) (hb : 0 ≤ (textsN t m).2) : namesS t = ([], placeS 72 (nth t (textsN t m).2)) := by
  unfold namesS
  rw [if_neg (by omega), h, Int.toNat_natCast]
  unfold textsN at hb ⊢
  by_cases q : (textsS t m).2.2 = false
  · rw [if_pos q, if_pos q]
  · rw [if_neg q] at hb
    have hb : (0 : Int) ≤ -1 := hb
    omega
theorem namesS_all {t : List Nd} {m : Nat} (h : findS t 0 incl = (m : Int)) (h0 : m < t.length) (hb : ¬ 0 ≤ (textsN t m).2) : namesS t = ((textsN t m).1, ft0) := by
  unfold namesS
  rw [if_neg (by omega), h, Int.toNat_natCast]
  unfold textsN at hb ⊢
  by_cases q : (textsS t m).2.2 = false
  · rw [if_pos q] at hb
    exact absurd (textsS_mem h0).2.1.1 hb
  · rw [if_neg q, if_neg q]
theorem textsN_bd {t : List Nd} {m : Nat} (h0 : m < t.length) : (textsN t m).2 < t.length ∧ (textsN t m).1.length ≤ t.length := by
  obtain ⟨q1, q2, q3⟩ := textsS_mem h0
  unfold textsN
  split
  · exact ⟨q2.2, by simp⟩
  · exact ⟨by simp only; omega, by simpa using q3⟩
set_option maxHeartbeats 6400000 in
theorem read_at (b : Nat) (A : Option Addr) (c : Nat) (files : List Fl) (w0 : World) (f : Nat) (hn : (files.map Fl.name).Nodup) (hf64 : files.length ≤ 64) (hrF : Rd FlE w0 A files) (hI : InAt b A c files w0 f) : ReadAt b A c files w0 (f + 1) := by
  intro s m k fl w D hi hf ho hk hfl hft hs hnn hno htr hst
  have hset : (setS files).length ≤ 64 := by
    have := foldF_le files []
    have e : setS files = foldF files [] := rfl
    rw [e]
    simp only [List.length_nil, Nat.zero_add] at this
    omega
  refine calls_of_Wp (vs := [_, _]) Tryz.func25 ?_
  refine Wp.seq (Wp.regionL (l := [0]) (WO.act (hc := rfl) (he := Ef.allocL (vs := [.int .i64 0, S [], .int .i64 0, .int .i64 0]) hst (fun ba1 wa1 ka1 hsa1 => WO.done ?_))))
  have hc := hsa1.cells 1
  have hrF1 := hrF.keep hsa1.keep
  refine Wp.seq (Wp.regionL (l := [0, 1, 2, 3, 4, 5, 6, 7, 8]) (WO.rd (is := [0, 1, 2, 3, 4, 5, 6]) (js := [7, 8]) (Keep.refl _) (Rn.s rfl Yv.mv (Rn.s rfl Yv.nc (Rn.s rfl (Yv.fa (off := 0)) (Rn.s rfl (Yv.ld (hc.at_ 0)) (Rn.s rfl Yv.mv (Rn.s rfl (Yv.ia (e := 49) hrF1 (by omega) (by omega)) (Rn.s rfl (Yv.ldel hrF1 rfl rfl (by omega) (by omega)) (Rn.nil)))))))) (WO.act (hc := rfl) (he := Ef.allocL (vs := [S [], S []]) hsa1 (fun bx1 wx1 kx1 hsx1 => WO.act (hc := rfl) (he := Ef.stores hsx1 0 (fun wx2 hsx2 => WO.done ?_)))))))
  rw [hfl] at hsx2
  have hst : St w0 [] wx2 (Ch.cells bx1 49 fl.cs :: Ch.cells ba1 27 ft0.cs :: (ChX b A files.length c s m ++ (trows m.trs ++ D))) := hsx2
  clear hsa1 hsx1 hsx2 hc hrF1
  have c5 := hst.cells 0
  obtain ⟨T, F, hP⟩ : ∃ T F, parseS fl.name fl.text = (T, F) := ⟨_, _, rfl⟩
  have hpc := rparse_cx fl.name fl.text wx2
  have hTl := parseS_len fl.name fl.text
  have hlaw : (parseS fl.name fl.text).2.code = 0 → isS (parseS fl.name fl.text).1 = true := parseS_is
  rw [loadF, ← hft]
  rw [hP] at hpc hTl hlaw ⊢
  simp only at hpc hTl hlaw ⊢
  refine Wp.seq (Wp.regionL (l := [0, 1, 2, 3, 4, 5, 6, 7, 8, 9, 10]) (WO.rd (is := [0, 1, 2, 3]) (js := [4, 5, 6, 7, 8, 9, 10]) (Keep.refl _) (Rn.s rfl (Yv.fa (off := 0)) (Rn.s rfl (Yv.ld (c5.at_ 0)) (Rn.s rfl (Yv.fa (off := 1)) (Rn.s rfl (Yv.ld (c5.at_ 1)) (Rn.nil))))) (WO.act (hc := rfl) (he := Ef.cx hpc hst (FnOk.of Tryz.func45) ?_))))
  rintro v D1 w1 ⟨PA, pc, rfl, rfl⟩ hs1
  refine WO.rd (is := [5, 6, 7]) (js := [8, 9, 10]) (Keep.refl _) (Rn.s rfl Yv.mv (Rn.s rfl Yv.ex (Rn.s rfl Yv.ex (Rn.nil)))) (WO.act (he := Ef.allocL (vs := ft0.cs) hs1 (fun b7 w2 k2 hs2 => WO.rd (is := [9]) (js := [10]) (Keep.refl _) (Rn.s rfl Yv.as (Rn.nil)) (WO.act (he := Ef.stores hs2 0 (fun w3 hs3 => WO.done ?_))))))
  have hst : St w0 [] w3 (Ch.cells b7 27 F.cs :: Ch.row NdE 62 PA pc T :: Ch.cells bx1 49 fl.cs :: Ch.cells ba1 27 ft0.cs :: (ChX b A files.length c s m ++ (trows m.trs ++ D))) := hs3
  clear hs1 hs2 hs3 hpc c5
  have c7 := hst.cells 0
  refine Wp.seq (Wp.seq (Wp.reads (is := [0, 1, 2]) (Keep.refl _) (Rn.s rfl (Yv.fa (off := 0)) (Rn.s rfl (Yv.ld (c7.at_ 0)) (Rn.s rfl (Yv.cmp _ rfl) (Rn.nil)))) ?_))
  refine Wp.cond rfl (fun h => ?_) (fun h => ?_)
  · have h : F.code ≠ 0 := bne_iff_ne.1 h
    refine Wp.seq (Wp.regionL (l := [0, 1]) (WO.rd (is := [0]) (js := [1]) (Keep.refl _) (Rn.s rfl (Yv.ldb c7) (Rn.nil)) (WO.act (hc := rfl) (he := Ef.stores hst 3 (fun wx1 hsx1 => WO.done ?_)))))
    refine Wp.ret (Fin.ret (resCA rfl rfl (hsx1.cells 0)) ?_)
    rw [if_pos h]
    exact ⟨rfl, s, m, htr, rfl, fun _ => rfl, hsx1.pickT (P := [_, _, _, _, _, _, _, _, _]) (T := trows m.trs ++ D) [4, 5, 6, 7, 8]⟩
  have h : F.code = 0 := bne_eq_false_iff_eq.1 h
  have hq1 : ¬ F.code ≠ 0 := fun q => q h
  have hTis : isS T = true := hlaw h
  obtain ⟨hT0, hT1, hTd⟩ := isS_depth hTis
  have hdp : ∀ i : Nat, i < T.length → -1000000 ≤ (nth T (i : Int)).depth ∧ (nth T (i : Int)).depth ≤ 1000000 := fun i hi => by have := hTd i hi; omega
  have hwf := (ris_wf2 (by rw [← is_ref]; exact hTis)).2.2
  rw [if_neg hq1]
  refine Wp.skip ?_
  -- it is open
  have c5 := hst.cells 2
  have hc := hst.cells 4
  refine Wp.seq (Wp.draws [8, 11] mixed (WD.rd (is := [0, 1, 2, 3, 4, 5, 6]) (fun _ _ _ _ _ h => h) (Keep.drew _) (Rn.s rfl Yv.mv (Rn.s rfl Yv.mv (Rn.s rfl Yv.nc (Rn.s rfl (Yv.fa (off := 1)) (Rn.s rfl (Yv.ld (hc.at_ 1)) (Rn.s rfl (Yv.fa (off := 0)) (Rn.s rfl (Yv.ld (c5.at_ 0)) (Rn.nil)))))))) ?_))
  refine WD.act 7 (hc := rfl) (he := Ef.bsl (T := 9) StE [fl.name] (hst.quiet (Keep.drew _)) ?_)
  intro bz wz kz hsz
  refine ⟨fun _ => kz, ?_⟩
  refine WD.act 8 (hc := rfl) (he := Ef.append (ys := [fl.name]) hsz 6 (hsz.rd 0) (by simp) (fitT (by simp only [List.length_cons, List.length_nil]; omega)) ?_)
  intro O5 oc5 wy hsy
  refine ⟨fun h => (h (by simp)).elim, ?_⟩
  refine WD.rd (is := [9, 10]) (fun _ _ _ _ _ h => h) (Keep.refl _) (Rn.s rfl Yv.nc (Rn.s rfl (Yv.fa (off := 1)) (Rn.nil))) (WD.act 11 (hc := rfl) (he := Ef.store hsy 6 ?_))
  intro w5 hs5
  refine ⟨fun h => (h (by simp)).elim, WD.done ?_⟩
  obtain ⟨m1, hm1⟩ : ∃ m1 : LM, m1 = { m with O := O5, oc := oc5 } := ⟨_, rfl⟩
  have hst : St w0 [] w5 (Ch.row NdE 62 PA pc T :: Ch.cells bx1 49 fl.cs :: Ch.cells ba1 27 ft0.cs :: (ChX b A files.length c (pushS s fl.name) m1 ++ (trows m1.trs ++ D))) := by
    rw [hm1]
    exact hs5.pickT (P := [_, _, _, _, _, _, _, _, _, _]) (T := trows m.trs ++ D) [4, 5, 6, 0, 1, 7, 8, 9]
  have htr1 : m1.trs.map ts1 = (pushS s fl.name).trs := by rw [hm1]; exact htr
  clear hsz hsy hs5 c5 c7 hc hm1
  have hip := push_inv hi hnn
  have hrT := hst.rd 0
  refine Wp.seq (Wp.seq (Wp.regionL (l := [0, 1, 2]) (WO.rd (is := [0]) (js := [1, 2]) (Keep.refl _) (Rn.s rfl Yv.mv (Rn.nil)) (WO.cv rfl (rfind_cv PA pc T 0 incl w5 hrT hT0 (by omega) (hdp 0 hT0) (hwf 0 hT0).2) (Keep.refl _) (FnOk.of Tryz.func29) (fun wx1 kx1 => WO.rd (is := [2]) (js := []) ((Keep.refl _).trans kx1) (Rn.s rfl Yv.as (Rn.nil)) (WO.done ?_))))))
  have hst := hst.quiet kx1
  have hFb := findS_bd hT0 incl
  obtain ⟨K, hK⟩ : ∃ K, K = findS T 0 incl := ⟨_, rfl⟩
  rw [← hK] at hFb ⊢
  refine Wp.mid (fun ρ ds w' => ds = [] ∧ (∃ (s2 : LS) (m2 : LM), (namesS T).2.code = 0 ∧ visL (loadF (setS files) f) (setS files) (namesS T).1 (pushS s fl.name) = (s2, ft0) ∧ Inv (setS files) s2 ∧ s2.opn = s.opn ++ [fl.name] ∧ m2.trs.map ts1 = s2.trs ∧
    St w0 [] w' (Ch.row NdE 62 PA pc T :: Ch.cells bx1 49 fl.cs :: Ch.cells ba1 27 ft0.cs :: (ChX b A files.length c s2 m2 ++ (trows m2.trs ++ D)))) ∧
    Sub [(0, PB b), (4, PB ba1), (5, PB bx1), (6, .slice PA T.length pc)] ρ) ?_ ?_
  · refine Wp.seq (Wp.reads (is := [0, 1]) (Keep.refl _) (Rn.s rfl Yv.mv (Rn.s rfl (Yv.cmp _ rfl) (Rn.nil))) ?_)
    refine Wp.cond rfl (fun h2 => ?_) (fun h2 => ?_)
    · have h2 := of_decide_eq_true h2
      obtain ⟨n0, rfl⟩ : ∃ n0 : Nat, K = n0 := ⟨K.toNat, by omega⟩
      have hnl0 : n0 < T.length := by omega
      have hrT := hst.rd 0
      have hkd : (nth T (n0 : Int)).kind = 1 ∨ (nth T (n0 : Int)).kind = 2 ∨ (nth T (n0 : Int)).kind = 3 := by
        obtain ⟨j, rfl⟩ : ∃ j, n0 = j + 1 := ⟨n0 - 1, by have := hFb.2.2 (by omega); omega⟩
        have := isS_fits hTis hnl0
        unfold fitsB at this
        simp only [Bool.and_eq_true, Bool.or_eq_true, beq_iff_eq] at this
        rcases this.1.1.1.1 with (q | q) | q
        · exact .inl q
        · exact .inr (.inl q)
        · exact .inr (.inr q)
      have htx := rtexts_cx PA pc T n0 wx1 hrT hnl0 (by omega) (hdp n0 hnl0) (hwf n0 hnl0).2 hkd
      obtain ⟨tb1, tb2⟩ := textsN_bd hnl0
      refine Wp.seq (Wp.regionL (l := [0, 1, 2, 3, 4, 5, 6, 7]) (WO.rd (is := [0, 1]) (js := [2, 3, 4, 5, 6, 7]) (Keep.refl _) (Rn.s rfl Yv.mv (Rn.s rfl Yv.mv (Rn.nil))) (WO.act (hc := rfl) (he := Ef.cx htx hst (FnOk.of Tryz.func46) ?_))))
      rintro v D1 w6 ⟨NA, nc, rfl, rfl⟩ hs6
      refine WO.rd (is := [3, 4, 5, 6, 7]) (js := []) (Keep.refl _) (Rn.s rfl Yv.mv (Rn.s rfl Yv.ex (Rn.s rfl Yv.ex (Rn.s rfl Yv.as (Rn.s rfl Yv.as (Rn.nil)))))) (WO.done ?_)
      have hst : St w0 [] w6 (Ch.row NdE 62 NA nc (textsN T n0).1 :: Ch.row NdE 62 PA pc T :: Ch.cells bx1 49 fl.cs :: Ch.cells ba1 27 ft0.cs :: (ChX b A files.length c (pushS s fl.name) m1 ++ (trows m1.trs ++ D))) := hs6
      clear hs6 htx hrT
      have hrT := hst.rd 1
      refine Wp.seq (Wp.seq (Wp.reads (is := [0, 1]) (Keep.refl _) (Rn.s rfl Yv.mv (Rn.s rfl (Yv.cmp _ rfl) (Rn.nil))) ?_))
      refine Wp.cond rfl (fun h3 => ?_) (fun h3 => ?_)
      · have h3 := of_decide_eq_true h3
        have eN := namesS_bad hK.symm h3
        refine Wp.seq (Wp.regionL (l := [0, 1, 2, 3, 4, 5]) (WO.rd (is := [0, 1, 2, 3]) (js := [4, 5]) (Keep.refl _) (Rn.s rfl Yv.mv (Rn.s rfl Yv.mv (Rn.s rfl (Yv.ia (e := 62) hrT (by omega) (by omega)) (Rn.s rfl (Yv.ldel hrT rfl rfl (by omega) (by omega)) (Rn.nil))))) (WO.cv rfl (rplace_cv 72 (nth T (textsN T n0).2) _) (Keep.refl _) (FnOk.of Tryz.func30) (fun wy1 ky1 => WO.act (hc := rfl) (he := Ef.stores (hst.quiet ky1) 3 (fun wy2 hsy2 => WO.done ?_))))))
        refine Wp.ret (Fin.ret (resCA rfl rfl (hsy2.cells 0)) ?_)
        rw [eN, if_pos (show (placeS 72 _).code ≠ 0 from fun q => by cases q)]
        exact ⟨rfl, pushS s fl.name, m1, htr1, rfl, fun q => (by cases q), hsy2.pickT (P := [_, _, _, _, _, _, _, _, _]) (T := trows m1.trs ++ D) [4, 5, 6, 7, 8]⟩
      have h3 := of_decide_eq_false h3
      have eN := namesS_all hK.symm hnl0 h3
      obtain ⟨ns, hns⟩ : ∃ ns, ns = (textsN T n0).1 := ⟨_, rfl⟩
      rw [← hns] at eN hst tb2
      rw [eN]
      rw [if_neg (show ¬ ft0.code ≠ 0 from fun q => q rfl)]
      rw [← hns]
      obtain ⟨G, hG⟩ : ∃ G, G = visL (loadF (setS files) f) (setS files) ns (pushS s fl.name) := ⟨_, rfl⟩
      rw [← hG]
      refine Wp.skip (Wp.seq (Wp.reads (is := [0]) (Keep.refl _) (Rn.s rfl Yv.as (Rn.nil)) ?_))
      refine Wp.block ?_
      refine Wp.loop (α := Nat) (fun i ρ ds w' => ds = [] ∧ i ≤ ns.length ∧ (∃ (s2 : LS) (m2 : LM), visL (loadF (setS files) f) (setS files) (ns.drop i) s2 = G ∧ Inv (setS files) s2 ∧ s2.opn = s.opn ++ [fl.name] ∧ m2.trs.map ts1 = s2.trs ∧
          St w0 [] w' (Ch.row NdE 62 NA nc ns :: Ch.row NdE 62 PA pc T :: Ch.cells bx1 49 fl.cs :: Ch.cells ba1 27 ft0.cs :: (ChX b A files.length c s2 m2 ++ (trows m2.trs ++ D)))) ∧
        Sub [(0, PB b), (4, PB ba1), (5, PB bx1), (6, .slice PA T.length pc), (9, .slice NA ns.length nc), (11, .int .i64 (i : Int))] ρ) (fun i => ns.length - i) 0
        ⟨rfl, Nat.zero_le _, ⟨pushS s fl.name, m1, hG.symm, hip, rfl, htr1, hst⟩, rfl, rfl, rfl, rfl, rfl, rfl, trivial⟩ ?_
      clear hst hrT
      rintro i ρ ds w7 ⟨rfl, hil, ⟨s2, m2, hv, hi2, ho2, ht2, hst⟩, hsub⟩
      refine Wp.forget _ ?_ hsub
      clear hsub ρ
      have hol2 : s2.opn.length = s.opn.length + 1 := by rw [ho2]; simp
      refine Wp.seq (Wp.seq (Wp.reads (is := [0, 1, 2, 3]) (Keep.refl _) (Rn.s rfl Yv.mv (Rn.s rfl Yv.mv (Rn.s rfl (Yv.len_v (e := 62) (m := 8)) (Rn.s rfl (Yv.cmp _ rfl) (Rn.nil))))) ?_))
      refine Wp.cond rfl (fun h4 => ?_) (fun h4 => ?_)
      · have h4 := of_decide_eq_true h4
        have hkl : i < ns.length := by omega
        have hget : nth ns (i : Int) = ns[i] := nth_of (List.getElem?_eq_getElem hkl)
        rw [List.drop_eq_getElem_cons hkl, ← hget] at hv
        have hrn := hst.rd 0
        obtain ⟨n, hne⟩ : ∃ n, n = nth ns (i : Int) := ⟨_, rfl⟩
        have hsw := hst.perm (perm_in (F := [_, _, _, _]) (X := ChX b A files.length c s2 m2) (Y := trows m2.trs) (D := D))
        have hcall := hI s2 m2 n w7 _ hi2 (by omega) (by omega) ht2 hsw
        refine Wp.skip (Wp.seq (Wp.block ?_))
        refine Wp.seq (Wp.regionL (l := [0, 1, 2, 3, 4, 5, 6, 7]) (WO.rd (is := [0, 1, 2, 3, 4]) (js := [5, 6, 7]) (Keep.refl _) (Rn.s rfl Yv.mv (Rn.s rfl Yv.mv (Rn.s rfl Yv.mv (Rn.s rfl (Yv.ia (e := 62) hrn (by omega) (by omega)) (Rn.s rfl (Yv.ldel hrn rfl rfl (by omega) (by omega)) (Rn.nil)))))) ?_))
        rw [← hne] at hv ⊢
        refine WO.act (hc := rfl) (he := Ef.callv Tryz.func47 (Calls.mono hcall ?_))
        rintro e w8 ⟨R, s3, m3, rfl, ht3, r1, r2, hs8⟩
        have hs8 := hs8.perm (perm_in (F := [Ch.row NdE 62 NA nc ns, Ch.row NdE 62 PA pc T, Ch.cells bx1 49 fl.cs, Ch.cells ba1 27 ft0.cs]) (X := ChX b A files.length c s3 m3) (Y := trows m3.trs) (D := D)).symm
        refine WO.act (he := Ef.allocL (vs := ft0.cs) hs8 (fun b12 w9 k9 hs9 => WO.act (he := Ef.stores hs9 0 (fun w10 hs10 => WO.done ?_))))
        have hst : St w0 [] w10 (Ch.cells b12 27 R.cs :: Ch.row NdE 62 NA nc ns :: Ch.row NdE 62 PA pc T :: Ch.cells bx1 49 fl.cs :: Ch.cells ba1 27 ft0.cs :: (ChX b A files.length c s3 m3 ++ (trows m3.trs ++ D))) := hs10
        clear hs8 hs9 hs10 hsw hcall hrn
        have c12 := hst.cells 0
        refine Wp.seq (Wp.reads (is := [0, 1, 2]) (Keep.refl _) (Rn.s rfl (Yv.fa (off := 0)) (Rn.s rfl (Yv.ld (c12.at_ 0)) (Rn.s rfl (Yv.cmp _ rfl) (Rn.nil)))) ?_)
        refine Wp.cond rfl (fun h5 => ?_) (fun h5 => ?_)
        · have h5 : R.code ≠ 0 := bne_iff_ne.1 h5
          obtain ⟨S1, hS1, hS2⟩ := r1 h5
          rw [hS2] at hv
          refine Wp.seq (Wp.regionL (l := [0, 1]) (WO.rd (is := [0]) (js := [1]) (Keep.refl _) (Rn.s rfl (Yv.ldb c12) (Rn.nil)) (WO.act (hc := rfl) (he := Ef.stores hst 4 (fun wy1 hsy1 => WO.done ?_)))))
          refine Wp.ret (Fin.ret (resCA rfl rfl (hsy1.cells 0)) ?_)
          rw [← hv, if_pos h5]
          exact ⟨rfl, s3, m3, ht3, hS1.symm, fun q => absurd q h5, hsy1.pickT (P := [_, _, _, _, _, _, _, _, _, _]) (T := trows m3.trs ++ D) [5, 6, 7, 8, 9]⟩
        · have h5 : R.code = 0 := bne_eq_false_iff_eq.1 h5
          obtain ⟨g1, g2, g3⟩ := r2 h5
          rw [g3] at hv
          refine Wp.skip (Wp.reads (is := [0, 1, 2]) (Keep.refl _) (Rn.s rfl Yv.mv (Rn.s rfl (Yv.add (by unfold inI; omega)) (Rn.s rfl Yv.as (Rn.nil)))) ?_)
          exact ⟨i + 1, ⟨rfl, by omega, ⟨s3, m3, hv, g1, by rw [g2, ho2], ht3, hst.pickT (P := [_, _, _, _, _, _, _, _, _, _]) (T := trows m3.trs ++ D) [1, 2, 3, 4, 5, 6, 7, 8, 9]⟩, rfl, rfl, rfl, rfl, rfl, rfl, trivial⟩, by omega⟩
      · have h4 := of_decide_eq_false h4
        rw [List.drop_eq_nil_of_le (by omega), visL] at hv
        refine Wp.exit ?_
        exact ⟨rfl, ⟨s2, m2, rfl, hv.symm, hi2, ho2, ht2, hst.pickT (P := [_, _, _, _, _, _, _, _, _]) (T := trows m2.trs ++ D) [1, 2, 3, 4, 5, 6, 7, 8]⟩, rfl, rfl, rfl, rfl, trivial⟩
    · have h2 := of_decide_eq_false h2
      have eN := namesS_neg (t := T) (by rw [← hK]; omega)
      refine Wp.skip ?_
      rw [eN]
      exact ⟨rfl, ⟨pushS s fl.name, m1, rfl, rfl, hip, rfl, htr1, hst⟩, rfl, rfl, rfl, rfl, trivial⟩
  clear hst hrT
  rintro ρ ds w7 ⟨rfl, ⟨s2, m2, hN0, hv, hi2, ho2, ht2, hst⟩, hsub⟩
  refine Wp.forget _ ?_ hsub
  clear hsub ρ
  rw [if_neg (show ¬ (namesS T).2.code ≠ 0 from fun q => q hN0), hv, if_neg (show ¬ ft0.code ≠ 0 from fun q => q rfl)]
  have hnn2 : fl.name ∉ s2.nms := hi2.opn fl.name (by rw [ho2]; simp)
  have hgd0 : (alook fl.name s2.rd).getD 0 = 0 := by
    have h2 := hi2.pos fl.name
    by_cases q : 0 < (alook fl.name s2.rd).getD 0
    · exact (hnn2 ((hi2.rd fl.name).1 q)).elim
    · omega
  have hnl := hi2.le
  have htl2 : m2.trs.length ≤ 64 := by
    have h5 := hi2.len
    rw [← ht2] at h5
    simp only [List.length_map] at h5
    omega
  -- it is not open any more
  have hol2 : s2.opn.length = s.opn.length + 1 := by rw [ho2]; simp
  have hc := hst.cells 3
  have hcap := hst.cap (E := StE) (A := m2.O) (c := m2.oc) (xs := s2.opn) 4
  refine Wp.seq (Wp.draws [14] mixed (WD.rd (is := [0, 1, 2, 3, 4, 5, 6, 7, 8, 9, 10, 11, 12, 13]) (fun _ _ _ _ _ h => h) (Keep.drew _) (Rn.s rfl Yv.mv (Rn.s rfl Yv.mv (Rn.s rfl Yv.nc (Rn.s rfl (Yv.fa (off := 1)) (Rn.s rfl (Yv.ld (hc.at_ 1)) (Rn.s rfl Yv.mv (Rn.s rfl Yv.nc (Rn.s rfl (Yv.fa (off := 1)) (Rn.s rfl (Yv.ld (hc.at_ 1)) (Rn.s rfl (Yv.len_v (e := 9) (m := 1)) (Rn.s rfl (Yv.sub (by unfold inI; omega)) (Rn.s rfl (Yv.sl_t (n := 1) (e := 9) (by omega) (by omega)) (Rn.s rfl Yv.nc (Rn.s rfl (Yv.fa (off := 1)) (Rn.nil))))))))))))))) (WD.act 14 (hc := rfl) (he := Ef.store (hst.quiet (Keep.drew _)) 3 (fun wx1 hsx1 => ⟨fun hn => (hn (by decide)).elim, WD.done ?_⟩)))))
  have hst : St w0 [] wx1 (Ch.row NdE 62 PA pc T :: Ch.cells bx1 49 fl.cs :: Ch.cells ba1 27 ft0.cs :: (ChX b A files.length c { s2 with opn := s2.opn.dropLast } m2 ++ (trows m2.trs ++ D))) := by
    have h9 := hsx1.pickT (P := [_, _, _, _, _, _, _, _]) (T := trows m2.trs ++ D) [4, 1, 2, 3, 0, 5, 6, 7]
    have e2 : ((s2.opn.length : Int) - 1).toNat = s2.opn.dropLast.length := by rw [List.length_dropLast]; omega
    have e3 : s2.opn = s2.opn.dropLast ++ [fl.name] := by rw [ho2]; simp
    rw [e2] at h9
    have h10 : Ch.row StE 9 m2.O m2.oc s2.opn = Ch.row StE 9 m2.O m2.oc (s2.opn.dropLast ++ [fl.name]) := by rw [← e3]
    have h9 : St w0 [] wx1 (Ch.row StE 9 m2.O m2.oc s2.opn :: _) := h9
    rw [h10] at h9
    have h11 := h9.shrink
    exact h11.pickT (P := [_, _, _, _, _, _, _, _]) (T := trows m2.trs ++ D) [1, 2, 3, 4, 0, 5, 6, 7]
  clear hsx1 hc hcap
  obtain ⟨s4, hs4⟩ : ∃ s4 : LS, s4 = { s2 with opn := s2.opn.dropLast } := ⟨_, rfl⟩
  rw [← hs4] at hst
  have e4 : s4.rd = s2.rd ∧ s4.nms = s2.nms ∧ s4.trs = s2.trs ∧ s4.cyc = s2.cyc ∧ s4.opn = s2.opn.dropLast := by rw [hs4]; exact ⟨rfl, rfl, rfl, rfl, rfl⟩
  have hnl4 : s4.nms.length ≤ 64 := by rw [e4.2.1]; omega
  -- its name
  have c5 := hst.cells 1
  have hc := hst.cells 3
  refine Wp.seq (Wp.draws [8, 11] mixed (WD.rd (is := [0, 1, 2, 3, 4, 5, 6]) (fun _ _ _ _ _ h => h) (Keep.drew _) (Rn.s rfl Yv.mv (Rn.s rfl Yv.mv (Rn.s rfl Yv.nc (Rn.s rfl (Yv.fa (off := 2)) (Rn.s rfl (Yv.ld (hc.at_ 2)) (Rn.s rfl (Yv.fa (off := 0)) (Rn.s rfl (Yv.ld (c5.at_ 0)) (Rn.nil)))))))) ?_))
  refine WD.act 7 (hc := rfl) (he := Ef.bsl (T := 9) StE [fl.name] (hst.quiet (Keep.drew _)) ?_)
  intro bz wz kz hsz
  refine ⟨fun _ => kz, ?_⟩
  refine WD.act 8 (hc := rfl) (he := Ef.append (ys := [fl.name]) hsz 6 (hsz.rd 0) (by simp) (fitT (by simp only [List.length_cons, List.length_nil]; omega)) ?_)
  intro N5 nc5 wy hsy
  refine ⟨fun h => (h (by simp)).elim, ?_⟩
  refine WD.rd (is := [9, 10]) (fun _ _ _ _ _ h => h) (Keep.refl _) (Rn.s rfl Yv.nc (Rn.s rfl (Yv.fa (off := 2)) (Rn.nil))) (WD.act 11 (hc := rfl) (he := Ef.store hsy 5 ?_))
  intro w9 hs9
  refine ⟨fun h => (h (by simp)).elim, WD.done ?_⟩
  obtain ⟨m6, hm6⟩ : ∃ m6 : LM, m6 = { m2 with Nm := N5, nc := nc5 } := ⟨_, rfl⟩
  obtain ⟨s6, hs6⟩ : ∃ s6 : LS, s6 = { s4 with nms := s4.nms ++ [fl.name] } := ⟨_, rfl⟩
  have hst : St w0 [] w9 (Ch.row NdE 62 PA pc T :: Ch.cells bx1 49 fl.cs :: Ch.cells ba1 27 ft0.cs :: (ChX b A files.length c s6 m6 ++ (trows m6.trs ++ D))) := by
    rw [hm6, hs6]
    exact hs9.pickT (P := [_, _, _, _, _, _, _, _, _]) (T := trows m2.trs ++ D) [3, 4, 5, 0, 6, 1, 7, 8]
  have ht6 : m6.trs.map ts1 = s6.trs := by rw [hm6, hs6]; show m2.trs.map ts1 = s4.trs; rw [e4.2.2.1]; exact ht2
  have htl6 : m6.trs.length ≤ 64 := by rw [hm6]; exact htl2
  clear hsz hsy hs9 c5 hc hm6
  -- its tree
  have hc := hst.cells 3
  have hcapT := hst.cap (E := NdE) (A := PA) (c := pc) (xs := T) 0
  have hrT := hst.rd (E := NdE) (A := PA) (c := pc) (xs := T) 0
  have hwo := rwithout_cx PA pc T incl _ (hrT.keep (Keep.drew w9)) hTis hcapT
  rw [withoutL_eq] at hwo
  refine Wp.seq (Wp.draws [8, 11] mixed (WD.rd (is := [0, 1, 2, 3, 4, 5]) (fun _ _ _ _ _ h => h) (Keep.drew _) (Rn.s rfl Yv.mv (Rn.s rfl Yv.mv (Rn.s rfl Yv.nc (Rn.s rfl (Yv.fa (off := 3)) (Rn.s rfl (Yv.ld (hc.at_ 3)) (Rn.s rfl Yv.mv (Rn.nil))))))) ?_))
  refine WD.act 6 (hc := rfl) (he := Ef.callv Tryz.func48 (Calls.mono hwo ?_))
  rintro e wv ⟨v, D', rfl, ⟨O9, oc9, rfl, rfl⟩, hp⟩
  have kv := hp.keep
  have hsv := (hst.quiet (Keep.drew w9)).call0 hp
  refine ⟨fun _ => kv, ?_⟩
  refine WD.act 7 (hc := rfl) (he := Ef.bsl (T := 38) TsE [((O9, oc9, wcutS T incl) : Tr)] hsv ?_)
  intro bz wz kz hsz
  refine ⟨fun _ => kz, ?_⟩
  refine WD.act 8 (hc := rfl) (he := Ef.append (ys := [((O9, oc9, wcutS T incl) : Tr)]) hsz 8 (hsz.rd 0) (by simp) (.inl (by simp only [List.length_cons, List.length_nil]; omega)) ?_)
  intro T9 tc9 wy hsy
  refine ⟨fun h => (h (by simp)).elim, ?_⟩
  refine WD.rd (is := [9, 10]) (fun _ _ _ _ _ h => h) (Keep.refl _) (Rn.s rfl Yv.nc (Rn.s rfl (Yv.fa (off := 3)) (Rn.nil))) (WD.act 11 (hc := rfl) (he := Ef.store hsy 6 ?_))
  intro w10 hs10
  refine ⟨fun h => (h (by simp)).elim, WD.done ?_⟩
  obtain ⟨m7, hm7⟩ : ∃ m7 : LM, m7 = { m6 with T := T9, tc := tc9, trs := m6.trs ++ [(O9, oc9, wcutS T incl)] } := ⟨_, rfl⟩
  have hst : St w0 [] w10 (Ch.cells ba1 27 ft0.cs :: (ChX b A files.length c { s6 with trs := s6.trs ++ [wcutS T incl] } m7 ++ (trows m7.trs ++ D))) := by
    have h2 := hs10.pickT (P := [_, _, _, _, _, _, _, _, _, _]) (T := trows m6.trs ++ D) [6, 0, 7, 8, 1, 9, 3]
    have h3 : St w0 [] w10 ([_, _, _, _, _, _] ++ (trow (O9, oc9, wcutS T incl) :: (trows m6.trs ++ D))) := h2
    have h4 := h3.perm ((List.perm_middle (l₁ := trows m6.trs) (l₂ := D) (a := trow (O9, oc9, wcutS T incl))).symm.append_left [_, _, _, _, _, _])
    have e7 : trows m7.trs ++ D = trows m6.trs ++ (trow (O9, oc9, wcutS T incl) :: D) := by rw [hm7]; unfold trows; simp
    rw [e7, hm7]
    exact h4
  have ht7 : m7.trs.map ts1 = s6.trs ++ [wcutS T incl] := by rw [hm7]; simp only [List.map_append, List.map_cons, List.map_nil]; rw [ht6]
  refine Wp.seq (Wp.regionL (l := [0, 1]) (WO.rd (is := [0]) (js := [1]) (Keep.refl _) (Rn.s rfl (Yv.bd (cs := ft0.cs)) (Rn.nil)) (WO.act (hc := rfl) (he := Ef.stores hst 0 (fun wx1 hsx1 => WO.done ?_)))))
  refine Wp.ret (Fin.ret (resCA rfl rfl (hsx1.cells 0)) ?_)
  have eD : { s6 with trs := s6.trs ++ [wcutS T incl], rd := (doneS s2 fl.name T).rd } = doneS s2 fl.name T := by
    unfold doneS
    rw [hs6]
    obtain ⟨x1, x2, x3, x4, x5⟩ := e4
    simp only
    rw [x2, x3, x4, x5]
  refine ⟨rfl, { s6 with trs := s6.trs ++ [wcutS T incl], rd := (doneS s2 fl.name T).rd }, m7, ht7, ?_, fun _ => eD, ?_⟩
  · rw [eD]
  · exact hsx1.pickT (P := [_, _, _, _, _, _]) (T := trows m7.trs ++ D) [1, 2, 3, 4, 5]
theorem readAll (b : Nat) (A : Option Addr) (c : Nat) (files : List Fl) (w0 : World) (hn : (files.map Fl.name).Nodup) (hf64 : files.length ≤ 64) (hrF : Rd FlE w0 A files) : ∀ f, ReadAt b A c files w0 f
  | 0 => fun s m k fl w D hi hf ho _ _ _ _ _ _ _ _ => by omega
  | f + 1 => read_at b A c files w0 f hn hf64 hrF (include_at b A c files w0 f hn hf64 hrF (readAll b A c files w0 hn hf64 hrF f))
end Go.Proofs.YtgjhbapbomdpbaaGreatDoor.C
