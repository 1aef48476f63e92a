/- Files that include files: the names of a tree, a tree without its part, and what is to be read: walked. -/
import Derived.Test.YtgjhbapbomdpbaaDoorIb
import Derived.Lib.SlicesS
set_option linter.unusedVariables false
set_option linter.unusedSimpArgs false
set_option maxRecDepth 10000
namespace Go.Proofs.YtgjhbapbomdpbaaDoor.C
open Go.RowKit Go.Proofs.YtgjhbapbomdpbaaDoor.Sh
def DepOk (t : List Nd) : Prop := ∀ i : Nat, i < t.length → -1000000 ≤ (nth t (i : Int)).depth ∧ (nth t (i : Int)).depth ≤ 1000000
theorem textsS_mem {t : List Nd} {i : Nat} (hi : i < t.length) : (∀ x ∈ (textsS t i).1, x < t.length) ∧ (0 ≤ (textsS t i).2.1 ∧ (textsS t i).2.1 < t.length) ∧ (textsS t i).1.length ≤ t.length := by
  unfold textsS
  split
  · refine ⟨?_, by simp only; omega, by simp; omega⟩
    intro x hx
    simp at hx
    omega
  split
  · exact ⟨by simp, by simp only; omega, by simp⟩
  · cases hf : (partsS t i).find? (fun n : Nat => (nth t (n : Int)).kind != 3) with
    | none =>
      have hpl : (partsS t i).length ≤ t.length := by
        have := partsR_len (nth t (i : Int)).depth (t.drop (i + 1)) (i + 1)
        simp only [List.length_drop] at this
        unfold partsS
        omega
      exact ⟨fun x hx => (partsS_mem hi x hx).2, by simp only [textsG]; omega, hpl⟩
    | some n =>
      have := partsS_mem hi n (List.mem_of_find?_eq_some hf)
      exact ⟨by simp [textsG], by simp only [textsG]; omega, by simp [textsG]⟩
theorem findS_bd {t : List Nd} {i : Nat} (hi : i < t.length) (key : Bs) : -1 ≤ findS t i key ∧ findS t i key < t.length := by
  unfold findS
  cases h : (partsS t i).find? (fun n : Nat => (nth t (n : Int)).key == key) with
  | none => simp [orN]; omega
  | some n =>
    have := partsS_mem hi n (List.mem_of_find?_eq_some h)
    simp [orN]
    omega
theorem names_cx (A : Option Addr) (c : Nat) (t : List Nd) (w : World) (hr : Rd NdE w A t) (h0 : 0 < t.length) (hl : t.length ≤ 1000000) (hd : DepOk t) :
    Cx Tryd.prog 66 [.slice A t.length c] [] (fun v D => ∃ O co, v = .tuple #[.slice O (namesS t).1.length co, .agg (namesS t).2.cs.toArray] ∧ D = [Ch.row NdE 48 O co (namesS t).1]) w := by
  refine calls_of_Wp (vs := [_]) Tryd.func66 ?_
  refine Wp.seq (Wp.regionL (l := [0, 1]) (WO.rd (is := [0]) (js := [1]) (Keep.refl _) (Rn.s rfl Yv.as (Rn.nil)) (WO.act (hc := rfl) (he := Ef.allocL (vs := [.int .i64 0, S [], .int .i64 0, .int .i64 0]) (St.init w) (fun ba1 wa1 ka1 hsa1 => WO.done ?_)))))
  obtain ⟨F, hF⟩ : ∃ F, F = findS t 0 incl := ⟨_, rfl⟩
  have hfb := findS_bd h0 incl
  have hfc : Cv Tryd.prog 39 [.slice A t.length c, .int .i64 0, S incl] (.int .i64 F) wa1 := by
    rw [hF]
    exact find_cv A c t 0 incl wa1 (hr.keep ka1) h0 (by omega) (hd 0 h0)
  unfold namesS
  rw [← hF] at hfb ⊢
  refine Wp.seq (Wp.regionL (l := [0, 1, 2]) (WO.rd (is := [0]) (js := [1, 2]) (Keep.refl _) (Rn.s rfl Yv.mv (Rn.nil)) (WO.cv rfl hfc (Keep.refl _) (FnOk.of Tryd.func39) (fun wx1 kx1 => WO.rd (is := [2]) (js := []) ((Keep.refl _).trans kx1) (Rn.s rfl Yv.as (Rn.nil)) (WO.done ?_)))))
  have hst := hsa1.quiet kx1
  refine Wp.seq (Wp.seq (Wp.reads (is := [0, 1]) (Keep.refl _) (Rn.s rfl Yv.mv (Rn.s rfl (Yv.cmp _ rfl) (Rn.nil))) ?_))
  refine Wp.cond rfl (fun h => ?_) (fun h => ?_)
  · have h := of_decide_eq_true h
    refine Wp.seq (Wp.regionL (l := [0, 1, 2]) (WO.rd (is := [0, 1]) (js := [2]) (Keep.refl _) (Rn.s rfl (Yv.bd (cs := ft0.cs)) (Rn.s rfl Yv.as (Rn.nil))) (WO.act (hc := rfl) (he := Ef.stores hst 0 (fun wy1 hsy1 => WO.done ?_)))))
    refine Wp.ret (Fin.ret (resTA rfl rfl rfl (hsy1.cells 0)) ?_)
    rw [if_pos h]
    exact ⟨_, _, rfl, ⟨none, 0, rfl, rfl⟩, (hsy1.pick []).nilrow _ _⟩
  have h := of_decide_eq_false h
  obtain ⟨m, hm⟩ : ∃ m : Nat, F = m := ⟨F.toNat, by omega⟩
  have hml : m < t.length := by omega
  have hmn : F.toNat = m := by omega
  rw [hm] at h ⊢
  clear hfc
  rw [show ((m : Int)).toNat = m from Int.toNat_natCast m]
  obtain ⟨tm1, tm2, tm3⟩ := textsS_mem hml
  refine Wp.skip ?_
  refine Wp.seq (Wp.regionL (l := [0, 1, 2, 3, 4, 5, 6, 7, 8, 9]) (WO.rd (is := [0, 1]) (js := [2, 3, 4, 5, 6, 7, 8, 9]) (Keep.refl _) (Rn.s rfl Yv.mv (Rn.s rfl Yv.mv (Rn.nil))) (WO.act (hc := rfl) (he := Ef.cx (texts_cx A c t m wx1 (hr.keep hst.keep) hml hl (hd m hml)) hst (FnOk.of Tryd.func63) ?_))))
  rintro v D w2 ⟨O, co, rfl, rfl⟩ hs2
  refine WO.rd (is := [3, 4, 5, 6, 7, 8, 9]) (js := []) (Keep.refl _) (Rn.s rfl Yv.mv (Rn.s rfl Yv.ex (Rn.s rfl Yv.ex (Rn.s rfl Yv.ex (Rn.s rfl Yv.as (Rn.s rfl Yv.as (Rn.s rfl Yv.as (Rn.nil)))))))) (WO.done ?_)
  have hst : St w [] w2 [Ch.row IvE 3 O co (textsS t m).1, Ch.cells ba1 27 ft0.cs] := hs2
  obtain ⟨L, bad, ok, hL⟩ : ∃ L bad ok, textsS t m = (L, bad, ok) := ⟨_, _, _, rfl⟩
  rw [hL] at hst tm1 tm2 tm3 ⊢
  simp only at hst tm1 tm2 tm3 ⊢
  refine Wp.seq (Wp.seq (Wp.reads (is := [0, 1]) (Keep.refl _) (Rn.s rfl Yv.mv (Rn.s rfl Yv.not (Rn.nil))) ?_))
  cases ok with
  | false =>
    refine Wp.cond_t rfl ?_
    have hrt := hr.keep hst.keep
    refine Wp.seq (Wp.regionL (l := [0, 1, 2, 3, 4, 5, 6]) (WO.rd (is := [0, 1, 2, 3]) (js := [4, 5, 6]) (Keep.refl _) (Rn.s rfl Yv.mv (Rn.s rfl Yv.mv (Rn.s rfl (Yv.ia (e := 48) hrt (by omega) (by omega)) (Rn.s rfl (Yv.ldel hrt rfl rfl (by omega) (by omega)) (Rn.nil))))) (WO.cv rfl (place_cv 72 (nth t bad) _) (Keep.refl _) (FnOk.of Tryd.func40) (fun wy1 ky1 => WO.rd (is := [5]) (js := [6]) ((Keep.refl _).trans ky1) (Rn.s rfl Yv.as (Rn.nil)) (WO.act (hc := rfl) (he := Ef.stores (hst.quiet ky1) 1 (fun wy2 hsy2 => WO.done ?_)))))))
    refine Wp.ret (Fin.ret (resTA rfl rfl rfl (hsy2.cells 0)) ?_)
    rw [if_neg h, if_pos rfl]
    exact ⟨_, _, rfl, ⟨none, 0, rfl, rfl⟩, (hsy2.pick []).nilrow _ _⟩
  | true =>
  refine Wp.cond_f rfl (Wp.skip ?_)
  refine Wp.seq (Wp.reads (is := [0]) (Keep.refl _) (Rn.s rfl Yv.as (Rn.nil)) ?_)
  refine Wp.seq (Wp.seq (Wp.reads (is := [0, 1, 2]) (Keep.refl _) (Rn.s rfl Yv.mv (Rn.s rfl (Yv.len_v (e := 3) (m := 1)) (Rn.s rfl Yv.mv (Rn.nil)))) ?_))
  refine Wp.block ?_
  refine Wp.loop (α := Nat) (fun k ρ ds w' => ds = [] ∧ k ≤ L.length ∧ (∃ B d, St w [] w' [Ch.row NdE 48 B d ((L.take k).map (fun n : Nat => nth t (n : Int))), Ch.row IvE 3 O co L, Ch.cells ba1 27 ft0.cs] ∧
    Sub [(0, .slice A t.length c), (3, PB ba1), (8, .slice B ((L.take k).map (fun n : Nat => nth t (n : Int))).length d), (30, .slice O L.length co), (31, .int .i64 (L.length : Int)), (32, .int .i64 (k : Int))] ρ)) (fun k => L.length - k) 0
    ⟨rfl, Nat.zero_le _, ⟨none, 0, hst.nilrow NdE _, rfl, rfl, rfl, rfl, rfl, rfl, trivial⟩⟩ ?_
  clear hst hs2
  rintro k ρ ds w3 ⟨rfl, hk, B, d, hst, hs⟩
  refine Wp.forget _ ?_ hs
  clear hs ρ
  refine Wp.seq (Wp.reads (is := [0]) (Keep.refl _) (Rn.s rfl (Yv.cmp _ rfl) (Rn.nil)) ?_)
  refine Wp.seq (Wp.cond rfl (fun h2 => ?_) (fun h2 => ?_))
  · have h2 := of_decide_eq_true h2
    have hkl : k < L.length := by omega
    have hget : nth L (k : Int) = L[k] := nth_of (List.getElem?_eq_getElem hkl)
    have hxl := tm1 L[k] (List.getElem_mem hkl)
    rw [← hget] at hxl
    have hrl := hst.rd 1
    have hrt := hr.keep hst.keep
    refine Wp.skip (Wp.seq (Wp.block ?_))
    refine Wp.seq (Wp.reads (is := [0, 1, 2]) (Keep.refl _) (Rn.s rfl (Yv.ia (e := 3) hrl (by omega) (by omega)) (Rn.s rfl (Yv.ld (hrl.ld 0 (by omega) (by omega))) (Rn.s rfl Yv.as (Rn.nil)))) ?_)
    refine Wp.regionL (l := [0, 1, 2, 3, 4, 5, 6, 7]) (WO.rd (is := [0, 1, 2, 3, 4]) (js := [5, 6, 7]) (Keep.refl _) (Rn.s rfl Yv.mv (Rn.s rfl Yv.mv (Rn.s rfl Yv.mv (Rn.s rfl (Yv.ia (e := 48) hrt (j := (nth L (k : Int) : Nat)) (by omega) (by omega)) (Rn.s rfl (Yv.ldel (i := (nth L (k : Int) : Nat)) hrt rfl rfl (by omega) (by omega)) (Rn.nil)))))) (WO.app NdE [nth t ((nth L (k : Int) : Nat) : Int)] rfl (fun _ => rfl) hst 0 (fitN (by simp; omega)) (fun by1 Ay1 cy1 wy1 hsy1 => WO.rd (is := [7]) (js := []) (Keep.refl _) (Rn.s rfl Yv.as (Rn.nil)) (WO.done ?_))))
    refine Wp.reads (is := [0, 1]) (Keep.refl _) (Rn.s rfl (Yv.add (by unfold inI; omega)) (Rn.s rfl Yv.mv (Rn.nil))) ?_
    have e : (L.take (k + 1)).map (fun n : Nat => nth t (n : Int)) = (L.take k).map (fun n : Nat => nth t (n : Int)) ++ [nth t ((nth L (k : Int) : Nat) : Int)] := by
      rw [List.take_add_one, List.getElem?_eq_getElem hkl, hget, List.map_append]; rfl
    refine ⟨k + 1, ⟨rfl, by omega, ⟨Ay1, cy1, ?_, rfl, rfl, ?_, rfl, rfl, rfl, trivial⟩⟩, by omega⟩
    · rw [e]; exact hsy1
    · rw [e]; rfl
  · have h2 := of_decide_eq_false h2
    have e : L.take k = L := List.take_of_length_le (by omega)
    rw [e] at hst
    refine Wp.exit ?_
    refine Wp.seq (Wp.regionL (l := [0, 1, 2, 3]) (WO.rd (is := [0, 1, 2]) (js := [3]) (Keep.refl _) (Rn.s rfl Yv.mv (Rn.s rfl (Yv.bd (cs := ft0.cs)) (Rn.s rfl Yv.as (Rn.nil)))) (WO.act (hc := rfl) (he := Ef.stores hst 2 (fun wy1 hsy1 => WO.done ?_)))))
    refine Wp.ret (Fin.ret (resTA rfl rfl rfl (hsy1.cells 0)) ?_)
    rw [if_neg h, if_neg (by decide), e]
    exact ⟨_, _, rfl, ⟨B, d, rfl, rfl⟩, hsy1.pick [1]⟩
theorem wcut_calls {M : List Nat} (A : Option Addr) (c : Nat) (t : List Nd) (w : World) (hst : St w M w [Ch.row NdE 48 A c t]) (h0 : 0 < t.length) (hl : t.length ≤ 1000000) (hd : DepOk t) :
    Calls Tryd.prog 68 #[.slice A t.length c, S incl] w fun e w' => ∃ O co, e = .returned (.slice O (wcutS t incl).length co) ∧ St w M w' [Ch.row NdE 48 O co (wcutS t incl)] := by
  have hr := hst.rd 0
  have hcap := hst.cap 0
  have hA := rd_some hr h0
  refine calls_of_Wp (vs := [_, _]) Tryd.func68 ?_
  refine Wp.seq (Wp.reads (is := [0]) (Keep.refl _) (Rn.s rfl Yv.as (Rn.nil)) ?_)
  obtain ⟨F, hF⟩ : ∃ F, F = findS t 0 incl := ⟨_, rfl⟩
  have hfb := findS_bd h0 incl
  have hfc : Cv Tryd.prog 39 [.slice A t.length c, .int .i64 0, S incl] (.int .i64 F) w := by
    rw [hF]
    exact find_cv A c t 0 incl w hr h0 (by omega) (hd 0 h0)
  unfold wcutS
  rw [← hF] at hfb ⊢
  refine Wp.seq (Wp.regionL (l := [0, 1, 2, 3]) (WO.rd (is := [0, 1]) (js := [2, 3]) (Keep.refl _) (Rn.s rfl Yv.mv (Rn.s rfl Yv.mv (Rn.nil))) (WO.cv rfl hfc (Keep.refl _) (FnOk.of Tryd.func39) (fun wx1 kx1 => WO.rd (is := [3]) (js := []) ((Keep.refl _).trans kx1) (Rn.s rfl Yv.as (Rn.nil)) (WO.done ?_)))))
  have hst := hst.quiet kx1
  refine Wp.seq (Wp.seq (Wp.reads (is := [0, 1]) (Keep.refl _) (Rn.s rfl Yv.mv (Rn.s rfl (Yv.cmp _ rfl) (Rn.nil))) ?_))
  refine Wp.cond rfl (fun h => ?_) (fun h => ?_)
  · have h := of_decide_eq_true h
    refine Wp.seq (Wp.reads (is := [0, 1]) (Keep.refl _) (Rn.s rfl Yv.mv (Rn.s rfl Yv.as (Rn.nil))) ?_)
    refine Wp.ret (Fin.ret (Res.one rfl rfl) ?_)
    rw [if_pos h]
    exact ⟨A, c, rfl, hst⟩
  have h := of_decide_eq_false h
  obtain ⟨m, hm⟩ : ∃ m : Nat, F = m := ⟨F.toNat, by omega⟩
  have hml : m < t.length := by omega
  rw [hm] at h ⊢
  rw [show ((m : Int)).toNat = m from Int.toNat_natCast m]
  obtain ⟨e1, e2⟩ := endS_bd hml
  refine Wp.skip ?_
  refine Wp.seq (Wp.regionL (l := [0, 1, 2, 3, 4, 5, 6, 7, 8, 9, 10, 11]) (WO.act (hc := rfl) (he := Ef.bsl (T := 48) NdE ([] : List Nd) hst (fun b2 w2 k2 hs2 => ?_))))
  have htk : (t.take m).length = (m : Int).toNat := by rw [Int.toNat_natCast]; simp; omega
  refine WO.rd (is := [1, 2, 3]) (js := [4, 5, 6, 7, 8, 9, 10, 11]) (Keep.refl _) (Rn.s rfl Yv.mv (Rn.s rfl Yv.mv (Rn.s rfl (Yv.sl_t (n := 8) (e := 48) (k := (t.take m).length) (by omega) (by omega) htk) (Rn.nil)))) (WO.act (hc := rfl) (he := Ef.append (ys := t.take m) hs2 0 (rd_take (hs2.rd 1)) (fun h => (hA h).elim) (fitN (by simp; omega)) ?_))
  intro O1 c1 w3 hs3
  have hs3 : St w M w3 [Ch.row NdE 48 O1 c1 (t.take m), Ch.row NdE 48 A c t] := hs3
  refine WO.rd (is := [5, 6, 7]) (js := [8, 9, 10, 11]) (Keep.refl _) (Rn.s rfl Yv.mv (Rn.s rfl Yv.mv (Rn.s rfl Yv.mv (Rn.nil)))) (WO.cv rfl (end_cv' A c t m w3 (hs3.rd 1) hml (by omega)) (Keep.refl _) (FnOk.of Tryd.func46) (fun w4 k4 => ?_))
  have hs4 := hs3.quiet k4
  have htd : (t.drop (endS t m)).length = t.length - (endS t m : Int).toNat := by rw [Int.toNat_natCast]; simp
  refine WO.rd (is := [9]) (js := [10, 11]) (Keep.refl _) (Rn.s rfl (Yv.sl_f (n := 8) (e := 48) (k := (t.drop (endS t m)).length) (by omega) (by omega) htd) (Rn.nil)) (WO.act (hc := rfl) (he := Ef.append (ys := t.drop (endS t m)) hs4 0 (rd_drop (hs4.rd 1) hcap) (cut_none (t := t) hA) (fitN (by simp; omega)) ?_))
  intro O2 c2 w5 hs5
  refine WO.rd (is := [11]) (js := []) (Keep.refl _) (Rn.s rfl Yv.as (Rn.nil)) (WO.done ?_)
  refine Wp.ret (Fin.ret (Res.one rfl rfl) ?_)
  rw [if_neg h]
  exact ⟨O2, c2, rfl, hs5.pick [0]⟩
/-! ### is a text in a list of texts? -/
theorem zs_getD (l : List Bs) (j : Nat) (h : j < l.length) : (l.map fun s : Bs => (⟨⟨s⟩⟩ : ByteArray)).getD j ByteArray.empty = ⟨⟨l[j]⟩⟩ := by
  rw [List.getD_eq_getElem?_getD, List.getElem?_map, List.getElem?_eq_getElem h]; rfl
theorem zs_inj {x y : Bs} (h : (⟨⟨x⟩⟩ : ByteArray) = ⟨⟨y⟩⟩) : x = y := by
  injection h with h
  injection h
theorem contains_cv (A : Option Addr) (c : Nat) (l : List Bs) (x : Bs) (w0 : World) (hr : Rd StE w0 A l) (hl : l.length ≤ 1000000) : Cv Tryd.prog 92 [.slice A l.length c, S x] (.bool (decide (x ∈ l))) w0 := by
  intro w hk
  have hr := hr.keep hk
  cases l with
  | nil =>
    refine Calls.mono (Tryd.slices_Contains_string_empty A c ⟨⟨x⟩⟩ w) ?_
    rintro e w' ⟨rfl, rfl⟩
    exact ⟨by simp, Keep.refl _⟩
  | cons y l =>
    have ha := hr.adr (by simp)
    rw [ha]
    refine Calls.mono (Tryd.slices_Contains_string (pb A) (pq A) (y :: l).length c ((y :: l).map fun s : Bs => (⟨⟨s⟩⟩ : ByteArray)) ⟨⟨x⟩⟩ w (by simp) (by omega) ?_) ?_
    · intro j hj
      simp only [List.length_map] at hj
      rw [zs_getD _ j hj]
      have := hr.cell j _ (List.getElem?_eq_getElem hj) 0 (S (y :: l)[j]) rfl
      simpa [S_def] using this
    · rintro e w' ⟨rfl, rfl⟩
      refine ⟨?_, Keep.refl _⟩
      have e1 : Lib.containsS (((y :: l).map fun s : Bs => (⟨⟨s⟩⟩ : ByteArray)).take (y :: l).length) ⟨⟨x⟩⟩ = decide (x ∈ y :: l) := by
        rw [List.take_of_length_le (by simp)]
        rw [Bool.eq_iff_iff, Lib.containsS_iff, decide_eq_true_eq, List.mem_map]
        constructor
        · rintro ⟨s, h1, h2⟩
          rw [← zs_inj h2]; exact h1
        · intro h; exact ⟨x, h, rfl⟩
      rw [e1]
theorem index_cv (A : Option Addr) (c : Nat) (l : List Bs) (x : Bs) (hx : x ∈ l) (w0 : World) (hr : Rd StE w0 A l) (hl : l.length ≤ 1000000) : Cv Tryd.prog 93 [.slice A l.length c, S x] (.int .i64 (idxS l x : Nat)) w0 := by
  intro w hk
  have hr := hr.keep hk
  have h0 : 0 < l.length := List.length_pos_of_mem hx
  have ha := hr.adr h0
  rw [ha]
  refine Calls.mono (Tryd.slices_Index_string (pb A) (pq A) l.length c (l.map fun s : Bs => (⟨⟨s⟩⟩ : ByteArray)) ⟨⟨x⟩⟩ w (by simp) (by omega) ?_) ?_
  · intro j hj
    simp only [List.length_map] at hj
    rw [zs_getD _ j hj]
    have := hr.cell j _ (List.getElem?_eq_getElem hj) 0 (S l[j]) rfl
    simpa [S_def] using this
  · rintro e w' ⟨rfl, rfl⟩
    refine ⟨?_, Keep.refl _⟩
    have hi : l.idxOf x < l.length := List.idxOf_lt_length_of_mem hx
    have e1 : Lib.idxOfS ((l.map fun s : Bs => (⟨⟨s⟩⟩ : ByteArray)).take l.length) ⟨⟨x⟩⟩ = ((0 + l.idxOf x : Nat) : Int) := by
      rw [List.take_of_length_le (by simp)]
      refine Lib.idxFromS_hit _ _ (l.idxOf x) 0 (by simpa using hi) ?_ ?_
      · rw [zs_getD _ _ hi, List.getElem_idxOf]
      · intro j hj
        rw [zs_getD _ j (by omega)]
        intro q
        have h1 := zs_inj q
        have h2 : (l[j] == x) = false := List.not_of_lt_findIdx hj
        rw [h1] at h2
        simp at h2
    rw [e1, Nat.zero_add]
    rfl
end Go.Proofs.YtgjhbapbomdpbaaDoor.C
