/- Templates under jobs: a template, and its node: walked. -/
import Derived.Test.YtgjhbapbomdpbaaDoorJA
set_option linter.unusedVariables false
set_option linter.unusedSimpArgs false
set_option maxRecDepth 10000
namespace Go.Proofs.YtgjhbapbomdpbaaDoor.C
open Go.RowKit Go.Proofs.YtgjhbapbomdpbaaDoor.Sh
theorem alook_map {κ β γ : Type} [DecidableEq κ] (g : β → γ) (k : κ) : ∀ (l : List (κ × β)), alook k (l.map (fun p => (p.1, g p.2))) = (alook k l).map g
  | [] => rfl
  | (a, u) :: l => by
    simp only [List.map_cons, alook]
    split
    · rfl
    · exact alook_map g k l
theorem aput_map {κ β γ : Type} [DecidableEq κ] (g : β → γ) (k : κ) (v : β) : ∀ (l : List (κ × β)), (aput k v l).map (fun p => (p.1, g p.2)) = aput k (g v) (l.map (fun p => (p.1, g p.2)))
  | [] => rfl
  | (a, u) :: l => by
    simp only [List.map_cons, aput]
    split
    · rfl
    · simp only [List.map_cons, aput_map g k v l]
theorem aput_mem {κ β : Type} [DecidableEq κ] {k : κ} {v : β} : ∀ {l : List (κ × β)} {p : κ × β}, p ∈ aput k v l → p = (k, v) ∨ p ∈ l
  | [], p, h => by simp [aput] at h; exact .inl h
  | (a, u) :: l, p, h => by
    rw [aput] at h
    split at h
    · rcases List.mem_cons.1 h with h | h
      · exact .inl h
      · exact .inr (List.mem_cons_of_mem _ h)
    · rcases List.mem_cons.1 h with h | h
      · exact .inr (by rw [h]; exact List.mem_cons_self ..)
      · rcases aput_mem h with h | h
        · exact .inl h
        · exact .inr (List.mem_cons_of_mem _ h)
theorem alook_mem {κ β : Type} [DecidableEq κ] {k : κ} {v : β} : ∀ {l : List (κ × β)}, alook k l = some v → (k, v) ∈ l
  | [], h => by cases h
  | (a, u) :: l, h => by
    unfold alook at h
    split at h
    · rename_i q
      injection h with h
      rw [← q, ← h]
      exact List.mem_cons_self ..
    · exact List.mem_cons_of_mem _ (alook_mem h)
section
variable (b : Nat) (A : Option Addr) (c : Nat) (t : List Nd) (T : Int) (md mu : Nat) (w0 : World)
def NdAt (f : Nat) : Prop :=
  ∀ (s : VS) (rows : List Tr) (i : Nat) (w : World) (D : List Chunk), i < t.length → UI t T s.under → 16386 ≤ s.under.length + f → DOk rows s →
    St w0 [] w (ChM b A t.length c T md mu s ++ (trows rows ++ D)) →
    Calls Tryd.prog 89 #[PB b, .int .i64 i] w fun e w' => ∃ (x : Mv) (s' : VS) (more : List Tr), e = .returned (VM x) ∧ x.md = (nodeF t T f s.ms i).2 ∧ s'.ms = (nodeF t T f s.ms i).1 ∧ DOk (rows ++ more) s' ∧ XOk (rows ++ more) x ∧
      St w0 [] w' (ChM b A t.length c T md mu s' ++ (trows (rows ++ more) ++ D))
end
set_option maxHeartbeats 1600000 in
theorem node_at (b : Nat) (A : Option Addr) (c : Nat) (t : List Nd) (T : Int) (md mu : Nat) (w0 : World) (f : Nat) (hr0 : Rd NdE w0 A t) (hWh : WhAt b A c t T md mu w0 f) : NdAt b A c t T md mu w0 (f + 1) := by
  intro s rows i w D hi hu hf hdo hst
  refine calls_of_Wp (vs := [_, _]) Tryd.func89 ?_
  refine Wp.seq (Wp.regionL (l := [0]) (WO.act (hc := rfl) (he := Ef.allocL (vs := (mvcs mv0)) hst (fun ba1 wa1 ka1 hsa1 => WO.done ?_))))
  have hc := hsa1.cells 1
  have hr := hr0.keep hsa1.keep
  rw [nodeF]
  refine Wp.seq (Wp.seq (Wp.reads (is := [0, 1, 2, 3, 4, 5, 6, 7, 8]) (Keep.refl _) (Rn.s rfl Yv.mv (Rn.s rfl Yv.nc (Rn.s rfl (Yv.fa (off := 0)) (Rn.s rfl (Yv.ld (hc.at_ 0)) (Rn.s rfl Yv.mv (Rn.s rfl (Yv.ia (e := 48) hr (by omega) (by omega)) (Rn.s rfl (Yv.fa (off := 0)) (Rn.s rfl (Yv.ld (hr.ld 0 (by omega) (by omega))) (Rn.s rfl (Yv.cmp _ rfl) (Rn.nil)))))))))) ?_))
  refine Wp.cond rfl (fun h => ?_) (fun h => ?_)
  · have h : (nth t (i : Int)).kind ≠ 1 := bne_iff_ne.1 h
    rw [if_pos h]
    refine Wp.seq (Wp.regionL (l := [0, 1, 2, 3, 4, 5, 6, 7, 8, 9]) (WO.rd (is := [0, 1, 2, 3, 4, 5, 6]) (js := [7, 8, 9]) (Keep.refl _) (Rn.s rfl Yv.mv (Rn.s rfl Yv.nc (Rn.s rfl (Yv.fa (off := 0)) (Rn.s rfl (Yv.ld (hc.at_ 0)) (Rn.s rfl Yv.mv (Rn.s rfl (Yv.ia (e := 48) hr (by omega) (by omega)) (Rn.s rfl (Yv.ldel hr rfl rfl (by omega) (by omega)) (Rn.nil)))))))) (WO.cv rfl (place_cv 90 (nth t (i : Int)) _) (Keep.refl _) (FnOk.of Tryd.func40) (fun wx1 kx1 => WO.rd (is := [8]) (js := [9]) ((Keep.refl _).trans kx1) (Rn.s rfl (Yv.bd (cs := mvcs (mvF (placeS 90 (nth t (i : Int)))))) (Rn.nil)) (WO.act (hc := rfl) (he := Ef.stores (hsa1.quiet kx1) 0 (fun wx2 hsx2 => WO.done ?_)))))))
    refine Wp.ret (Fin.ret (resCA rfl rfl (hsx2.cells 0)) ⟨mvF (placeS 90 (nth t (i : Int))), s, [], rfl, rfl, rfl, ?_, ⟨fun q => (by cases q), Int.le_refl 0, (by show (0 : Int) ≤ 1000000; decide)⟩, ?_⟩)
    · rw [List.append_nil]; exact hdo
    · rw [List.append_nil]
      exact hsx2.pickT (P := [_, _, _, _]) (T := trows rows ++ D) [1, 2, 3]
  have h : ¬ (nth t (i : Int)).kind ≠ 1 := fun q => q (bne_eq_false_iff_eq.1 h)
  rw [if_neg h]
  refine Wp.skip (Wp.seq (Wp.regionL (l := [0, 1, 2, 3, 4, 5, 6, 7]) (WO.rd (is := [0, 1, 2, 3, 4, 5]) (js := [6, 7]) (Keep.refl _) (Rn.s rfl Yv.mv (Rn.s rfl Yv.nc (Rn.s rfl (Yv.fa (off := 0)) (Rn.s rfl (Yv.ld (hc.at_ 0)) (Rn.s rfl Yv.mv (Rn.s rfl (Yv.bd (cs := bcs A t.length c i)) (Rn.nil))))))) (WO.act (hc := rfl) (he := Ef.allocL (vs := [.slice none 0 0, .int .i64 0]) hsa1 (fun bx1 wx1 kx1 hsx1 => WO.act (hc := rfl) (he := Ef.stores hsx1 0 (fun wx2 hsx2 => WO.done ?_))))))))
  have hst : St w0 [] wx2 ([Ch.row TsE 43 none 0 [], Ch.cells bx1 91 (bcs A t.length c i), Ch.cells ba1 98 (mvcs mv0)] ++ (ChM b A t.length c T md mu s ++ (trows rows ++ D))) := hsx2.nilrow TsE _
  clear hsx1 hsx2 hsa1 hc
  have c5 := hst.cells 1
  have hsw := hst.perm (permM (F := [_, _, _]) (X := ChM b A t.length c T md mu s) (Y := trows rows) (D := D))
  have hcall := hWh s rows i 15 none 0 [] wx2 _ hi hu (by omega) hdo (fun x hx => by cases hx) (by simp) (by decide) hsw
  refine Wp.seq (Wp.regionL (l := [0, 1, 2, 3, 4, 5, 6]) (WO.rd (is := [0, 1, 2, 3, 4]) (js := [5, 6]) (Keep.refl _) (Rn.s rfl Yv.mv (Rn.s rfl (Yv.ldb c5) (Rn.s rfl Yv.mf1 (Rn.s rfl (Yv.ldb c5) (Rn.s rfl Yv.mf1 (Rn.nil)))))) (WO.act (hc := rfl) (he := Ef.callv Tryd.func43 (Calls.mono hcall ?_)))))
  rintro e w5 ⟨x, s', more, rfl, q1, q2, q3, q4, hs5⟩
  have hs5 := hs5.perm (permM (F := [Ch.cells bx1 91 (bcs A t.length c i), Ch.cells ba1 98 (mvcs mv0)]) (X := ChM b A t.length c T md mu s') (Y := trows (rows ++ more)) (D := D)).symm
  refine WO.act (he := Ef.stores hs5 1 (fun w6 hs6 => WO.done ?_))
  refine Wp.ret (Fin.ret (resCA rfl rfl (hs6.cells 0)) ⟨x, s', more, rfl, q1, q2, q3, q4, ?_⟩)
  exact hs6.pickT (P := [_, _, _, _, _]) (T := trows (rows ++ more) ++ D) [2, 3, 4]
set_option maxHeartbeats 3200000 in
theorem template_at (b : Nat) (A : Option Addr) (c : Nat) (t : List Nd) (T : Int) (md mu : Nat) (w0 : World) (f : Nat) (hr0 : Rd NdE w0 A t) (hl : t.length ≤ 16384) (hT : T < t.length) (hd : DepOk t) (hN : NdAt b A c t T md mu w0 f) : TmAt b A c t T md mu w0 f := by
  intro s rows n w D hu hf hdo hst
  refine calls_of_Wp (vs := [_, _]) Tryd.func62 ?_
  refine Wp.seq (Wp.regionL (l := [0, 1]) (WO.act (hc := rfl) (he := Ef.boxL (n.cs) hst (fun ba1 wa1 ka1 hsa1 => WO.act (hc := rfl) (he := Ef.allocL (vs := [.slice none 0 0, .int .i64 0, .int .i64 0, S [], .int .i64 0, .int .i64 0]) hsa1 (fun ba2 wa2 ka2 hsa2 => WO.done ?_))))))
  have hst : St w0 [] wa2 ([Ch.cells ba2 98 (mvcs mv0), Ch.cells ba1 48 n.cs] ++ (ChM b A t.length c T md mu s ++ (trows rows ++ D))) := hsa2
  clear hsa1 hsa2
  have c3 := hst.cells 1
  have hc := hst.cells 2
  refine Wp.seq (Wp.reads (is := [0]) (Keep.refl _) (Rn.s rfl Yv.as (Rn.nil)) ?_)
  obtain ⟨m, hm⟩ : ∃ m, m = tmAt t T n.text := ⟨_, rfl⟩
  have hmb : m < t.length := by
    rw [hm]
    unfold tmAt
    split
    · have := findS_bd (t := t) (i := T.toNat) (by omega) n.text; omega
    · omega
  refine Wp.seq (Wp.mid (fun ρ ds w' => ds = [] ∧ St w0 [] w' ([Ch.cells ba2 98 (mvcs mv0), Ch.cells ba1 48 n.cs] ++ (ChM b A t.length c T md mu s ++ (trows rows ++ D))) ∧ Sub [(0, PB b), (3, PB ba1), (4, PB ba2), (5, .int .i64 m)] ρ) ?_ ?_)
  · refine Wp.seq (Wp.reads (is := [0, 1, 2, 3, 4]) (Keep.refl _) (Rn.s rfl Yv.mv (Rn.s rfl Yv.nc (Rn.s rfl (Yv.fa (off := 1)) (Rn.s rfl (Yv.ld (hc.at_ 1)) (Rn.s rfl (Yv.cmp _ rfl) (Rn.nil)))))) ?_)
    refine Wp.cond rfl (fun h => ?_) (fun h => ?_)
    · have h := of_decide_eq_true h
      obtain ⟨k, hk⟩ : ∃ k : Nat, T = k := ⟨T.toNat, by omega⟩
      have em : m = findS t k n.text := by rw [hm]; unfold tmAt; rw [if_pos h, hk, Int.toNat_natCast]
      have hfc := find_cv A c t k n.text wa2 (hr0.keep hst.keep) (by omega) (by omega) (hd k (by omega))
      rw [← em, ← hk] at hfc
      refine Wp.draws [] mixed (WD.rd (is := [0, 1, 2, 3, 4, 5, 6, 7, 8, 9]) (fun _ _ _ _ _ h => h) (Keep.drew _) (Rn.s rfl Yv.mv (Rn.s rfl Yv.nc (Rn.s rfl (Yv.fa (off := 0)) (Rn.s rfl (Yv.ld (hc.at_ 0)) (Rn.s rfl Yv.mv (Rn.s rfl Yv.nc (Rn.s rfl (Yv.fa (off := 1)) (Rn.s rfl (Yv.ld (hc.at_ 1)) (Rn.s rfl (Yv.fa (off := 3)) (Rn.s rfl (Yv.ld (c3.at_ 3)) (Rn.nil))))))))))) (WD.cv 10 rfl hfc (Keep.drew _) (FnOk.of Tryd.func39) (fun wx1 kx1 => WD.rd (is := [11]) (fun _ _ _ _ _ h => h) ((Keep.drew _).trans kx1) (Rn.s rfl Yv.as (Rn.nil)) (WD.done ?_))))
      exact ⟨rfl, hst.quiet ((Keep.drew _).trans kx1), rfl, rfl, rfl, rfl, trivial⟩
    · have h := of_decide_eq_false h
      have em : m = -1 := by rw [hm]; unfold tmAt; rw [if_neg h]
      rw [em]
      exact Wp.skip ⟨rfl, hst, rfl, rfl, rfl, rfl, trivial⟩
  clear hst c3 hc
  rintro ρ ds w1 ⟨rfl, hst, hsub⟩
  refine Wp.forget _ ?_ hsub
  clear hsub ρ
  have c3 := hst.cells 1
  have hc := hst.cells 2
  refine Wp.seq (Wp.block ?_)
  unfold tmplS
  rw [← hm]
  refine Wp.seq (Wp.reads (is := [0, 1, 2]) (Keep.refl _) (Rn.s rfl Yv.mv (Rn.s rfl (Yv.cmp _ rfl) (Rn.s rfl Yv.as (Rn.nil)))) ?_)
  refine Wp.cond rfl (fun h => ?_) (fun h => ?_)
  · have h := of_decide_eq_true h
    rw [if_pos h]
    refine Wp.seq (Wp.regionL (l := [0, 1, 2, 3]) (WO.rd (is := [0]) (js := [1, 2, 3]) (Keep.refl _) (Rn.s rfl (Yv.ldb c3) (Rn.nil)) (WO.cv rfl (place_cv 91 n _) (Keep.refl _) (FnOk.of Tryd.func40) (fun wx1 kx1 => WO.rd (is := [2]) (js := [3]) ((Keep.refl _).trans kx1) (Rn.s rfl (Yv.bd (cs := mvcs (mvF (placeS 91 n)))) (Rn.nil)) (WO.act (hc := rfl) (he := Ef.stores (hst.quiet kx1) 0 (fun wx2 hsx2 => WO.done ?_)))))))
    refine Wp.ret (Fin.ret (resCA rfl rfl (hsx2.cells 0)) ⟨mvF (placeS 91 n), s, [], rfl, rfl, rfl, ?_, ⟨fun q => (by cases q), Int.le_refl 0, (by show (0 : Int) ≤ 1000000; decide)⟩, ?_⟩)
    · rw [List.append_nil]; exact hdo
    · rw [List.append_nil]
      exact hsx2.pickT (P := [_, _, _, _, _]) (T := trows rows ++ D) [2, 3, 4]
  have h := of_decide_eq_false h
  rw [if_neg h]
  refine Wp.seq (Wp.draws [] mixed (WD.rd (is := [0, 1, 2, 3, 4, 5, 6, 7, 8]) (fun _ _ _ _ _ h => h) (Keep.drew _) (Rn.s rfl Yv.mv (Rn.s rfl Yv.nc (Rn.s rfl (Yv.fa (off := 3)) (Rn.s rfl (Yv.ld (hc.at_ 3)) (Rn.s rfl (Yv.fa (off := 3)) (Rn.s rfl (Yv.ld (c3.at_ 3)) (Rn.s rfl (Yv.look (hst.at_ 4 rfl) 0) (Rn.s rfl (Yv.cmp _ rfl) (Rn.s rfl Yv.as (Rn.nil)))))))))) (WD.done ?_)))
  have hst := hst.quiet (Keep.drew _)
  have c3 := hst.cells 1
  have hc := hst.cells 2
  refine Wp.cond rfl (fun h2 => ?_) (fun h2 => ?_)
  · have h2 : 0 < (alook n.text s.under).getD 0 := of_decide_eq_true h2
    rw [if_pos (show 0 < (alook n.text s.ms.under).getD 0 from h2)]
    refine Wp.seq (Wp.regionL (l := [0, 1, 2, 3]) (WO.rd (is := [0]) (js := [1, 2, 3]) (Keep.refl _) (Rn.s rfl (Yv.ldb c3) (Rn.nil)) (WO.cv rfl (place_cv 92 n _) (Keep.refl _) (FnOk.of Tryd.func40) (fun wx1 kx1 => WO.rd (is := [2]) (js := [3]) ((Keep.refl _).trans kx1) (Rn.s rfl (Yv.bd (cs := mvcs (mvF (placeS 92 n)))) (Rn.nil)) (WO.act (hc := rfl) (he := Ef.stores (hst.quiet kx1) 0 (fun wx2 hsx2 => WO.done ?_)))))))
    refine Wp.ret (Fin.ret (resCA rfl rfl (hsx2.cells 0)) ⟨mvF (placeS 92 n), s, [], rfl, rfl, rfl, ?_, ⟨fun q => (by cases q), Int.le_refl 0, (by show (0 : Int) ≤ 1000000; decide)⟩, ?_⟩)
    · rw [List.append_nil]; exact hdo
    · rw [List.append_nil]
      exact hsx2.pickT (P := [_, _, _, _, _]) (T := trows rows ++ D) [2, 3, 4]
  have h2 : ¬ 0 < (alook n.text s.under).getD 0 := of_decide_eq_false h2
  rw [if_neg (show ¬ 0 < (alook n.text s.ms.under).getD 0 from h2)]
  have elook : alook n.text s.ms.done = (alook n.text s.done).map Mv.md := alook_map Mv.md n.text s.done
  rw [elook]
  refine Wp.skip (Wp.seq (Wp.seq (Wp.draws [11] mixed (WD.rd (is := [0, 1, 2, 3, 4, 5, 6, 7, 8, 9]) (fun _ _ _ _ _ h => h) (Keep.drew _) (Rn.s rfl Yv.mv (Rn.s rfl Yv.nc (Rn.s rfl (Yv.fa (off := 2)) (Rn.s rfl (Yv.ld (hc.at_ 2)) (Rn.s rfl (Yv.fa (off := 3)) (Rn.s rfl (Yv.ld (c3.at_ 3)) (Rn.s rfl (Yv.look2 (hst.at_ 3 rfl) mv0) (Rn.s rfl Yv.mv (Rn.s rfl Yv.ex (Rn.s rfl Yv.ex (Rn.nil))))))))))) (WD.act 10 (hc := rfl) (he := Ef.allocL (vs := [.slice none 0 0, .int .i64 0, .int .i64 0, S [], .int .i64 0, .int .i64 0]) (hst.quiet (Keep.drew _)) (fun bx1 wx1 kx1 hsx1 => ⟨fun _ => kx1, WD.act 11 (hc := rfl) (he := Ef.stores hsx1 0 (fun wx2 hsx2 => ⟨fun hn => (hn (by decide)).elim, WD.rd (is := [12]) (fun _ _ _ _ _ h => h) (Keep.refl _) (Rn.s rfl Yv.as (Rn.nil)) (WD.done ?_)⟩))⟩)))))))
  refine Wp.seq (Wp.reads (is := [0]) (Keep.refl _) (Rn.s rfl Yv.mv (Rn.nil)) ?_)
  cases hdn : alook n.text s.done with
  | some x =>
    have hx := hdo _ (alook_mem hdn)
    rw [hdn] at hsx2
    have c6 := hsx2.cells 0
    have c6 : Cells wx2 bx1 (mvcs x) := c6
    refine Wp.cond_t rfl ?_
    refine Wp.seq (Wp.regionL (l := [0, 1]) (WO.rd (is := [0]) (js := [1]) (Keep.refl _) (Rn.s rfl (Yv.ldb c6) (Rn.nil)) (WO.act (hc := rfl) (he := Ef.stores hsx2 1 (fun wy1 hsy1 => WO.done ?_)))))
    refine Wp.ret (Fin.ret (resCA rfl rfl (hsy1.cells 0)) ⟨x, s, [], rfl, ?_, ?_, ?_, hx.more [], ?_⟩)
    · rfl
    · rfl
    · rw [List.append_nil]; exact hdo
    · rw [List.append_nil]
      exact hsy1.pickT (P := [_, _, _, _, _, _]) (T := trows rows ++ D) [3, 4, 5]
  | none =>
    rw [if_neg (show ¬ (Option.map Mv.md (none : Option Mv)).isSome = true from fun q => by cases q)]
    rw [hdn] at hsx2
    have hst : St w0 [] wx2 ([Ch.cells ba2 98 (mvcs mv0), Ch.cells ba1 48 n.cs] ++ (ChM b A t.length c T md mu s ++ (trows rows ++ D))) :=
      hsx2.pickT (P := [_, _, _, _, _, _]) (T := trows rows ++ D) [1, 2, 3, 4, 5]
    clear hsx1 hsx2 c3 hc
    have c3 := hst.cells 1
    have hc := hst.cells 2
    have hm0 : 0 ≤ tmAt t T n.text := by rw [← hm]; omega
    have hpu := hu.push h2 hm0
    have hd0 : (alook n.text s.under).getD 0 = 0 := by rw [hpu.1]; rfl
    refine Wp.cond_f rfl (Wp.skip ?_)
    have hdq := hst.quiet (Keep.drew wx2)
    refine Wp.seq (Wp.drawsB [8] mixed (WDB.rd (is := [0, 1, 2, 3, 4, 5]) (fun _ _ _ _ _ h => h) (Keep.refl _) (Keep.drew _) (Rn.s rfl Yv.mv (Rn.s rfl Yv.nc (Rn.s rfl (Yv.fa (off := 3)) (Rn.s rfl (Yv.ld (hc.at_ 3)) (Rn.s rfl (Yv.fa (off := 3)) (Rn.s rfl (Yv.ld (c3.at_ 3)) (Rn.nil))))))) ?_))
    refine WDB.act 6 (hc := rfl) (he := Ef.yv (Yv.look (hdq.at_ 4 rfl) 0) ⟨fun _ h => h, ?_⟩)
    refine WDB.rd0 (is := [7]) (fun _ _ _ _ _ h => h) (Keep.refl _) (Rn.s rfl (Yv.add (by rw [hd0]; unfold inI; omega)) (Rn.nil)) ?_
    refine WDB.act 8 (hc := rfl) (he := Ef.mapput (v := (alook n.text s.under).getD 0 + 1) hdq 4 ?_)
    intro w4 hs4
    refine ⟨fun h => (h (by simp)).elim, WDB.done ?_⟩
    obtain ⟨s1, hs1⟩ : ∃ s1 : VS, s1 = { s with under := aput n.text ((alook n.text s.under).getD 0 + 1) s.under } := ⟨_, rfl⟩
    have ew : w64 ((alook n.text s.under).getD 0 + 1) = (alook n.text s.under).getD 0 + 1 := by rw [hd0]; decide
    have eu : s1.ms = underS s.ms n.text := by
      rw [hs1]
      show MS.mk _ _ = MS.mk _ (aput n.text (w64 ((alook n.text s.under).getD 0 + 1)) s.under)
      rw [ew]
      rfl
    have hu1 : UI t T s1.under := by rw [hs1]; have := hpu.2; rw [ew] at this; exact this
    have hlen1 : s1.under.length = s.under.length + 1 := by rw [hs1]; show (aput _ _ s.under).length = _; rw [aput_new hpu.1]; simp
    have hst : St w0 [] w4 ([Ch.cells ba2 98 (mvcs mv0), Ch.cells ba1 48 n.cs] ++ (ChM b A t.length c T md mu s1 ++ (trows rows ++ D))) := by
      rw [hs1]
      exact hs4.pickT (P := [_, _, _, _, _]) (T := trows rows ++ D) [1, 2, 3, 4, 0]
    clear hs4 hdq
    have hdo1 : DOk rows s1 := by rw [hs1]; exact hdo
    have hsw := hst.perm (permM (F := [_, _]) (X := ChM b A t.length c T md mu s1) (Y := trows rows) (D := D))
    obtain ⟨k, hk⟩ : ∃ k : Nat, m = k := ⟨m.toNat, by omega⟩
    have hcall := hN s1 rows k w4 _ (by omega) hu1 (by omega) hdo1 hsw
    rw [hk, Int.toNat_natCast]
    refine Wp.seq (Wp.regionL (l := [0, 1, 2, 3, 4]) (WO.rd (is := [0, 1]) (js := [2, 3, 4]) (Keep.refl _) (Rn.s rfl Yv.mv (Rn.s rfl Yv.mv (Rn.nil))) (WO.act (hc := rfl) (he := Ef.callv Tryd.func89 (Calls.mono hcall ?_)))))
    rintro e w5 ⟨x, s2, more, rfl, q1, q2, q3, q4, hs5⟩
    have hs5 := hs5.perm (permM (F := [Ch.cells ba2 98 (mvcs mv0), Ch.cells ba1 48 n.cs]) (X := ChM b A t.length c T md mu s2) (Y := trows (rows ++ more)) (D := D)).symm
    refine WO.act (he := Ef.allocL (vs := mvcs mv0) hs5 (fun b8 w6 k6 hs6 => WO.act (he := Ef.stores hs6 0 (fun w7 hs7 => WO.done ?_))))
    have hst : St w0 [] w7 ([Ch.cells b8 98 (mvcs x), Ch.cells ba2 98 (mvcs mv0), Ch.cells ba1 48 n.cs] ++ (ChM b A t.length c T md mu s2 ++ (trows (rows ++ more) ++ D))) := hs7
    clear hs5 hs6 hs7 hsw hcall c3 hc
    rw [← eu, ← q1, ← q2]
    have c3 := hst.cells 2
    have hc := hst.cells 3
    refine Wp.seq (Wp.drawsB [6] mixed (WDB.rd (is := [0, 1, 2, 3, 4, 5]) (fun _ _ _ _ _ h => h) (Keep.refl _) (Keep.drew _) (Rn.s rfl Yv.mv (Rn.s rfl Yv.nc (Rn.s rfl (Yv.fa (off := 3)) (Rn.s rfl (Yv.ld (hc.at_ 3)) (Rn.s rfl (Yv.fa (off := 3)) (Rn.s rfl (Yv.ld (c3.at_ 3)) (Rn.nil))))))) ?_))
    refine WDB.act 6 (hc := rfl) (he := Ef.mapdel (key := n.text) (hst.quiet (Keep.drew w7)) 5 ?_)
    intro w8 hs8
    refine ⟨fun h => (h (by simp)).elim, WDB.done ?_⟩
    obtain ⟨s3, hs3⟩ : ∃ s3 : VS, s3 = { s2 with under := adel n.text s2.under } := ⟨_, rfl⟩
    have hst : St w0 [] w8 ([Ch.cells b8 98 (mvcs x), Ch.cells ba2 98 (mvcs mv0), Ch.cells ba1 48 n.cs] ++ (ChM b A t.length c T md mu s3 ++ (trows (rows ++ more) ++ D))) := by
      rw [hs3]
      exact hs8.pickT (P := [_, _, _, _, _, _]) (T := trows (rows ++ more) ++ D) [1, 2, 3, 4, 5, 0]
    clear hs8 c3 hc
    have c8 := hst.cells 0
    have c3 := hst.cells 2
    have hc := hst.cells 3
    refine Wp.seq (Wp.draws [7] mixed (WD.rd (is := [0, 1, 2, 3, 4, 5, 6]) (fun _ _ _ _ _ h => h) (Keep.drew _) (Rn.s rfl Yv.mv (Rn.s rfl Yv.nc (Rn.s rfl (Yv.fa (off := 2)) (Rn.s rfl (Yv.ld (hc.at_ 2)) (Rn.s rfl (Yv.fa (off := 3)) (Rn.s rfl (Yv.ld (c3.at_ 3)) (Rn.s rfl (Yv.ldb c8) (Rn.nil)))))))) ?_))
    refine WD.act 7 (hc := rfl) (he := Ef.mapput (v := x) (hst.quiet (Keep.drew _)) 4 ?_)
    intro w9 hs9
    refine ⟨fun h => (h (by simp)).elim, WD.done ?_⟩
    obtain ⟨s4, hs4⟩ : ∃ s4 : VS, s4 = { s3 with done := aput n.text x s3.done } := ⟨_, rfl⟩
    have hst : St w0 [] w9 ([Ch.cells b8 98 (mvcs x), Ch.cells ba2 98 (mvcs mv0), Ch.cells ba1 48 n.cs] ++ (ChM b A t.length c T md mu s4 ++ (trows (rows ++ more) ++ D))) := by
      rw [hs4]
      exact hs9.pickT (P := [_, _, _, _, _, _]) (T := trows (rows ++ more) ++ D) [1, 2, 3, 4, 0, 5]
    clear hs9 c8 c3 hc
    have c8 := hst.cells 0
    refine Wp.seq (Wp.regionL (l := [0, 1]) (WO.rd (is := [0]) (js := [1]) (Keep.refl _) (Rn.s rfl (Yv.ldb c8) (Rn.nil)) (WO.act (hc := rfl) (he := Ef.stores hst 1 (fun wz1 hsz1 => WO.done ?_)))))
    have e4 : s4.ms = doneM s2.ms n.text x.md := by
      rw [hs4, hs3]
      show MS.mk ((aput n.text x s2.done).map (fun p => (p.1, p.2.md))) _ = MS.mk (aput n.text x.md (s2.done.map (fun p => (p.1, p.2.md)))) _
      rw [aput_map]
      rfl
    refine Wp.ret (Fin.ret (resCA rfl rfl (hsz1.cells 0)) ⟨x, s4, more, rfl, rfl, e4, ?_, q4, ?_⟩)
    · intro p hp
      rw [hs4] at hp
      rcases aput_mem hp with hp | hp
      · rw [hp]; exact q4
      · rw [hs3] at hp; exact q3 p hp
    · exact hsz1.pickT (P := [_, _, _, _, _, _]) (T := trows (rows ++ more) ++ D) [3, 4, 5]
theorem nodeAll (b : Nat) (A : Option Addr) (c : Nat) (t : List Nd) (T : Int) (md mu : Nat) (w0 : World) (hr0 : Rd NdE w0 A t) (hcap : t.length ≤ c) (hl : t.length ≤ 16384) (hT : T < t.length) (hd : DepOk t) : ∀ f, NdAt b A c t T md mu w0 f
  | 0 => fun s rows i w D hi hu hf hdo hst => by have := hu.len hT hl; omega
  | f + 1 => node_at b A c t T md mu w0 f hr0 (whole_at b A c t T md mu w0 f hr0 hcap hl hT hd (template_at b A c t T md mu w0 f hr0 hl hT hd (nodeAll b A c t T md mu w0 hr0 hcap hl hT hd f)))
end Go.Proofs.YtgjhbapbomdpbaaDoor.C
/- Templates under jobs: the sections of a description, and what a job comes to: walked. -/
set_option linter.unusedVariables false
set_option linter.unusedSimpArgs false
set_option maxRecDepth 10000
namespace Go.Proofs.YtgjhbapbomdpbaaDoor.C
open Go.RowKit Go.Proofs.YtgjhbapbomdpbaaDoor.Sh
def keys3 : List Bs := [kDef, kTem, kJob]
def fS (t : List Nd) (j : Nat) : Int := findS t 0 (nth keys3 (j : Int))
def badJ (t : List Nd) (j : Nat) : Prop := 0 ≤ fS t j ∧ (nth t (fS t j)).kind ≠ 1
instance (t : List Nd) (j : Nat) : Decidable (badJ t j) := inferInstanceAs (Decidable (_ ∧ _))
theorem secS_eq (t : List Nd) : secS t = if badJ t 0 then placeS 90 (nth t (fS t 0)) else if badJ t 1 then placeS 90 (nth t (fS t 1)) else if badJ t 2 then placeS 90 (nth t (fS t 2)) else ft0 := rfl
def arr3 (t : List Nd) (k : Nat) : List Value := [.int .i64 (if 0 < k then fS t 0 else 0), .int .i64 (if 1 < k then fS t 1 else 0), .int .i64 (if 2 < k then fS t 2 else 0)]
theorem arr3_set (t : List Nd) {k : Nat} (hk : k < 3) : (arr3 t k).set (0 + (k : Int).toNat * 1) (.int .i64 (fS t k)) = arr3 t (k + 1) := by
  obtain rfl | rfl | rfl : k = 0 ∨ k = 1 ∨ k = 2 := by omega
  all_goals rfl
theorem sec_first {t : List Nd} {k : Nat} (hk : k < 3) (hno : ∀ j, j < k → ¬ badJ t j) (hb : badJ t k) : secS t = placeS 90 (nth t (fS t k)) := by
  rw [secS_eq]
  obtain rfl | rfl | rfl : k = 0 ∨ k = 1 ∨ k = 2 := by omega
  · rw [if_pos hb]
  · rw [if_neg (hno 0 (by omega)), if_pos hb]
  · rw [if_neg (hno 0 (by omega)), if_neg (hno 1 (by omega)), if_pos hb]
theorem sec_none {t : List Nd} (hno : ∀ j, j < 3 → ¬ badJ t j) : secS t = ft0 := by
  rw [secS_eq, if_neg (hno 0 (by omega)), if_neg (hno 1 (by omega)), if_neg (hno 2 (by omega))]
theorem resAA {P : Program} {fn : Func} {N n m : Nat} {ρ : Env} {w : World} {t u b d : Nat} {ty tz : TypeId} {vs us : List Value} (h : fn.results = #[.cell t ty, .cell u tz]) (hp : lk ρ t = some (PB b)) (hq : lk ρ u = some (PB d)) (hc : Cells w b vs) (he : Cells w d us) (hn : vs.length = n := by rfl) (hm : us.length = m := by rfl) (ht : agB P ty n = true := by kernel_rfl) (hz : agB P tz m = true := by kernel_rfl) : Res P fn N ρ w (.tuple #[.agg vs.toArray, .agg us.toArray]) := fun a ds ha => by
  have h1 := ha.val t _ hp
  have h3 := ha.val u _ hq
  have h2 : (loadVar ty ⟨b, 0, none⟩).run P w = .ok (.agg vs.toArray) w := run_loadVar_ag (agB_of ht) ⟨b, 0, none⟩ vs hn (fun j v hj => by rw [add_off, Nat.zero_add]; exact hc j v hj)
  have h4 : (loadVar tz ⟨d, 0, none⟩).run P w = .ok (.agg us.toArray) w := run_loadVar_ag (agB_of hz) ⟨d, 0, none⟩ us hm (fun j v hj => by rw [add_off, Nat.zero_add]; exact he j v hj)
  simp only [results, h]
  simp at h1 h3
  simp [h1, h2, h3, h4, asAddr]
theorem sections_cx (A : Option Addr) (c : Nat) (t : List Nd) (w : World) (hr : Rd NdE w A t) (h0 : 0 < t.length) (hl : t.length ≤ 1000000) (hd : DepOk t) :
    Cx Tryd.prog 38 [.slice A t.length c] [] (fun v D => (∃ k, k ≤ 3 ∧ v = .tuple #[.agg (arr3 t k).toArray, .agg (secS t).cs.toArray] ∧ ((secS t).code = 0 → k = 3)) ∧ D = []) w := by
  refine calls_of_Wp (vs := [_]) Tryd.func38 ?_
  refine Wp.seq (Wp.regionL (l := [0, 1]) (WO.act (hc := rfl) (he := Ef.allocL (vs := (arr3 t 0)) (St.init w) (fun ba1 wa1 ka1 hsa1 => WO.act (hc := rfl) (he := Ef.allocL (vs := [.int .i64 0, S [], .int .i64 0, .int .i64 0]) hsa1 (fun ba2 wa2 ka2 hsa2 => WO.done ?_))))))
  refine Wp.seq (Wp.regionL (l := [0]) (WO.act (hc := rfl) (he := Ef.allocL (vs := (arr3 t 0)) hsa2 (fun bb1 wb1 kb1 hsb1 => WO.done ?_))))
  refine Wp.seq (Wp.seq (Wp.regionL (l := [0, 1, 2]) (WO.act (hc := rfl) (he := Ef.bsl (T := 9) StE keys3 hsb1 (fun bc1 wc1 kc1 hsc1 => WO.rd (is := [1, 2]) (js := []) ((Keep.refl _).trans kc1) (Rn.s rfl (Yv.len_v (e := 9) (m := 1)) (Rn.s rfl Yv.mv (Rn.nil))) (WO.done ?_))))))
  refine Wp.block ?_
  refine Wp.loop (α := Nat) (fun k ρ ds w' => ds = [] ∧ k ≤ 3 ∧ (∀ j, j < k → ¬ badJ t j) ∧ St w [] w' [Ch.cells bb1 86 (arr3 t k), Ch.row StE 9 (some ⟨bc1, 0, none⟩) 3 keys3, Ch.cells ba2 27 ft0.cs, Ch.cells ba1 86 (arr3 t 0)] ∧
    Sub [(0, .slice A t.length c), (2, PB ba1), (3, PB ba2), (4, PB bb1), (8, .slice (some ⟨bc1, 0, none⟩) 3 3), (9, .int .i64 3), (10, .int .i64 (k : Int))] ρ) (fun k => 3 - k) 0
    ⟨rfl, by omega, fun j hj => absurd hj (Nat.not_lt_zero j), hsc1.pick [1, 0, 2, 3], rfl, rfl, rfl, rfl, rfl, rfl, rfl, trivial⟩ ?_
  clear hsa1 hsa2 hsb1 hsc1
  rintro k ρ ds w1 ⟨rfl, hk, hno, hst, hs⟩
  refine Wp.forget _ ?_ hs
  clear hs ρ
  have hkr := hst.rd 1
  have hr1 := hr.keep hst.keep
  refine Wp.seq (Wp.reads (is := [0]) (Keep.refl _) (Rn.s rfl (Yv.cmp _ rfl) (Rn.nil)) ?_)
  refine Wp.seq (Wp.cond rfl (fun h1 => ?_) (fun h1 => ?_))
  · have h1 := of_decide_eq_true h1
    have hk3 : k < 3 := by omega
    refine Wp.skip (Wp.seq (Wp.block ?_))
    refine Wp.seq (Wp.reads (is := [0, 1, 2, 3, 4]) (Keep.refl _) (Rn.s rfl Yv.mv (Rn.s rfl (Yv.ia (e := 9) hkr (by omega) (by show (k : Int) < 3; omega)) (Rn.s rfl (Yv.ld (hkr.ld 0 (by omega) (by show (k : Int) < 3; omega))) (Rn.s rfl Yv.as (Rn.s rfl Yv.as (Rn.nil)))))) ?_)
    have hfc := find_cv A c t 0 (nth keys3 (k : Int)) w1 hr1 h0 (by omega) (hd 0 h0)
    have hfb := findS_bd h0 (nth keys3 (k : Int))
    obtain ⟨F, hF⟩ : ∃ F, F = fS t k := ⟨_, rfl⟩
    have hF' : findS t 0 (nth keys3 (k : Int)) = F := hF.symm
    rw [hF'] at hfc hfb
    refine Wp.seq (Wp.regionL (l := [0, 1, 2, 3]) (WO.rd (is := [0, 1]) (js := [2, 3]) (Keep.refl _) (Rn.s rfl Yv.mv (Rn.s rfl Yv.mv (Rn.nil))) (WO.cv rfl hfc (Keep.refl _) (FnOk.of Tryd.func39) (fun wx1 kx1 => WO.rd (is := [3]) (js := []) ((Keep.refl _).trans kx1) (Rn.s rfl Yv.as (Rn.nil)) (WO.done ?_)))))
    have hst := hst.quiet kx1
    have hr1 := hr1.keep kx1
    refine Wp.seq (Wp.seq (Wp.reads (is := [0, 1, 2, 3, 4, 5, 6, 7, 8, 9]) (Keep.refl _) (Rn.s rfl Yv.mv (Rn.s rfl (Yv.cmp _ rfl) (Rn.s rfl Yv.mv (Rn.and (is := [3, 4, 5, 6, 7, 8, 9]) (js := []) (t := 20) (d := 27) (hg := rfl) (ht := fun h2 => have h2 := of_decide_eq_true h2; Rn.s rfl Yv.mv (Rn.s rfl Yv.mv (Rn.s rfl (Yv.ia (e := 48) hr1 (by omega) (by omega)) (Rn.s rfl (Yv.fa (off := 0)) (Rn.s rfl (Yv.ld (hr1.ld 0 (by omega) (by omega))) (Rn.s rfl (Yv.cmp _ rfl) (Rn.s rfl Yv.pick_t ((Rn.e 7 rfl rfl))))))))) (hf := fun _ => Rn.no rfl (Rn.no rfl (Rn.no rfl (Rn.no rfl (Rn.no rfl (Rn.no rfl (Rn.s rfl Yv.pick_f (Rn.e 7 rfl rfl)))))))) (k := Rn.nil))))) ?_))
    refine Wp.cond rfl (fun h2 => ?_) (fun h2 => ?_)
    · have hb : badJ t k := by
        unfold badJ
        rw [← hF]
        simpa using h2
      have eS := sec_first hk3 hno hb
      rw [← hF] at eS
      have hF0 : 0 ≤ F := by rw [hF]; exact hb.1
      have c4 := hst.cells 0
      refine Wp.seq (Wp.draws [6, 7] mixed (WD.rd (is := [0, 1, 2, 3, 4]) (fun _ _ _ _ _ h => h) (Keep.drew _) (Rn.s rfl (Yv.ldb c4) (Rn.s rfl Yv.mv (Rn.s rfl Yv.mv (Rn.s rfl (Yv.ia (e := 48) hr1 (by omega) (by omega)) (Rn.s rfl (Yv.ldel hr1 rfl rfl (by omega) (by omega)) (Rn.nil)))))) ?_))
      refine WD.act 5 (hc := rfl) (he := Ef.quiet (place_cv 90 (nth t F) _) (Keep.refl _) (FnOk.of Tryd.func40) ?_)
      intro w3 k3
      refine ⟨fun _ => k3, ?_⟩
      refine WD.act 6 (hc := rfl) (he := Ef.stores ((hst.quiet (Keep.drew _)).quiet k3) 3 ?_)
      intro w4 hs4
      refine ⟨fun h => (h (by simp)).elim, ?_⟩
      refine WD.act 7 (hc := rfl) (he := Ef.stores hs4 3 ?_)
      intro w5 hs5
      refine ⟨fun h => (h (by simp)).elim, WD.done ?_⟩
      have hst : St w [] w5 [Ch.cells ba2 27 (placeS 90 (nth t F)).cs, Ch.cells ba1 86 (arr3 t k), Ch.cells bb1 86 (arr3 t k), Ch.row StE 9 (some ⟨bc1, 0, none⟩) 3 keys3] := hs5
      refine Wp.ret (Fin.ret (resAA rfl rfl rfl (hst.cells 1) (hst.cells 0)) ⟨_, [], rfl, ⟨⟨k, by omega, ?_, ?_⟩, rfl⟩, hst.pick []⟩)
      · rw [eS]
      · rw [eS]; intro q; cases q
    · have hb : ¬ badJ t k := by
        unfold badJ
        rw [← hF]
        intro q
        simp [q.1, q.2] at h2
      refine Wp.skip ?_
      have hq : Nat.blt (0 + (k : Int).toNat * 1) (arr3 t k).length = true := by
        rw [Int.toNat_natCast]
        exact Nat.ble_eq_true_of_le (by show 0 + k * 1 + 1 ≤ 3; omega)
      refine Wp.regionL (l := [0, 1, 2, 3]) (WO.rd (is := [0, 1, 2]) (js := [3]) (Keep.refl _) (Rn.s rfl Yv.mv (Rn.s rfl Yv.mv (Rn.s rfl (Yv.iaa (e := 3) (n := 3) (m := 1) (by omega) (by omega)) (Rn.nil)))) (WO.act (hc := rfl) (he := Ef.store hst 0 (hq := hq) (fun wy1 hsy1 => WO.done ?_))))
      refine Wp.reads (is := [0, 1]) (Keep.refl _) (Rn.s rfl (Yv.add (by unfold inI; omega)) (Rn.s rfl Yv.mv (Rn.nil))) ?_
      have hst2 : St w [] wy1 [Ch.cells bb1 86 (arr3 t (k + 1)), Ch.row StE 9 (some ⟨bc1, 0, none⟩) 3 keys3, Ch.cells ba2 27 ft0.cs, Ch.cells ba1 86 (arr3 t 0)] := by
        rw [← arr3_set t hk3, ← hF]
        exact hsy1
      refine ⟨k + 1, ⟨rfl, by omega, fun j hj => ?_, hst2, rfl, rfl, rfl, rfl, rfl, rfl, rfl, trivial⟩, by omega⟩
      by_cases q : j = k
      · rw [q]; exact hb
      · exact hno j (by omega)
  · have h1 := of_decide_eq_false h1
    have hk3 : k = 3 := by omega
    subst hk3
    have eS := sec_none hno
    have c4 := hst.cells 0
    refine Wp.exit ?_
    refine Wp.seq (Wp.regionL (l := [0, 1, 2, 3]) (WO.rd (is := [0, 1]) (js := [2, 3]) (Keep.refl _) (Rn.s rfl (Yv.ldb c4) (Rn.s rfl (Yv.bd (cs := ft0.cs)) (Rn.nil))) (WO.act (hc := rfl) (he := Ef.stores hst 3 (fun wz1 hsz1 => WO.act (hc := rfl) (he := Ef.stores hsz1 3 (fun wz2 hsz2 => WO.done ?_)))))))
    have hst : St w [] wz2 [Ch.cells ba2 27 ft0.cs, Ch.cells ba1 86 (arr3 t 3), Ch.cells bb1 86 (arr3 t 3), Ch.row StE 9 (some ⟨bc1, 0, none⟩) 3 keys3] := hsz2
    refine Wp.ret (Fin.ret (resAA rfl rfl rfl (hst.cells 1) (hst.cells 0)) ⟨_, [], rfl, ⟨⟨3, by omega, ?_, fun _ => rfl⟩, rfl⟩, hst.pick []⟩)
    rw [eS]
end Go.Proofs.YtgjhbapbomdpbaaDoor.C
/- Templates under jobs: what a job comes to: mould.Job is walked. -/
set_option linter.unusedVariables false
set_option linter.unusedSimpArgs false
set_option maxRecDepth 10000
namespace Go.Proofs.YtgjhbapbomdpbaaDoor.C
open Go.RowKit Go.Proofs.YtgjhbapbomdpbaaDoor.Sh
set_option maxHeartbeats 6400000 in
theorem job_cx (A : Option Addr) (c : Nat) (t : List Nd) (name : Bs) (w : World) (hr : Rd NdE w A t) (hcap : t.length ≤ c) :
    Cx Tryd.prog 25 [.slice A t.length c, S name] [] (fun v D => ∃ O co, v = .tuple #[.slice O (jobS t name).1.length co, .agg (jobS t name).2.cs.toArray] ∧ D = [Ch.row NdE 48 O co (jobS t name).1]) w := by
  refine calls_of_Wp (vs := [_, _]) Tryd.func25 ?_
  refine Wp.seq (Wp.regionL (l := [0, 1]) (WO.rd (is := [0]) (js := [1]) (Keep.refl _) (Rn.s rfl Yv.as (Rn.nil)) (WO.act (hc := rfl) (he := Ef.allocL (vs := [.int .i64 0, S [], .int .i64 0, .int .i64 0]) (St.init w) (fun ba1 wa1 ka1 hsa1 => WO.done ?_)))))
  have hno : ∀ {w' : World} {D : List Chunk}, St w [] w' D → St w [] w' [Ch.row NdE 48 none 0 []] := fun h => (h.sub (List.nil_sublist _)).nilrow NdE _
  refine Wp.seq (Wp.seq (Wp.regionL (l := [0, 1, 2]) (WO.rd (is := [0]) (js := [1, 2]) (Keep.refl _) (Rn.s rfl Yv.mv (Rn.nil)) (WO.cv rfl (is_cv A c t wa1 (hr.keep hsa1.keep)) (Keep.refl _) (FnOk.of Tryd.func27) (fun wx1 kx1 => WO.rd (is := [2]) (js := []) ((Keep.refl _).trans kx1) (Rn.s rfl Yv.not (Rn.nil)) (WO.done ?_))))))
  have hst := hsa1.quiet kx1
  clear hsa1
  unfold jobS
  cases hIs : isS t with
  | false =>
    rw [if_pos rfl]
    refine Wp.cond_t rfl ?_
    refine Wp.seq (Wp.regionL (l := [0, 1, 2]) (WO.rd (is := [0, 1]) (js := [2]) (Keep.refl _) (Rn.s rfl (Yv.bd (cs := Ft.cs ⟨80, [], 0, 0⟩)) (Rn.s rfl Yv.as (Rn.nil))) (WO.act (hc := rfl) (he := Ef.stores hst 0 (fun wy1 hsy1 => WO.done ?_)))))
    exact Wp.ret (Fin.ret (resTA rfl rfl rfl (hsy1.cells 0)) ⟨_, _, rfl, ⟨none, 0, rfl, rfl⟩, hno hsy1⟩)
  | true =>
  rw [if_neg (by decide)]
  obtain ⟨h0, hl, hdp⟩ := isS_depth hIs
  have hd : DepOk t := fun i hi => by have := hdp i hi; omega
  refine Wp.cond_f rfl (Wp.skip ?_)
  refine Wp.seq (Wp.regionL (l := [0, 1, 2, 3, 4, 5, 6, 7, 8]) (WO.rd (is := [0]) (js := [1, 2, 3, 4, 5, 6, 7, 8]) (Keep.refl _) (Rn.s rfl Yv.mv (Rn.nil)) (WO.act (hc := rfl) (he := Ef.cx (sections_cx A c t wx1 (hr.keep hst.keep) h0 (by omega) hd) hst (FnOk.of Tryd.func38) ?_))))
  rintro v D w2 ⟨⟨k, hk, rfl, hk3⟩, rfl⟩ hs2
  refine WO.rd (is := [2, 3, 4]) (js := [5, 6, 7, 8]) (Keep.refl _) (Rn.s rfl Yv.mv (Rn.s rfl Yv.ex (Rn.s rfl Yv.ex (Rn.nil)))) (WO.act (he := Ef.allocL (vs := arr3 t 0) hs2 (fun b6 w3 k3 hs3 => WO.act (he := Ef.allocL (vs := ft0.cs) hs3 (fun b7 w4 k4 hs4 => WO.act (he := Ef.stores hs4 1 (fun w5 hs5 => WO.act (he := Ef.stores hs5 1 (fun w6 hs6 => WO.done ?_)))))))))
  have hst : St w [] w6 [Ch.cells b7 27 (secS t).cs, Ch.cells b6 86 (arr3 t k), Ch.cells ba1 27 ft0.cs] := hs6
  clear hs2 hs3 hs4 hs5 hs6
  have c7 := hst.cells 0
  refine Wp.seq (Wp.seq (Wp.reads (is := [0, 1, 2]) (Keep.refl _) (Rn.s rfl (Yv.fa (off := 0)) (Rn.s rfl (Yv.ld (c7.at_ 0)) (Rn.s rfl (Yv.cmp _ rfl) (Rn.nil)))) ?_))
  refine Wp.cond rfl (fun h => ?_) (fun h => ?_)
  · have h : (secS t).code ≠ 0 := bne_iff_ne.1 h
    rw [if_pos h]
    refine Wp.seq (Wp.draws [2] mixed (WD.rd (is := [0, 1]) (fun _ _ _ _ _ h => h) (Keep.drew _) (Rn.s rfl (Yv.ldb c7) (Rn.s rfl Yv.as (Rn.nil))) (WD.act 2 (hc := rfl) (he := Ef.stores (hst.quiet (Keep.drew _)) 2 (fun wy1 hsy1 => ⟨fun hn => (hn (by decide)).elim, WD.done ?_⟩)))))
    exact Wp.ret (Fin.ret (resTA rfl rfl rfl (hsy1.cells 0)) ⟨_, _, rfl, ⟨none, 0, rfl, rfl⟩, hno hsy1⟩)
  have h : (secS t).code = 0 := bne_eq_false_iff_eq.1 h
  have e3 := hk3 h
  subst e3
  rw [if_neg (fun q => q h)]
  obtain ⟨F0, hF0⟩ : ∃ F0, F0 = findS t 0 kDef := ⟨_, rfl⟩
  obtain ⟨F1, hF1⟩ : ∃ F1, F1 = findS t 0 kTem := ⟨_, rfl⟩
  obtain ⟨F2, hF2⟩ : ∃ F2, F2 = findS t 0 kJob := ⟨_, rfl⟩
  have hb0 := findS_bd h0 kDef
  have hb1 := findS_bd h0 kTem
  have hb2 := findS_bd h0 kJob
  rw [← hF0] at hb0
  rw [← hF1] at hb1
  rw [← hF2] at hb2
  have hst : St w [] w6 [Ch.cells b6 86 [.int .i64 F0, .int .i64 F1, .int .i64 F2], Ch.cells ba1 27 ft0.cs] := by
    rw [hF0, hF1, hF2]
    exact hst.pick [1, 2]
  clear c7
  have c6 := hst.cells 0
  refine Wp.skip (Wp.seq (Wp.reads (is := [0]) (Keep.refl _) (Rn.s rfl Yv.as (Rn.nil)) ?_))
  obtain ⟨J, hJ⟩ : ∃ J, J = jobAt t name := ⟨_, rfl⟩
  have hJb : J < t.length := by
    rw [hJ]
    unfold jobAt
    rw [← hF2]
    split
    · have := findS_bd (t := t) (i := F2.toNat) (by omega) name; omega
    · omega
  refine Wp.seq (Wp.mid (fun ρ ds w' => ds = [] ∧ St w [] w' [Ch.cells b6 86 [.int .i64 F0, .int .i64 F1, .int .i64 F2], Ch.cells ba1 27 ft0.cs] ∧ Sub [(0, .slice A t.length c), (5, PB ba1), (6, PB b6), (8, .int .i64 J)] ρ) ?_ ?_)
  · refine Wp.seq (Wp.reads (is := [0, 1, 2]) (Keep.refl _) (Rn.s rfl (Yv.iaa (e := 3) (n := 3) (m := 1) (by omega) (by omega)) (Rn.s rfl (Yv.ld (c6.at_ 2)) (Rn.s rfl (Yv.cmp _ rfl) (Rn.nil)))) ?_)
    refine Wp.cond rfl (fun h2 => ?_) (fun h2 => ?_)
    · have h2 := of_decide_eq_true h2
      obtain ⟨m, hm⟩ : ∃ m : Nat, F2 = m := ⟨F2.toNat, by omega⟩
      have eJ : J = findS t m name := by rw [hJ]; unfold jobAt; rw [← hF2, if_pos h2, hm, Int.toNat_natCast]
      have hfc := find_cv A c t m name w6 (hr.keep hst.keep) (by omega) (by omega) (hd m (by omega))
      rw [← eJ, ← hm] at hfc
      refine Wp.regionL (l := [0, 1, 2, 3, 4, 5]) (WO.rd (is := [0, 1, 2, 3]) (js := [4, 5]) (Keep.refl _) (Rn.s rfl Yv.mv (Rn.s rfl (Yv.iaa (e := 3) (n := 3) (m := 1) (by omega) (by omega)) (Rn.s rfl (Yv.ld (c6.at_ 2)) (Rn.s rfl Yv.mv (Rn.nil))))) (WO.cv rfl hfc (Keep.refl _) (FnOk.of Tryd.func39) (fun wy1 ky1 => WO.rd (is := [5]) (js := []) ((Keep.refl _).trans ky1) (Rn.s rfl Yv.as (Rn.nil)) (WO.done ?_))))
      exact ⟨rfl, hst.quiet ky1, rfl, rfl, rfl, rfl, trivial⟩
    · have h2 := of_decide_eq_false h2
      have eJ : J = -1 := by rw [hJ]; unfold jobAt; rw [← hF2, if_neg h2]
      rw [eJ]
      exact Wp.skip ⟨rfl, hst, rfl, rfl, rfl, rfl, trivial⟩
  clear hst c6
  rintro ρ ds w7 ⟨rfl, hst, hsub⟩
  refine Wp.forget _ ?_ hsub
  clear hsub ρ
  rw [← hJ, ← hF0]
  refine Wp.seq (Wp.seq (Wp.reads (is := [0, 1]) (Keep.refl _) (Rn.s rfl Yv.mv (Rn.s rfl (Yv.cmp _ rfl) (Rn.nil))) ?_))
  refine Wp.cond rfl (fun h2 => ?_) (fun h2 => ?_)
  · have h2 := of_decide_eq_true h2
    rw [if_pos h2]
    refine Wp.seq (Wp.regionL (l := [0, 1, 2]) (WO.rd (is := [0, 1]) (js := [2]) (Keep.refl _) (Rn.s rfl (Yv.bd (cs := Ft.cs ⟨91, [], 0, 0⟩)) (Rn.s rfl Yv.as (Rn.nil))) (WO.act (hc := rfl) (he := Ef.stores hst 1 (fun wy1 hsy1 => WO.done ?_)))))
    exact Wp.ret (Fin.ret (resTA rfl rfl rfl (hsy1.cells 0)) ⟨_, _, rfl, ⟨none, 0, rfl, rfl⟩, hno hsy1⟩)
  have h2 := of_decide_eq_false h2
  rw [if_neg h2]
  have hr7 := hr.keep hst.keep
  refine Wp.skip (Wp.seq (Wp.seq (Wp.reads (is := [0, 1, 2, 3, 4, 5]) (Keep.refl _) (Rn.s rfl Yv.mv (Rn.s rfl Yv.mv (Rn.s rfl (Yv.ia (e := 48) hr7 (by omega) (by omega)) (Rn.s rfl (Yv.fa (off := 0)) (Rn.s rfl (Yv.ld (hr7.ld 0 (by omega) (by omega))) (Rn.s rfl (Yv.cmp _ rfl) (Rn.nil))))))) ?_)))
  refine Wp.cond rfl (fun h3 => ?_) (fun h3 => ?_)
  · have h3 : (nth t J).kind ≠ 1 := bne_iff_ne.1 h3
    rw [if_pos h3]
    refine Wp.seq (Wp.regionL (l := [0, 1, 2, 3, 4, 5, 6]) (WO.rd (is := [0, 1, 2, 3]) (js := [4, 5, 6]) (Keep.refl _) (Rn.s rfl Yv.mv (Rn.s rfl Yv.mv (Rn.s rfl (Yv.ia (e := 48) hr7 (by omega) (by omega)) (Rn.s rfl (Yv.ldel hr7 rfl rfl (by omega) (by omega)) (Rn.nil))))) (WO.cv rfl (place_cv 90 (nth t J) _) (Keep.refl _) (FnOk.of Tryd.func40) (fun wy1 ky1 => WO.rd (is := [5]) (js := [6]) ((Keep.refl _).trans ky1) (Rn.s rfl Yv.as (Rn.nil)) (WO.act (hc := rfl) (he := Ef.stores (hst.quiet ky1) 1 (fun wy2 hsy2 => WO.done ?_)))))))
    exact Wp.ret (Fin.ret (resTA rfl rfl rfl (hsy2.cells 0)) ⟨_, _, rfl, ⟨none, 0, rfl, rfl⟩, hno hsy2⟩)
  have h3 : ¬ (nth t J).kind ≠ 1 := fun q => q (bne_eq_false_iff_eq.1 h3)
  rw [if_neg h3]
  refine Wp.skip (Wp.seq (Wp.reads (is := [0]) (Keep.refl _) (Rn.s rfl Yv.as (Rn.nil)) ?_))
  obtain ⟨R, hR⟩ : ∃ R : List Nd × Ft, R = if 0 ≤ F0 then (if 0 ≤ findS t F0.toNat kExt then ([], keyPlaceS 90 (nth t (findS t F0.toNat kExt))) else jobR (jobW t name [ownS t F0])) else jobR (jobW t name []) := ⟨_, rfl⟩
  rw [← hR]
  refine Wp.seq (Wp.mid (fun ρ ds w' => ds = [] ∧ (∃ (ah : List Tr) (TA : Option Addr) (tc : Nat), R = jobR (jobW t name (ah.map ts1)) ∧ ah.length ≤ 1 ∧ St w [] w' ([Ch.row TsE 43 TA tc ah, Ch.cells b6 86 [.int .i64 F0, .int .i64 F1, .int .i64 F2], Ch.cells ba1 27 ft0.cs] ++ trows ah) ∧
    Sub [(0, .slice A t.length c), (5, PB ba1), (6, PB b6), (8, .int .i64 J), (9, .slice TA ah.length tc)] ρ)) ?_ ?_)
  · have c6 := hst.cells 0
    refine Wp.seq (Wp.reads (is := [0, 1, 2]) (Keep.refl _) (Rn.s rfl (Yv.iaa (e := 3) (n := 3) (m := 1) (by omega) (by omega)) (Rn.s rfl (Yv.ld (c6.at_ 0)) (Rn.s rfl (Yv.cmp _ rfl) (Rn.nil)))) ?_)
    refine Wp.cond rfl (fun h4 => ?_) (fun h4 => ?_)
    · have h4 := of_decide_eq_true h4
      rw [if_pos h4] at hR
      obtain ⟨m, hm⟩ : ∃ m : Nat, F0 = m := ⟨F0.toNat, by omega⟩
      obtain ⟨X, hX⟩ : ∃ X, X = findS t m kExt := ⟨_, rfl⟩
      have hXb := findS_bd (t := t) (i := m) (by omega) kExt
      have hfc := find_cv A c t m kExt w7 hr7 (by omega) (by omega) (hd m (by omega))
      rw [hm, Int.toNat_natCast, ← hX] at hR
      rw [← hX] at hfc hXb
      rw [← hm] at hfc
      refine Wp.seq (Wp.seq (Wp.regionL (l := [0, 1, 2, 3, 4]) (WO.rd (is := [0, 1, 2]) (js := [3, 4]) (Keep.refl _) (Rn.s rfl Yv.mv (Rn.s rfl (Yv.iaa (e := 3) (n := 3) (m := 1) (by omega) (by omega)) (Rn.s rfl (Yv.ld (c6.at_ 0)) (Rn.nil)))) (WO.cv rfl hfc (Keep.refl _) (FnOk.of Tryd.func39) (fun wy1 ky1 => WO.rd (is := [4]) (js := []) ((Keep.refl _).trans ky1) (Rn.s rfl Yv.as (Rn.nil)) (WO.done ?_))))))
      have hst := hst.quiet ky1
      have hr8 := hr7.keep ky1
      refine Wp.seq (Wp.reads (is := [0, 1]) (Keep.refl _) (Rn.s rfl Yv.mv (Rn.s rfl (Yv.cmp _ rfl) (Rn.nil))) ?_)
      refine Wp.cond rfl (fun h5 => ?_) (fun h5 => ?_)
      · have h5 := of_decide_eq_true h5
        rw [if_pos h5] at hR
        rw [hR]
        refine Wp.seq (Wp.regionL (l := [0, 1, 2, 3, 4, 5, 6]) (WO.rd (is := [0, 1, 2, 3]) (js := [4, 5, 6]) (Keep.refl _) (Rn.s rfl Yv.mv (Rn.s rfl Yv.mv (Rn.s rfl (Yv.ia (e := 48) hr8 (by omega) (by omega)) (Rn.s rfl (Yv.ldel hr8 rfl rfl (by omega) (by omega)) (Rn.nil))))) (WO.cv rfl (keyPlaceM_cv 90 (nth t X) _) (Keep.refl _) (FnOk.of Tryd.func41) (fun wz1 kz1 => WO.rd (is := [5]) (js := [6]) ((Keep.refl _).trans kz1) (Rn.s rfl Yv.as (Rn.nil)) (WO.act (hc := rfl) (he := Ef.stores (hst.quiet kz1) 1 (fun wz2 hsz2 => WO.done ?_)))))))
        exact Wp.ret (Fin.ret (resTA rfl rfl rfl (hsz2.cells 0)) ⟨_, _, rfl, ⟨none, 0, rfl, rfl⟩, hno hsz2⟩)
      · have h5 := of_decide_eq_false h5
        rw [if_neg h5, ← hm] at hR
        have c6 := hst.cells 0
        refine Wp.skip ?_
        refine Wp.regionL (l := [0, 1, 2, 3, 4, 5, 6, 7, 8]) (WO.rd (is := [0, 1, 2, 3, 4]) (js := [5, 6, 7, 8]) (Keep.refl _) (Rn.s rfl Yv.mv (Rn.s rfl Yv.mv (Rn.s rfl (Yv.iaa (e := 3) (n := 3) (m := 1) (by omega) (by omega)) (Rn.s rfl (Yv.ld (c6.at_ 0)) (Rn.s rfl (Yv.bd (cs := bcs A t.length c F0)) (Rn.nil)))))) (WO.act (hc := rfl) (he := Ef.cx (own_cx A c t F0 wy1 hr8 hcap (by omega)) (hst.nilrow TsE 43) (FnOk.of Tryd.func42) ?_)))
        rintro v D w9 ⟨O, co, rfl, rfl⟩ hs9
        refine WO.act (hc := rfl) (he := Ef.bsl (T := 43) TsE [((O, co, ownS t F0) : Tr)] hs9 (fun b9 w10 k10 hs10 => ?_))
        refine WO.act (hc := rfl) (he := Ef.append (xs := ([] : List Tr)) (A := none) (c := 0) (ys := [((O, co, ownS t F0) : Tr)]) hs10 2 (hs10.rd 0) (by simp) (.inl (by simp only [List.length_cons, List.length_nil]; omega)) (fun TA tc w11 hs11 => WO.rd (is := [8]) (js := []) (Keep.refl _) (Rn.s rfl Yv.as (Rn.nil)) (WO.done ?_)))
        refine ⟨rfl, [((O, co, ownS t F0) : Tr)], TA, tc, hR, by simp, ?_, rfl, rfl, rfl, rfl, rfl, trivial⟩
        exact St.pick (D := [_, _, _, _, _]) hs11 [0, 3, 4, 2]
    · have h4 := of_decide_eq_false h4
      rw [if_neg h4] at hR
      exact Wp.skip ⟨rfl, [], none, 0, hR, by simp, hst.nilrow TsE _, rfl, rfl, rfl, rfl, rfl, trivial⟩
  clear hst
  rintro ρ ds w8 ⟨rfl, ah, TA, tc, hR2, hal, hst, hsub⟩
  refine Wp.forget _ ?_ hsub
  clear hsub ρ hR
  obtain ⟨j, hj⟩ : ∃ j : Nat, J = j := ⟨J.toNat, by omega⟩
  have c6 := hst.cells 1
  refine Wp.seq (Wp.regionL (l := [0, 1, 2, 3, 4, 5, 6, 7]) (WO.rd (is := [0, 1, 2]) (js := [3, 4, 5, 6, 7]) (Keep.refl _) (Rn.s rfl Yv.mv (Rn.s rfl (Yv.iaa (e := 3) (n := 3) (m := 1) (by omega) (by omega)) (Rn.s rfl (Yv.ld (c6.at_ 1)) (Rn.nil)))) (WO.act (he := Ef.makeMap KyS VM hst (fun md w9 k9 hs9 => WO.act (he := Ef.makeMap KyS VI hs9 (fun mu w10 k10 hs10 => WO.rd (is := [5]) (js := [6, 7]) (Keep.refl _) (Rn.s rfl (Yv.bd (cs := mkcs A t.length c F1 md mu)) (Rn.nil)) (WO.act (he := Ef.boxL (mkcs A t.length c F1 md mu) hs10 (fun b w11 k11 hs11 => WO.rd (is := [7]) (js := []) (Keep.refl _) (Rn.s rfl Yv.as (Rn.nil)) (WO.done ?_)))))))))))
  have hst : St w [] w11 ([Ch.cells b 96 (mkcs A t.length c F1 md mu), Ch.mp KyS VI mu ([] : List (Bs × Int)), Ch.mp KyS VM md ([] : List (Bs × Mv)), Ch.row TsE 43 TA tc ah, Ch.cells b6 86 [.int .i64 F0, .int .i64 F1, .int .i64 F2], Ch.cells ba1 27 ft0.cs] ++ trows ah) := hs11
  clear hs9 hs10 hs11 c6
  refine Wp.seq (Wp.regionL (l := [0, 1, 2, 3, 4]) (WO.rd (is := [0, 1, 2]) (js := [3, 4]) (Keep.refl _) (Rn.s rfl Yv.mv (Rn.s rfl Yv.mv (Rn.s rfl (Yv.bd (cs := bcs A t.length c J)) (Rn.nil)))) (WO.act (hc := rfl) (he := Ef.allocL (vs := [.slice none 0 0, .int .i64 0]) hst (fun by1 wy1 ky1 hsy1 => WO.act (hc := rfl) (he := Ef.stores hsy1 0 (fun wy2 hsy2 => WO.done ?_)))))))
  have hst : St w [] wy2 ([Ch.row TsE 43 TA tc ah, Ch.cells by1 91 (bcs A t.length c J), Ch.cells ba1 27 ft0.cs] ++ (ChM b A t.length c F1 md mu ⟨[], []⟩ ++ (trows ah ++ []))) := by
    rw [List.append_nil]
    exact hsy2.pickT (P := [_, _, _, _, _, _, _]) (T := trows ah) [4, 0, 6, 1, 3, 2]
  clear hsy1 hsy2
  have c12 := hst.cells 1
  have hsw := hst.perm (permM (F := [_, _, _]) (X := ChM b A t.length c F1 md mu ⟨[], []⟩) (Y := trows ah) (D := []))
  have hT : F1 < t.length := hb1.2
  have hWh := whole_at b A c t F1 md mu w fuelM hr hcap hl hT hd (template_at b A c t F1 md mu w fuelM hr hl hT hd (nodeAll b A c t F1 md mu w hr hcap hl hT hd fuelM))
  have hcall := hWh ⟨[], []⟩ ah j 16 TA tc ah wy2 _ (by omega) ⟨List.nodup_nil, fun k hk => (by cases hk), fun k hk => (by cases hk)⟩ (by decide) (fun p hp => (by cases hp)) (fun x hx => hx) hal (by decide) hsw
  rw [hj]
  rw [hj] at c12
  refine Wp.seq (Wp.regionL (l := [0, 1, 2, 3, 4, 5, 6, 7, 8]) (WO.rd (is := [0, 1, 2, 3, 4, 5]) (js := [6, 7, 8]) (Keep.refl _) (Rn.s rfl Yv.mv (Rn.s rfl (Yv.ldb c12) (Rn.s rfl Yv.mf1 (Rn.s rfl (Yv.ldb c12) (Rn.s rfl Yv.mf1 (Rn.s rfl Yv.mv (Rn.nil))))))) (WO.act (hc := rfl) (he := Ef.callv Tryd.func43 (Calls.mono hcall ?_)))))
  rintro e w12 ⟨x, s', more, rfl, q1, q2, q3, q4, hs12⟩
  refine WO.act (he := Ef.allocL (vs := mvcs mv0) hs12 (fun b13 w13 k13 hs13 => WO.act (he := Ef.stores hs13 0 (fun w14 hs14 => WO.done ?_))))
  have hst : St w [] w14 ([Ch.cells b13 98 (mvcs x), Ch.cells b 96 (mkcs A t.length c F1 md mu), Ch.mp KyS VM md s'.done, Ch.mp KyS VI mu s'.under] ++ (trows (ah ++ more) ++ [Ch.cells by1 91 (bcs A t.length c J), Ch.cells ba1 27 ft0.cs])) := hs14
  have hst := (hst.pickT (P := [_, _, _, _]) (T := trows (ah ++ more) ++ [Ch.cells by1 91 (bcs A t.length c J), Ch.cells ba1 27 ft0.cs]) [0]).perm (permM (F := [Ch.cells ba1 27 ft0.cs]) (X := [Ch.cells b13 98 (mvcs x)]) (Y := trows (ah ++ more) ++ [Ch.cells by1 91 (bcs A t.length c J)]) (D := []) |>.symm |> (fun p => by simpa using p))
  have hst : St w [] w14 ([Ch.cells ba1 27 ft0.cs, Ch.cells b13 98 (mvcs x)] ++ (trows (ah ++ more) ++ [Ch.cells by1 91 (bcs A t.length c J)])) := hst
  have ex : jobW t name (ah.map ts1) = x.md := by
    rw [q1]
    unfold jobW
    rw [← hF1, ← hJ, hj, Int.toNat_natCast]
    rfl
  rw [ex] at hR2
  rw [hR2]
  clear hs12 hs13 hs14 c12 hsw hcall
  have c13 := hst.cells 1
  refine Wp.seq (Wp.seq (Wp.reads (is := [0, 1, 2, 3]) (Keep.refl _) (Rn.s rfl (Yv.fa (off := 2)) (Rn.s rfl (Yv.fa (off := 0)) (Rn.s rfl (Yv.ld (c13.at_ 2)) (Rn.s rfl (Yv.cmp _ rfl) (Rn.nil))))) ?_))
  refine Wp.cond rfl (fun h5 => ?_) (fun h5 => ?_)
  · have h5 : x.f.code ≠ 0 := bne_iff_ne.1 h5
    have eR : jobR x.md = ([], x.f) := by unfold jobR; rw [if_pos (show x.md.fault.code ≠ 0 from h5)]; rfl
    rw [eR]
    refine Wp.seq (Wp.draws [3] mixed (WD.rd (is := [0, 1, 2]) (fun _ _ _ _ _ h => h) (Keep.drew _) (Rn.s rfl (Yv.fa (off := 2)) (Rn.s rfl (Yv.lds (vs := x.f.cs) rfl (ld_fault c13)) (Rn.s rfl Yv.as (Rn.nil)))) (WD.act 3 (hc := rfl) (he := Ef.stores (hst.quiet (Keep.drew _)) 0 (fun wz1 hsz1 => ⟨fun hn => (hn (by decide)).elim, WD.done ?_⟩)))))
    exact Wp.ret (Fin.ret (resTA rfl rfl rfl (hsz1.cells 0)) ⟨_, _, rfl, ⟨none, 0, rfl, rfl⟩, hno hsz1⟩)
  · have h5 : x.f.code = 0 := bne_eq_false_iff_eq.1 h5
    have eR : jobR x.md = (x.tr.2.2, ft0) := by unfold jobR; rw [if_neg (show ¬ x.md.fault.code ≠ 0 from fun q => q h5)]; rfl
    rw [eR]
    refine Wp.skip (Wp.seq (Wp.regionL (l := [0, 1, 2, 3, 4]) (WO.rd (is := [0, 1, 2, 3]) (js := [4]) (Keep.refl _) (Rn.s rfl (Yv.fa (off := 0)) (Rn.s rfl (Yv.ld (c13.at_ 0)) (Rn.s rfl (Yv.bd (cs := ft0.cs)) (Rn.s rfl Yv.as (Rn.nil))))) (WO.act (hc := rfl) (he := Ef.stores hst 0 (fun wz1 hsz1 => WO.done ?_))))))
    refine Wp.ret (Fin.ret (resTA rfl rfl rfl (hsz1.cells 0)) ⟨_, _, rfl, ⟨x.tr.1, x.tr.2.1, rfl, rfl⟩, ?_⟩)
    have hm : trow x.tr ∈ trows (ah ++ more) := List.mem_map_of_mem (q4.tr h5)
    exact St.sub hsz1 ((List.singleton_sublist.2 (List.mem_cons_of_mem _ (List.mem_append_right _ (List.mem_append_left _ hm)))))
end Go.Proofs.YtgjhbapbomdpbaaDoor.C
