/- What the laws share: lent nodes, looked at again and written over; TreeIs, walked. -/
import Derived.Test.YtbmplmehofgocaaDoorBj
import Derived.Test.YtbmplmehofgocaaDoorBk
set_option linter.unusedVariables false
set_option linter.unusedSimpArgs false
set_option maxRecDepth 10000
namespace Go.Proofs.YtbmplmehofgocaaDoor.C
open Go.RowKit Go.Proofs.YtbmplmehofgocaaDoor.Sh
theorem kept_calls {M : List Nat} (B : Option Addr) (d : Nat) (A : Option Addr) (c : Nat) (t : List Nd) (w : World) (hr : Rd NdE w A t) (hst : St w M w [Ch.row NdE 32 B d (t ++ [spN, spN])]) (hl : t.length ≤ 1599289640390) :
    Calls Tryd.prog 20 #[.slice B t.length d, .slice A t.length c] w fun e w' => e = .returned (.bool true) ∧ St w M w' [] := by
  have hcap := hst.cap 0
  simp only [List.length_append, List.length_cons, List.length_nil] at hcap
  have hrB := hst.rd 0
  have hrt := rd_pre hrB
  refine calls_of_Wp (vs := [_, _]) Tryd.func20 ?_
  refine Wp.seq (Wp.reads (is := [0]) (Keep.refl _) (Rn.s rfl Yv.as (Rn.nil)) ?_)
  refine Wp.seq (Wp.reads (is := [0, 1, 2, 3, 4, 5]) (Keep.refl _) (Rn.s rfl Yv.mv (Rn.s rfl Yv.mv (Rn.s rfl (Yv.len_v (e := 32) (m := 8)) (Rn.s rfl (Yv.add (by unfold inI; omega)) (Rn.s rfl (Yv.sl_t (n := 8) (e := 32) (by omega) (by omega)) (Rn.s rfl Yv.as (Rn.nil))))))) ?_)
  have e1 : ((t.length : Int) + 2).toNat = (t ++ [spN, spN]).length := by simp only [List.length_append, List.length_cons, List.length_nil]; omega
  rw [e1]
  have hs1 := same_cv B d t A c t w hrt hr (by omega)
  rw [decide_eq_true rfl] at hs1
  have hcut : Rd NdE w (cutA B d t.length NdE.n) [spN, spN] := by
    have := hrB.cut (l := t.length) (h := (t ++ [spN, spN]).length) (c := d) (by simp only [List.length_append, List.length_cons, List.length_nil]; omega) (Nat.le_refl _)
    rw [List.take_of_length_le (Nat.le_refl _), List.drop_left] at this
    exact this
  have hs2 : ∀ (b : Nat) {W : World}, Keep w W → Rd NdE W (some ⟨b, 0, none⟩) [spN, spN] → Cv Tryd.prog 22 [.slice (cutA B d (t.length : Int).toNat 8) ((t ++ [spN, spN]).length - (t.length : Int).toNat) (d - (t.length : Int).toNat), .slice (some ⟨b, 0, none⟩) 2 2] (.bool true) W := by
    intro b W kW h
    have := same_cv (cutA B d t.length NdE.n) (d - t.length) [spN, spN] (some ⟨b, 0, none⟩) 2 [spN, spN] W (hcut.keep kW) h (by simp)
    rw [decide_eq_true rfl] at this
    have e2 : (t ++ [spN, spN]).length - (t.length : Int).toNat = 2 := by rw [Int.toNat_natCast]; simp
    rw [e2]
    exact this
  refine Wp.seq (Wp.regionL (l := [0, 1, 2, 3, 4, 5, 6, 7, 8, 9, 10, 11, 12, 13]) (WO.rd (is := [0, 1]) (js := [2, 3, 4, 5, 6, 7, 8, 9, 10, 11, 12, 13]) (Keep.refl _) (Rn.s rfl Yv.mv (Rn.s rfl Yv.mv (Rn.nil))) (WO.cv rfl hs1 (Keep.refl _) (FnOk.of Tryd.func22) (fun wx1 kx1 => WO.rd (is := [3]) (js := [4, 5, 6, 7, 8, 9, 10, 11, 12, 13]) ((Keep.refl _).trans kx1) (Rn.s rfl Yv.mv (Rn.nil)) (WO.and (js := [13]) 16 25 (hg := rfl) (ht := fun h3 qx2 => WO.rd (is := [4, 5, 6, 7, 8, 9]) (js := [10, 11, 12, 13]) ((Keep.refl _).trans kx1) (Rn.s rfl Yv.mv (Rn.s rfl Yv.mv (Rn.s rfl (Yv.len_v (e := 32) (m := 8)) (Rn.s rfl (Yv.sl_f (n := 8) (e := 32) (by omega) (by simp only [List.length_append, List.length_cons, List.length_nil]; omega)) (Rn.s rfl (Yv.bd (cs := spN.cs)) (Rn.s rfl (Yv.bd (cs := spN.cs)) (Rn.nil))))))) (WO.act (hc := rfl) (he := Ef.bsl (T := 32) NdE [spN, spN] (hst.quiet kx1) (fun bx3 wx3 kx3 hsx3 => WO.cv rfl (hs2 bx3 (kx1.trans kx3) (hsx3.rd 0)) (Keep.refl _) (FnOk.of Tryd.func22) (fun wx4 kx4 => WO.rd (is := [12]) (js := [13]) ((((Keep.refl _).trans kx1).trans kx3).trans kx4) (Rn.s rfl Yv.pick_t (Rn.nil)) (WO.e 9 (qx2 _ (((Keep.refl _).trans kx3).trans kx4)))))))) (hf := fun _ qx2 => WO.rd (is := [4, 5, 6, 7, 8, 9, 10, 11, 12]) (js := [13]) ((Keep.refl _).trans kx1) (Rn.no rfl (Rn.no rfl (Rn.no rfl (Rn.no rfl (Rn.no rfl (Rn.no rfl (Rn.no rfl (Rn.no rfl (Rn.s rfl Yv.pick_f Rn.nil))))))))) (WO.e 9 (qx2 _ (Keep.refl _)))) (k := fun wx2 kx2 => WO.rd (is := [13]) (js := []) (((Keep.refl _).trans kx1).trans kx2) (Rn.s rfl Yv.as (Rn.nil)) (WO.done ?_)))))))
  have hst := hst.quiet (kx1.trans kx2)
  refine Wp.seq (Wp.seq (Wp.reads (is := [0]) (Keep.refl _) (Rn.s rfl Yv.as (Rn.nil)) ?_))
  refine Wp.block ?_
  obtain ⟨m, hm⟩ : ∃ m, m = (t ++ [spN, spN]).length := ⟨_, rfl⟩
  rw [← hm]
  have hml : m ≤ 1599289640392 := by rw [hm]; simp only [List.length_append, List.length_cons, List.length_nil]; omega
  refine Wp.loop (α := Nat) (fun i ρ ds w' => ds = [] ∧ i ≤ m ∧ (∃ xs : List Nd, xs.length = m ∧ St w M w' [Ch.row NdE 32 B d xs]) ∧ Sub [(5, .slice B m d), (6, .bool true), (7, .int .i64 (i : Int))] ρ) (fun i => m - i) 0
    ⟨rfl, Nat.zero_le _, ⟨_, hm.symm, hst⟩, rfl, rfl, rfl, trivial⟩ ?_
  clear hst
  rintro i ρ ds w' ⟨rfl, hi, ⟨xs, hxl, hst⟩, hs⟩
  refine Wp.forget _ ?_ hs
  refine Wp.seq (Wp.seq (Wp.reads (is := [0, 1, 2, 3]) (Keep.refl _) (Rn.s rfl Yv.mv (Rn.s rfl Yv.mv (Rn.s rfl (Yv.len_v (e := 32) (m := 8)) (Rn.s rfl (Yv.cmp _ rfl) (Rn.nil))))) ?_))
  refine Wp.cond rfl (fun h => ?_) (fun h => ?_)
  · have h := of_decide_eq_true h
    have hrx := hst.rd 0
    subst hxl
    refine Wp.skip (Wp.seq (Wp.block ?_))
    refine Wp.regionL (l := [0, 1, 2, 3, 4]) (WO.rd (is := [0, 1, 2, 3]) (js := [4]) (Keep.refl _) (Rn.s rfl Yv.mv (Rn.s rfl Yv.mv (Rn.s rfl (Yv.bd (cs := spN.cs)) (Rn.s rfl (Yv.ia (e := 32) hrx (by omega) (by omega)) (Rn.nil))))) (WO.act (hc := rfl) (he := Ef.setEl (E := NdE) (xs := xs) hst 0 spN rfl rfl (by omega) (by omega) (fun wy1 hsy1 => WO.done ?_))))
    refine Wp.reads (is := [0, 1, 2]) (Keep.refl _) (Rn.s rfl Yv.mv (Rn.s rfl (Yv.add (by unfold inI; omega)) (Rn.s rfl Yv.as (Rn.nil)))) ?_
    exact ⟨i + 1, ⟨rfl, by omega, ⟨_, by simp, hsy1⟩, rfl, rfl, rfl, trivial⟩, by omega⟩
  · refine Wp.exit ?_
    refine Wp.seq (Wp.reads (is := [0, 1]) (Keep.refl _) (Rn.s rfl Yv.mv (Rn.s rfl Yv.as (Rn.nil))) ?_)
    exact Wp.ret (Fin.ret (Res.one rfl rfl) ⟨rfl, hst.sub (List.nil_sublist _)⟩)

theorem treeIs_calls (A : Option Addr) (c : Nat) (t : List Nd) (w : World) (hg : Gl w) (hr : Rd NdE w A t) (hc : A = none → c = 0) (hl : t.length ≤ 1599289640390) (hE : isS t = refIsS t) :
    Calls Tryd.prog 8 #[.slice A t.length c] w fun e w' => e = .returned (.bool true) ∧ Keep w w' := by
  refine calls_of_Wp (vs := [_]) Tryd.func8 ?_
  refine Wp.seq (Wp.reads (is := [0]) (Keep.refl _) (Rn.s rfl Yv.as (Rn.nil)) ?_)
  refine Wp.seq (Wp.regionL (l := [0, 1, 2]) (WO.rd (is := [0]) (js := [1, 2]) (Keep.refl _) (Rn.s rfl Yv.mv (Rn.nil)) (WO.act (hc := rfl) (he := Ef.cx (lend_cx A c t w hr hc hl) (St.init w) (FnOk.of Tryd.func18) ?_))))
  rintro v D w1 ⟨B, d, rfl, rfl⟩ hs1
  have hst : St w [] w1 [Ch.row NdE 32 B d (t ++ [spN, spN])] := hs1
  refine WO.rd (is := [2]) (js := []) (Keep.refl _) (Rn.s rfl Yv.as (Rn.nil)) (WO.done ?_)
  refine Wp.seq (Wp.regionL (l := [0, 1, 2]) (WO.rd (is := [0]) (js := [1, 2]) (Keep.refl _) (Rn.s rfl Yv.mv (Rn.nil)) (WO.cv rfl (is_cv B d t w1 (rd_pre (hst.rd 0))) (Keep.refl _) (FnOk.of Tryd.func30) (fun wx1 kx1 => WO.rd (is := [2]) (js := []) ((Keep.refl _).trans kx1) (Rn.s rfl Yv.as (Rn.nil)) (WO.done ?_)))))
  have hst := hst.quiet kx1
  have hr1 := hr.keep hst.keep
  have hen := St.enter (A := [Ch.row NdE 32 B d (t ++ [spN, spN])]) (D := []) hst
  refine Wp.seq (Wp.regionL (l := [0, 1, 2, 3, 4, 5, 6, 7, 8, 9, 10, 11, 12]) (WO.rd (is := [0, 1]) (js := [2, 3, 4, 5, 6, 7, 8, 9, 10, 11, 12]) (Keep.refl _) (Rn.s rfl Yv.mv (Rn.s rfl Yv.mv (Rn.nil))) (WO.act (hc := rfl) (he := Ef.callv Tryd.func20 (Calls.mono (kept_calls B d A c t wx1 hr1 hen hl) ?_)))))
  rintro e w2 ⟨rfl, hs2⟩
  have hst2 : St w [] w2 [] := St.call (A := [Ch.row NdE 32 B d (t ++ [spN, spN])]) (D := []) hst hs2
  have hk2 := hst2.keep
  have hb : bcmp .eql (isS t) (refIsS t) = some true := by rw [hE]; cases refIsS t <;> rfl
  refine WO.rd (is := [3, 4, 5]) (js := [6, 7, 8, 9, 10, 11, 12]) (Keep.refl _) (Rn.s rfl Yv.mv (Rn.s rfl Yv.mv (Rn.s rfl Yv.mv Rn.nil))) (WO.cv rfl (ris_cv A c t w2 (hr.keep hk2)) (Keep.refl _) (FnOk.of Tryd.func25) (fun w3 k3 => WO.rd (is := [7, 8, 9]) (js := [10, 11, 12]) (Keep.refl _) (Rn.s rfl (Yv.bcm true hb) (Rn.s rfl Yv.pick_t (Rn.s rfl Yv.mv Rn.nil))) (WO.cv rfl (awake4_cv w3 (hg.keep (hk2.trans k3))) (Keep.refl _) (FnOk.of Tryd.func34) (fun w4 k4 => WO.rd (is := [11, 12]) (js := []) (Keep.refl _) (Rn.s rfl Yv.pick_t (Rn.s rfl Yv.as Rn.nil)) (WO.done ?_)))))
  exact Wp.ret (Fin.ret (Res.one rfl rfl) ⟨rfl, (hk2.trans k3).trans k4⟩)
end Go.Proofs.YtbmplmehofgocaaDoor.C
