/- graph.left walked: the numbers that an order does not come to. -/
import Derived.Test.YthbehiflmcljcaaDoorGh
set_option linter.unusedVariables false
set_option linter.unusedSimpArgs false
set_option maxRecDepth 10000
namespace Go.Proofs.YthbehiflmcljcaaDoor.C
open Go.RowKit Go.Proofs.YthbehiflmcljcaaDoor.Sh
abbrev BoE : Enc Bool := ⟨1, fun x => [.bool x], fun _ => rfl⟩
/-- which numbers an order comes to -/
def metS (n : Nat) (o : Is) (k : Nat) : List Bool := (List.range n).map (fun i : Nat => decide ((i : Int) ∈ o.take k))
theorem metS_set {n k m : Nat} {o : Is} (hk : k < o.length) (hm : nth o (k : Int) = (m : Int)) (hmn : m < n) : (metS n o k).set m true = metS n o (k + 1) := by
  refine map_set _ _ _ hmn ?_ (fun i hi hne => ?_)
  · exact decide_eq_true ((mem_take_succ hk _).2 (.inr hm.symm))
  · have : ((i : Int) ∈ o.take (k + 1)) ↔ (i : Int) ∈ o.take k := by
      rw [mem_take_succ hk, hm]
      constructor
      · rintro (h | h)
        · exact h
        · omega
      · exact .inl
    simp only [this]
theorem metS_zero (n : Nat) (o : Is) : metS n o 0 = List.replicate n false := by
  unfold metS
  have : (fun i : Nat => decide ((i : Int) ∈ o.take 0)) = fun _ => false := by funext i; simp
  rw [this, List.map_const', List.length_range]
def leftN (n : Nat) (o : Is) : List Nat := (List.range n).filter (fun i : Nat => decide ((i : Int) ∉ o))
def leftS (n : Nat) (o : Is) : Is := castN (leftN n o)
theorem leftN_len (n : Nat) (o : Is) : (leftN n o).length = still n o := rfl
def leftK (n k : Nat) (o : Is) : Is := castN ((List.range k).filter (fun i : Nat => decide ((i : Int) ∉ o)))
theorem leftK_succ (n k : Nat) (o : Is) : leftK n (k + 1) o = leftK n k o ++ (if (k : Int) ∈ o then [] else [(k : Int)]) := by
  unfold leftK castN
  rw [List.range_succ, List.filter_append, List.map_append]
  congr 1
  by_cases h : (k : Int) ∈ o <;> simp [h]
theorem left_cx (n : Nat) (B : Option Addr) (d : Nat) (o : Is) (w : World) (hr : Rd InE w B o) (ho : ∀ x ∈ o, ∃ i : Nat, i < n ∧ x = (i : Int)) (hn : n ≤ 17592186044415) (hol : o.length ≤ 17592186044416) :
    Cx Tryd.prog 29 [.int .i64 (n : Int), .slice B o.length d] [] (fun v D => ∃ L c, v = .slice L (leftS n o).length c ∧ D = [Ch.row InE 3 L c (leftS n o)]) w := by
  refine calls_of_Wp (vs := [_, _]) Tryd.func29 ?_
  refine Wp.seq (Wp.reads (is := [0]) (Keep.refl _) (Rn.s rfl Yv.as (Rn.nil)) ?_)
  refine Wp.seq (Wp.regionL (l := [0, 1, 2]) (WO.rd (is := [0]) (js := [1, 2]) (Keep.refl _) (Rn.s rfl Yv.mv (Rn.nil)) (WO.act (hc := rfl) (he := Ef.mks (T := 4) (bytes := 1) BoE false (.bool false) (by omega) (by omega) (St.init w) (fun ba1 wa1 ka1 hsa1 => WO.rd (is := [2]) (js := []) ((Keep.refl _).trans ka1) (Rn.s rfl Yv.as (Rn.nil)) (WO.done ?_))))))
  refine Wp.seq (Wp.seq (Wp.reads (is := [0, 1, 2]) (Keep.refl _) (Rn.s rfl Yv.mv (Rn.s rfl (Yv.len_v (e := 3) (m := 1)) (Rn.s rfl Yv.mv (Rn.nil)))) ?_))
  refine Wp.mid (fun ρ ds w' => ds = [] ∧ St w [] w' [Ch.row BoE 4 (some ⟨ba1, 0, none⟩) n (metS n o o.length)] ∧ Sub [(5, .slice (some ⟨ba1, 0, none⟩) n n)] ρ) (Wp.block ?_) ?_
  · refine Wp.loop (α := Nat) (fun k ρ ds w' => ds = [] ∧ k ≤ o.length ∧ St w [] w' [Ch.row BoE 4 (some ⟨ba1, 0, none⟩) n (metS n o k)] ∧ Sub [(5, .slice (some ⟨ba1, 0, none⟩) n n), (12, .slice B o.length d), (13, .int .i64 (o.length : Int)), (14, .int .i64 (k : Int))] ρ) (fun k => o.length - k) 0
      ⟨rfl, by omega, by rw [metS_zero]; exact hsa1, rfl, rfl, rfl, rfl, trivial⟩ ?_
    rintro k ρ ds w1 ⟨rfl, hk, hst, hs⟩
    refine Wp.forget _ ?_ hs
    clear hs ρ
    have hr1 := hr.keep hst.keep
    refine Wp.seq (Wp.reads (is := [0]) (Keep.refl _) (Rn.s rfl (Yv.cmp _ rfl) (Rn.nil)) ?_)
    refine Wp.seq (Wp.cond rfl (fun hlt => ?_) (fun hlt => ?_))
    · have hlt : k < o.length := by have := of_decide_eq_true hlt; omega
      obtain ⟨m, hmn, hm⟩ := ho _ (nth_mem' hlt)
      have hml : (metS n o k).length = n := by unfold metS; simp
      refine Wp.skip ?_
      refine Wp.seq (Wp.block ?_)
      refine Wp.seq (Wp.reads (is := [0, 1, 2]) (Keep.refl _) (Rn.s rfl (Yv.ia (e := 3) hr1 (by omega) (by omega)) (Rn.s rfl (Yv.ld (hr1.ld 0 (by omega) (by omega))) (Rn.s rfl Yv.as (Rn.nil)))) ?_)
      rw [hm]
      refine Wp.regionL (l := [0, 1, 2, 3]) (WO.rd (is := [0, 1, 2]) (js := [3]) (Keep.refl _) (Rn.s rfl Yv.mv (Rn.s rfl Yv.mv (Rn.s rfl (Yv.ia (e := 4) (hst.rd 0) (by omega) (by omega) hml.symm) (Rn.nil)))) (WO.act (hc := rfl) (he := Ef.setFld (E := BoE) (xs := metS n o k) (f := 0) hst 0 true rfl rfl (by omega) (by omega) (fun wb1 hsb1 => WO.done ?_))))
      refine Wp.reads (is := [0, 1]) (Keep.refl _) (Rn.s rfl (Yv.add (by unfold inI; omega)) (Rn.s rfl Yv.mv (Rn.nil))) ?_
      rw [Int.toNat_natCast, metS_set hlt hm hmn] at hsb1
      exact ⟨k + 1, ⟨rfl, by omega, hsb1, rfl, rfl, rfl, rfl, trivial⟩, by omega⟩
    · have hlt : k = o.length := by have := of_decide_eq_false hlt; omega
      subst hlt
      exact Wp.exit ⟨rfl, hst, rfl, trivial⟩
  · rintro ρ ds w1 ⟨rfl, hst, hs⟩
    refine Wp.forget _ ?_ hs
    clear hs ρ
    have hml : (metS n o o.length).length = n := by unfold metS; simp
    have hmn : ∀ k, k < n → nth (metS n o o.length) (k : Int) = decide ((k : Int) ∈ o) := fun k hk => by
      unfold metS
      rw [nth_range _ hk, List.take_length]
    refine Wp.seq (Wp.reads (is := [0]) (Keep.refl _) (Rn.s rfl Yv.as (Rn.nil)) ?_)
    refine Wp.seq (Wp.seq (Wp.reads (is := [0, 1, 2]) (Keep.refl _) (Rn.s rfl Yv.mv (Rn.s rfl (Yv.len_v (e := 4) (m := 1)) (Rn.s rfl Yv.mv (Rn.nil)))) ?_))
    refine Wp.block ?_
    refine Wp.loop (α := Nat) (fun k ρ ds w' => ds = [] ∧ k ≤ n ∧ ∃ L c, St w [] w' [Ch.row InE 3 L c (leftK n k o), Ch.row BoE 4 (some ⟨ba1, 0, none⟩) n (metS n o o.length)] ∧ Sub [(5, .slice (some ⟨ba1, 0, none⟩) n n), (8, .slice L (leftK n k o).length c), (23, .int .i64 (n : Int)), (24, .int .i64 (k : Int))] ρ) (fun k => n - k) 0
      ⟨rfl, by omega, none, 0, hst.nilrow InE 3, rfl, rfl, rfl, rfl, trivial⟩ ?_
    clear hst
    rintro k ρ ds w2 ⟨rfl, hk, L, c, hst, hs⟩
    refine Wp.forget _ ?_ hs
    clear hs ρ
    have hlk : (leftK n k o).length ≤ k := by
      unfold leftK castN
      rw [List.length_map]
      exact Nat.le_trans (List.length_filter_le _ _) (by simp)
    refine Wp.seq (Wp.reads (is := [0]) (Keep.refl _) (Rn.s rfl (Yv.cmp _ rfl) (Rn.nil)) ?_)
    refine Wp.seq (Wp.cond rfl (fun hlt => ?_) (fun hlt => ?_))
    · have hlt : k < n := by have := of_decide_eq_true hlt; omega
      have hv := hmn k hlt
      have hsucc := leftK_succ n k o
      refine Wp.skip ?_
      refine Wp.seq (Wp.block ?_)
      refine Wp.seq (Wp.reads (is := [0, 1]) (Keep.refl _) (Rn.s rfl Yv.mv (Rn.s rfl Yv.as (Rn.nil))) ?_)
      refine Wp.seq (Wp.reads (is := [0, 1, 2, 3, 4]) (Keep.refl _) (Rn.s rfl Yv.mv (Rn.s rfl Yv.mv (Rn.s rfl (Yv.ia (e := 4) (hst.rd 1) (by omega) (by omega) hml.symm) (Rn.s rfl (Yv.ld ((hst.rd 1).ld 0 (by omega) (by omega))) (Rn.s rfl Yv.not (Rn.nil)))))) ?_)
      rw [hv]
      refine Wp.mid (fun ρ ds w' => ds = [] ∧ ∃ L c, St w [] w' [Ch.row InE 3 L c (leftK n (k + 1) o), Ch.row BoE 4 (some ⟨ba1, 0, none⟩) n (metS n o o.length)] ∧ Sub [(5, .slice (some ⟨ba1, 0, none⟩) n n), (8, .slice L (leftK n (k + 1) o).length c), (23, .int .i64 (n : Int)), (24, .int .i64 (k : Int))] ρ) ?_ ?_
      · refine Wp.cond rfl (fun hc => ?_) (fun hc => ?_)
        · have hc : (k : Int) ∉ o := by simpa using hc
          rw [if_neg hc] at hsucc
          refine Wp.regionL (l := [0, 1, 2, 3, 4]) (WO.rd (is := [0, 1]) (js := [2, 3, 4]) (Keep.refl _) (Rn.s rfl Yv.mv (Rn.s rfl Yv.mv (Rn.nil))) (WO.app InE [(k : Int)] rfl (fun _ => rfl) hst 0 (fitInt (by simp only [List.length_cons, List.length_nil]; omega)) (fun bb1 Ab1 cb1 wb1 hsb1 => WO.rd (is := [4]) (js := []) (Keep.refl _) (Rn.s rfl Yv.as (Rn.nil)) (WO.done ?_))))
          rw [← hsucc] at hsb1 ⊢
          exact ⟨rfl, Ab1, cb1, hsb1, rfl, rfl, rfl, rfl, trivial⟩
        · have hc : (k : Int) ∈ o := by simpa using hc
          rw [if_pos hc, List.append_nil] at hsucc
          refine Wp.skip ?_
          rw [← hsucc] at hst ⊢
          exact ⟨rfl, L, c, hst, rfl, rfl, rfl, rfl, trivial⟩
      · rintro ρ ds w3 ⟨rfl, L2, c2, hst2, hs⟩
        refine Wp.forget _ ?_ hs
        refine Wp.reads (is := [0, 1]) (Keep.refl _) (Rn.s rfl (Yv.add (by unfold inI; omega)) (Rn.s rfl Yv.mv (Rn.nil))) ?_
        exact ⟨k + 1, ⟨rfl, by omega, L2, c2, hst2, rfl, rfl, rfl, rfl, trivial⟩, by omega⟩
    · have hlt : k = n := by have := of_decide_eq_false hlt; omega
      subst hlt
      refine Wp.exit ?_
      refine Wp.seq (Wp.reads (is := [0, 1]) (Keep.refl _) (Rn.s rfl Yv.mv (Rn.s rfl Yv.as (Rn.nil))) ?_)
      exact Wp.ret (Fin.ret (Res.one rfl rfl) ⟨_, _, rfl, ⟨L, c, rfl, rfl⟩, hst.pick [0]⟩)
end Go.Proofs.YthbehiflmcljcaaDoor.C
