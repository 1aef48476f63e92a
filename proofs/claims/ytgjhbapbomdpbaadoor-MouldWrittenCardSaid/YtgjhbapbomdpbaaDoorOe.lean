/- Templates under jobs: a tree's parts, so much deeper, behind some nodes: walked. -/
import Derived.Test.YtgjhbapbomdpbaaDoorNg
import Derived.Test.YtgjhbapbomdpbaaDoorOd
set_option linter.unusedVariables false
set_option linter.unusedSimpArgs false
set_option maxRecDepth 10000
namespace Go.Proofs.YtgjhbapbomdpbaaDoor.C
open Go.RowKit Go.Proofs.YtgjhbapbomdpbaaDoor.Sh
def undS (t x : List Nd) (by_ : Int) (m : Nat) : List Nd := t ++ ((x.drop 1).take m).map (downD by_)
theorem undS_len (t x : List Nd) (by_ : Int) (m : Nat) : (undS t x by_ m).length ≤ t.length + x.length := by
  unfold undS
  simp only [List.length_append, List.length_map, List.length_take, List.length_drop]
  omega
theorem under_calls {w0 : World} {D : List Chunk} (TA : Option Addr) (tc : Nat) (t : List Nd) (XA : Option Addr) (xc : Nat) (x : List Nd) (by_ : Int) (w : World) (hst : St w0 [] w (Ch.row NdE 48 TA tc t :: D)) (hx : Rd NdE w0 XA x) (hl : t.length + x.length ≤ 1599289640380) (hd : ∀ n ∈ x, 0 ≤ n.depth ∧ n.depth ≤ 1000) (hb : 0 ≤ by_ ∧ by_ ≤ 1000) :
    Calls Tryd.prog 29 #[.slice TA t.length tc, .slice XA x.length xc, .int .i64 by_] w fun e w' => ∃ B d, e = .returned (.slice B (t ++ (x.drop 1).map (downD by_)).length d) ∧ St w0 [] w' (Ch.row NdE 48 B d (t ++ (x.drop 1).map (downD by_)) :: D) := by
  refine calls_of_Wp (vs := [_, _, _]) Tryd.func29 ?_
  refine Wp.seq (Wp.reads (is := [0]) (Keep.refl _) (Rn.s rfl Yv.as (Rn.nil)) ?_)
  refine Wp.seq (Wp.seq (Wp.reads (is := [0]) (Keep.refl _) (Rn.s rfl Yv.as (Rn.nil)) ?_))
  refine Wp.block ?_
  refine Wp.loop (α := Nat) (fun m ρ ds w' => ds = [] ∧ m ≤ x.length - 1 ∧ ∃ B d, St w0 [] w' (Ch.row NdE 48 B d (undS t x by_ m) :: D) ∧
    Sub [(0, .slice B (undS t x by_ m).length d), (1, .slice XA x.length xc), (2, .int .i64 by_), (7, .int .i64 ((m : Int) + 1))] ρ) (fun m => x.length - m) 0
    ⟨rfl, Nat.zero_le _, TA, tc, by unfold undS; simpa using hst, by unfold undS; simp; rfl, rfl, rfl, rfl, trivial⟩ ?_
  rintro m ρ ds w' ⟨rfl, hm, B, d, hst, hsub⟩
  refine Wp.forget _ ?_ hsub
  clear hsub ρ
  refine Wp.seq (Wp.seq (Wp.reads (is := [0, 1, 2, 3]) (Keep.refl _) (Rn.s rfl Yv.mv (Rn.s rfl Yv.mv (Rn.s rfl (Yv.len_v (e := 48) (m := 8)) (Rn.s rfl (Yv.cmp _ rfl) (Rn.nil))))) ?_))
  have hul := undS_len t x by_ m
  refine Wp.cond rfl (fun h => ?_) (fun h => ?_)
  · have h := of_decide_eq_true h
    have hx' := hx.keep hst.keep
    have hml : m + 1 < x.length := by omega
    obtain ⟨n, hn⟩ : ∃ n, n = nth x ((m : Int) + 1) := ⟨_, rfl⟩
    have hnx : n ∈ x := by
      rw [hn]
      have e : ((m : Int) + 1) = ((m + 1 : Nat) : Int) := by omega
      rw [e]
      exact nth_mem hml
    have hdn := hd n hnx
    refine Wp.skip (Wp.seq (Wp.block ?_))
    refine Wp.seq (Wp.regionL (l := [0, 1, 2, 3, 4, 5]) (WO.rd (is := [0, 1, 2, 3]) (js := [4, 5]) (Keep.refl _) (Rn.s rfl Yv.mv (Rn.s rfl Yv.mv (Rn.s rfl (Yv.ia (e := 48) hx' (by omega) (by omega)) (Rn.s rfl (Yv.ldel hx' rfl rfl (by omega) (by omega)) (Rn.nil))))) (WO.act (hc := rfl) (he := Ef.allocL (vs := [.int .i64 0, .int .i64 0, S [], S [], S [], .int .i64 0, .int .i64 0, .int .i64 0]) hst (fun ba1 wa1 ka1 hsa1 => WO.act (hc := rfl) (he := Ef.stores hsa1 0 (fun wa2 hsa2 => WO.done ?_)))))))
    have hst : St w0 [] wa2 (Ch.cells ba1 48 n.cs :: Ch.row NdE 48 B d (undS t x by_ m) :: D) := by rw [hn]; exact hsa2
    clear hsa1 hsa2
    have c8 := hst.cells 0
    refine Wp.seq (Wp.regionL (l := [0, 1, 2, 3, 4, 5]) (WO.rd (is := [0, 1, 2, 3, 4]) (js := [5]) (Keep.refl _) (Rn.s rfl (Yv.fa (off := 1)) (Rn.s rfl (Yv.ld (c8.at_ 1)) (Rn.s rfl Yv.mv (Rn.s rfl (Yv.add (by unfold inI; omega)) (Rn.s rfl (Yv.fa (off := 1)) (Rn.nil)))))) (WO.act (hc := rfl) (he := Ef.store hst 0 (fun wb1 hsb1 => WO.done ?_)))))
    have hst : St w0 [] wb1 (Ch.cells ba1 48 (downD by_ n).cs :: Ch.row NdE 48 B d (undS t x by_ m) :: D) := hsb1
    clear hsb1 c8
    have c8 := hst.cells 0
    refine Wp.regionL (l := [0, 1, 2, 3, 4]) (WO.rd (is := [0, 1]) (js := [2, 3, 4]) (Keep.refl _) (Rn.s rfl Yv.mv (Rn.s rfl (Yv.ldb c8) (Rn.nil))) (WO.app NdE [downD by_ n] rfl (fun _ => rfl) hst 1 (fitN (by simp; omega)) (fun bz1 Az1 cz1 wz1 hsz1 => WO.rd (is := [4]) (js := []) (Keep.refl _) (Rn.s rfl Yv.as (Rn.nil)) (WO.done ?_))))
    refine Wp.reads (is := [0, 1, 2]) (Keep.refl _) (Rn.s rfl Yv.mv (Rn.s rfl (Yv.add (by unfold inI; omega)) (Rn.s rfl Yv.as (Rn.nil)))) ?_
    have e : undS t x by_ m ++ [downD by_ n] = undS t x by_ (m + 1) := by
      have hd1 : (x.drop 1)[m]? = some n := by
        rw [List.getElem?_drop, Nat.add_comm, List.getElem?_eq_getElem hml, hn]
        have e2 : ((m : Int) + 1) = ((m + 1 : Nat) : Int) := by omega
        rw [e2, nth_of (List.getElem?_eq_getElem hml)]
      unfold undS
      rw [List.take_add_one, hd1]
      simp
    refine ⟨m + 1, ⟨rfl, by omega, Az1, cz1, ?_, ?_, rfl, rfl, rfl, trivial⟩, by omega⟩
    · rw [← e]; exact St.sub (D := _ :: _ :: D) hsz1 (List.Sublist.cons_cons _ (List.sublist_cons_self _ _))
    · rw [← e]; rfl
  · have h := of_decide_eq_false h
    have e : undS t x by_ m = t ++ (x.drop 1).map (downD by_) := by
      unfold undS
      rw [List.take_of_length_le (by simp; omega)]
    refine Wp.exit ?_
    refine Wp.seq (Wp.reads (is := [0, 1]) (Keep.refl _) (Rn.s rfl Yv.mv (Rn.s rfl Yv.as (Rn.nil))) ?_)
    rw [e] at hst ⊢
    exact Wp.ret (Fin.ret (Res.one rfl rfl) ⟨B, d, rfl, hst⟩)
end Go.Proofs.YtgjhbapbomdpbaaDoor.C
