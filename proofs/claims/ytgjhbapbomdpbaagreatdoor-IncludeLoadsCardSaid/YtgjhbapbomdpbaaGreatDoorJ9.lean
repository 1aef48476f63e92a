/- The document's reader of a text: one line. -/
import Derived.Test.YtgjhbapbomdpbaaGreatDoorJ8
import Derived.Test.YtgjhbapbomdpbaaGreatDoorJ5
import Derived.Test.YtgjhbapbomdpbaaGreatDoorJ2
import Derived.Test.YtgjhbapbomdpbaaGreatDoorJ7
import Derived.Test.YtgjhbapbomdpbaaGreatDoorJ6
set_option linter.unusedVariables false
set_option linter.unusedSimpArgs false
set_option maxRecDepth 10000
namespace Go.Proofs.YtgjhbapbomdpbaaGreatDoor.C
open Go.RowKit Go.Proofs.YtgjhbapbomdpbaaGreatDoor.Sh
theorem rhas_cv (A : Option Addr) (c : Nat) (ks : List Bs) (key : Bs) (w0 : World) (hr : Rd StE w0 A ks) (hl : ks.length < 4000000000000000000) : Cv Tryz.prog 94 [.slice A ks.length c, S key] (.bool (decide (key ∈ ks))) w0 := by
  intro w hk
  have hr := hr.keep hk
  refine calls_of_Wp (vs := [_, _]) Tryz.func94 ?_
  refine Wp.seq (Wp.reads (is := [0]) (Keep.refl _) (Rn.s rfl Yv.as (Rn.nil)) ?_)
  refine Wp.seq (Wp.seq (Wp.reads (is := [0]) (Keep.refl _) (Rn.s rfl Yv.as (Rn.nil)) ?_))
  refine Wp.block ?_
  refine Wp.loop (α := Nat) (fun i ρ ds w' => ds = [] ∧ Keep w w' ∧ i ≤ ks.length ∧ key ∉ ks.take i ∧ Sub [(0, .slice A ks.length c), (1, S key), (5, .int .i64 (i : Int))] ρ) (fun i => ks.length - i) 0
    ⟨rfl, Keep.refl _, Nat.zero_le _, by simp, rfl, rfl, rfl, trivial⟩ ?_
  rintro i ρ ds w' ⟨rfl, hk, hi, hno, hs⟩
  refine Wp.forget _ ?_ hs
  have hr' := hr.keep hk
  refine Wp.seq (Wp.seq (Wp.reads (is := [0, 1, 2, 3]) (Keep.refl _) (Rn.s rfl Yv.mv (Rn.s rfl Yv.mv (Rn.s rfl (Yv.len_v (e := 9) (m := 1)) (Rn.s rfl (Yv.cmp _ rfl) (Rn.nil))))) ?_))
  refine Wp.cond rfl (fun h => ?_) (fun h => ?_)
  · have h := of_decide_eq_true h
    have hil : i < ks.length := by omega
    have hget : nth ks (i : Int) = ks[i] := nth_of (List.getElem?_eq_getElem hil)
    refine Wp.skip (Wp.seq (Wp.block ?_))
    refine Wp.seq (Wp.reads (is := [0, 1, 2, 3, 4, 5]) (Keep.refl _) (Rn.s rfl Yv.mv (Rn.s rfl Yv.mv (Rn.s rfl (Yv.ia (e := 9) hr' (by omega) (by omega)) (Rn.s rfl (Yv.ld (hr'.ld 0 (by omega) (by omega))) (Rn.s rfl Yv.mv (Rn.s rfl (Yv.scm _ rfl) (Rn.nil))))))) ?_)
    refine Wp.cond rfl (fun h2 => ?_) (fun h2 => ?_)
    · have h2 : ks[i] = key := by rw [← hget]; exact eq_of_beq h2
      refine Wp.seq (Wp.reads (is := [0]) (Keep.refl _) (Rn.s rfl Yv.as (Rn.nil)) ?_)
      refine Wp.ret (Fin.ret (Res.one rfl rfl) ⟨?_, hk⟩)
      rw [decide_eq_true (by rw [← h2]; exact List.getElem_mem hil)]
    · have h2 : ks[i] ≠ key := by rw [← hget]; exact ne_of_beq_false h2
      refine Wp.skip (Wp.reads (is := [0, 1, 2]) (Keep.refl _) (Rn.s rfl Yv.mv (Rn.s rfl (Yv.add (by unfold inI; omega)) (Rn.s rfl Yv.as (Rn.nil)))) ?_)
      refine ⟨i + 1, ⟨rfl, hk, by omega, ?_, rfl, rfl, rfl, trivial⟩, by omega⟩
      rw [List.take_add_one, List.getElem?_eq_getElem hil, List.mem_append]
      rintro (hm | hm)
      · exact hno hm
      · simp at hm; exact h2 hm.symm
  · have h := of_decide_eq_false h
    refine Wp.exit ?_
    refine Wp.seq (Wp.reads (is := [0]) (Keep.refl _) (Rn.s rfl Yv.as (Rn.nil)) ?_)
    refine Wp.ret (Fin.ret (Res.one rfl rfl) ⟨?_, hk⟩)
    rw [List.take_of_length_le (by omega)] at hno
    rw [decide_eq_false hno]
/-- an open block, as the document has it -/
structure RB where
  indent : Int
  items : Bool
  node : Int
  depth : Int
  keys : List Bs
  A : Option Addr
  c : Nat
deriving Inhabited
abbrev RbE : Enc RB := ⟨5, fun x => [.int .i64 x.indent, .bool x.items, .int .i64 x.node, .int .i64 x.depth, .slice x.A x.keys.length x.c], fun _ => rfl⟩
abbrev krow (x : RB) : Chunk := Ch.row StE 9 x.A x.c x.keys
def krows (q : List RB) : List Chunk := q.map krow
abbrev qcs (file : Bs) (A : Option Addr) (n c : Nat) (B : Option Addr) (m d : Nat) (free : Bool) : List Value := [S file, .slice A n c, .slice B m d, .bool free]
abbrev ChQ (b : Nat) (file : Bs) (A : Option Addr) (c : Nat) (nodes : List Nd) (B : Option Addr) (d : Nat) (q : List RB) (free : Bool) : List Chunk :=
  Ch.cells b 141 (qcs file A nodes.length c B q.reverse.length d free) :: Ch.row NdE 62 A c nodes :: Ch.row RbE 138 B d q.reverse :: krows q
/-- the document's open blocks are the reader's -/
def Rl : List RB → List OB → Prop
  | [], [] => True
  | x :: q, b :: st => x.indent = b.indent ∧ x.items = b.items ∧ x.node = b.node ∧ x.depth = (q.length : Int) ∧ (∀ key, key ∈ x.keys ↔ (alook key b.keys).isSome = true) ∧ Rl q st
  | _, _ => False
theorem Rl.len : ∀ {q : List RB} {st : List OB}, Rl q st → q.length = st.length
  | [], [], _ => rfl
  | [], _ :: _, h => h.elim
  | _ :: _, [], h => h.elim
  | _ :: q, _ :: st, h => by simp only [List.length_cons, Rl.len h.2.2.2.2.2]
/-- the outermost block has no indent -/
def Bot : List RB → Prop
  | [] => False
  | [x] => x.indent = 0
  | _ :: y :: r => Bot (y :: r)
theorem set_top {α : Type} (x y : α) (r : List α) : (x :: r).reverse.set (((x :: r).reverse.length : Int) - 1).toNat y = (y :: r).reverse := by
  have e : (((x :: r).reverse.length : Int) - 1).toNat = r.reverse.length := by simp
  rw [e, List.reverse_cons, List.set_append_right _ _ (Nat.le_refl _)]
  simp
/-- one of three may come up -/
theorem _root_.Go.Proofs.YtgjhbapbomdpbaaGreatDoor.Sh.WDB.act3 {r : Option Nat} {P : Program} {ops : Array Oper} {wb : World} {N : Nat} {ρ : Env} {ds : List Deferred} {w : World} {Q : Post} {tail : List Nat} {listed : Array Bool} (i j k : Nat) {di dj dk : Option Nat} {oi oj ok : Op} {vi vj vk : List Value} (hci : cop N ops ρ i = some (di, oi, vi) := by rfl) (hcj : cop N ops ρ j = some (dj, oj, vj) := by rfl) (hck : cop N ops ρ k = some (dk, ok, vk) := by rfl)
    (hi : Ef r P N di oi vi ρ ds w (fun ρ' w' => (i ∉ tail → Keep wb w → Keep wb w') ∧ WDB wb r P N ops tail (listed.setIfInBounds i true) ρ' ds w' Q) Q) (hj : Ef r P N dj oj vj ρ ds w (fun ρ' w' => (j ∉ tail → Keep wb w → Keep wb w') ∧ WDB wb r P N ops tail (listed.setIfInBounds j true) ρ' ds w' Q) Q) (hk : Ef r P N dk ok vk ρ ds w (fun ρ' w' => (k ∉ tail → Keep wb w → Keep wb w') ∧ WDB wb r P N ops tail (listed.setIfInBounds k true) ρ' ds w' Q) Q) (hl : Region.ready .any ops listed = [i, j, k] := by kernel_rfl) : WDB wb r P N ops tail listed ρ ds w Q := by
  intro a ha
  have hri : i ∈ Region.ready .any ops listed := by rw [hl]; simp
  have hrj : j ∈ Region.ready .any ops listed := by rw [hl]; simp
  have hrk : k ∈ Region.ready .any ops listed := by rw [hl]; simp
  have h1 := still_set (ready_un hri)
  have h2 := still_set (ready_un hrj)
  have h3 := still_set (ready_un hrk)
  rw [h1]
  have hji : still (listed.setIfInBounds i true) = still (listed.setIfInBounds j true) := by omega
  have hki : still (listed.setIfInBounds i true) = still (listed.setIfInBounds k true) := by omega
  refine ⟨fun h => (by rw [hl] at h; cases h), fun x hx => ?_⟩
  rw [hl] at hx
  simp only [List.mem_cons, List.not_mem_nil, or_false] at hx
  rcases hx with rfl | rfl | rfl
  · obtain ⟨o, ho, hg, hd, rfl, hN, hv⟩ := cop_spec hci
    unfold wpOpIn
    simp only [ho]
    rw [wanted_of_gd ha hg]
    simp only [if_true]
    refine Oper.wpIn_mono ?_ (hi hN o a rfl hd ha (evs_spec ha hv))
    rintro a' w' ⟨ρ', hr, hk⟩
    exact ⟨hk.1, hk.2 a' hr⟩
  · obtain ⟨o, ho, hg, hd, rfl, hN, hv⟩ := cop_spec hcj
    unfold wpOpIn
    simp only [ho]
    rw [wanted_of_gd ha hg]
    simp only [if_true]
    refine Oper.wpIn_mono ?_ (hj hN o a rfl hd ha (evs_spec ha hv))
    rintro a' w' ⟨ρ', hr, hk⟩
    refine ⟨hk.1, ?_⟩
    rw [hji]
    exact hk.2 a' hr
  · obtain ⟨o, ho, hg, hd, rfl, hN, hv⟩ := cop_spec hck
    unfold wpOpIn
    simp only [ho]
    rw [wanted_of_gd ha hg]
    simp only [if_true]
    refine Oper.wpIn_mono ?_ (hk hN o a rfl hd ha (evs_spec ha hv))
    rintro a' w' ⟨ρ', hr, hk⟩
    refine ⟨hk.1, ?_⟩
    rw [hki]
    exact hk.2 a' hr
def LinePost (b : Nat) (file : Bs) (nodes : List Nd) (q : List RB) (st : List OB) (last : Bool) (ind : Int) (l : Ln) (n : Nat) (M : List Nat) (w : World) (e : Ending) (w' : World) : Prop :=
  if (readC l.text).2.2 ≠ 0 then e = .returned (.tuple #[.int .i64 (readC l.text).2.2, .int .i64 (l.indent + (readC l.text).2.1)]) ∧ St w M w' []
  else if (enterS nodes st last ind l (readC l.text).1).1 ≠ 0 then e = .returned (.tuple #[.int .i64 (enterS nodes st last ind l (readC l.text).1).1, .int .i64 (l.indent + 1)]) ∧ St w M w' []
  else e = .returned (.tuple #[.int .i64 0, .int .i64 0]) ∧ ∃ A' c' B' d' x' q', Rl (x' :: q') (enterS nodes st last ind l (readC l.text).1).2.2 ∧ x'.indent = l.indent ∧ Bot (x' :: q') ∧ (∀ y ∈ x' :: q', y.keys.length ≤ n + 1) ∧
    St w M w' (ChQ b file A' c' ((enterS nodes st last ind l (readC l.text).1).2.1 ++ [nodeS file (enterS nodes st last ind l (readC l.text).1).2.2.length l (readC l.text).1]) B' d' (x' :: q') (!(readC l.text).1.has))
set_option maxHeartbeats 3200000 in
theorem rline_calls {M : List Nat} (b : Nat) (file : Bs) (A : Option Addr) (c : Nat) (nodes : List Nd) (B : Option Addr) (d : Nat) (x : RB) (r : List RB) (last : Bool) (l : Ln) (st : List OB) (n : Nat) (w : World) (hst : St w M w (ChQ b file A c nodes B d (x :: r) last)) (hn : 0 < nodes.length) (hn2 : nodes.length ≤ 1000000) (hq2 : (x :: r).length ≤ 1000000) (hkb : ∀ y ∈ x :: r, y.keys.length ≤ n) (hn3 : n ≤ 1000000)
    (hrl : Rl (x :: r) st) (hbot : Bot (x :: r)) (hdep : last = true → (nth nodes ((nodes.length : Int) - 1)).depth = ((x :: r).length : Int)) (hl0 : 0 ≤ l.indent) (hl1 : l.indent ≤ 65536) (hlt : l.text.length ≤ 65536) :
    Calls Tryz.prog 69 #[PB b, .agg l.cs.toArray] w (LinePost b file nodes (x :: r) st last x.indent l n M w) := by
  refine calls_of_Wp (vs := [_, _]) Tryz.func69 ?_
  refine Wp.seq (Wp.regionL (l := [0, 1, 2]) (WO.act (hc := rfl) (he := Ef.boxL (l.cs) hst (fun ba1 wa1 ka1 hsa1 => WO.rd (is := [1, 2]) (js := []) ((Keep.refl _).trans ka1) (Rn.s rfl Yv.as (Rn.s rfl Yv.as (Rn.nil))) (WO.done ?_)))))
  have hst : St w M wa1 (Ch.cells ba1 129 l.cs :: ChQ b file A c nodes B d (x :: r) last) := hsa1
  have c3 := hst.cells 0
  have hrd := rread_cv l.text (by omega) wa1
  obtain ⟨⟨rc0, rc1, rv0, rv1⟩, rl0, rl1⟩ := readC_ok l.text
  obtain ⟨o, col, er, hRd⟩ : ∃ o col er, readC l.text = (o, col, er) := ⟨_, _, _, rfl⟩
  unfold LinePost
  rw [hRd] at hrd rc0 rc1 rv0 rv1 rl0 rl1 ⊢
  simp only at rc0 rc1 rv0 rv1 rl0 rl1 hrd ⊢
  refine Wp.seq (Wp.regionL (l := [0, 1, 2, 3, 4, 5, 6, 7, 8, 9, 10]) (WO.rd (is := [0, 1]) (js := [2, 3, 4, 5, 6, 7, 8, 9, 10]) (Keep.refl _) (Rn.s rfl (Yv.fa (off := 2)) (Rn.s rfl (Yv.ld (c3.at_ 2)) (Rn.nil))) (WO.cv rfl hrd (Keep.refl _) (FnOk.of Tryz.func93) (fun wx1 kx1 => WO.rd (is := [3, 4, 5, 6]) (js := [7, 8, 9, 10]) ((Keep.refl _).trans kx1) (Rn.s rfl Yv.mv (Rn.s rfl Yv.ex (Rn.s rfl Yv.ex (Rn.s rfl Yv.ex (Rn.nil))))) (WO.act (hc := rfl) (he := Ef.allocL (vs := [.int .i64 0, S [], .bool false, S [], .int .i64 0, .int .i64 0, .int .i64 0]) (hst.quiet kx1) (fun bx2 wx2 kx2 hsx2 => WO.act (hc := rfl) (he := Ef.stores hsx2 0 (fun wx3 hsx3 => WO.rd (is := [9, 10]) (js := []) (Keep.refl _) (Rn.s rfl Yv.as (Rn.s rfl Yv.as (Rn.nil))) (WO.done ?_))))))))))
  have hst : St w M wx3 (Ch.cells bx2 131 o.cs :: Ch.cells ba1 129 l.cs :: ChQ b file A c nodes B d (x :: r) last) := hsx3
  have c6 := hst.cells 0
  have c3 := hst.cells 1
  refine Wp.seq (Wp.seq (Wp.reads (is := [0, 1]) (Keep.refl _) (Rn.s rfl Yv.mv (Rn.s rfl (Yv.cmp _ rfl) (Rn.nil))) ?_))
  refine Wp.cond rfl (fun h => ?_) (fun h => ?_)
  · have h : er ≠ 0 := bne_iff_ne.1 h
    refine Wp.seq (Wp.readsD (is := [0, 1, 2, 3, 4, 5, 6]) mixed (fun _ _ _ _ _ h => h) (Keep.refl _) (Rn.s rfl Yv.mv (Rn.s rfl (Yv.fa (off := 1)) (Rn.s rfl (Yv.ld (c3.at_ 1)) (Rn.s rfl Yv.mv (Rn.s rfl (Yv.add (by unfold inI; omega)) (Rn.s rfl Yv.as (Rn.s rfl Yv.as (Rn.nil)))))))) ?_)
    refine Wp.ret (Fin.ret (Res.two rfl rfl rfl) ?_)
    rw [if_pos h]
    exact ⟨rfl, (hst.quiet (Keep.drew _)).sub (List.nil_sublist _)⟩
  have h : er = 0 := bne_eq_false_iff_eq.1 h
  subst h
  refine Wp.skip ?_
  refine Wp.seq (Wp.reads (is := [0, 1, 2, 3]) (Keep.refl _) (Rn.s rfl (Yv.fa (off := 1)) (Rn.s rfl (Yv.ld (c3.at_ 1)) (Rn.s rfl (Yv.add (by unfold inI; omega)) (Rn.s rfl Yv.as (Rn.nil))))) ?_)
  refine Wp.seq (Wp.reads (is := [0, 1, 2, 3]) (Keep.refl _) (Rn.s rfl (Yv.fa (off := 0)) (Rn.s rfl (Yv.ld (c6.at_ 0)) (Rn.s rfl (Yv.cmp _ rfl) (Rn.s rfl Yv.as (Rn.nil))))) ?_)
  have hc := hst.cells 2
  have hr := hst.rd 4
  have hlr : (x :: r).reverse.length = r.length + 1 := by simp
  have hlq : r.length + 1 ≤ 1000000 := by simpa using hq2
  refine Wp.seq (Wp.draws [13] mixed (WD.rd (is := [0, 1, 2, 3, 4, 5, 6, 7, 8, 9, 10, 11]) (fun _ _ _ _ _ h => h) (Keep.drew _) (Rn.s rfl Yv.mv (Rn.s rfl Yv.nc (Rn.s rfl (Yv.fa (off := 2)) (Rn.s rfl (Yv.ld (hc.at_ 2)) (Rn.s rfl Yv.mv (Rn.s rfl Yv.nc (Rn.s rfl (Yv.fa (off := 2)) (Rn.s rfl (Yv.ld (hc.at_ 2)) (Rn.s rfl (Yv.len_v (e := 138) (m := 5)) (Rn.s rfl (Yv.sub (by unfold inI; omega)) (Rn.s rfl (Yv.ia (e := 138) hr (by omega) (by omega)) (Rn.s rfl (Yv.ldel hr rfl rfl (by omega) (by omega)) (Rn.nil))))))))))))) (WD.act 12 (hc := rfl) (he := Ef.allocL (vs := [.int .i64 0, .bool false, .int .i64 0, .int .i64 0, .slice none 0 0]) (hst.quiet (Keep.drew _)) (fun by1 wy1 ky1 hsy1 => ⟨fun _ => ky1, WD.act 13 (hc := rfl) (he := Ef.stores hsy1 0 (fun wy2 hsy2 => ⟨fun hn => (hn (by decide)).elim, WD.done ?_⟩))⟩)))))
  rw [nth_top] at hsy2
  have hst : St w M wy2 (Ch.cells by1 138 (RbE.cells x) :: Ch.cells bx2 131 o.cs :: Ch.cells ba1 129 l.cs :: ChQ b file A c nodes B d (x :: r) last) := hsy2
  clear hsy1 hsy2 hsx2 hsx3 hsa1
  have c11 := hst.cells 0
  have c6 := hst.cells 1
  have c3 := hst.cells 2
  have hc := hst.cells 3
  refine Wp.seq (Wp.seq (Wp.reads (is := [0, 1, 2, 3, 4, 5, 6, 7, 8, 9, 10]) (Keep.refl _) (Rn.s rfl Yv.mv (Rn.s rfl Yv.nc (Rn.s rfl (Yv.fa (off := 3)) (Rn.s rfl (Yv.ld (hc.at_ 3)) (Rn.s rfl Yv.mv (Rn.and (is := [5, 6, 7, 8, 9, 10]) (js := []) (t := 51) (d := 57) (hg := rfl) (ht := fun h4 => Rn.s rfl (Yv.fa (off := 1)) (Rn.s rfl (Yv.ld (c3.at_ 1)) (Rn.s rfl (Yv.fa (off := 0)) (Rn.s rfl (Yv.ld (c11.at_ 0)) (Rn.s rfl (Yv.cmp _ rfl) (Rn.s rfl Yv.pick_t ((Rn.e 6 rfl rfl)))))))) (hf := fun _ => Rn.no rfl (Rn.no rfl (Rn.no rfl (Rn.no rfl (Rn.no rfl (Rn.s rfl Yv.pick_f (Rn.e 6 rfl rfl))))))) (k := Rn.nil))))))) ?_))
  -- the line's block
  obtain ⟨N1, hN1⟩ : ∃ N1, N1 = nodes1 nodes last x.indent l o := ⟨_, rfl⟩
  refine Wp.mid (fun ρ ds w' => ds = [] ∧ ∃ A1 c1 B1 d1 x1 r1 st1, Rl (x1 :: r1) st1 ∧ popS l.indent (stack1 nodes.length st last x.indent l o) = st1 ∧ x1.indent = l.indent ∧ Bot (x1 :: r1) ∧ (∀ y ∈ x1 :: r1, y.keys.length ≤ n) ∧ (x1 :: r1).length ≤ 1000001 ∧
    St w M w' (Ch.cells bx2 131 o.cs :: Ch.cells ba1 129 l.cs :: ChQ b file A1 c1 N1 B1 d1 (x1 :: r1) last) ∧
    Sub [(0, PB b), (3, PB ba1), (6, PB bx2), (9, .int .i64 (l.indent + 1)), (10, .bool (o.kind == 2))] ρ) ?_ ?_
  · refine Wp.cond rfl (fun h => ?_) (fun h => ?_)
    · have hop1 : opens last x.indent l = true := h
      have hop2 := hop1
      unfold opens at hop2
      simp only [Bool.and_eq_true, decide_eq_true_eq] at hop2
      have e1 : stack1 nodes.length st last x.indent l o = ⟨l.indent, o.kind == 2, (nodes.length : Int) - 1, []⟩ :: st := by rw [stack1, if_pos hop1]
      have hrn := hst.rd 4
      refine Wp.seq (Wp.reads (is := [0, 1, 2, 3, 4, 5, 6]) (Keep.refl _) (Rn.s rfl Yv.mv (Rn.s rfl Yv.nc (Rn.s rfl (Yv.fa (off := 1)) (Rn.s rfl (Yv.ld (hc.at_ 1)) (Rn.s rfl (Yv.len_v (e := 62) (m := 8)) (Rn.s rfl (Yv.sub (by unfold inI; omega)) (Rn.s rfl Yv.as (Rn.nil)))))))) ?_)
      refine Wp.seq (Wp.regionL (l := [0, 1, 2, 3, 4, 5, 6, 7]) (WO.rd (is := [0, 1, 2, 3, 4, 5, 6]) (js := [7]) (Keep.refl _) (Rn.s rfl Yv.mv (Rn.s rfl Yv.nc (Rn.s rfl (Yv.fa (off := 1)) (Rn.s rfl (Yv.ld (hc.at_ 1)) (Rn.s rfl Yv.mv (Rn.s rfl (Yv.ia (e := 62) hrn (by omega) (by omega)) (Rn.s rfl (Yv.fa (off := 0)) (Rn.nil)))))))) (WO.act (hc := rfl) (he := Ef.setFld (E := NdE) (xs := nodes) (f := 0) hst 4 ((nth nodes ((nodes.length : Int) - 1)).kd (1)) rfl rfl (by omega) (by omega) (fun wz1 hsz1 => WO.done ?_)))))
      have ej : ((nodes.length : Int) - 1).toNat = nodes.length - 1 := by omega
      obtain ⟨ns, hns⟩ : ∃ ns, ns = nodes.set ((nodes.length : Int) - 1).toNat ((nth nodes ((nodes.length : Int) - 1)).kd (1)) := ⟨_, rfl⟩
      have hnl : ns.length = nodes.length := by rw [hns, List.length_set]
      have hst : St w M wz1 (Ch.cells by1 138 (RbE.cells x) :: Ch.cells bx2 131 o.cs :: Ch.cells ba1 129 l.cs :: ChQ b file A c ns B d (x :: r) last) := by
        have := hsz1.pickT (P := [_, _, _, _, _, _]) (T := krows (x :: r)) [1, 2, 3, 4, 0, 5]
        rw [← hns] at this
        unfold ChQ
        rw [hnl]
        exact this
      have hc := hst.cells 3
      have hrn := hst.rd 4
      have hj : nodes.length - 1 < nodes.length := by omega
      have hnt : nth nodes ((nodes.length : Int) - 1) = nodes.getD (nodes.length - 1) default := by unfold nth; rw [ej]
      have hget : nth ns ((nodes.length : Int) - 1) = ((nth nodes ((nodes.length : Int) - 1)).kd (1)) := by
        obtain ⟨X, hX⟩ : ∃ X, X = (nth nodes ((nodes.length : Int) - 1)).kd 1 := ⟨_, rfl⟩
        rw [← hX] at hns ⊢
        show ns.getD ((nodes.length : Int) - 1).toNat default = X
        rw [hns, ej]
        simp [hj]
      refine Wp.seq (Wp.mid (fun ρ ds w' => ds = [] ∧ St w M w' (Ch.cells by1 138 (RbE.cells x) :: Ch.cells bx2 131 o.cs :: Ch.cells ba1 129 l.cs :: ChQ b file A c N1 B d (x :: r) last) ∧ N1.length = nodes.length ∧ (nth N1 ((nodes.length : Int) - 1)).depth = (nth nodes ((nodes.length : Int) - 1)).depth ∧
        Sub [(0, PB b), (3, PB ba1), (6, PB bx2), (9, .int .i64 (l.indent + 1)), (10, .bool (o.kind == 2)), (12, .int .i64 ((nodes.length : Int) - 1))] ρ) ?_ ?_)
      · refine Wp.seq (Wp.reads (is := [0]) (Keep.refl _) (Rn.s rfl Yv.mv (Rn.nil)) ?_)
        refine Wp.cond rfl (fun h2 => ?_) (fun h2 => ?_)
        · have h2 := eq_of_beq h2
          refine Wp.regionL (l := [0, 1, 2, 3, 4, 5, 6, 7]) (WO.rd (is := [0, 1, 2, 3, 4, 5, 6]) (js := [7]) (Keep.refl _) (Rn.s rfl Yv.mv (Rn.s rfl Yv.nc (Rn.s rfl (Yv.fa (off := 1)) (Rn.s rfl (Yv.ld (hc.at_ 1)) (Rn.s rfl Yv.mv (Rn.s rfl (Yv.ia (e := 62) hrn (by omega) (by omega)) (Rn.s rfl (Yv.fa (off := 0)) (Rn.nil)))))))) (WO.act (hc := rfl) (he := Ef.setFld (E := NdE) (xs := ns) (f := 0) hst 4 ((nth ns ((nodes.length : Int) - 1)).kd (2)) rfl rfl (by omega) (by omega) (fun wu1 hsu1 => WO.done ?_))))
          have e2 : N1 = ns.set ((nodes.length : Int) - 1).toNat ((nth ns ((nodes.length : Int) - 1)).kd (2)) := by
            rw [hN1, hget, hns, List.set_set, nodes1, if_pos hop1, if_pos h2, ej, hnt]; rfl
          have e3 : N1.length = ns.length := by rw [e2, List.length_set]
          have e4 : nth N1 ((nodes.length : Int) - 1) = (nth ns ((nodes.length : Int) - 1)).kd 2 := by
            obtain ⟨X, hX⟩ : ∃ X, X = (nth ns ((nodes.length : Int) - 1)).kd 2 := ⟨_, rfl⟩
            rw [← hX] at e2 ⊢
            show N1.getD ((nodes.length : Int) - 1).toNat default = X
            rw [e2, ej]
            simp [hnl, hj]
          refine ⟨rfl, ?_, by omega, by rw [e4, hget]; rfl, rfl, rfl, rfl, rfl, rfl, rfl, trivial⟩
          have := hsu1.pickT (P := [_, _, _, _, _, _]) (T := krows (x :: r)) [1, 2, 3, 4, 0, 5]
          rw [← e2] at this
          unfold ChQ
          rw [e3]
          exact this
        · have h2 := ne_of_beq_false h2
          have e2 : N1 = ns := by rw [hN1, hns, nodes1, if_pos hop1, if_neg h2, ej, hnt]
          refine Wp.skip ⟨rfl, ?_, by rw [e2, hnl], by rw [e2, hget]; rfl, rfl, rfl, rfl, rfl, rfl, rfl, trivial⟩
          rw [e2]
          exact hst
      rintro ρ ds w' ⟨rfl, hst, hnl1, hd1, hs⟩
      refine Wp.forget _ ?_ hs
      have hc := hst.cells 3
      have c3 := hst.cells 2
      have hrn := hst.rd 4
      have hdp := hdep hop2.1
      obtain ⟨X, hX⟩ : ∃ X : RB, X = ⟨l.indent, o.kind == 2, (nodes.length : Int) - 1, (nth N1 ((nodes.length : Int) - 1)).depth, [], none, 0⟩ := ⟨_, rfl⟩
      have hXc : RbE.cells X = [.int .i64 l.indent, .bool (o.kind == 2), .int .i64 ((nodes.length : Int) - 1), .int .i64 (nth N1 ((nodes.length : Int) - 1)).depth, .slice none 0 0] := by rw [hX]; rfl
      refine Wp.draws [19, 22] mixed (WD.rd (is := [0, 1, 2, 3, 4, 5, 6, 7, 8, 9, 10, 11, 12, 13, 14, 15, 16, 17]) (fun _ _ _ _ _ h => h) (Keep.drew _) (Rn.s rfl Yv.mv (Rn.s rfl Yv.mv (Rn.s rfl Yv.nc (Rn.s rfl (Yv.fa (off := 2)) (Rn.s rfl (Yv.ld (hc.at_ 2)) (Rn.s rfl (Yv.fa (off := 1)) (Rn.s rfl (Yv.ld (c3.at_ 1)) (Rn.s rfl Yv.mv (Rn.s rfl Yv.mv (Rn.s rfl Yv.mv (Rn.s rfl Yv.nc (Rn.s rfl (Yv.fa (off := 1)) (Rn.s rfl (Yv.ld (hc.at_ 1)) (Rn.s rfl Yv.mv (Rn.s rfl (Yv.ia (e := 62) hrn (by omega) (by omega)) (Rn.s rfl (Yv.fa (off := 1)) (Rn.s rfl (Yv.ld (hrn.ld 1 (by omega) (by omega))) (Rn.s rfl (Yv.bd (cs := [.int .i64 l.indent, .bool (o.kind == 2), .int .i64 ((nodes.length : Int) - 1), .int .i64 (nth N1 ((nodes.length : Int) - 1)).depth, .slice none 0 0])) (Rn.nil))))))))))))))))))) (WD.app RbE [(⟨l.indent, o.kind == 2, (nodes.length : Int) - 1, (nth N1 ((nodes.length : Int) - 1)).depth, [], none, 0⟩ : RB)] 18 19 rfl (fun _ => rfl) (hst.quiet (Keep.drew _)) 5 (.inl (by simp only [List.length_reverse, List.length_cons, List.length_nil]; omega)) (fun bz1 Az1 cz1 wz1 hsz1 => WD.rd (is := [20, 21]) (fun _ _ _ _ _ h => h) (Keep.refl _) (Rn.s rfl Yv.nc (Rn.s rfl (Yv.fa (off := 2)) (Rn.nil))) (WD.act 22 (hc := rfl) (he := Ef.store hsz1 4 (fun wz2 hsz2 => ⟨fun hn => (hn (by decide)).elim, WD.done ?_⟩))))))
      rw [← hX] at hsz2
      have hpop : popS l.indent (stack1 nodes.length st last x.indent l o) = ⟨l.indent, o.kind == 2, (nodes.length : Int) - 1, []⟩ :: st := by
        rw [e1]
        cases st with
        | nil => rfl
        | cons y r' => rw [popS, if_neg (by simp)]
      refine ⟨rfl, A, c, Az1, cz1, X, x :: r, ⟨l.indent, o.kind == 2, (nodes.length : Int) - 1, []⟩ :: st, ⟨by rw [hX], by rw [hX], by rw [hX], by rw [hX]; show (nth N1 ((nodes.length : Int) - 1)).depth = _; rw [hd1, hdp], by rw [hX]; intro key; simp [alook], hrl⟩, hpop, by rw [hX], hbot, ?_, by simp only [List.length_cons]; omega, ?_, rfl, rfl, rfl, rfl, rfl, trivial⟩
      · intro y hy
        rcases List.mem_cons.1 hy with rfl | hy
        · rw [hX]; simp
        · exact hkb y hy
      · have h9 := (hsz2.nilrow StE 9).pickT (P := [_, _, _, _, _, _, _]) (T := krows (x :: r)) [4, 5, 1, 6, 2, 0]
        have ek : krow X = Ch.row StE 9 none 0 ([] : List Bs) := by rw [hX]
        unfold ChQ krows
        rw [List.map_cons, ek, List.reverse_cons]
        exact h9
    · have hop1 : opens last x.indent l = false := h
      have e1 : stack1 nodes.length st last x.indent l o = st := by rw [stack1, if_neg (by simp [hop1])]
      have e2 : N1 = nodes := by rw [hN1, nodes1, if_neg (by simp [hop1])]
      rw [e2, e1]
      have hst := hst.pickT (P := [_, _, _, _, _, _]) (T := krows (x :: r)) [1, 2, 3, 4, 5]
      refine Wp.seq (Wp.block ?_)
      refine Wp.loop (α := RB × List RB) (fun q ρ ds w' => ds = [] ∧ (∃ st1, Rl (q.1 :: q.2) st1 ∧ popS l.indent st1 = popS l.indent st) ∧ Bot (q.1 :: q.2) ∧ (∀ y ∈ q.1 :: q.2, y.keys.length ≤ n) ∧ (q.1 :: q.2).length ≤ 1000000 ∧ St w M w' (Ch.cells bx2 131 o.cs :: Ch.cells ba1 129 l.cs :: ChQ b file A c nodes B d (q.1 :: q.2) last) ∧
        Sub [(0, PB b), (3, PB ba1), (6, PB bx2), (9, .int .i64 (l.indent + 1)), (10, .bool (o.kind == 2))] ρ) (fun q => q.2.length) (x, r) ⟨rfl, ⟨st, hrl, rfl⟩, hbot, hkb, hq2, hst, rfl, rfl, rfl, rfl, rfl, trivial⟩ ?_
      clear hst hc c3 c6 c11 hr
      rintro ⟨y, t⟩ ρ ds w' ⟨rfl, ⟨st1, hrl1, hpop⟩, hbot1, hkb1, hl1, hst, hs⟩
      simp only at hrl1 hbot1 hkb1 hl1 hst
      refine Wp.forget _ ?_ hs
      have hc := hst.cells 2
      have c3 := hst.cells 1
      have hr := hst.rd 4
      have hlr : (y :: t).reverse.length = t.length + 1 := by simp
      have hlq : t.length + 1 ≤ 1000000 := by simpa using hl1
      have ht : ∀ {w2 : World}, Keep w' w2 → ∀ (f : Nat) (u : Value), (RbE.cells y)[f]? = some u → w2.cell? ⟨pb B, pq B + (((y :: t).reverse.length : Int) - 1).toNat * 5 + f, none⟩ = some u := fun k f u hu =>
        k.cell (hr.ld (i := ((y :: t).reverse.length : Int) - 1) f (by omega) (by omega) (by rw [nth_top]; exact hu))
      refine Wp.seq (Wp.seq (Wp.readsD (is := [0, 1, 2, 3, 4, 5, 6, 7, 8, 9, 10, 11, 12, 13, 14, 15]) mixed (fun _ _ _ _ _ h => h) (Keep.refl _) (Rn.s rfl Yv.mv (Rn.s rfl Yv.nc (Rn.s rfl (Yv.fa (off := 2)) (Rn.s rfl (Yv.ld (hc.at_ 2)) (Rn.s rfl Yv.mv (Rn.s rfl Yv.nc (Rn.s rfl (Yv.fa (off := 2)) (Rn.s rfl (Yv.ld (hc.at_ 2)) (Rn.s rfl (Yv.len_v (e := 138) (m := 5)) (Rn.s rfl (Yv.sub (by unfold inI; omega)) (Rn.s rfl (Yv.ia (e := 138) hr (by omega) (by omega)) (Rn.s rfl (Yv.fa (off := 0)) (Rn.s rfl (Yv.ld (ht (Keep.refl _) 0 _ rfl)) (Rn.s rfl (Yv.fa (off := 1)) (Rn.s rfl (Yv.ld (c3.at_ 1)) (Rn.s rfl (Yv.cmp _ rfl) (Rn.nil))))))))))))))))) ?_))
      have hst := hst.quiet (Keep.drew _)
      obtain ⟨b0, st0, rfl⟩ : ∃ b0 st0, st1 = b0 :: st0 := by
        cases st1 with
        | nil => exact hrl1.elim
        | cons b0 st0 => exact ⟨b0, st0, rfl⟩
      obtain ⟨i1, i2, i3, i4, i5, i6⟩ := hrl1
      refine Wp.cond rfl (fun h2 => ?_) (fun h2 => ?_)
      · have h2 : l.indent < y.indent := of_decide_eq_true h2
        obtain ⟨y2, t2, rfl⟩ : ∃ y2 t2, t = y2 :: t2 := by
          cases t with
          | nil =>
            have : y.indent = 0 := hbot1
            omega
          | cons y2 t2 => exact ⟨y2, t2, rfl⟩
        have hc := hst.cells 2
        refine Wp.skip (Wp.block (Wp.draws [14] mixed (WD.rd (is := [0, 1, 2, 3, 4, 5, 6, 7, 8, 9, 10, 11, 12, 13]) (fun _ _ _ _ _ h => h) (Keep.drew _) (Rn.s rfl Yv.mv (Rn.s rfl Yv.mv (Rn.s rfl Yv.nc (Rn.s rfl (Yv.fa (off := 2)) (Rn.s rfl (Yv.ld (hc.at_ 2)) (Rn.s rfl Yv.mv (Rn.s rfl Yv.nc (Rn.s rfl (Yv.fa (off := 2)) (Rn.s rfl (Yv.ld (hc.at_ 2)) (Rn.s rfl (Yv.len_v (e := 138) (m := 5)) (Rn.s rfl (Yv.sub (by unfold inI; omega)) (Rn.s rfl (Yv.sl_t (n := 5) (e := 138) (by omega) (by have := hst.cap 4; omega)) (Rn.s rfl Yv.nc (Rn.s rfl (Yv.fa (off := 2)) (Rn.nil))))))))))))))) (WD.act 14 (hc := rfl) (he := Ef.store (hst.quiet (Keep.drew _)) 2 (fun wy1 hsy1 => ⟨fun hn => (hn (by decide)).elim, WD.done ?_⟩))))))
        refine ⟨(y2, t2), ⟨rfl, ⟨st0, i6, ?_⟩, hbot1, fun z hz => hkb1 z (List.mem_cons_of_mem _ hz), by simp only [List.length_cons] at hl1 ⊢; omega, ?_, rfl, rfl, rfl, rfl, rfl, trivial⟩, by simp⟩
        · rw [← hpop]
          cases st0 with
          | nil => exact i6.elim
          | cons b1 st2 => exact (if_pos (show l.indent < b0.indent by omega)).symm
        · have h3 := hsy1.pickT (P := [_, _, _, _, _, _]) (T := krows (y2 :: t2)) [4, 0, 1, 2, 3]
          have e1 : (y :: y2 :: t2).reverse = (y2 :: t2).reverse ++ [y] := List.reverse_cons
          have e2 : (((y :: y2 :: t2).reverse.length : Int) - 1).toNat = (y2 :: t2).reverse.length := by simp only [List.length_reverse, List.length_cons]; omega
          rw [e2, e1] at h3
          have h4 := h3.shrink
          exact h4.pickT (P := [_, _, _, _, _]) (T := krows (y2 :: t2)) [2, 3, 1, 4, 0]
      · have h2 : ¬ l.indent < y.indent := of_decide_eq_false h2
        have hpe : popS l.indent st = b0 :: st0 := by
          rw [← hpop]
          cases st0 with
          | nil => rfl
          | cons b1 st2 => rw [popS, if_neg (by omega)]
        refine Wp.exit ?_
        have hc := hst.cells 2
        have c3 := hst.cells 1
        have hr := hst.rd 4
        have ht : ∀ {w2 : World}, Keep w'.drew w2 → ∀ (f : Nat) (u : Value), (RbE.cells y)[f]? = some u → w2.cell? ⟨pb B, pq B + (((y :: t).reverse.length : Int) - 1).toNat * 5 + f, none⟩ = some u := fun k => ht ((Keep.drew _).trans k)
        refine Wp.seq (Wp.readsD (is := [0, 1, 2, 3, 4, 5, 6, 7, 8, 9, 10, 11, 12, 13, 14, 15]) mixed (fun _ _ _ _ _ h => h) (Keep.refl _) (Rn.s rfl Yv.mv (Rn.s rfl Yv.nc (Rn.s rfl (Yv.fa (off := 2)) (Rn.s rfl (Yv.ld (hc.at_ 2)) (Rn.s rfl Yv.mv (Rn.s rfl Yv.nc (Rn.s rfl (Yv.fa (off := 2)) (Rn.s rfl (Yv.ld (hc.at_ 2)) (Rn.s rfl (Yv.len_v (e := 138) (m := 5)) (Rn.s rfl (Yv.sub (by unfold inI; omega)) (Rn.s rfl (Yv.ia (e := 138) hr (by omega) (by omega)) (Rn.s rfl (Yv.fa (off := 0)) (Rn.s rfl (Yv.ld (ht (Keep.refl _) 0 _ rfl)) (Rn.s rfl (Yv.fa (off := 1)) (Rn.s rfl (Yv.ld (c3.at_ 1)) (Rn.s rfl (Yv.cmp _ rfl) (Rn.nil))))))))))))))))) ?_)
        have hst := hst.quiet (Keep.drew _)
        refine Wp.cond rfl (fun h3 => ?_) (fun h3 => ?_)
        · have h3 : y.indent ≠ l.indent := bne_iff_ne.1 h3
          refine Wp.seq (Wp.reads (is := [0, 1, 2]) (Keep.refl _) (Rn.s rfl Yv.mv (Rn.s rfl Yv.as (Rn.s rfl Yv.as (Rn.nil)))) ?_)
          have hE : enterS nodes st last x.indent l o = (40, [], []) := by
            unfold enterS
            rw [e1, hpe]
            simp only
            rw [if_pos (by rw [← i1]; exact h3)]
          refine Wp.ret (Fin.ret (Res.two rfl rfl rfl) ?_)
          rw [if_neg (by decide), hE, if_pos (by decide)]
          exact ⟨rfl, hst.sub (List.nil_sublist _)⟩
        · have h3 : y.indent = l.indent := bne_eq_false_iff_eq.1 h3
          refine Wp.skip ⟨rfl, A, c, B, d, y, t, b0 :: st0, ⟨i1, i2, i3, i4, i5, i6⟩, hpe, h3, hbot1, hkb1, by omega, hst, rfl, rfl, rfl, rfl, rfl, trivial⟩
  clear hst hc c3 c6 c11 hr
  rintro ρ ds w' ⟨rfl, A1, c1, B1, d1, x1, r1, st1, hrl1, hpop, hxi, hbot1, hkb1, hl1, hst, hs⟩
  refine Wp.forget _ ?_ hs
  clear hs ρ
  obtain ⟨b0, st0, rfl⟩ : ∃ b0 st0, st1 = b0 :: st0 := by
    cases st1 with
    | nil => exact hrl1.elim
    | cons b0 st0 => exact ⟨b0, st0, rfl⟩
  have hrlen := hrl1.len
  obtain ⟨i1, i2, i3, i4, i5, i6⟩ := hrl1
  simp only [List.length_cons] at hrlen hl1
  have hE : enterS nodes st last x.indent l o = if x1.items ≠ (o.kind == 2) then (41, [], []) else if (32 : Int) < x1.depth + 1 then (43, [], [])
      else if decide (o.key ∈ x1.keys) && !(o.kind == 2) then (42, [], []) else (0, N1, { b0 with keys := aput o.key (w64 ((alook o.key b0.keys).getD 0 + 1)) b0.keys } :: st0) := by
    unfold enterS
    rw [hpop]
    simp only
    rw [if_neg (by rw [← i1]; simpa using hxi), ← i2, ← hN1]
    have e1 : (32 : Int) < ((b0 :: st0).length : Int) ↔ (32 : Int) < x1.depth + 1 := by
      rw [i4]; simp only [List.length_cons]; omega
    have e2 : (alook o.key b0.keys).isSome = decide (o.key ∈ x1.keys) := by
      cases h : (alook o.key b0.keys).isSome with
      | true => rw [decide_eq_true ((i5 o.key).2 h)]
      | false => rw [decide_eq_false (fun q => by rw [(i5 o.key).1 q] at h; cases h)]
    rw [e2]
    by_cases h1 : (32 : Int) < x1.depth + 1
    · rw [if_pos h1, if_pos (e1.2 h1)]
    · rw [if_neg h1, if_neg (fun q => h1 (e1.1 q))]
  have hc := hst.cells 2
  have hr := hst.rd 4
  have hlr1 : (x1 :: r1).reverse.length = r1.length + 1 := by simp
  refine Wp.seq (Wp.draws [13] mixed (WD.rd (is := [0, 1, 2, 3, 4, 5, 6, 7, 8, 9, 10, 11]) (fun _ _ _ _ _ h => h) (Keep.drew _) (Rn.s rfl Yv.mv (Rn.s rfl Yv.nc (Rn.s rfl (Yv.fa (off := 2)) (Rn.s rfl (Yv.ld (hc.at_ 2)) (Rn.s rfl Yv.mv (Rn.s rfl Yv.nc (Rn.s rfl (Yv.fa (off := 2)) (Rn.s rfl (Yv.ld (hc.at_ 2)) (Rn.s rfl (Yv.len_v (e := 138) (m := 5)) (Rn.s rfl (Yv.sub (by unfold inI; omega)) (Rn.s rfl (Yv.ia (e := 138) hr (by omega) (by omega)) (Rn.s rfl (Yv.ldel hr rfl rfl (by omega) (by omega)) (Rn.nil))))))))))))) (WD.act 12 (hc := rfl) (he := Ef.allocL (vs := [.int .i64 0, .bool false, .int .i64 0, .int .i64 0, .slice none 0 0]) (hst.quiet (Keep.drew _)) (fun by1 wy1 ky1 hsy1 => ⟨fun _ => ky1, WD.act 13 (hc := rfl) (he := Ef.stores hsy1 0 (fun wy2 hsy2 => ⟨fun hn => (hn (by decide)).elim, WD.done ?_⟩))⟩)))))
  rw [nth_top] at hsy2
  have hst : St w M wy2 (Ch.cells by1 138 (RbE.cells x1) :: Ch.cells bx2 131 o.cs :: Ch.cells ba1 129 l.cs :: ChQ b file A1 c1 N1 B1 d1 (x1 :: r1) last) := hsy2
  clear hsy1 hsy2
  have c13 := hst.cells 0
  have c6 := hst.cells 1
  have c3 := hst.cells 2
  have hc := hst.cells 3
  refine Wp.seq (Wp.block ?_)
  refine Wp.seq (Wp.reads (is := [0, 1, 2, 3, 4]) (Keep.refl _) (Rn.s rfl (Yv.fa (off := 1)) (Rn.s rfl (Yv.ld (c13.at_ 1)) (Rn.s rfl Yv.mv (Rn.s rfl (Yv.bcm _ rfl) (Rn.s rfl Yv.as (Rn.nil)))))) ?_)
  refine Wp.cond rfl (fun h1 => ?_) (fun h1 => ?_)
  · have h1 : x1.items ≠ (o.kind == 2) := bne_iff_ne.1 h1
    refine Wp.seq (Wp.reads (is := [0, 1, 2]) (Keep.refl _) (Rn.s rfl Yv.mv (Rn.s rfl Yv.as (Rn.s rfl Yv.as (Rn.nil)))) ?_)
    refine Wp.ret (Fin.ret (Res.two rfl rfl rfl) ?_)
    rw [if_neg (by decide), hE, if_pos h1, if_pos (by decide)]
    exact ⟨rfl, hst.sub (List.nil_sublist _)⟩
  have h1 : ¬ x1.items ≠ (o.kind == 2) := fun q => q (bne_eq_false_iff_eq.1 h1)
  rw [if_neg h1] at hE
  refine Wp.seq (Wp.reads (is := [0, 1, 2, 3, 4]) (Keep.refl _) (Rn.s rfl (Yv.fa (off := 3)) (Rn.s rfl (Yv.ld (c13.at_ 3)) (Rn.s rfl (Yv.add (by unfold inI; omega)) (Rn.s rfl (Yv.cmp _ rfl) (Rn.s rfl Yv.as (Rn.nil)))))) ?_)
  refine Wp.cond rfl (fun h2 => ?_) (fun h2 => ?_)
  · have h2 := of_decide_eq_true h2
    refine Wp.seq (Wp.reads (is := [0, 1, 2]) (Keep.refl _) (Rn.s rfl Yv.mv (Rn.s rfl Yv.as (Rn.s rfl Yv.as (Rn.nil)))) ?_)
    refine Wp.ret (Fin.ret (Res.two rfl rfl rfl) ?_)
    rw [if_neg (by decide), hE, if_pos h2, if_pos (by decide)]
    exact ⟨rfl, hst.sub (List.nil_sublist _)⟩
  have h2 := of_decide_eq_false h2
  rw [if_neg h2] at hE
  have hkl := hkb1 x1 (List.mem_cons_self ..)
  have hrk := hst.rd (E := StE) (A := x1.A) (c := x1.c) (xs := x1.keys) 6
  refine Wp.seq (Wp.regionL (l := [0, 1, 2, 3, 4, 5, 6, 7, 8, 9]) (WO.rd (is := [0, 1, 2]) (js := [3, 4, 5, 6, 7, 8, 9]) (Keep.refl _) (Rn.s rfl Yv.mv (Rn.s rfl Yv.not (Rn.s rfl Yv.mv (Rn.nil)))) (WO.and (js := [9]) 175 181 (hg := rfl) (ht := fun h2 qz1 => WO.rd (is := [3, 4, 5, 6]) (js := [7, 8, 9]) (Keep.refl _) (Rn.s rfl (Yv.fa (off := 4)) (Rn.s rfl (Yv.ld (c13.at_ 4)) (Rn.s rfl (Yv.fa (off := 1)) (Rn.s rfl (Yv.ld (c6.at_ 1)) (Rn.nil))))) (WO.cv rfl (rhas_cv x1.A x1.c x1.keys o.key wy2 hrk (by omega)) (Keep.refl _) (FnOk.of Tryz.func94) (fun wz2 kz2 => WO.rd (is := [8]) (js := [9]) ((Keep.refl _).trans kz2) (Rn.s rfl Yv.pick_t (Rn.nil)) (WO.e 6 (qz1 _ ((Keep.refl _).trans kz2)))))) (hf := fun _ qz1 => WO.rd (is := [3, 4, 5, 6, 7, 8]) (js := [9]) (Keep.refl _) (Rn.no rfl (Rn.no rfl (Rn.no rfl (Rn.no rfl (Rn.no rfl (Rn.s rfl Yv.pick_f Rn.nil)))))) (WO.e 6 (qz1 _ (Keep.refl _)))) (k := fun wz1 kz1 => WO.rd (is := [9]) (js := []) ((Keep.refl _).trans kz1) (Rn.s rfl Yv.as (Rn.nil)) (WO.done ?_)))))
  have hst := hst.quiet kz1
  refine Wp.cond rfl (fun h3 => ?_) (fun h3 => ?_)
  · have h3 : (decide (o.key ∈ x1.keys) && !(o.kind == 2)) = true := by rw [Bool.and_comm]; exact h3
    refine Wp.seq (Wp.reads (is := [0, 1, 2]) (Keep.refl _) (Rn.s rfl Yv.mv (Rn.s rfl Yv.as (Rn.s rfl Yv.as (Rn.nil)))) ?_)
    refine Wp.ret (Fin.ret (Res.two rfl rfl rfl) ?_)
    rw [if_neg (by decide), hE, if_pos h3, if_pos (by decide)]
    exact ⟨rfl, hst.sub (List.nil_sublist _)⟩
  have h3 : ¬ (decide (o.key ∈ x1.keys) && !(o.kind == 2)) = true := by rw [Bool.and_comm, Bool.not_eq_true]; exact h3
  rw [if_neg h3] at hE
  refine Wp.skip ?_
  -- the line's node
  have c13 := hst.cells 0
  have c6 := hst.cells 1
  have c3 := hst.cells 2
  have hc := hst.cells 3
  refine Wp.seq (Wp.draws [20] mixed (WD.rd (is := [0, 1, 2, 3, 4, 5, 6, 7, 8, 9, 10, 11, 12, 13, 14, 15, 16, 17, 18]) (fun _ _ _ _ _ h => h) (Keep.drew _) (Rn.s rfl (Yv.fa (off := 3)) (Rn.s rfl (Yv.ld (c13.at_ 3)) (Rn.s rfl (Yv.add (by unfold inI; omega)) (Rn.s rfl (Yv.fa (off := 1)) (Rn.s rfl (Yv.ld (c6.at_ 1)) (Rn.s rfl (Yv.fa (off := 3)) (Rn.s rfl (Yv.ld (c6.at_ 3)) (Rn.s rfl Yv.mv (Rn.s rfl Yv.nc (Rn.s rfl (Yv.fa (off := 0)) (Rn.s rfl (Yv.ld (hc.at_ 0)) (Rn.s rfl (Yv.fa (off := 0)) (Rn.s rfl (Yv.ld (c3.at_ 0)) (Rn.s rfl (Yv.fa (off := 1)) (Rn.s rfl (Yv.ld (c3.at_ 1)) (Rn.s rfl (Yv.fa (off := 5)) (Rn.s rfl (Yv.ld (c6.at_ 5)) (Rn.s rfl (Yv.add (by unfold inI; omega)) (Rn.s rfl (Yv.bd (cs := Nd.cs ⟨3, x1.depth + 1, o.key, o.value, file, l.no, l.indent + o.col, 0⟩)) (Rn.nil)))))))))))))))))))) (WD.act 19 (hc := rfl) (he := Ef.allocL (vs := [.int .i64 0, .int .i64 0, S [], S [], S [], .int .i64 0, .int .i64 0, .int .i64 0]) (hst.quiet (Keep.drew _)) (fun bu1 wu1 ku1 hsu1 => ⟨fun _ => ku1, WD.act 20 (hc := rfl) (he := Ef.stores hsu1 0 (fun wu2 hsu2 => ⟨fun hn => (hn (by decide)).elim, WD.done ?_⟩))⟩)))))
  have hst : St w M wu2 (Ch.cells bu1 62 (Nd.cs ⟨3, x1.depth + 1, o.key, o.value, file, l.no, l.indent + o.col, 0⟩) :: Ch.cells by1 138 (RbE.cells x1) :: Ch.cells bx2 131 o.cs :: Ch.cells ba1 129 l.cs :: ChQ b file A1 c1 N1 B1 d1 (x1 :: r1) last) := hsu2
  clear hsu1 hsu2
  have c6 := hst.cells 2
  have c3 := hst.cells 3
  refine Wp.seq (Wp.mid (fun ρ ds w' => ds = [] ∧ St w M w' (Ch.cells bu1 62 (Nd.cs ⟨3, x1.depth + 1, o.key, o.value, file, l.no, l.indent + o.col, if o.has then l.indent + o.val else 0⟩) :: Ch.cells by1 138 (RbE.cells x1) :: Ch.cells bx2 131 o.cs :: Ch.cells ba1 129 l.cs :: ChQ b file A1 c1 N1 B1 d1 (x1 :: r1) last) ∧
    Sub [(0, PB b), (3, PB ba1), (6, PB bx2), (13, PB by1), (14, PB bu1)] ρ) ?_ ?_)
  · refine Wp.seq (Wp.reads (is := [0, 1]) (Keep.refl _) (Rn.s rfl (Yv.fa (off := 2)) (Rn.s rfl (Yv.ld (c6.at_ 2)) (Rn.nil))) ?_)
    refine Wp.cond rfl (fun h4 => ?_) (fun h4 => ?_)
    · refine Wp.regionL (l := [0, 1, 2, 3, 4, 5, 6]) (WO.rd (is := [0, 1, 2, 3, 4, 5]) (js := [6]) (Keep.refl _) (Rn.s rfl (Yv.fa (off := 1)) (Rn.s rfl (Yv.ld (c3.at_ 1)) (Rn.s rfl (Yv.fa (off := 6)) (Rn.s rfl (Yv.ld (c6.at_ 6)) (Rn.s rfl (Yv.add (by unfold inI; omega)) (Rn.s rfl (Yv.fa (off := 7)) (Rn.nil))))))) (WO.act (hc := rfl) (he := Ef.store hst 0 (fun wv1 hsv1 => WO.done ?_))))
      refine ⟨rfl, ?_, rfl, rfl, rfl, rfl, rfl, trivial⟩
      rw [if_pos h4]
      exact hsv1
    · refine Wp.skip ⟨rfl, ?_, rfl, rfl, rfl, rfl, rfl, trivial⟩
      rw [if_neg (by rw [h4]; decide)]
      exact hst
  clear hst c6 c3 c13 hc
  rintro ρ ds w2 ⟨rfl, hst, hs⟩
  refine Wp.forget _ ?_ hs
  clear hs ρ
  obtain ⟨V, hV⟩ : ∃ V : Int, V = if o.has then l.indent + o.val else 0 := ⟨_, rfl⟩
  rw [← hV] at hst
  have c6 := hst.cells 2
  refine Wp.seq (Wp.mid (fun ρ ds w' => ds = [] ∧ St w M w' (Ch.cells bu1 62 (Nd.cs ⟨if o.empty = 1 then 2 else 3, x1.depth + 1, o.key, o.value, file, l.no, l.indent + o.col, V⟩) :: Ch.cells by1 138 (RbE.cells x1) :: Ch.cells bx2 131 o.cs :: Ch.cells ba1 129 l.cs :: ChQ b file A1 c1 N1 B1 d1 (x1 :: r1) last) ∧
    Sub [(0, PB b), (3, PB ba1), (6, PB bx2), (13, PB by1), (14, PB bu1)] ρ) ?_ ?_)
  · refine Wp.seq (Wp.reads (is := [0, 1, 2]) (Keep.refl _) (Rn.s rfl (Yv.fa (off := 4)) (Rn.s rfl (Yv.ld (c6.at_ 4)) (Rn.s rfl (Yv.cmp _ rfl) (Rn.nil)))) ?_)
    refine Wp.cond rfl (fun h4 => ?_) (fun h4 => ?_)
    · refine Wp.regionL (l := [0, 1]) (WO.rd (is := [0]) (js := [1]) (Keep.refl _) (Rn.s rfl (Yv.fa (off := 0)) (Rn.nil)) (WO.act (hc := rfl) (he := Ef.store hst 0 (fun wv1 hsv1 => WO.done ?_))))
      refine ⟨rfl, ?_, rfl, rfl, rfl, rfl, rfl, trivial⟩
      rw [if_pos (eq_of_beq h4)]
      exact hsv1
    · refine Wp.skip ⟨rfl, ?_, rfl, rfl, rfl, rfl, rfl, trivial⟩
      rw [if_neg (ne_of_beq_false h4)]
      exact hst
  clear hst c6
  rintro ρ ds w3 ⟨rfl, hst, hs⟩
  refine Wp.forget _ ?_ hs
  clear hs ρ
  have c6 := hst.cells 2
  obtain ⟨m, hm⟩ : ∃ m, m = ({ b0 with keys := aput o.key (w64 ((alook o.key b0.keys).getD 0 + 1)) b0.keys } :: st0 : List OB).length := ⟨_, rfl⟩
  have hmd : x1.depth + 1 = (m : Int) := by rw [hm, i4]; simp only [List.length_cons]; omega
  refine Wp.seq (Wp.mid (fun ρ ds w' => ds = [] ∧ St w M w' (Ch.cells bu1 62 (Nd.cs (nodeS file m l o)) :: Ch.cells by1 138 (RbE.cells x1) :: Ch.cells bx2 131 o.cs :: Ch.cells ba1 129 l.cs :: ChQ b file A1 c1 N1 B1 d1 (x1 :: r1) last) ∧
    Sub [(0, PB b), (3, PB ba1), (6, PB bx2), (13, PB by1), (14, PB bu1)] ρ) ?_ ?_)
  · have eN : ∀ k : Int, (k = if o.empty = 1 then 2 else if o.empty = 2 then 1 else 3) → (⟨k, x1.depth + 1, o.key, o.value, file, l.no, l.indent + o.col, V⟩ : Nd) = nodeS file m l o := fun k hk => by
      unfold nodeS
      rw [hk, hmd, hV]
    refine Wp.seq (Wp.reads (is := [0, 1, 2]) (Keep.refl _) (Rn.s rfl (Yv.fa (off := 4)) (Rn.s rfl (Yv.ld (c6.at_ 4)) (Rn.s rfl (Yv.cmp _ rfl) (Rn.nil)))) ?_)
    refine Wp.cond rfl (fun h4 => ?_) (fun h4 => ?_)
    · have h4 : o.empty = 2 := eq_of_beq h4
      refine Wp.regionL (l := [0, 1]) (WO.rd (is := [0]) (js := [1]) (Keep.refl _) (Rn.s rfl (Yv.fa (off := 0)) (Rn.nil)) (WO.act (hc := rfl) (he := Ef.store hst 0 (fun wv1 hsv1 => WO.done ?_))))
      refine ⟨rfl, ?_, rfl, rfl, rfl, rfl, rfl, trivial⟩
      rw [← eN 1 (by rw [h4]; rfl)]
      exact hsv1
    · have h4 : o.empty ≠ 2 := ne_of_beq_false h4
      refine Wp.skip ⟨rfl, ?_, rfl, rfl, rfl, rfl, rfl, trivial⟩
      rw [← eN (if o.empty = 1 then 2 else 3) (by rw [if_neg h4])]
      exact hst
  clear hst c6
  rintro ρ ds w4 ⟨rfl, hst, hs⟩
  refine Wp.forget _ ?_ hs
  clear hs ρ
  -- its key, and the node
  have c13 := hst.cells 1
  have c6 := hst.cells 2
  have hd := hst.quiet (Keep.drew w4)
  have hfin : ∀ (Az : Option Addr) (cz : Nat) (w' : World) {C : Chunk}, St w M w' ([Ch.row RbE 138 B1 d1 ((x1 :: r1).reverse.set (((x1 :: r1).reverse.length : Int) - 1).toNat { (nth (x1 :: r1).reverse (((x1 :: r1).reverse.length : Int) - 1)) with keys := x1.keys ++ [o.key], A := Az, c := cz }), Ch.row StE 9 Az cz (x1.keys ++ [o.key]), C, Ch.cells bu1 62 (Nd.cs (nodeS file m l o)), Ch.cells by1 138 (RbE.cells x1), Ch.cells bx2 131 o.cs, Ch.cells ba1 129 l.cs, Ch.cells b 141 (qcs file A1 N1.length c1 B1 (x1 :: r1).reverse.length d1 last), Ch.row NdE 62 A1 c1 N1] ++ krows r1) →
      St w M w' (Ch.cells bu1 62 (Nd.cs (nodeS file m l o)) :: Ch.cells bx2 131 o.cs :: ChQ b file A1 c1 N1 B1 d1 ({ x1 with keys := x1.keys ++ [o.key], A := Az, c := cz } :: r1) last) := by
    intro Az cz w' C h
    rw [nth_top, set_top] at h
    have h9 := h.pickT (P := [_, _, _, _, _, _, _, _, _]) (T := krows r1) [3, 5, 7, 8, 0, 1]
    have el : ({ x1 with keys := x1.keys ++ [o.key], A := Az, c := cz } :: r1).reverse.length = (x1 :: r1).reverse.length := by simp
    unfold ChQ krows
    rw [List.map_cons, el]
    exact h9
  refine Wp.seq (Wp.mid (fun ρ ds w' => ds = [] ∧ ∃ (Az : Option Addr) (cz : Nat), St w M w' (Ch.cells bu1 62 (Nd.cs (nodeS file m l o)) :: Ch.cells bx2 131 o.cs :: ChQ b file A1 c1 N1 B1 d1 ({ x1 with keys := x1.keys ++ [o.key], A := Az, c := cz } :: r1) last) ∧ Sub [(0, PB b), (6, PB bx2), (14, PB bu1)] ρ) ?_ ?_)
  · refine Wp.drawsB [15, 18] mixed (WDB.rd0 (is := [0, 1, 2]) (fun _ _ _ _ _ h => h) (Keep.refl _) (Rn.s rfl Yv.mv (Rn.s rfl Yv.nc (Rn.s rfl (Yv.fa (off := 2)) (Rn.nil)))) ?_)
    refine WDB.rd0 (is := [4, 5, 6]) (fun _ _ _ _ _ h => h) (Keep.refl _) (Rn.s rfl Yv.mv (Rn.s rfl Yv.nc (Rn.s rfl (Yv.fa (off := 2)) (Rn.nil)))) ?_
    refine WDB.rd (is := [10, 11, 12, 13]) (fun _ _ _ _ _ h => h) (Keep.refl _) (Keep.drew _) (Rn.s rfl (Yv.fa (off := 4)) (Rn.s rfl (Yv.ld (c13.at_ 4)) (Rn.s rfl (Yv.fa (off := 1)) (Rn.s rfl (Yv.ld (c6.at_ 1)) (Rn.nil))))) ?_
    refine WDB.act3 3 7 14 (hci := rfl) (hcj := rfl) (hck := rfl) (hi := Ef.yv (Yv.ld ((hd.cells 4).at_ 2)) ⟨fun _ h => h, ?_⟩) (hj := Ef.yv (Yv.ld ((hd.cells 4).at_ 2)) ⟨fun _ h => h, ?_⟩) (hk := Ef.bsl (T := 9) StE [o.key] hd (fun bA3 wA3 kA3 hsA3 => ⟨fun _ h => h.trans kA3, ?_⟩))
    · refine WDB.act2 7 14 (hci := rfl) (hcj := rfl) (hi := Ef.yv (Yv.ld ((hd.cells 4).at_ 2)) ⟨fun _ h => h, ?_⟩) (hj := Ef.bsl (T := 9) StE [o.key] hd (fun bA5 wA5 kA5 hsA5 => ⟨fun _ h => h.trans kA5, ?_⟩))
      · refine WDB.act2 8 14 (hci := rfl) (hcj := rfl) (hi := Ef.yv (Yv.len_v (e := 138) (m := 5)) ⟨fun _ h => h, ?_⟩) (hj := Ef.bsl (T := 9) StE [o.key] hd (fun bA7 wA7 kA7 hsA7 => ⟨fun _ h => h.trans kA7, ?_⟩))
        · refine WDB.rd0 (is := [9]) (fun _ _ _ _ _ h => h) (Keep.refl _) (Rn.s rfl (Yv.sub (by unfold inI; omega)) (Rn.nil)) ?_
          refine WDB.act 14 (hc := rfl) (he := Ef.bsl (T := 9) StE [o.key] hd (fun bA8 wA8 kA8 hsA8 => ⟨fun _ h => h.trans kA8, ?_⟩))
          refine WDB.act 15 (hc := rfl) (he := Ef.append (ys := [o.key]) hsA8 8 (hsA8.rd 0) (by simp) (fitT (by simp only [List.length_cons, List.length_nil]; omega)) (fun AB9 cB9 wB9 hsB9 => ⟨fun h => (h (by simp)).elim, ?_⟩))
          have hrx := hsB9.rd 8
          refine WDB.rd0 (is := [16, 17]) (fun _ _ _ _ _ h => h) (Keep.refl _) (Rn.s rfl (Yv.ia (e := 138) hrx (by omega) (by omega)) (Rn.s rfl (Yv.fa (off := 4)) (Rn.nil))) ?_
          refine WDB.act 18 (hc := rfl) (he := Ef.setFld (E := RbE) (xs := (x1 :: r1).reverse) (f := 4) hsB9 8 { (nth (x1 :: r1).reverse (((x1 :: r1).reverse.length : Int) - 1)) with keys := x1.keys ++ [o.key], A := AB9, c := cB9 } rfl rfl (by omega) (by omega) (fun wZ hsZ => ⟨fun h => (h (by simp)).elim, WDB.done ?_⟩))
          exact ⟨rfl, AB9, cB9, hfin AB9 cB9 _ hsZ, rfl, rfl, rfl, trivial⟩
        · refine WDB.act2 8 15 (hci := rfl) (hcj := rfl) (hi := Ef.yv (Yv.len_v (e := 138) (m := 5)) ⟨fun _ h => h, ?_⟩) (hj := Ef.append (ys := [o.key]) hsA7 8 (hsA7.rd 0) (by simp) (fitT (by simp only [List.length_cons, List.length_nil]; omega)) (fun AB11 cB11 wB11 hsB11 => ⟨fun h => (h (by simp)).elim, ?_⟩))
          · refine WDB.rd0 (is := [9]) (fun _ _ _ _ _ h => h) (Keep.refl _) (Rn.s rfl (Yv.sub (by unfold inI; omega)) (Rn.nil)) ?_
            refine WDB.act 15 (hc := rfl) (he := Ef.append (ys := [o.key]) hsA7 8 (hsA7.rd 0) (by simp) (fitT (by simp only [List.length_cons, List.length_nil]; omega)) (fun AB12 cB12 wB12 hsB12 => ⟨fun h => (h (by simp)).elim, ?_⟩))
            have hrx := hsB12.rd 8
            refine WDB.rd0 (is := [16, 17]) (fun _ _ _ _ _ h => h) (Keep.refl _) (Rn.s rfl (Yv.ia (e := 138) hrx (by omega) (by omega)) (Rn.s rfl (Yv.fa (off := 4)) (Rn.nil))) ?_
            refine WDB.act 18 (hc := rfl) (he := Ef.setFld (E := RbE) (xs := (x1 :: r1).reverse) (f := 4) hsB12 8 { (nth (x1 :: r1).reverse (((x1 :: r1).reverse.length : Int) - 1)) with keys := x1.keys ++ [o.key], A := AB12, c := cB12 } rfl rfl (by omega) (by omega) (fun wZ hsZ => ⟨fun h => (h (by simp)).elim, WDB.done ?_⟩))
            exact ⟨rfl, AB12, cB12, hfin AB12 cB12 _ hsZ, rfl, rfl, rfl, trivial⟩
          · refine WDB.act 8 (hc := rfl) (he := Ef.yv (Yv.len_v (e := 138) (m := 5)) ⟨fun _ h => h, ?_⟩)
            refine WDB.rd0 (is := [9]) (fun _ _ _ _ _ h => h) (Keep.refl _) (Rn.s rfl (Yv.sub (by unfold inI; omega)) (Rn.nil)) ?_
            have hrx := hsB11.rd 8
            refine WDB.rd0 (is := [16, 17]) (fun _ _ _ _ _ h => h) (Keep.refl _) (Rn.s rfl (Yv.ia (e := 138) hrx (by omega) (by omega)) (Rn.s rfl (Yv.fa (off := 4)) (Rn.nil))) ?_
            refine WDB.act 18 (hc := rfl) (he := Ef.setFld (E := RbE) (xs := (x1 :: r1).reverse) (f := 4) hsB11 8 { (nth (x1 :: r1).reverse (((x1 :: r1).reverse.length : Int) - 1)) with keys := x1.keys ++ [o.key], A := AB11, c := cB11 } rfl rfl (by omega) (by omega) (fun wZ hsZ => ⟨fun h => (h (by simp)).elim, WDB.done ?_⟩))
            exact ⟨rfl, AB11, cB11, hfin AB11 cB11 _ hsZ, rfl, rfl, rfl, trivial⟩
      · refine WDB.act2 7 15 (hci := rfl) (hcj := rfl) (hi := Ef.yv (Yv.ld ((hsA5.cells 5).at_ 2)) ⟨fun _ h => h, ?_⟩) (hj := Ef.append (ys := [o.key]) hsA5 8 (hsA5.rd 0) (by simp) (fitT (by simp only [List.length_cons, List.length_nil]; omega)) (fun AB15 cB15 wB15 hsB15 => ⟨fun h => (h (by simp)).elim, ?_⟩))
        · refine WDB.act2 8 15 (hci := rfl) (hcj := rfl) (hi := Ef.yv (Yv.len_v (e := 138) (m := 5)) ⟨fun _ h => h, ?_⟩) (hj := Ef.append (ys := [o.key]) hsA5 8 (hsA5.rd 0) (by simp) (fitT (by simp only [List.length_cons, List.length_nil]; omega)) (fun AB17 cB17 wB17 hsB17 => ⟨fun h => (h (by simp)).elim, ?_⟩))
          · refine WDB.rd0 (is := [9]) (fun _ _ _ _ _ h => h) (Keep.refl _) (Rn.s rfl (Yv.sub (by unfold inI; omega)) (Rn.nil)) ?_
            refine WDB.act 15 (hc := rfl) (he := Ef.append (ys := [o.key]) hsA5 8 (hsA5.rd 0) (by simp) (fitT (by simp only [List.length_cons, List.length_nil]; omega)) (fun AB18 cB18 wB18 hsB18 => ⟨fun h => (h (by simp)).elim, ?_⟩))
            have hrx := hsB18.rd 8
            refine WDB.rd0 (is := [16, 17]) (fun _ _ _ _ _ h => h) (Keep.refl _) (Rn.s rfl (Yv.ia (e := 138) hrx (by omega) (by omega)) (Rn.s rfl (Yv.fa (off := 4)) (Rn.nil))) ?_
            refine WDB.act 18 (hc := rfl) (he := Ef.setFld (E := RbE) (xs := (x1 :: r1).reverse) (f := 4) hsB18 8 { (nth (x1 :: r1).reverse (((x1 :: r1).reverse.length : Int) - 1)) with keys := x1.keys ++ [o.key], A := AB18, c := cB18 } rfl rfl (by omega) (by omega) (fun wZ hsZ => ⟨fun h => (h (by simp)).elim, WDB.done ?_⟩))
            exact ⟨rfl, AB18, cB18, hfin AB18 cB18 _ hsZ, rfl, rfl, rfl, trivial⟩
          · refine WDB.act 8 (hc := rfl) (he := Ef.yv (Yv.len_v (e := 138) (m := 5)) ⟨fun _ h => h, ?_⟩)
            refine WDB.rd0 (is := [9]) (fun _ _ _ _ _ h => h) (Keep.refl _) (Rn.s rfl (Yv.sub (by unfold inI; omega)) (Rn.nil)) ?_
            have hrx := hsB17.rd 8
            refine WDB.rd0 (is := [16, 17]) (fun _ _ _ _ _ h => h) (Keep.refl _) (Rn.s rfl (Yv.ia (e := 138) hrx (by omega) (by omega)) (Rn.s rfl (Yv.fa (off := 4)) (Rn.nil))) ?_
            refine WDB.act 18 (hc := rfl) (he := Ef.setFld (E := RbE) (xs := (x1 :: r1).reverse) (f := 4) hsB17 8 { (nth (x1 :: r1).reverse (((x1 :: r1).reverse.length : Int) - 1)) with keys := x1.keys ++ [o.key], A := AB17, c := cB17 } rfl rfl (by omega) (by omega) (fun wZ hsZ => ⟨fun h => (h (by simp)).elim, WDB.done ?_⟩))
            exact ⟨rfl, AB17, cB17, hfin AB17 cB17 _ hsZ, rfl, rfl, rfl, trivial⟩
        · refine WDB.act 7 (hc := rfl) (he := Ef.yv (Yv.ld ((hsB15.cells 6).at_ 2)) ⟨fun _ h => h, ?_⟩)
          refine WDB.act 8 (hc := rfl) (he := Ef.yv (Yv.len_v (e := 138) (m := 5)) ⟨fun _ h => h, ?_⟩)
          refine WDB.rd0 (is := [9]) (fun _ _ _ _ _ h => h) (Keep.refl _) (Rn.s rfl (Yv.sub (by unfold inI; omega)) (Rn.nil)) ?_
          have hrx := hsB15.rd 8
          refine WDB.rd0 (is := [16, 17]) (fun _ _ _ _ _ h => h) (Keep.refl _) (Rn.s rfl (Yv.ia (e := 138) hrx (by omega) (by omega)) (Rn.s rfl (Yv.fa (off := 4)) (Rn.nil))) ?_
          refine WDB.act 18 (hc := rfl) (he := Ef.setFld (E := RbE) (xs := (x1 :: r1).reverse) (f := 4) hsB15 8 { (nth (x1 :: r1).reverse (((x1 :: r1).reverse.length : Int) - 1)) with keys := x1.keys ++ [o.key], A := AB15, c := cB15 } rfl rfl (by omega) (by omega) (fun wZ hsZ => ⟨fun h => (h (by simp)).elim, WDB.done ?_⟩))
          exact ⟨rfl, AB15, cB15, hfin AB15 cB15 _ hsZ, rfl, rfl, rfl, trivial⟩
    · refine WDB.act3 3 8 14 (hci := rfl) (hcj := rfl) (hck := rfl) (hi := Ef.yv (Yv.ld ((hd.cells 4).at_ 2)) ⟨fun _ h => h, ?_⟩) (hj := Ef.yv (Yv.len_v (e := 138) (m := 5)) ⟨fun _ h => h, ?_⟩) (hk := Ef.bsl (T := 9) StE [o.key] hd (fun bA24 wA24 kA24 hsA24 => ⟨fun _ h => h.trans kA24, ?_⟩))
      · refine WDB.act2 8 14 (hci := rfl) (hcj := rfl) (hi := Ef.yv (Yv.len_v (e := 138) (m := 5)) ⟨fun _ h => h, ?_⟩) (hj := Ef.bsl (T := 9) StE [o.key] hd (fun bA26 wA26 kA26 hsA26 => ⟨fun _ h => h.trans kA26, ?_⟩))
        · refine WDB.rd0 (is := [9]) (fun _ _ _ _ _ h => h) (Keep.refl _) (Rn.s rfl (Yv.sub (by unfold inI; omega)) (Rn.nil)) ?_
          refine WDB.act 14 (hc := rfl) (he := Ef.bsl (T := 9) StE [o.key] hd (fun bA27 wA27 kA27 hsA27 => ⟨fun _ h => h.trans kA27, ?_⟩))
          refine WDB.act 15 (hc := rfl) (he := Ef.append (ys := [o.key]) hsA27 8 (hsA27.rd 0) (by simp) (fitT (by simp only [List.length_cons, List.length_nil]; omega)) (fun AB28 cB28 wB28 hsB28 => ⟨fun h => (h (by simp)).elim, ?_⟩))
          have hrx := hsB28.rd 8
          refine WDB.rd0 (is := [16, 17]) (fun _ _ _ _ _ h => h) (Keep.refl _) (Rn.s rfl (Yv.ia (e := 138) hrx (by omega) (by omega)) (Rn.s rfl (Yv.fa (off := 4)) (Rn.nil))) ?_
          refine WDB.act 18 (hc := rfl) (he := Ef.setFld (E := RbE) (xs := (x1 :: r1).reverse) (f := 4) hsB28 8 { (nth (x1 :: r1).reverse (((x1 :: r1).reverse.length : Int) - 1)) with keys := x1.keys ++ [o.key], A := AB28, c := cB28 } rfl rfl (by omega) (by omega) (fun wZ hsZ => ⟨fun h => (h (by simp)).elim, WDB.done ?_⟩))
          exact ⟨rfl, AB28, cB28, hfin AB28 cB28 _ hsZ, rfl, rfl, rfl, trivial⟩
        · refine WDB.act2 8 15 (hci := rfl) (hcj := rfl) (hi := Ef.yv (Yv.len_v (e := 138) (m := 5)) ⟨fun _ h => h, ?_⟩) (hj := Ef.append (ys := [o.key]) hsA26 8 (hsA26.rd 0) (by simp) (fitT (by simp only [List.length_cons, List.length_nil]; omega)) (fun AB30 cB30 wB30 hsB30 => ⟨fun h => (h (by simp)).elim, ?_⟩))
          · refine WDB.rd0 (is := [9]) (fun _ _ _ _ _ h => h) (Keep.refl _) (Rn.s rfl (Yv.sub (by unfold inI; omega)) (Rn.nil)) ?_
            refine WDB.act 15 (hc := rfl) (he := Ef.append (ys := [o.key]) hsA26 8 (hsA26.rd 0) (by simp) (fitT (by simp only [List.length_cons, List.length_nil]; omega)) (fun AB31 cB31 wB31 hsB31 => ⟨fun h => (h (by simp)).elim, ?_⟩))
            have hrx := hsB31.rd 8
            refine WDB.rd0 (is := [16, 17]) (fun _ _ _ _ _ h => h) (Keep.refl _) (Rn.s rfl (Yv.ia (e := 138) hrx (by omega) (by omega)) (Rn.s rfl (Yv.fa (off := 4)) (Rn.nil))) ?_
            refine WDB.act 18 (hc := rfl) (he := Ef.setFld (E := RbE) (xs := (x1 :: r1).reverse) (f := 4) hsB31 8 { (nth (x1 :: r1).reverse (((x1 :: r1).reverse.length : Int) - 1)) with keys := x1.keys ++ [o.key], A := AB31, c := cB31 } rfl rfl (by omega) (by omega) (fun wZ hsZ => ⟨fun h => (h (by simp)).elim, WDB.done ?_⟩))
            exact ⟨rfl, AB31, cB31, hfin AB31 cB31 _ hsZ, rfl, rfl, rfl, trivial⟩
          · refine WDB.act 8 (hc := rfl) (he := Ef.yv (Yv.len_v (e := 138) (m := 5)) ⟨fun _ h => h, ?_⟩)
            refine WDB.rd0 (is := [9]) (fun _ _ _ _ _ h => h) (Keep.refl _) (Rn.s rfl (Yv.sub (by unfold inI; omega)) (Rn.nil)) ?_
            have hrx := hsB30.rd 8
            refine WDB.rd0 (is := [16, 17]) (fun _ _ _ _ _ h => h) (Keep.refl _) (Rn.s rfl (Yv.ia (e := 138) hrx (by omega) (by omega)) (Rn.s rfl (Yv.fa (off := 4)) (Rn.nil))) ?_
            refine WDB.act 18 (hc := rfl) (he := Ef.setFld (E := RbE) (xs := (x1 :: r1).reverse) (f := 4) hsB30 8 { (nth (x1 :: r1).reverse (((x1 :: r1).reverse.length : Int) - 1)) with keys := x1.keys ++ [o.key], A := AB30, c := cB30 } rfl rfl (by omega) (by omega) (fun wZ hsZ => ⟨fun h => (h (by simp)).elim, WDB.done ?_⟩))
            exact ⟨rfl, AB30, cB30, hfin AB30 cB30 _ hsZ, rfl, rfl, rfl, trivial⟩
      · refine WDB.rd0 (is := [9]) (fun _ _ _ _ _ h => h) (Keep.refl _) (Rn.s rfl (Yv.sub (by unfold inI; omega)) (Rn.nil)) ?_
        refine WDB.act2 3 14 (hci := rfl) (hcj := rfl) (hi := Ef.yv (Yv.ld ((hd.cells 4).at_ 2)) ⟨fun _ h => h, ?_⟩) (hj := Ef.bsl (T := 9) StE [o.key] hd (fun bA34 wA34 kA34 hsA34 => ⟨fun _ h => h.trans kA34, ?_⟩))
        · refine WDB.act 14 (hc := rfl) (he := Ef.bsl (T := 9) StE [o.key] hd (fun bA35 wA35 kA35 hsA35 => ⟨fun _ h => h.trans kA35, ?_⟩))
          refine WDB.act 15 (hc := rfl) (he := Ef.append (ys := [o.key]) hsA35 8 (hsA35.rd 0) (by simp) (fitT (by simp only [List.length_cons, List.length_nil]; omega)) (fun AB36 cB36 wB36 hsB36 => ⟨fun h => (h (by simp)).elim, ?_⟩))
          have hrx := hsB36.rd 8
          refine WDB.rd0 (is := [16, 17]) (fun _ _ _ _ _ h => h) (Keep.refl _) (Rn.s rfl (Yv.ia (e := 138) hrx (by omega) (by omega)) (Rn.s rfl (Yv.fa (off := 4)) (Rn.nil))) ?_
          refine WDB.act 18 (hc := rfl) (he := Ef.setFld (E := RbE) (xs := (x1 :: r1).reverse) (f := 4) hsB36 8 { (nth (x1 :: r1).reverse (((x1 :: r1).reverse.length : Int) - 1)) with keys := x1.keys ++ [o.key], A := AB36, c := cB36 } rfl rfl (by omega) (by omega) (fun wZ hsZ => ⟨fun h => (h (by simp)).elim, WDB.done ?_⟩))
          exact ⟨rfl, AB36, cB36, hfin AB36 cB36 _ hsZ, rfl, rfl, rfl, trivial⟩
        · refine WDB.act2 3 15 (hci := rfl) (hcj := rfl) (hi := Ef.yv (Yv.ld ((hsA34.cells 5).at_ 2)) ⟨fun _ h => h, ?_⟩) (hj := Ef.append (ys := [o.key]) hsA34 8 (hsA34.rd 0) (by simp) (fitT (by simp only [List.length_cons, List.length_nil]; omega)) (fun AB38 cB38 wB38 hsB38 => ⟨fun h => (h (by simp)).elim, ?_⟩))
          · refine WDB.act 15 (hc := rfl) (he := Ef.append (ys := [o.key]) hsA34 8 (hsA34.rd 0) (by simp) (fitT (by simp only [List.length_cons, List.length_nil]; omega)) (fun AB39 cB39 wB39 hsB39 => ⟨fun h => (h (by simp)).elim, ?_⟩))
            have hrx := hsB39.rd 8
            refine WDB.rd0 (is := [16, 17]) (fun _ _ _ _ _ h => h) (Keep.refl _) (Rn.s rfl (Yv.ia (e := 138) hrx (by omega) (by omega)) (Rn.s rfl (Yv.fa (off := 4)) (Rn.nil))) ?_
            refine WDB.act 18 (hc := rfl) (he := Ef.setFld (E := RbE) (xs := (x1 :: r1).reverse) (f := 4) hsB39 8 { (nth (x1 :: r1).reverse (((x1 :: r1).reverse.length : Int) - 1)) with keys := x1.keys ++ [o.key], A := AB39, c := cB39 } rfl rfl (by omega) (by omega) (fun wZ hsZ => ⟨fun h => (h (by simp)).elim, WDB.done ?_⟩))
            exact ⟨rfl, AB39, cB39, hfin AB39 cB39 _ hsZ, rfl, rfl, rfl, trivial⟩
          · refine WDB.act 3 (hc := rfl) (he := Ef.yv (Yv.ld ((hsB38.cells 6).at_ 2)) ⟨fun _ h => h, ?_⟩)
            have hrx := hsB38.rd 8
            refine WDB.rd0 (is := [16, 17]) (fun _ _ _ _ _ h => h) (Keep.refl _) (Rn.s rfl (Yv.ia (e := 138) hrx (by omega) (by omega)) (Rn.s rfl (Yv.fa (off := 4)) (Rn.nil))) ?_
            refine WDB.act 18 (hc := rfl) (he := Ef.setFld (E := RbE) (xs := (x1 :: r1).reverse) (f := 4) hsB38 8 { (nth (x1 :: r1).reverse (((x1 :: r1).reverse.length : Int) - 1)) with keys := x1.keys ++ [o.key], A := AB38, c := cB38 } rfl rfl (by omega) (by omega) (fun wZ hsZ => ⟨fun h => (h (by simp)).elim, WDB.done ?_⟩))
            exact ⟨rfl, AB38, cB38, hfin AB38 cB38 _ hsZ, rfl, rfl, rfl, trivial⟩
      · refine WDB.act3 3 8 15 (hci := rfl) (hcj := rfl) (hck := rfl) (hi := Ef.yv (Yv.ld ((hsA24.cells 5).at_ 2)) ⟨fun _ h => h, ?_⟩) (hj := Ef.yv (Yv.len_v (e := 138) (m := 5)) ⟨fun _ h => h, ?_⟩) (hk := Ef.append (ys := [o.key]) hsA24 8 (hsA24.rd 0) (by simp) (fitT (by simp only [List.length_cons, List.length_nil]; omega)) (fun AB43 cB43 wB43 hsB43 => ⟨fun h => (h (by simp)).elim, ?_⟩))
        · refine WDB.act2 8 15 (hci := rfl) (hcj := rfl) (hi := Ef.yv (Yv.len_v (e := 138) (m := 5)) ⟨fun _ h => h, ?_⟩) (hj := Ef.append (ys := [o.key]) hsA24 8 (hsA24.rd 0) (by simp) (fitT (by simp only [List.length_cons, List.length_nil]; omega)) (fun AB45 cB45 wB45 hsB45 => ⟨fun h => (h (by simp)).elim, ?_⟩))
          · refine WDB.rd0 (is := [9]) (fun _ _ _ _ _ h => h) (Keep.refl _) (Rn.s rfl (Yv.sub (by unfold inI; omega)) (Rn.nil)) ?_
            refine WDB.act 15 (hc := rfl) (he := Ef.append (ys := [o.key]) hsA24 8 (hsA24.rd 0) (by simp) (fitT (by simp only [List.length_cons, List.length_nil]; omega)) (fun AB46 cB46 wB46 hsB46 => ⟨fun h => (h (by simp)).elim, ?_⟩))
            have hrx := hsB46.rd 8
            refine WDB.rd0 (is := [16, 17]) (fun _ _ _ _ _ h => h) (Keep.refl _) (Rn.s rfl (Yv.ia (e := 138) hrx (by omega) (by omega)) (Rn.s rfl (Yv.fa (off := 4)) (Rn.nil))) ?_
            refine WDB.act 18 (hc := rfl) (he := Ef.setFld (E := RbE) (xs := (x1 :: r1).reverse) (f := 4) hsB46 8 { (nth (x1 :: r1).reverse (((x1 :: r1).reverse.length : Int) - 1)) with keys := x1.keys ++ [o.key], A := AB46, c := cB46 } rfl rfl (by omega) (by omega) (fun wZ hsZ => ⟨fun h => (h (by simp)).elim, WDB.done ?_⟩))
            exact ⟨rfl, AB46, cB46, hfin AB46 cB46 _ hsZ, rfl, rfl, rfl, trivial⟩
          · refine WDB.act 8 (hc := rfl) (he := Ef.yv (Yv.len_v (e := 138) (m := 5)) ⟨fun _ h => h, ?_⟩)
            refine WDB.rd0 (is := [9]) (fun _ _ _ _ _ h => h) (Keep.refl _) (Rn.s rfl (Yv.sub (by unfold inI; omega)) (Rn.nil)) ?_
            have hrx := hsB45.rd 8
            refine WDB.rd0 (is := [16, 17]) (fun _ _ _ _ _ h => h) (Keep.refl _) (Rn.s rfl (Yv.ia (e := 138) hrx (by omega) (by omega)) (Rn.s rfl (Yv.fa (off := 4)) (Rn.nil))) ?_
            refine WDB.act 18 (hc := rfl) (he := Ef.setFld (E := RbE) (xs := (x1 :: r1).reverse) (f := 4) hsB45 8 { (nth (x1 :: r1).reverse (((x1 :: r1).reverse.length : Int) - 1)) with keys := x1.keys ++ [o.key], A := AB45, c := cB45 } rfl rfl (by omega) (by omega) (fun wZ hsZ => ⟨fun h => (h (by simp)).elim, WDB.done ?_⟩))
            exact ⟨rfl, AB45, cB45, hfin AB45 cB45 _ hsZ, rfl, rfl, rfl, trivial⟩
        · refine WDB.rd0 (is := [9]) (fun _ _ _ _ _ h => h) (Keep.refl _) (Rn.s rfl (Yv.sub (by unfold inI; omega)) (Rn.nil)) ?_
          refine WDB.act2 3 15 (hci := rfl) (hcj := rfl) (hi := Ef.yv (Yv.ld ((hsA24.cells 5).at_ 2)) ⟨fun _ h => h, ?_⟩) (hj := Ef.append (ys := [o.key]) hsA24 8 (hsA24.rd 0) (by simp) (fitT (by simp only [List.length_cons, List.length_nil]; omega)) (fun AB49 cB49 wB49 hsB49 => ⟨fun h => (h (by simp)).elim, ?_⟩))
          · refine WDB.act 15 (hc := rfl) (he := Ef.append (ys := [o.key]) hsA24 8 (hsA24.rd 0) (by simp) (fitT (by simp only [List.length_cons, List.length_nil]; omega)) (fun AB50 cB50 wB50 hsB50 => ⟨fun h => (h (by simp)).elim, ?_⟩))
            have hrx := hsB50.rd 8
            refine WDB.rd0 (is := [16, 17]) (fun _ _ _ _ _ h => h) (Keep.refl _) (Rn.s rfl (Yv.ia (e := 138) hrx (by omega) (by omega)) (Rn.s rfl (Yv.fa (off := 4)) (Rn.nil))) ?_
            refine WDB.act 18 (hc := rfl) (he := Ef.setFld (E := RbE) (xs := (x1 :: r1).reverse) (f := 4) hsB50 8 { (nth (x1 :: r1).reverse (((x1 :: r1).reverse.length : Int) - 1)) with keys := x1.keys ++ [o.key], A := AB50, c := cB50 } rfl rfl (by omega) (by omega) (fun wZ hsZ => ⟨fun h => (h (by simp)).elim, WDB.done ?_⟩))
            exact ⟨rfl, AB50, cB50, hfin AB50 cB50 _ hsZ, rfl, rfl, rfl, trivial⟩
          · refine WDB.act 3 (hc := rfl) (he := Ef.yv (Yv.ld ((hsB49.cells 6).at_ 2)) ⟨fun _ h => h, ?_⟩)
            have hrx := hsB49.rd 8
            refine WDB.rd0 (is := [16, 17]) (fun _ _ _ _ _ h => h) (Keep.refl _) (Rn.s rfl (Yv.ia (e := 138) hrx (by omega) (by omega)) (Rn.s rfl (Yv.fa (off := 4)) (Rn.nil))) ?_
            refine WDB.act 18 (hc := rfl) (he := Ef.setFld (E := RbE) (xs := (x1 :: r1).reverse) (f := 4) hsB49 8 { (nth (x1 :: r1).reverse (((x1 :: r1).reverse.length : Int) - 1)) with keys := x1.keys ++ [o.key], A := AB49, c := cB49 } rfl rfl (by omega) (by omega) (fun wZ hsZ => ⟨fun h => (h (by simp)).elim, WDB.done ?_⟩))
            exact ⟨rfl, AB49, cB49, hfin AB49 cB49 _ hsZ, rfl, rfl, rfl, trivial⟩
        · refine WDB.act2 3 8 (hci := rfl) (hcj := rfl) (hi := Ef.yv (Yv.ld ((hsB43.cells 6).at_ 2)) ⟨fun _ h => h, ?_⟩) (hj := Ef.yv (Yv.len_v (e := 138) (m := 5)) ⟨fun _ h => h, ?_⟩)
          · refine WDB.act 8 (hc := rfl) (he := Ef.yv (Yv.len_v (e := 138) (m := 5)) ⟨fun _ h => h, ?_⟩)
            refine WDB.rd0 (is := [9]) (fun _ _ _ _ _ h => h) (Keep.refl _) (Rn.s rfl (Yv.sub (by unfold inI; omega)) (Rn.nil)) ?_
            have hrx := hsB43.rd 8
            refine WDB.rd0 (is := [16, 17]) (fun _ _ _ _ _ h => h) (Keep.refl _) (Rn.s rfl (Yv.ia (e := 138) hrx (by omega) (by omega)) (Rn.s rfl (Yv.fa (off := 4)) (Rn.nil))) ?_
            refine WDB.act 18 (hc := rfl) (he := Ef.setFld (E := RbE) (xs := (x1 :: r1).reverse) (f := 4) hsB43 8 { (nth (x1 :: r1).reverse (((x1 :: r1).reverse.length : Int) - 1)) with keys := x1.keys ++ [o.key], A := AB43, c := cB43 } rfl rfl (by omega) (by omega) (fun wZ hsZ => ⟨fun h => (h (by simp)).elim, WDB.done ?_⟩))
            exact ⟨rfl, AB43, cB43, hfin AB43 cB43 _ hsZ, rfl, rfl, rfl, trivial⟩
          · refine WDB.rd0 (is := [9]) (fun _ _ _ _ _ h => h) (Keep.refl _) (Rn.s rfl (Yv.sub (by unfold inI; omega)) (Rn.nil)) ?_
            refine WDB.act 3 (hc := rfl) (he := Ef.yv (Yv.ld ((hsB43.cells 6).at_ 2)) ⟨fun _ h => h, ?_⟩)
            have hrx := hsB43.rd 8
            refine WDB.rd0 (is := [16, 17]) (fun _ _ _ _ _ h => h) (Keep.refl _) (Rn.s rfl (Yv.ia (e := 138) hrx (by omega) (by omega)) (Rn.s rfl (Yv.fa (off := 4)) (Rn.nil))) ?_
            refine WDB.act 18 (hc := rfl) (he := Ef.setFld (E := RbE) (xs := (x1 :: r1).reverse) (f := 4) hsB43 8 { (nth (x1 :: r1).reverse (((x1 :: r1).reverse.length : Int) - 1)) with keys := x1.keys ++ [o.key], A := AB43, c := cB43 } rfl rfl (by omega) (by omega) (fun wZ hsZ => ⟨fun h => (h (by simp)).elim, WDB.done ?_⟩))
            exact ⟨rfl, AB43, cB43, hfin AB43 cB43 _ hsZ, rfl, rfl, rfl, trivial⟩
    · refine WDB.act3 3 7 15 (hci := rfl) (hcj := rfl) (hck := rfl) (hi := Ef.yv (Yv.ld ((hsA3.cells 5).at_ 2)) ⟨fun _ h => h, ?_⟩) (hj := Ef.yv (Yv.ld ((hsA3.cells 5).at_ 2)) ⟨fun _ h => h, ?_⟩) (hk := Ef.append (ys := [o.key]) hsA3 8 (hsA3.rd 0) (by simp) (fitT (by simp only [List.length_cons, List.length_nil]; omega)) (fun AB58 cB58 wB58 hsB58 => ⟨fun h => (h (by simp)).elim, ?_⟩))
      · refine WDB.act2 7 15 (hci := rfl) (hcj := rfl) (hi := Ef.yv (Yv.ld ((hsA3.cells 5).at_ 2)) ⟨fun _ h => h, ?_⟩) (hj := Ef.append (ys := [o.key]) hsA3 8 (hsA3.rd 0) (by simp) (fitT (by simp only [List.length_cons, List.length_nil]; omega)) (fun AB60 cB60 wB60 hsB60 => ⟨fun h => (h (by simp)).elim, ?_⟩))
        · refine WDB.act2 8 15 (hci := rfl) (hcj := rfl) (hi := Ef.yv (Yv.len_v (e := 138) (m := 5)) ⟨fun _ h => h, ?_⟩) (hj := Ef.append (ys := [o.key]) hsA3 8 (hsA3.rd 0) (by simp) (fitT (by simp only [List.length_cons, List.length_nil]; omega)) (fun AB62 cB62 wB62 hsB62 => ⟨fun h => (h (by simp)).elim, ?_⟩))
          · refine WDB.rd0 (is := [9]) (fun _ _ _ _ _ h => h) (Keep.refl _) (Rn.s rfl (Yv.sub (by unfold inI; omega)) (Rn.nil)) ?_
            refine WDB.act 15 (hc := rfl) (he := Ef.append (ys := [o.key]) hsA3 8 (hsA3.rd 0) (by simp) (fitT (by simp only [List.length_cons, List.length_nil]; omega)) (fun AB63 cB63 wB63 hsB63 => ⟨fun h => (h (by simp)).elim, ?_⟩))
            have hrx := hsB63.rd 8
            refine WDB.rd0 (is := [16, 17]) (fun _ _ _ _ _ h => h) (Keep.refl _) (Rn.s rfl (Yv.ia (e := 138) hrx (by omega) (by omega)) (Rn.s rfl (Yv.fa (off := 4)) (Rn.nil))) ?_
            refine WDB.act 18 (hc := rfl) (he := Ef.setFld (E := RbE) (xs := (x1 :: r1).reverse) (f := 4) hsB63 8 { (nth (x1 :: r1).reverse (((x1 :: r1).reverse.length : Int) - 1)) with keys := x1.keys ++ [o.key], A := AB63, c := cB63 } rfl rfl (by omega) (by omega) (fun wZ hsZ => ⟨fun h => (h (by simp)).elim, WDB.done ?_⟩))
            exact ⟨rfl, AB63, cB63, hfin AB63 cB63 _ hsZ, rfl, rfl, rfl, trivial⟩
          · refine WDB.act 8 (hc := rfl) (he := Ef.yv (Yv.len_v (e := 138) (m := 5)) ⟨fun _ h => h, ?_⟩)
            refine WDB.rd0 (is := [9]) (fun _ _ _ _ _ h => h) (Keep.refl _) (Rn.s rfl (Yv.sub (by unfold inI; omega)) (Rn.nil)) ?_
            have hrx := hsB62.rd 8
            refine WDB.rd0 (is := [16, 17]) (fun _ _ _ _ _ h => h) (Keep.refl _) (Rn.s rfl (Yv.ia (e := 138) hrx (by omega) (by omega)) (Rn.s rfl (Yv.fa (off := 4)) (Rn.nil))) ?_
            refine WDB.act 18 (hc := rfl) (he := Ef.setFld (E := RbE) (xs := (x1 :: r1).reverse) (f := 4) hsB62 8 { (nth (x1 :: r1).reverse (((x1 :: r1).reverse.length : Int) - 1)) with keys := x1.keys ++ [o.key], A := AB62, c := cB62 } rfl rfl (by omega) (by omega) (fun wZ hsZ => ⟨fun h => (h (by simp)).elim, WDB.done ?_⟩))
            exact ⟨rfl, AB62, cB62, hfin AB62 cB62 _ hsZ, rfl, rfl, rfl, trivial⟩
        · refine WDB.act 7 (hc := rfl) (he := Ef.yv (Yv.ld ((hsB60.cells 6).at_ 2)) ⟨fun _ h => h, ?_⟩)
          refine WDB.act 8 (hc := rfl) (he := Ef.yv (Yv.len_v (e := 138) (m := 5)) ⟨fun _ h => h, ?_⟩)
          refine WDB.rd0 (is := [9]) (fun _ _ _ _ _ h => h) (Keep.refl _) (Rn.s rfl (Yv.sub (by unfold inI; omega)) (Rn.nil)) ?_
          have hrx := hsB60.rd 8
          refine WDB.rd0 (is := [16, 17]) (fun _ _ _ _ _ h => h) (Keep.refl _) (Rn.s rfl (Yv.ia (e := 138) hrx (by omega) (by omega)) (Rn.s rfl (Yv.fa (off := 4)) (Rn.nil))) ?_
          refine WDB.act 18 (hc := rfl) (he := Ef.setFld (E := RbE) (xs := (x1 :: r1).reverse) (f := 4) hsB60 8 { (nth (x1 :: r1).reverse (((x1 :: r1).reverse.length : Int) - 1)) with keys := x1.keys ++ [o.key], A := AB60, c := cB60 } rfl rfl (by omega) (by omega) (fun wZ hsZ => ⟨fun h => (h (by simp)).elim, WDB.done ?_⟩))
          exact ⟨rfl, AB60, cB60, hfin AB60 cB60 _ hsZ, rfl, rfl, rfl, trivial⟩
      · refine WDB.act3 3 8 15 (hci := rfl) (hcj := rfl) (hck := rfl) (hi := Ef.yv (Yv.ld ((hsA3.cells 5).at_ 2)) ⟨fun _ h => h, ?_⟩) (hj := Ef.yv (Yv.len_v (e := 138) (m := 5)) ⟨fun _ h => h, ?_⟩) (hk := Ef.append (ys := [o.key]) hsA3 8 (hsA3.rd 0) (by simp) (fitT (by simp only [List.length_cons, List.length_nil]; omega)) (fun AB69 cB69 wB69 hsB69 => ⟨fun h => (h (by simp)).elim, ?_⟩))
        · refine WDB.act2 8 15 (hci := rfl) (hcj := rfl) (hi := Ef.yv (Yv.len_v (e := 138) (m := 5)) ⟨fun _ h => h, ?_⟩) (hj := Ef.append (ys := [o.key]) hsA3 8 (hsA3.rd 0) (by simp) (fitT (by simp only [List.length_cons, List.length_nil]; omega)) (fun AB71 cB71 wB71 hsB71 => ⟨fun h => (h (by simp)).elim, ?_⟩))
          · refine WDB.rd0 (is := [9]) (fun _ _ _ _ _ h => h) (Keep.refl _) (Rn.s rfl (Yv.sub (by unfold inI; omega)) (Rn.nil)) ?_
            refine WDB.act 15 (hc := rfl) (he := Ef.append (ys := [o.key]) hsA3 8 (hsA3.rd 0) (by simp) (fitT (by simp only [List.length_cons, List.length_nil]; omega)) (fun AB72 cB72 wB72 hsB72 => ⟨fun h => (h (by simp)).elim, ?_⟩))
            have hrx := hsB72.rd 8
            refine WDB.rd0 (is := [16, 17]) (fun _ _ _ _ _ h => h) (Keep.refl _) (Rn.s rfl (Yv.ia (e := 138) hrx (by omega) (by omega)) (Rn.s rfl (Yv.fa (off := 4)) (Rn.nil))) ?_
            refine WDB.act 18 (hc := rfl) (he := Ef.setFld (E := RbE) (xs := (x1 :: r1).reverse) (f := 4) hsB72 8 { (nth (x1 :: r1).reverse (((x1 :: r1).reverse.length : Int) - 1)) with keys := x1.keys ++ [o.key], A := AB72, c := cB72 } rfl rfl (by omega) (by omega) (fun wZ hsZ => ⟨fun h => (h (by simp)).elim, WDB.done ?_⟩))
            exact ⟨rfl, AB72, cB72, hfin AB72 cB72 _ hsZ, rfl, rfl, rfl, trivial⟩
          · refine WDB.act 8 (hc := rfl) (he := Ef.yv (Yv.len_v (e := 138) (m := 5)) ⟨fun _ h => h, ?_⟩)
            refine WDB.rd0 (is := [9]) (fun _ _ _ _ _ h => h) (Keep.refl _) (Rn.s rfl (Yv.sub (by unfold inI; omega)) (Rn.nil)) ?_
            have hrx := hsB71.rd 8
            refine WDB.rd0 (is := [16, 17]) (fun _ _ _ _ _ h => h) (Keep.refl _) (Rn.s rfl (Yv.ia (e := 138) hrx (by omega) (by omega)) (Rn.s rfl (Yv.fa (off := 4)) (Rn.nil))) ?_
            refine WDB.act 18 (hc := rfl) (he := Ef.setFld (E := RbE) (xs := (x1 :: r1).reverse) (f := 4) hsB71 8 { (nth (x1 :: r1).reverse (((x1 :: r1).reverse.length : Int) - 1)) with keys := x1.keys ++ [o.key], A := AB71, c := cB71 } rfl rfl (by omega) (by omega) (fun wZ hsZ => ⟨fun h => (h (by simp)).elim, WDB.done ?_⟩))
            exact ⟨rfl, AB71, cB71, hfin AB71 cB71 _ hsZ, rfl, rfl, rfl, trivial⟩
        · refine WDB.rd0 (is := [9]) (fun _ _ _ _ _ h => h) (Keep.refl _) (Rn.s rfl (Yv.sub (by unfold inI; omega)) (Rn.nil)) ?_
          refine WDB.act2 3 15 (hci := rfl) (hcj := rfl) (hi := Ef.yv (Yv.ld ((hsA3.cells 5).at_ 2)) ⟨fun _ h => h, ?_⟩) (hj := Ef.append (ys := [o.key]) hsA3 8 (hsA3.rd 0) (by simp) (fitT (by simp only [List.length_cons, List.length_nil]; omega)) (fun AB75 cB75 wB75 hsB75 => ⟨fun h => (h (by simp)).elim, ?_⟩))
          · refine WDB.act 15 (hc := rfl) (he := Ef.append (ys := [o.key]) hsA3 8 (hsA3.rd 0) (by simp) (fitT (by simp only [List.length_cons, List.length_nil]; omega)) (fun AB76 cB76 wB76 hsB76 => ⟨fun h => (h (by simp)).elim, ?_⟩))
            have hrx := hsB76.rd 8
            refine WDB.rd0 (is := [16, 17]) (fun _ _ _ _ _ h => h) (Keep.refl _) (Rn.s rfl (Yv.ia (e := 138) hrx (by omega) (by omega)) (Rn.s rfl (Yv.fa (off := 4)) (Rn.nil))) ?_
            refine WDB.act 18 (hc := rfl) (he := Ef.setFld (E := RbE) (xs := (x1 :: r1).reverse) (f := 4) hsB76 8 { (nth (x1 :: r1).reverse (((x1 :: r1).reverse.length : Int) - 1)) with keys := x1.keys ++ [o.key], A := AB76, c := cB76 } rfl rfl (by omega) (by omega) (fun wZ hsZ => ⟨fun h => (h (by simp)).elim, WDB.done ?_⟩))
            exact ⟨rfl, AB76, cB76, hfin AB76 cB76 _ hsZ, rfl, rfl, rfl, trivial⟩
          · refine WDB.act 3 (hc := rfl) (he := Ef.yv (Yv.ld ((hsB75.cells 6).at_ 2)) ⟨fun _ h => h, ?_⟩)
            have hrx := hsB75.rd 8
            refine WDB.rd0 (is := [16, 17]) (fun _ _ _ _ _ h => h) (Keep.refl _) (Rn.s rfl (Yv.ia (e := 138) hrx (by omega) (by omega)) (Rn.s rfl (Yv.fa (off := 4)) (Rn.nil))) ?_
            refine WDB.act 18 (hc := rfl) (he := Ef.setFld (E := RbE) (xs := (x1 :: r1).reverse) (f := 4) hsB75 8 { (nth (x1 :: r1).reverse (((x1 :: r1).reverse.length : Int) - 1)) with keys := x1.keys ++ [o.key], A := AB75, c := cB75 } rfl rfl (by omega) (by omega) (fun wZ hsZ => ⟨fun h => (h (by simp)).elim, WDB.done ?_⟩))
            exact ⟨rfl, AB75, cB75, hfin AB75 cB75 _ hsZ, rfl, rfl, rfl, trivial⟩
        · refine WDB.act2 3 8 (hci := rfl) (hcj := rfl) (hi := Ef.yv (Yv.ld ((hsB69.cells 6).at_ 2)) ⟨fun _ h => h, ?_⟩) (hj := Ef.yv (Yv.len_v (e := 138) (m := 5)) ⟨fun _ h => h, ?_⟩)
          · refine WDB.act 8 (hc := rfl) (he := Ef.yv (Yv.len_v (e := 138) (m := 5)) ⟨fun _ h => h, ?_⟩)
            refine WDB.rd0 (is := [9]) (fun _ _ _ _ _ h => h) (Keep.refl _) (Rn.s rfl (Yv.sub (by unfold inI; omega)) (Rn.nil)) ?_
            have hrx := hsB69.rd 8
            refine WDB.rd0 (is := [16, 17]) (fun _ _ _ _ _ h => h) (Keep.refl _) (Rn.s rfl (Yv.ia (e := 138) hrx (by omega) (by omega)) (Rn.s rfl (Yv.fa (off := 4)) (Rn.nil))) ?_
            refine WDB.act 18 (hc := rfl) (he := Ef.setFld (E := RbE) (xs := (x1 :: r1).reverse) (f := 4) hsB69 8 { (nth (x1 :: r1).reverse (((x1 :: r1).reverse.length : Int) - 1)) with keys := x1.keys ++ [o.key], A := AB69, c := cB69 } rfl rfl (by omega) (by omega) (fun wZ hsZ => ⟨fun h => (h (by simp)).elim, WDB.done ?_⟩))
            exact ⟨rfl, AB69, cB69, hfin AB69 cB69 _ hsZ, rfl, rfl, rfl, trivial⟩
          · refine WDB.rd0 (is := [9]) (fun _ _ _ _ _ h => h) (Keep.refl _) (Rn.s rfl (Yv.sub (by unfold inI; omega)) (Rn.nil)) ?_
            refine WDB.act 3 (hc := rfl) (he := Ef.yv (Yv.ld ((hsB69.cells 6).at_ 2)) ⟨fun _ h => h, ?_⟩)
            have hrx := hsB69.rd 8
            refine WDB.rd0 (is := [16, 17]) (fun _ _ _ _ _ h => h) (Keep.refl _) (Rn.s rfl (Yv.ia (e := 138) hrx (by omega) (by omega)) (Rn.s rfl (Yv.fa (off := 4)) (Rn.nil))) ?_
            refine WDB.act 18 (hc := rfl) (he := Ef.setFld (E := RbE) (xs := (x1 :: r1).reverse) (f := 4) hsB69 8 { (nth (x1 :: r1).reverse (((x1 :: r1).reverse.length : Int) - 1)) with keys := x1.keys ++ [o.key], A := AB69, c := cB69 } rfl rfl (by omega) (by omega) (fun wZ hsZ => ⟨fun h => (h (by simp)).elim, WDB.done ?_⟩))
            exact ⟨rfl, AB69, cB69, hfin AB69 cB69 _ hsZ, rfl, rfl, rfl, trivial⟩
      · refine WDB.act2 3 7 (hci := rfl) (hcj := rfl) (hi := Ef.yv (Yv.ld ((hsB58.cells 6).at_ 2)) ⟨fun _ h => h, ?_⟩) (hj := Ef.yv (Yv.ld ((hsB58.cells 6).at_ 2)) ⟨fun _ h => h, ?_⟩)
        · refine WDB.act 7 (hc := rfl) (he := Ef.yv (Yv.ld ((hsB58.cells 6).at_ 2)) ⟨fun _ h => h, ?_⟩)
          refine WDB.act 8 (hc := rfl) (he := Ef.yv (Yv.len_v (e := 138) (m := 5)) ⟨fun _ h => h, ?_⟩)
          refine WDB.rd0 (is := [9]) (fun _ _ _ _ _ h => h) (Keep.refl _) (Rn.s rfl (Yv.sub (by unfold inI; omega)) (Rn.nil)) ?_
          have hrx := hsB58.rd 8
          refine WDB.rd0 (is := [16, 17]) (fun _ _ _ _ _ h => h) (Keep.refl _) (Rn.s rfl (Yv.ia (e := 138) hrx (by omega) (by omega)) (Rn.s rfl (Yv.fa (off := 4)) (Rn.nil))) ?_
          refine WDB.act 18 (hc := rfl) (he := Ef.setFld (E := RbE) (xs := (x1 :: r1).reverse) (f := 4) hsB58 8 { (nth (x1 :: r1).reverse (((x1 :: r1).reverse.length : Int) - 1)) with keys := x1.keys ++ [o.key], A := AB58, c := cB58 } rfl rfl (by omega) (by omega) (fun wZ hsZ => ⟨fun h => (h (by simp)).elim, WDB.done ?_⟩))
          exact ⟨rfl, AB58, cB58, hfin AB58 cB58 _ hsZ, rfl, rfl, rfl, trivial⟩
        · refine WDB.act2 3 8 (hci := rfl) (hcj := rfl) (hi := Ef.yv (Yv.ld ((hsB58.cells 6).at_ 2)) ⟨fun _ h => h, ?_⟩) (hj := Ef.yv (Yv.len_v (e := 138) (m := 5)) ⟨fun _ h => h, ?_⟩)
          · refine WDB.act 8 (hc := rfl) (he := Ef.yv (Yv.len_v (e := 138) (m := 5)) ⟨fun _ h => h, ?_⟩)
            refine WDB.rd0 (is := [9]) (fun _ _ _ _ _ h => h) (Keep.refl _) (Rn.s rfl (Yv.sub (by unfold inI; omega)) (Rn.nil)) ?_
            have hrx := hsB58.rd 8
            refine WDB.rd0 (is := [16, 17]) (fun _ _ _ _ _ h => h) (Keep.refl _) (Rn.s rfl (Yv.ia (e := 138) hrx (by omega) (by omega)) (Rn.s rfl (Yv.fa (off := 4)) (Rn.nil))) ?_
            refine WDB.act 18 (hc := rfl) (he := Ef.setFld (E := RbE) (xs := (x1 :: r1).reverse) (f := 4) hsB58 8 { (nth (x1 :: r1).reverse (((x1 :: r1).reverse.length : Int) - 1)) with keys := x1.keys ++ [o.key], A := AB58, c := cB58 } rfl rfl (by omega) (by omega) (fun wZ hsZ => ⟨fun h => (h (by simp)).elim, WDB.done ?_⟩))
            exact ⟨rfl, AB58, cB58, hfin AB58 cB58 _ hsZ, rfl, rfl, rfl, trivial⟩
          · refine WDB.rd0 (is := [9]) (fun _ _ _ _ _ h => h) (Keep.refl _) (Rn.s rfl (Yv.sub (by unfold inI; omega)) (Rn.nil)) ?_
            refine WDB.act 3 (hc := rfl) (he := Ef.yv (Yv.ld ((hsB58.cells 6).at_ 2)) ⟨fun _ h => h, ?_⟩)
            have hrx := hsB58.rd 8
            refine WDB.rd0 (is := [16, 17]) (fun _ _ _ _ _ h => h) (Keep.refl _) (Rn.s rfl (Yv.ia (e := 138) hrx (by omega) (by omega)) (Rn.s rfl (Yv.fa (off := 4)) (Rn.nil))) ?_
            refine WDB.act 18 (hc := rfl) (he := Ef.setFld (E := RbE) (xs := (x1 :: r1).reverse) (f := 4) hsB58 8 { (nth (x1 :: r1).reverse (((x1 :: r1).reverse.length : Int) - 1)) with keys := x1.keys ++ [o.key], A := AB58, c := cB58 } rfl rfl (by omega) (by omega) (fun wZ hsZ => ⟨fun h => (h (by simp)).elim, WDB.done ?_⟩))
            exact ⟨rfl, AB58, cB58, hfin AB58 cB58 _ hsZ, rfl, rfl, rfl, trivial⟩
  clear hst hd hfin c13 c6
  rintro ρ ds w5 ⟨rfl, Az1, cz1, hst, hs⟩
  refine Wp.forget _ ?_ hs
  clear hs ρ
  obtain ⟨x2, hx2⟩ : ∃ x2 : RB, x2 = { x1 with keys := x1.keys ++ [o.key], A := Az1, c := cz1 } := ⟨_, rfl⟩
  rw [← hx2] at hst
  have c14 := hst.cells 0
  have hc := hst.cells 2
  have hNl : N1.length = nodes.length := by rw [hN1]; unfold nodes1; split <;> simp
  refine Wp.seq (Wp.draws [7, 10] mixed (WD.rd (is := [0, 1, 2, 3, 4, 5]) (fun _ _ _ _ _ h => h) (Keep.drew _) (Rn.s rfl Yv.mv (Rn.s rfl Yv.mv (Rn.s rfl Yv.nc (Rn.s rfl (Yv.fa (off := 1)) (Rn.s rfl (Yv.ld (hc.at_ 1)) (Rn.s rfl (Yv.ldb c14) (Rn.nil))))))) (WD.app NdE [nodeS file m l o] 6 7 rfl (fun _ => rfl) (hst.quiet (Keep.drew _)) 3 (fitN (by simp only [List.length_cons, List.length_nil]; omega)) (fun bu1 Au1 cu1 wu1 hsu1 => WD.rd (is := [8, 9]) (fun _ _ _ _ _ h => h) (Keep.refl _) (Rn.s rfl Yv.nc (Rn.s rfl (Yv.fa (off := 1)) (Rn.nil))) (WD.act 10 (hc := rfl) (he := Ef.store hsu1 3 (fun wu2 hsu2 => ⟨fun hn => (hn (by decide)).elim, WD.done ?_⟩)))))))
  have hst : St w M wu2 (Ch.cells bx2 131 o.cs :: ChQ b file Au1 cu1 (N1 ++ [nodeS file m l o]) B1 d1 (x2 :: r1) last) := hsu2.pickT (P := [_, _, _, _, _]) (T := krows (x2 :: r1)) [3, 0, 1, 4]
  clear hsu1 hsu2
  have c6 := hst.cells 0
  have hc := hst.cells 1
  refine Wp.seq (Wp.regionL (l := [0, 1, 2, 3, 4, 5, 6]) (WO.rd (is := [0, 1, 2, 3, 4, 5]) (js := [6]) (Keep.refl _) (Rn.s rfl Yv.mv (Rn.s rfl (Yv.fa (off := 2)) (Rn.s rfl (Yv.ld (c6.at_ 2)) (Rn.s rfl Yv.not (Rn.s rfl Yv.nc (Rn.s rfl (Yv.fa (off := 3)) (Rn.nil))))))) (WO.act (hc := rfl) (he := Ef.store hst 1 (fun wv1 hsv1 => WO.done ?_)))))
  have hst : St w M wv1 (ChQ b file Au1 cu1 (N1 ++ [nodeS file m l o]) B1 d1 (x2 :: r1) (!o.has)) := hsv1.pickT (P := [_, _, _, _]) (T := krows (x2 :: r1)) [0, 2, 3]
  refine Wp.seq (Wp.reads (is := [0, 1]) (Keep.refl _) (Rn.s rfl Yv.as (Rn.s rfl Yv.as (Rn.nil))) ?_)
  refine Wp.ret (Fin.ret (Res.two rfl rfl rfl) ?_)
  rw [if_neg (by decide), hE, if_neg (fun q => q rfl)]
  refine ⟨rfl, Au1, cu1, B1, d1, x2, r1, ?_, by rw [hx2]; exact hxi, ?_, ?_, ?_⟩
  · refine ⟨by rw [hx2]; exact i1, by rw [hx2]; exact i2, by rw [hx2]; exact i3, by rw [hx2]; exact i4, ?_, i6⟩
    intro key
    rw [hx2]
    simp only [List.mem_append, List.mem_singleton]
    rw [alook_aput]
    by_cases hk : o.key = key
    · rw [if_pos hk]; simp [hk]
    · rw [if_neg hk, ← i5 key]
      exact ⟨fun h => h.elim id (fun q => (hk q.symm).elim), .inl⟩
  · rw [hx2]
    cases r1 with
    | nil => exact hbot1
    | cons y t => exact hbot1
  · intro y hy
    rcases List.mem_cons.1 hy with rfl | hy
    · rw [hx2]; simp only [List.length_append, List.length_cons, List.length_nil]; omega
    · have := hkb1 y (List.mem_cons_of_mem _ hy); omega
  · rw [← hm]
    exact hst
end Go.Proofs.YtgjhbapbomdpbaaGreatDoor.C
/- The document's reader of a text: Parse; and TreeParses is walked: its answer is true. -/
set_option linter.unusedVariables false
set_option linter.unusedSimpArgs false
set_option maxRecDepth 10000
namespace Go.Proofs.YtgjhbapbomdpbaaGreatDoor.C
open Go.RowKit Go.Proofs.YtgjhbapbomdpbaaGreatDoor.Sh
theorem linesR_ind : ∀ (xs : List (Nat × Bs)) (acc : List Ln), (∀ l ∈ acc, 0 ≤ l.indent) → ∀ l ∈ (linesR xs acc).ls, 0 ≤ l.indent
  | [], acc, h => h
  | (n, l) :: xs, acc, h => by
    simp only [linesR]
    split
    · simp
    split
    · simp
    · cases hlo : lineOf n l with
      | none => exact linesR_ind xs acc h
      | some x =>
        refine linesR_ind xs (acc ++ [x]) ?_
        intro y hm
        rcases List.mem_append.1 hm with hm | hm
        · exact h y hm
        · obtain rfl := List.mem_singleton.1 hm
          unfold lineOf at hlo
          simp only at hlo
          split at hlo
          · cases hlo
          · rename_i hne
            injection hlo with hlo
            subst hlo
            simp only
            rw [index_trim (fun q => hne (.inl q))]
            omega
theorem linesS_ind (s : Bs) : ∀ l ∈ (linesS s).ls, 0 ≤ l.indent := by
  unfold linesS
  split
  · simp
  · exact linesR_ind _ _ (by simp)
abbrev rb0 : RB := ⟨0, false, 0, 0, [], none, 0⟩
set_option maxHeartbeats 1600000 in
theorem rparse_cx (file s : Bs) (w : World) : Cx Tryz.prog 45 [S file, S s] [] (fun v D => ∃ A c, v = .tuple #[.slice A (parseS file s).1.length c, .agg (parseS file s).2.cs.toArray] ∧ D = [Ch.row NdE 62 A c (parseS file s).1]) w := by
  refine calls_of_Wp (vs := [_, _]) Tryz.func45 ?_
  refine Wp.seq (Wp.regionL (l := [0, 1]) (WO.rd (is := [0]) (js := [1]) (Keep.refl _) (Rn.s rfl Yv.as (Rn.nil)) (WO.act (hc := rfl) (he := Ef.allocL (vs := [.int .i64 0, S [], .int .i64 0, .int .i64 0]) (St.init w) (fun ba1 wa1 ka1 hsa1 => WO.done ?_)))))
  refine Wp.seq (Wp.regionL (l := [0, 1, 2, 3, 4, 5, 6, 7, 8, 9, 10]) (WO.rd (is := [0]) (js := [1, 2, 3, 4, 5, 6, 7, 8, 9, 10]) (Keep.refl _) (Rn.s rfl Yv.mv (Rn.nil)) (WO.act (hc := rfl) (he := Ef.cx (rlines_cx s wa1) hsa1 (FnOk.of Tryz.func68) ?_))))
  rintro v D w1 ⟨AL, cL, rfl, rfl⟩ hs1
  have hst : St w [] w1 [Ch.row LnE 129 AL cL (linesS s).ls, Ch.cells ba1 27 ft0.cs] := hs1
  obtain ⟨R, hR⟩ : ∃ R, R = linesS s := ⟨_, rfl⟩
  obtain ⟨hlo, hll⟩ := linesS_ok s
  have hli := linesS_ind s
  rw [← hR] at hst hlo hll hli
  rw [← hR]
  refine WO.rd (is := [2, 3, 4, 5, 6, 7, 8, 9, 10]) (js := []) (Keep.refl _) (Rn.s rfl Yv.mv (Rn.s rfl Yv.ex (Rn.s rfl Yv.ex (Rn.s rfl Yv.ex (Rn.s rfl Yv.ex (Rn.s rfl Yv.as (Rn.s rfl Yv.as (Rn.s rfl Yv.as (Rn.s rfl Yv.as (Rn.nil)))))))))) (WO.done ?_)
  refine Wp.seq (Wp.seq (Wp.reads (is := [0, 1]) (Keep.refl _) (Rn.s rfl Yv.mv (Rn.s rfl (Yv.cmp _ rfl) (Rn.nil))) ?_))
  refine Wp.cond rfl (fun h => ?_) (fun h => ?_)
  · have h : R.e ≠ 0 := by simpa using h
    have e : parseS file s = ([], ⟨R.e, file, R.no, R.col⟩) := by rw [parseS, ← hR, if_pos h]
    rw [e]
    refine Wp.seq (Wp.regionL (l := [0, 1, 2, 3, 4, 5, 6]) (WO.rd (is := [0, 1, 2, 3, 4, 5]) (js := [6]) (Keep.refl _) (Rn.s rfl Yv.mv (Rn.s rfl Yv.mv (Rn.s rfl Yv.mv (Rn.s rfl Yv.mv (Rn.s rfl (Yv.bd (cs := Ft.cs ⟨R.e, file, R.no, R.col⟩)) (Rn.s rfl Yv.as (Rn.nil))))))) (WO.act (hc := rfl) (he := Ef.stores hst 1 (fun wb1 hsb1 => WO.done ?_)))))
    exact Wp.ret (Fin.ret (resTA rfl rfl rfl (hsb1.cells 0)) ⟨_, _, rfl, ⟨none, 0, rfl, rfl⟩, (hsb1.sub (List.nil_sublist _)).nilrow _ _⟩)
  have h : R.e = 0 := by simpa using h
  have e : parseS file s = goS file R.ls [nd0 file] [ob0] false 0 := by rw [parseS, ← hR, if_neg (by simp [h])]
  rw [e]
  obtain ⟨G, hG⟩ : ∃ G, G = goS file R.ls [nd0 file] [ob0] false 0 := ⟨_, rfl⟩
  rw [← hG]
  refine Wp.skip (Wp.seq (Wp.regionL (l := [0, 1, 2, 3, 4, 5, 6, 7, 8]) (WO.rd (is := [0, 1, 2]) (js := [3, 4, 5, 6, 7, 8]) (Keep.refl _) (Rn.s rfl Yv.mv (Rn.s rfl Yv.mv (Rn.s rfl (Yv.bd (cs := Nd.cs (nd0 file))) (Rn.nil)))) (WO.act (hc := rfl) (he := Ef.bsl (T := 62) NdE [nd0 file] hst (fun bb1 wb1 kb1 hsb1 => WO.rd (is := [4]) (js := [5, 6, 7, 8]) ((Keep.refl _).trans kb1) (Rn.s rfl (Yv.bd (cs := RbE.cells rb0)) (Rn.nil)) (WO.act (hc := rfl) (he := Ef.bsl (T := 138) RbE [rb0] hsb1 (fun bb2 wb2 kb2 hsb2 => WO.rd (is := [6]) (js := [7, 8]) (((Keep.refl _).trans kb1).trans kb2) (Rn.s rfl (Yv.bd (cs := qcs file (some ⟨bb1, 0, none⟩) 1 1 (some ⟨bb2, 0, none⟩) 1 1 false)) (Rn.nil)) (WO.act (hc := rfl) (he := Ef.boxL (qcs file (some ⟨bb1, 0, none⟩) 1 1 (some ⟨bb2, 0, none⟩) 1 1 false) hsb2 (fun bb3 wb3 kb3 hsb3 => WO.rd (is := [8]) (js := []) ((((Keep.refl _).trans kb1).trans kb2).trans kb3) (Rn.s rfl Yv.as (Rn.nil)) (WO.done ?_)))))))))))))
  have hst : St w [] wb3 (Ch.row LnE 129 AL cL R.ls :: Ch.cells ba1 27 ft0.cs :: ChQ bb3 file (some ⟨bb1, 0, none⟩) 1 [nd0 file] (some ⟨bb2, 0, none⟩) 1 [rb0] false) := (hsb3.nilrow StE 9).pick [4, 5, 1, 3, 2, 0]
  clear hs1 hsa1 hsb1 hsb2 hsb3
  refine Wp.seq (Wp.seq (Wp.reads (is := [0]) (Keep.refl _) (Rn.s rfl Yv.as (Rn.nil)) ?_))
  refine Wp.block ?_
  refine Wp.loop (α := Nat) (fun i ρ ds w' => ds = [] ∧ i ≤ R.ls.length ∧ (∃ A c nodes B d x r last st, goS file (R.ls.drop i) nodes st last x.indent = G ∧ nodes.length = i + 1 ∧ (x :: r).length ≤ i + 1 ∧ Rl (x :: r) st ∧ Bot (x :: r) ∧ (∀ y ∈ x :: r, y.keys.length ≤ i) ∧
      (last = true → (nth nodes ((nodes.length : Int) - 1)).depth = ((x :: r).length : Int)) ∧
      St w [] w' (Ch.row LnE 129 AL cL R.ls :: Ch.cells ba1 27 ft0.cs :: ChQ bb3 file A c nodes B d (x :: r) last)) ∧
    Sub [(0, S file), (5, PB ba1), (6, .slice AL R.ls.length cL), (10, PB bb3), (11, .int .i64 i)] ρ) (fun i => R.ls.length - i) 0
    ⟨rfl, Nat.zero_le _, ⟨_, _, _, _, _, rb0, [], _, [ob0], hG.symm, rfl, by simp, ⟨rfl, rfl, rfl, rfl, fun key => by simp [alook], trivial⟩, rfl, by simp, (fun h => by cases h), hst⟩, rfl, rfl, rfl, rfl, rfl, trivial⟩ ?_
  clear hst
  rintro i ρ ds w' ⟨rfl, hi, ⟨A, c, nodes, B, d, x, r, last, st, hgo, hnl, hql, hrl, hbot, hkb, hdep, hst⟩, hs⟩
  refine Wp.forget _ ?_ hs
  clear hs ρ
  refine Wp.seq (Wp.seq (Wp.reads (is := [0, 1, 2, 3]) (Keep.refl _) (Rn.s rfl Yv.mv (Rn.s rfl Yv.mv (Rn.s rfl (Yv.len_v (e := 129) (m := 3)) (Rn.s rfl (Yv.cmp _ rfl) (Rn.nil))))) ?_))
  refine Wp.cond rfl (fun h1 => ?_) (fun h1 => ?_)
  · have h1 := of_decide_eq_true h1
    have hil : i < R.ls.length := by omega
    have hget : R.ls[i]? = some R.ls[i] := List.getElem?_eq_getElem hil
    have hnth : nth R.ls (i : Int) = R.ls[i] := nth_of hget
    rw [List.drop_eq_getElem_cons hil, ← hnth, goS] at hgo
    have hmem : nth R.ls (i : Int) ∈ R.ls := by rw [hnth]; exact List.getElem_mem hil
    obtain ⟨lt, li0, li1⟩ := hlo _ hmem
    have li := hli _ hmem
    have hrL := hst.rd 0
    obtain ⟨l, hl⟩ : ∃ l, l = nth R.ls (i : Int) := ⟨_, rfl⟩
    rw [← hl] at hgo lt li0 li1 li
    have hsw := hst.perm (List.perm_append_comm (l₁ := [_, _]) (l₂ := ChQ bb3 file A c nodes B d (x :: r) last))
    have hlc := rline_calls bb3 file A c nodes B d x r last l st i w' (St.enter (A := ChQ bb3 file A c nodes B d (x :: r) last) hsw) (by omega) (by omega) (by omega) hkb (by omega) hrl hbot hdep li li1 lt
    have hlc : Calls Tryz.prog 69 #[PB bb3, .agg (Ln.cs (nth R.ls (i : Int))).toArray] w' (LinePost bb3 file nodes (x :: r) st last x.indent l i ((ChQ bb3 file A c nodes B d (x :: r) last).flatMap (·.bs)) w') := by rw [← hl]; exact hlc
    refine Wp.skip (Wp.seq (Wp.block ?_))
    refine Wp.seq (Wp.regionL (l := [0, 1, 2, 3, 4, 5, 6, 7, 8, 9, 10]) (WO.rd (is := [0, 1, 2, 3, 4]) (js := [5, 6, 7, 8, 9, 10]) (Keep.refl _) (Rn.s rfl Yv.mv (Rn.s rfl Yv.mv (Rn.s rfl Yv.mv (Rn.s rfl (Yv.ia (e := 129) hrL (by omega) (by omega)) (Rn.s rfl (Yv.ldel hrL rfl rfl (by omega) (by omega)) (Rn.nil)))))) (WO.act (hc := rfl) (he := Ef.callv Tryz.func69 (Calls.mono hlc ?_)))))
    intro e3 w3 hp
    unfold LinePost at hp
    obtain ⟨o, col, er, hRd⟩ : ∃ o col er, readC l.text = (o, col, er) := ⟨_, _, _, rfl⟩
    rw [hRd] at hgo hp
    simp only at hgo hp
    by_cases h2 : er = 0
    · subst h2
      simp only [ne_eq, not_true, if_false] at hgo hp
      obtain ⟨E1, N2, S2, hE⟩ : ∃ E1 N2 S2, enterS nodes st last x.indent l o = (E1, N2, S2) := ⟨_, _, _, rfl⟩
      rw [hE] at hgo hp
      simp only at hgo hp
      by_cases h3 : E1 = 0
      · subst h3
        simp only [ne_eq, not_true, if_false] at hgo hp
        obtain ⟨rfl, A', c', B', d', x', q', p1, p2, p3, p4, p5⟩ := hp
        refine WO.rd (is := [6, 7, 8, 9, 10]) (js := []) (Keep.refl _) (Rn.s rfl Yv.mv (Rn.s rfl Yv.ex (Rn.s rfl Yv.ex (Rn.s rfl Yv.as (Rn.s rfl Yv.as (Rn.nil)))))) (WO.done ?_)
        have hst := (hsw.call (A := ChQ bb3 file A c nodes B d (x :: r) last) p5).perm (List.perm_append_comm (l₂ := [_, _]))
        have hst : St w [] w3 (Ch.row LnE 129 AL cL R.ls :: Ch.cells ba1 27 ft0.cs :: ChQ bb3 file A' c' (N2 ++ [nodeS file S2.length l o]) B' d' (x' :: q') (!o.has)) := hst
        refine Wp.seq (Wp.reads (is := [0, 1]) (Keep.refl _) (Rn.s rfl Yv.mv (Rn.s rfl (Yv.cmp _ rfl) (Rn.nil))) ?_)
        refine Wp.cond_f rfl (Wp.skip ?_)
        refine Wp.reads (is := [0, 1, 2]) (Keep.refl _) (Rn.s rfl Yv.mv (Rn.s rfl (Yv.add (by unfold inI; omega)) (Rn.s rfl Yv.as (Rn.nil)))) ?_
        have hen2 := enterS_len hE
        have hrlen := hrl.len
        have hplen := p1.len
        refine ⟨i + 1, ⟨rfl, by omega, ⟨A', c', _, B', d', x', q', _, S2, by rw [p2]; exact hgo, by simp; omega, by omega, p1, p3, p4, ?_, hst⟩, rfl, rfl, rfl, rfl, rfl, trivial⟩, by omega⟩
        intro _
        have e5 : nth (N2 ++ [nodeS file S2.length l o]) (((N2 ++ [nodeS file S2.length l o]).length : Int) - 1) = nodeS file S2.length l o := by
          have : (((N2 ++ [nodeS file S2.length l o]).length : Int) - 1) = (N2.length : Int) := by simp
          rw [this]
          exact nth_of (by simp)
        rw [e5, hplen]
        rfl
      · rw [if_pos h3] at hgo hp
        obtain ⟨rfl, p1⟩ := hp
        refine WO.rd (is := [6, 7, 8, 9, 10]) (js := []) (Keep.refl _) (Rn.s rfl Yv.mv (Rn.s rfl Yv.ex (Rn.s rfl Yv.ex (Rn.s rfl Yv.as (Rn.s rfl Yv.as (Rn.nil)))))) (WO.done ?_)
        have hst : St w [] w3 [Ch.row LnE 129 AL cL R.ls, Ch.cells ba1 27 ft0.cs] := hsw.call (A := ChQ bb3 file A c nodes B d (x :: r) last) p1
        have hrL := hst.rd 0
        refine Wp.seq (Wp.reads (is := [0, 1]) (Keep.refl _) (Rn.s rfl Yv.mv (Rn.s rfl (Yv.cmp _ rfl) (Rn.nil))) ?_)
        refine Wp.cond rfl (fun h4 => ?_) (fun h4 => (h3 (by simpa using h4)).elim)
        refine Wp.seq (Wp.draws [10] mixed (WD.rd (is := [0, 1, 2, 3, 4, 5, 6, 7, 8, 9]) (fun _ _ _ _ _ h => h) (Keep.drew _) (Rn.s rfl Yv.mv (Rn.s rfl Yv.mv (Rn.s rfl Yv.mv (Rn.s rfl Yv.mv (Rn.s rfl (Yv.ia (e := 129) hrL (by omega) (by omega)) (Rn.s rfl (Yv.fa (off := 0)) (Rn.s rfl (Yv.ld (hrL.ld 0 (by omega) (by omega))) (Rn.s rfl Yv.mv (Rn.s rfl (Yv.bd (cs := Ft.cs ⟨E1, file, (nth R.ls (i : Int)).no, l.indent + 1⟩)) (Rn.s rfl Yv.as (Rn.nil))))))))))) (WD.act 10 (hc := rfl) (he := Ef.stores (hst.quiet (Keep.drew _)) 1 (fun wz1 hsz1 => ⟨fun hn => (hn (by decide)).elim, WD.done ?_⟩)))))
        rw [← hgo, hl]
        rw [hl] at hsz1
        exact Wp.ret (Fin.ret (resTA rfl rfl rfl (hsz1.cells 0)) ⟨_, _, rfl, ⟨none, 0, rfl, rfl⟩, (hsz1.sub (List.nil_sublist _)).nilrow _ _⟩)
    · rw [if_pos h2] at hgo hp
      obtain ⟨rfl, p1⟩ := hp
      refine WO.rd (is := [6, 7, 8, 9, 10]) (js := []) (Keep.refl _) (Rn.s rfl Yv.mv (Rn.s rfl Yv.ex (Rn.s rfl Yv.ex (Rn.s rfl Yv.as (Rn.s rfl Yv.as (Rn.nil)))))) (WO.done ?_)
      have hst : St w [] w3 [Ch.row LnE 129 AL cL R.ls, Ch.cells ba1 27 ft0.cs] := hsw.call (A := ChQ bb3 file A c nodes B d (x :: r) last) p1
      have hrL := hst.rd 0
      refine Wp.seq (Wp.reads (is := [0, 1]) (Keep.refl _) (Rn.s rfl Yv.mv (Rn.s rfl (Yv.cmp _ rfl) (Rn.nil))) ?_)
      refine Wp.cond rfl (fun h4 => ?_) (fun h4 => (h2 (by simpa using h4)).elim)
      refine Wp.seq (Wp.draws [10] mixed (WD.rd (is := [0, 1, 2, 3, 4, 5, 6, 7, 8, 9]) (fun _ _ _ _ _ h => h) (Keep.drew _) (Rn.s rfl Yv.mv (Rn.s rfl Yv.mv (Rn.s rfl Yv.mv (Rn.s rfl Yv.mv (Rn.s rfl (Yv.ia (e := 129) hrL (by omega) (by omega)) (Rn.s rfl (Yv.fa (off := 0)) (Rn.s rfl (Yv.ld (hrL.ld 0 (by omega) (by omega))) (Rn.s rfl Yv.mv (Rn.s rfl (Yv.bd (cs := Ft.cs ⟨er, file, (nth R.ls (i : Int)).no, l.indent + col⟩)) (Rn.s rfl Yv.as (Rn.nil))))))))))) (WD.act 10 (hc := rfl) (he := Ef.stores (hst.quiet (Keep.drew _)) 1 (fun wz1 hsz1 => ⟨fun hn => (hn (by decide)).elim, WD.done ?_⟩)))))
      rw [← hgo, hl]
      rw [hl] at hsz1
      exact Wp.ret (Fin.ret (resTA rfl rfl rfl (hsz1.cells 0)) ⟨_, _, rfl, ⟨none, 0, rfl, rfl⟩, (hsz1.sub (List.nil_sublist _)).nilrow _ _⟩)
  · have h1 := of_decide_eq_false h1
    rw [List.drop_eq_nil_of_le (by omega), goS] at hgo
    refine Wp.exit ?_
    have c10 := hst.cells 2
    refine Wp.seq (Wp.regionL (l := [0, 1, 2, 3, 4, 5, 6]) (WO.rd (is := [0, 1, 2, 3, 4, 5]) (js := [6]) (Keep.refl _) (Rn.s rfl Yv.mv (Rn.s rfl Yv.nc (Rn.s rfl (Yv.fa (off := 1)) (Rn.s rfl (Yv.ld (c10.at_ 1)) (Rn.s rfl (Yv.bd (cs := ft0.cs)) (Rn.s rfl Yv.as (Rn.nil))))))) (WO.act (hc := rfl) (he := Ef.stores hst 1 (fun wz1 hsz1 => WO.done ?_)))))
    rw [← hgo]
    have hst := hsz1.pickT (P := [_, _, _, _, _]) (T := krows (x :: r)) [3]
    exact Wp.ret (Fin.ret (resTA rfl rfl rfl (hsz1.cells 0)) ⟨_, _, rfl, ⟨A, c, rfl, rfl⟩, hst.sub (List.sublist_append_left _ _)⟩)
/-! ### TreeParses -/
theorem goS_len (file : Bs) : ∀ (ls : List Ln) (nodes : List Nd) (st : List OB) (last : Bool) (ind : Int), (goS file ls nodes st last ind).1.length ≤ nodes.length + ls.length
  | [], nodes, st, last, ind => by simp [goS]
  | l :: ls, nodes, st, last, ind => by
    rw [goS]
    split
    · simp
    split
    · simp
    · rename_i h2
      obtain ⟨E1, N2, S2, hE⟩ : ∃ E1 N2 S2, enterS nodes st last ind l (readC l.text).1 = (E1, N2, S2) := ⟨_, _, _, rfl⟩
      rw [hE] at h2 ⊢
      simp only [ne_eq, Decidable.not_not] at h2
      subst h2
      have h3 := (enterS_len hE).1
      have := goS_len file ls (N2 ++ [nodeS file S2.length l (readC l.text).1]) S2 (!(readC l.text).1.has) l.indent
      simp only [List.length_append, List.length_cons, List.length_nil] at this ⊢
      omega
theorem parseS_len (file s : Bs) : (parseS file s).1.length ≤ 1599289640390 := by
  unfold parseS
  split
  · simp
  · have := goS_len file (linesS s).ls [nd0 file] [ob0] false 0
    have h2 := (linesS_ok s).2
    simp only [List.length_cons, List.length_nil] at this
    omega
end Go.Proofs.YtgjhbapbomdpbaaGreatDoor.C
