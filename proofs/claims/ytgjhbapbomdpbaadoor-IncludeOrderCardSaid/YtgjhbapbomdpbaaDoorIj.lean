/- What the laws over include look up: a file's text, the names that a text includes, a name that is longer than all. -/
import Derived.Test.YtgjhbapbomdpbaaDoorIg
import Derived.Laws.MakeOwn
import Derived.Laws.OwnMore
set_option linter.unusedVariables false
set_option linter.unusedSimpArgs false
set_option maxRecDepth 10000
namespace Go.Proofs.YtgjhbapbomdpbaaDoor.Sh
open Go.RowKit
def mkbB (P : Program) (t T : TypeId) : Bool := slB P t T 1 && (match P.info? T with
  | some i => Nat.beq i.size 1 && Nat.beq i.bytes 1 && (match i.zero with | some (.int .u8 0) => true | _ => false)
  | none => false)
section
variable {P : Program} {w w0 : World} {r : Option Nat} {N : Nat} {ρ : Env} {ds : List Deferred} {M : List Nat} {D : List Chunk} {K : Env → World → Prop} {Q : Post} {dst : Option Nat}
theorem repl_flat : ∀ n : Nat, (List.replicate n (0 : UInt8)).flatMap ByE.cells = List.replicate n (.int .u8 0)
  | 0 => rfl
  | n + 1 => by rw [List.replicate_succ, List.replicate_succ, List.flatMap_cons, repl_flat n]; rfl
/-- new bytes, all 0 -/
theorem Ef.mkbytes {t T : TypeId} {x y : Operand} {n : Nat} (h : St w0 M w D) (k : ∀ b w', Keep w w' → St w0 M w' (Ch.row ByE T (some ⟨b, 0, none⟩) n (List.replicate n (0 : UInt8)) :: D) → K (putE ρ dst (.slice (some ⟨b, 0, none⟩) n n)) w')
    (hn : n ≤ 281474976710656) (ht : mkbB P t T = true := by kernel_rfl) : Ef r P N dst (.makeSlice t x y) [.int .i64 (n : Int), .int .i64 (n : Int)] ρ ds w K Q := by
  unfold mkbB at ht
  rw [Bool.and_eq_true] at ht
  obtain ⟨h1, h2⟩ := ht
  cases hi : P.info? T with
  | none => rw [hi] at h2; cases h2
  | some i =>
    rw [hi] at h2
    simp only [Bool.and_eq_true] at h2
    obtain ⟨⟨h3, h4⟩, h5⟩ := h2
    have h3 := Nat.eq_of_beq_eq_true h3
    have h4 := Nat.eq_of_beq_eq_true h4
    have hz : i.zero = some (.int .u8 0) := by
      revert h5
      split
      · intro _; assumption
      · intro q; cases q
    refine Ef.of_run (v := .slice (some ⟨w.heap.size, 0, none⟩) n n) (w' := w.alloc (.cells (madeCells (Value.int .u8 0).cells (n * i.size)) T)) (by simp) (fun o e hop hv => ?_) (k _ _ (Keep.alloc _ _) (h.new (Keep.alloc _ _) ?_ ?_))
    · have he : e x = .int .i64 (n : Int) ∧ e y = .int .i64 (n : Int) := by simpa [Op.operands] using hv
      have := run_make (P := P) w t T i (.int .u8 0) (slB_of h1).1 hi hz .i64 .i64 (n : Int) (n : Int) (by omega) (by omega) (by rw [h4]; omega) (by omega)
      rw [Int.toNat_natCast] at this
      simp [execOp, hop, he.1, he.2, this]
    · show (w.alloc _).ownsRow 0 T ByE.n (.slice (some ⟨w.heap.size, 0, none⟩) (List.replicate n (0 : UInt8)).length n) (List.replicate n (0 : UInt8)).length ((List.replicate n (0 : UInt8)).flatMap ByE.cells)
      have hc : (madeCells (Value.int .u8 0).cells (n * i.size)).toList = (List.replicate n (0 : UInt8)).flatMap ByE.cells := by
        rw [h3, Nat.mul_one]
        have e : (Value.int .u8 0).cells = #[.int .u8 0] := rfl
        rw [e, toList_madeCells_one, repl_flat]
      have := flat_len_own (E := ByE) (xs := List.replicate n (0 : UInt8)) (w := w.alloc (.cells (madeCells (Value.int .u8 0).cells (n * i.size)) T)) (b := w.heap.size) (T := T) hc (by rw [List.length_replicate]; unfold maxLen; omega) (heap_alloc_new w _)
      rw [List.length_replicate] at this ⊢
      exact this
    · intro b hb
      simp [Ch.row] at hb
      subst hb
      simp
end
theorem Yv.max3 {P : Program} {w : World} {ts : Array TypeId} {x y z : Operand} {a b c : Int} (m : Int) (h : (if c > (if b > a then b else a) then c else (if b > a then b else a)) = m) : Yv P w (.call { callee := .builtin .max, args := #[x, y, z], argTypes := ts }) [.int .i64 a, .int .i64 b, .int .i64 c] (.int .i64 m) :=
  ⟨by simp, fun o e hop hv w' _ => by
    subst h
    have hx : e x = .int .i64 a ∧ e y = .int .i64 b ∧ e z = .int .i64 c := by simpa [Op.operands, Call.operands] using hv
    simp only [execOp, hop, resolve, invoke, builtin, Sem.run_bind, Sem.run_pure, Result.andThen_ok, List.map_toArray, List.map_cons, List.map_nil, hx.1, hx.2.1, hx.2.2]
    simp [Builtin.max_, Builtin.max2]⟩
end Go.Proofs.YtgjhbapbomdpbaaDoor.Sh
namespace Go.Proofs.YtgjhbapbomdpbaaDoor.C
open Go.RowKit Go.Proofs.YtgjhbapbomdpbaaDoor.Sh
/-! ### a file's text -/
def txtG : Option Fl → Bs
  | some f => f.text
  | none => []
def txtS (files : List Fl) (name : Bs) : Bs := txtG (files.find? (fun f => f.name == name))
theorem text_cv (A : Option Addr) (c : Nat) (files : List Fl) (name : Bs) (w0 : World) (hr : Rd FlE w0 A files) (hl : files.length ≤ 4398046511100) : Cv Tryd.prog 20 [.slice A files.length c, S name] (S (txtS files name)) w0 := by
  intro w hk
  have hr := hr.keep hk
  refine calls_of_Wp (vs := [_, _]) Tryd.func20 ?_
  obtain ⟨G, hG⟩ : ∃ G, G = files.find? (fun f => f.name == name) := ⟨_, rfl⟩
  have e : txtS files name = txtG G := by unfold txtS; rw [← hG]
  rw [e]
  refine Wp.seq (Wp.reads (is := [0]) (Keep.refl _) (Rn.s rfl Yv.as (Rn.nil)) ?_)
  refine Wp.seq (Wp.seq (Wp.reads (is := [0]) (Keep.refl _) (Rn.s rfl Yv.as (Rn.nil)) ?_))
  refine Wp.block ?_
  refine Wp.loop (α := Nat) (fun i ρ ds w' => ds = [] ∧ Keep w w' ∧ i ≤ files.length ∧ (files.drop i).find? (fun f => f.name == name) = G ∧ Sub [(0, .slice A files.length c), (1, S name), (5, .int .i64 (i : Int))] ρ) (fun i => files.length - i) 0
    ⟨rfl, Keep.refl _, Nat.zero_le _, hG.symm, rfl, rfl, rfl, trivial⟩ ?_
  rintro i ρ ds w' ⟨rfl, hk', hi, hfd, hs⟩
  refine Wp.forget _ ?_ hs
  have hr' := hr.keep hk'
  refine Wp.seq (Wp.seq (Wp.reads (is := [0, 1, 2, 3]) (Keep.refl _) (Rn.s rfl Yv.mv (Rn.s rfl Yv.mv (Rn.s rfl (Yv.len_v (e := 33) (m := 2)) (Rn.s rfl (Yv.cmp _ rfl) (Rn.nil))))) ?_))
  refine Wp.cond rfl (fun h2 => ?_) (fun h2 => ?_)
  · have h2 := of_decide_eq_true h2
    have hil : i < files.length := by omega
    have hget : files[i]? = some (nth files (i : Int)) := by rw [nth_of (List.getElem?_eq_getElem hil)]; exact List.getElem?_eq_getElem hil
    obtain ⟨f1, f2⟩ := find_drop hget hfd
    refine Wp.skip (Wp.seq (Wp.block ?_))
    refine Wp.seq (Wp.reads (is := [0, 1, 2, 3, 4, 5, 6]) (Keep.refl _) (Rn.s rfl Yv.mv (Rn.s rfl Yv.mv (Rn.s rfl (Yv.ia (e := 33) hr' (by omega) (by omega)) (Rn.s rfl (Yv.fa (off := 0)) (Rn.s rfl (Yv.ld (hr'.ld 0 (by omega) (by omega))) (Rn.s rfl Yv.mv (Rn.s rfl (Yv.scm _ rfl) (Rn.nil)))))))) ?_)
    refine Wp.cond rfl (fun h3 => ?_) (fun h3 => ?_)
    · have h3 : (nth files (i : Int)).name = name := by simpa using h3
      refine Wp.seq (Wp.reads (is := [0, 1, 2, 3, 4, 5]) (Keep.refl _) (Rn.s rfl Yv.mv (Rn.s rfl Yv.mv (Rn.s rfl (Yv.ia (e := 33) hr' (by omega) (by omega)) (Rn.s rfl (Yv.fa (off := 1)) (Rn.s rfl (Yv.ld (hr'.ld 1 (by omega) (by omega))) (Rn.s rfl Yv.as (Rn.nil))))))) ?_)
      refine Wp.ret (Fin.ret (Res.one rfl rfl) ⟨?_, hk'⟩)
      rw [f1 (by simp [h3])]
      rfl
    · have h3 : ¬ (nth files (i : Int)).name = name := by simpa using h3
      refine Wp.skip (Wp.reads (is := [0, 1, 2]) (Keep.refl _) (Rn.s rfl Yv.mv (Rn.s rfl (Yv.add (by unfold inI; omega)) (Rn.s rfl Yv.as (Rn.nil)))) ?_)
      exact ⟨i + 1, ⟨rfl, hk', by omega, f2 (by simp [h3]), rfl, rfl, rfl, trivial⟩, by omega⟩
  · have h2 := of_decide_eq_false h2
    refine Wp.exit ?_
    refine Wp.seq (Wp.reads (is := [0]) (Keep.refl _) (Rn.s rfl Yv.as (Rn.nil)) ?_)
    rw [List.drop_eq_nil_of_le (by omega), List.find?_nil] at hfd
    refine Wp.ret (Fin.ret (Res.one rfl rfl) ⟨?_, hk'⟩)
    rw [← hfd]
    rfl
theorem txt_file {files : List Fl} (hn : (files.map Fl.name).Nodup) (name : Bs) : txtS files name = fileS (setS files) name := by
  unfold txtS fileS
  cases h : files.find? (fun f => f.name == name) with
  | none =>
    rw [List.find?_eq_none] at h
    rw [setS_none]
    · rfl
    · intro hm
      obtain ⟨f, hf, e⟩ := List.mem_map.1 hm
      exact h f hf (by simp [e])
  | some f =>
    have hf := List.mem_of_find?_eq_some h
    have e : f.name = name := by have := List.find?_some h; simpa using this
    rw [← e, setS_in hn hf]
    rfl
/-! ### the names that a text includes -/
theorem getS_bd (t : List Nd) (key : Bs) : getS t [key] < 0 ∨ (isS t = true ∧ 0 ≤ getS t [key] ∧ getS t [key] < t.length) := by
  cases h : isS t with
  | false =>
    left
    unfold getS
    rw [h]
    simp
  | true =>
    have h0 := (isS_depth h).1
    have hb := findS_bd h0 key
    rw [getS_find h]
    by_cases q : findS t 0 key < 0
    · exact .inl q
    · exact .inr ⟨rfl, by omega, hb.2⟩
theorem names_cv (s name : Bs) (w0 : World) (hg : Gl w0) : Cv Tryd.prog 19 [S s, S name] (.bool (nmsS s name)) w0 := by
  intro w hk
  have hg := hg.keep hk
  refine calls_of_Wp (vs := [_, _]) Tryd.func19 ?_
  refine Wp.seq (Wp.reads (is := [0]) (Keep.refl _) (Rn.s rfl Yv.as (Rn.nil)) ?_)
  have hpc := parse_cx [102] s w hg
  obtain ⟨T, F, hP⟩ : ∃ T F, parseS [102] s = (T, F) := ⟨_, _, rfl⟩
  have hTl := parseS_len [102] s
  unfold nmsS
  rw [hP] at hpc hTl ⊢
  simp only at hpc hTl ⊢
  refine Wp.seq (Wp.regionL (l := [0, 1, 2, 3, 4, 5, 6, 7]) (WO.rd (is := [0]) (js := [1, 2, 3, 4, 5, 6, 7]) (Keep.refl _) (Rn.s rfl Yv.mv (Rn.nil)) (WO.act (hc := rfl) (he := Ef.cx hpc (St.init w) (FnOk.of Tryd.func21) ?_))))
  rintro v D w1 ⟨PA, pc, rfl, rfl⟩ hs1
  refine WO.rd (is := [2, 3, 4]) (js := [5, 6, 7]) (Keep.refl _) (Rn.s rfl Yv.mv (Rn.s rfl Yv.ex (Rn.s rfl Yv.ex (Rn.nil)))) (WO.act (he := Ef.allocL (vs := ft0.cs) hs1 (fun b6 w2 k2 hs2 => WO.rd (is := [6]) (js := [7]) (Keep.refl _) (Rn.s rfl Yv.as (Rn.nil)) (WO.act (he := Ef.stores hs2 0 (fun w3 hs3 => WO.done ?_))))))
  have hst : St w [] w3 [Ch.row NdE 48 PA pc T] := hs3.pick [1]
  clear hs1 hs2 hs3
  have hr := hst.rd 0
  refine Wp.seq (Wp.regionL (l := [0, 1, 2, 3]) (WO.rd (is := [0]) (js := [1, 2, 3]) (Keep.refl _) (Rn.s rfl Yv.mv (Rn.nil)) (WO.act (hc := rfl) (he := Ef.bsl (T := 9) StE [incl] hst (fun bx1 wx1 kx1 hsx1 => WO.cv rfl (get_cv PA pc T _ _ [incl] wx1 (hg.keep (hst.keep.trans kx1)) (hr.keep kx1) (hsx1.rd 0) (by decide)) (Keep.refl _) (FnOk.of Tryd.func22) (fun wx2 kx2 => WO.rd (is := [3]) (js := []) (((Keep.refl _).trans kx1).trans kx2) (Rn.s rfl Yv.as (Rn.nil)) (WO.done ?_)))))))
  have hst := hst.quiet (kx1.trans kx2)
  clear hr
  have hr := hst.rd 0
  obtain ⟨K, hK⟩ : ∃ K, K = getS T [incl] := ⟨_, rfl⟩
  have hKb := getS_bd T incl
  rw [← hK] at hKb ⊢
  refine Wp.seq (Wp.seq (Wp.reads (is := [0, 1]) (Keep.refl _) (Rn.s rfl Yv.mv (Rn.s rfl (Yv.cmp _ rfl) (Rn.nil))) ?_))
  refine Wp.cond rfl (fun h => ?_) (fun h => ?_)
  · have h := of_decide_eq_true h
    refine Wp.seq (Wp.reads (is := [0]) (Keep.refl _) (Rn.s rfl Yv.as (Rn.nil)) ?_)
    refine Wp.ret (Fin.ret (Res.one rfl rfl) ⟨?_, hst.keep⟩)
    rw [if_pos h]
  have h := of_decide_eq_false h
  rw [if_neg h]
  obtain ⟨hTis, hK0, hK1⟩ := hKb.resolve_left h
  obtain ⟨hT0, hT1, hTd⟩ := isS_depth hTis
  obtain ⟨k, rfl⟩ : ∃ k : Nat, K = k := ⟨K.toNat, by omega⟩
  have hkl : k < T.length := by omega
  have hkd := hTd k hkl
  rw [Int.toNat_natCast]
  refine Wp.skip (Wp.seq (Wp.seq (Wp.reads (is := [0, 1, 2, 3, 4, 5, 6, 7, 8, 9, 10, 11, 12, 13, 14]) (Keep.refl _) (Rn.s rfl Yv.mv (Rn.s rfl Yv.mv (Rn.s rfl (Yv.ia (e := 48) hr (by omega) (by omega)) (Rn.s rfl (Yv.fa (off := 0)) (Rn.s rfl (Yv.ld (hr.ld 0 (by omega) (by omega))) (Rn.s rfl (Yv.cmp _ rfl) (Rn.s rfl Yv.mv (Rn.and (is := [7, 8, 9, 10, 11, 12, 13, 14]) (js := []) (t := 25) (d := 33) (hg := rfl) (ht := fun h6 => have h6 := eq_of_beq h6; Rn.s rfl Yv.mv (Rn.s rfl Yv.mv (Rn.s rfl (Yv.ia (e := 48) hr (j := (k : Int)) (by omega) (by omega)) (Rn.s rfl (Yv.fa (off := 3)) (Rn.s rfl (Yv.ld (hr.ld (i := (k : Int)) 3 (by omega) (by omega))) (Rn.s rfl Yv.mv (Rn.s rfl (Yv.scm _ rfl) (Rn.s rfl Yv.pick_t ((Rn.e 8 rfl rfl)))))))))) (hf := fun _ => Rn.no rfl (Rn.no rfl (Rn.no rfl (Rn.no rfl (Rn.no rfl (Rn.no rfl (Rn.no rfl (Rn.s rfl Yv.pick_f (Rn.e 8 rfl rfl))))))))) (k := Rn.nil))))))))) ?_)))
  refine Wp.cond rfl (fun h2 => ?_) (fun h2 => ?_)
  · have h2 : (nth T (k : Int)).kind = 3 ∧ (nth T (k : Int)).text = name := by simpa using h2
    refine Wp.seq (Wp.reads (is := [0]) (Keep.refl _) (Rn.s rfl Yv.as (Rn.nil)) ?_)
    refine Wp.ret (Fin.ret (Res.one rfl rfl) ⟨?_, hst.keep⟩)
    rw [if_pos h2]
  have h2 : ¬ ((nth T (k : Int)).kind = 3 ∧ (nth T (k : Int)).text = name) := by
    intro q
    simp [q.1, q.2] at h2
  rw [if_neg h2]
  obtain ⟨G, hG⟩ : ∃ G, G = (partsS T k).any (fun i : Nat => decide ((nth T (i : Int)).text = name)) := ⟨_, rfl⟩
  rw [← hG]
  refine Wp.skip (Wp.seq (Wp.seq (Wp.reads (is := [0, 1, 2]) (Keep.refl _) (Rn.s rfl Yv.mv (Rn.s rfl (Yv.add (by unfold inI; omega)) (Rn.s rfl Yv.as (Rn.nil)))) ?_)))
  refine Wp.block ?_
  refine Wp.loop (α := Nat) (fun i ρ ds w' => ds = [] ∧ Keep wx2 w' ∧ i ≤ T.length ∧ (partsR (nth T (k : Int)).depth (T.drop i) i).any (fun i : Nat => decide ((nth T (i : Int)).text = name)) = G ∧ Sub [(1, S name), (5, .slice PA T.length pc), (7, .int .i64 (k : Int)), (8, .int .i64 (i : Int))] ρ) (fun i => T.length - i) (k + 1)
    ⟨rfl, Keep.refl _, by omega, by rw [hG]; rfl, rfl, rfl, rfl, by simp; rfl, trivial⟩ ?_
  rintro i ρ ds w' ⟨rfl, hk', hi, hfd, hs⟩
  refine Wp.forget _ ?_ hs
  have hr' := hr.keep hk'
  refine Wp.seq (Wp.seq (Wp.readsD (is := [0, 1, 2, 3, 4, 5, 6, 7, 8, 9, 10, 11, 12, 13, 14, 15, 16]) mixed (fun _ _ _ _ _ h => h) (Keep.refl _) (Rn.s rfl Yv.mv (Rn.s rfl Yv.mv (Rn.s rfl (Yv.len_v (e := 48) (m := 8)) (Rn.s rfl (Yv.cmp _ rfl) (Rn.s rfl Yv.mv (Rn.and (is := [5, 6, 7, 8, 9, 10, 11, 12, 13, 14, 15, 16]) (js := []) (t := 40) (d := 52) (hg := rfl) (ht := fun h4 => have h4 := of_decide_eq_true h4; Rn.s rfl Yv.mv (Rn.s rfl Yv.mv (Rn.s rfl (Yv.ia (e := 48) hr' (by omega) (by omega)) (Rn.s rfl (Yv.fa (off := 1)) (Rn.s rfl (Yv.ld (hr'.ld 1 (by omega) (by omega))) (Rn.s rfl Yv.mv (Rn.s rfl Yv.mv (Rn.s rfl (Yv.ia (e := 48) hr' (j := (k : Int)) (by omega) (by omega)) (Rn.s rfl (Yv.fa (off := 1)) (Rn.s rfl (Yv.ld (hr'.ld (i := (k : Int)) 1 (by omega) (by omega))) (Rn.s rfl (Yv.cmp _ rfl) (Rn.s rfl Yv.pick_t ((Rn.e 12 rfl rfl)))))))))))))) (hf := fun _ => Rn.no rfl (Rn.no rfl (Rn.no rfl (Rn.no rfl (Rn.no rfl (Rn.no rfl (Rn.no rfl (Rn.no rfl (Rn.no rfl (Rn.no rfl (Rn.no rfl (Rn.s rfl Yv.pick_f (Rn.e 12 rfl rfl))))))))))))) (k := Rn.nil))))))) ?_))
  refine Wp.cond rfl (fun h3 => ?_) (fun h3 => ?_)
  · simp only [Bool.and_eq_true, decide_eq_true_eq] at h3
    have hil : i < T.length := by omega
    rw [drop_cons hil, partsR, if_pos h3.2] at hfd
    refine Wp.skip (Wp.seq (Wp.block ?_))
    refine Wp.seq (Wp.readsD (is := [0, 1, 2, 3, 4, 5, 6, 7, 8, 9, 10, 11, 12, 13, 14, 15, 16, 17, 18, 19, 20]) mixed (fun _ _ _ _ _ h => h) (Keep.refl _) (Rn.s rfl Yv.mv (Rn.s rfl Yv.mv (Rn.s rfl (Yv.ia (e := 48) hr' (by omega) (by omega)) (Rn.s rfl (Yv.fa (off := 1)) (Rn.s rfl (Yv.ld (hr'.ld 1 (by omega) (by omega))) (Rn.s rfl Yv.mv (Rn.s rfl Yv.mv (Rn.s rfl (Yv.ia (e := 48) hr' (j := (k : Int)) (by omega) (by omega)) (Rn.s rfl (Yv.fa (off := 1)) (Rn.s rfl (Yv.ld (hr'.ld (i := (k : Int)) 1 (by omega) (by omega))) (Rn.s rfl (Yv.add (by unfold inI; omega)) (Rn.s rfl (Yv.cmp _ rfl) (Rn.s rfl Yv.mv (Rn.and (is := [13, 14, 15, 16, 17, 18, 19, 20]) (js := []) (t := 67) (d := 75) (hg := rfl) (ht := fun h12 => have h12 := eq_of_beq h12; Rn.s rfl Yv.mv (Rn.s rfl Yv.mv (Rn.s rfl (Yv.ia (e := 48) hr' (j := (i : Int)) (by omega) (by omega)) (Rn.s rfl (Yv.fa (off := 3)) (Rn.s rfl (Yv.ld (hr'.ld (i := (i : Int)) 3 (by omega) (by omega))) (Rn.s rfl Yv.mv (Rn.s rfl (Yv.scm _ rfl) (Rn.s rfl Yv.pick_t ((Rn.e 8 rfl rfl)))))))))) (hf := fun _ => Rn.no rfl (Rn.no rfl (Rn.no rfl (Rn.no rfl (Rn.no rfl (Rn.no rfl (Rn.no rfl (Rn.s rfl Yv.pick_f (Rn.e 8 rfl rfl))))))))) (k := Rn.nil))))))))))))))) ?_)
    refine Wp.cond rfl (fun h4 => ?_) (fun h4 => ?_)
    · have h4 : (nth T (i : Int)).depth = (nth T (k : Int)).depth + 1 ∧ (nth T (i : Int)).text = name := by simpa using h4
      refine Wp.seq (Wp.reads (is := [0]) (Keep.refl _) (Rn.s rfl Yv.as (Rn.nil)) ?_)
      refine Wp.ret (Fin.ret (Res.one rfl rfl) ⟨?_, hst.keep.trans (hk'.trans ((Keep.drew _).trans (Keep.drew _)))⟩)
      rw [if_pos h4.1, List.any_cons, decide_eq_true h4.2, Bool.true_or] at hfd
      rw [← hfd]
    · refine Wp.skip (Wp.reads (is := [0, 1, 2]) (Keep.refl _) (Rn.s rfl Yv.mv (Rn.s rfl (Yv.add (by unfold inI; omega)) (Rn.s rfl Yv.as (Rn.nil)))) ?_)
      refine ⟨i + 1, ⟨rfl, hk'.trans ((Keep.drew _).trans (Keep.drew _)), by omega, ?_, rfl, rfl, rfl, rfl, trivial⟩, by omega⟩
      by_cases q : (nth T (i : Int)).depth = (nth T (k : Int)).depth + 1
      · have q2 : ¬ (nth T (i : Int)).text = name := by
          intro q2
          simp [q, q2] at h4
        rw [if_pos q, List.any_cons, decide_eq_false q2, Bool.false_or] at hfd
        exact hfd
      · rw [if_neg q] at hfd
        exact hfd
  · refine Wp.exit ?_
    refine Wp.seq (Wp.reads (is := [0]) (Keep.refl _) (Rn.s rfl Yv.as (Rn.nil)) ?_)
    refine Wp.ret (Fin.ret (Res.one rfl rfl) ⟨?_, hst.keep.trans (hk'.trans (Keep.drew _))⟩)
    have e : partsR (nth T (k : Int)).depth (T.drop i) i = [] := by
      by_cases hil : i < T.length
      · rw [drop_cons hil, partsR, if_neg]
        simp only [Bool.and_eq_false_iff, decide_eq_false_iff_not] at h3
        omega
      · rw [List.drop_eq_nil_of_le (by omega), partsR]
    rw [e] at hfd
    rw [← hfd]
    rfl
/-! ### a name that is longer than all -/
theorem lone_step (files : List Fl) (root : Bs) {i : Nat} (hi : i < files.length) : loneN (files.take (i + 1)) root = max (max (loneN (files.take i) root) (nth files (i : Int)).name.length) (nth files (i : Int)).text.length := by
  unfold loneN
  rw [List.take_add_one, List.getElem?_eq_getElem hi, List.foldl_append, nth_of (List.getElem?_eq_getElem hi)]
  rfl
theorem lone_bd {m : Nat} : ∀ (files : List Fl) (n : Nat), n ≤ m → (∀ f ∈ files, f.name.length ≤ m ∧ f.text.length ≤ m) → files.foldl (fun n f => max (max n f.name.length) f.text.length) n ≤ m
  | [], n, h, _ => h
  | f :: fs, n, h, hf => by
    have := hf f (List.mem_cons_self ..)
    have h2 : max (max n f.name.length) f.text.length ≤ m := by omega
    exact lone_bd fs _ h2 (fun g hg => hf g (List.mem_cons_of_mem _ hg))
theorem lonely_cv (A : Option Addr) (c : Nat) (files : List Fl) (root : Bs) (w0 : World) (hr : Rd FlE w0 A files) (hl : files.length ≤ 4398046511100) (hb : ∀ f ∈ files, f.name.length ≤ 140737488351232 ∧ f.text.length ≤ 140737488351232) (hrb : root.length ≤ 140737488351232) :
    Cv Tryd.prog 16 [.slice A files.length c, S root] (S (loneS files root)) w0 := by
  intro w hk
  have hr := hr.keep hk
  refine calls_of_Wp (vs := [_, _]) Tryd.func16 ?_
  refine Wp.seq (Wp.reads (is := [0]) (Keep.refl _) (Rn.s rfl Yv.as (Rn.nil)) ?_)
  refine Wp.seq (Wp.reads (is := [0, 1, 2]) (Keep.refl _) (Rn.s rfl Yv.mv (Rn.s rfl Yv.len_s (Rn.s rfl Yv.as (Rn.nil)))) ?_)
  refine Wp.seq (Wp.seq (Wp.reads (is := [0]) (Keep.refl _) (Rn.s rfl Yv.as (Rn.nil)) ?_))
  refine Wp.block ?_
  refine Wp.loop (α := Nat) (fun i ρ ds w' => ds = [] ∧ Keep w w' ∧ i ≤ files.length ∧ Sub [(0, .slice A files.length c), (5, .int .i64 (loneN (files.take i) root : Nat)), (6, .int .i64 (i : Int))] ρ) (fun i => files.length - i) 0
    ⟨rfl, Keep.refl _, Nat.zero_le _, rfl, rfl, rfl, trivial⟩ ?_
  rintro i ρ ds w' ⟨rfl, hk', hi, hs⟩
  refine Wp.forget _ ?_ hs
  have hr' := hr.keep hk'
  refine Wp.seq (Wp.seq (Wp.reads (is := [0, 1, 2, 3]) (Keep.refl _) (Rn.s rfl Yv.mv (Rn.s rfl Yv.mv (Rn.s rfl (Yv.len_v (e := 33) (m := 2)) (Rn.s rfl (Yv.cmp _ rfl) (Rn.nil))))) ?_))
  refine Wp.cond rfl (fun h2 => ?_) (fun h2 => ?_)
  · have h2 := of_decide_eq_true h2
    have hil : i < files.length := by omega
    have hstep := lone_step files root hil
    refine Wp.skip (Wp.seq (Wp.block ?_))
    refine Wp.readsD (is := [0, 1, 2, 3, 4, 5, 6, 7, 8, 9, 10, 11, 12, 13, 14]) mixed (fun _ _ _ _ _ h => h) (Keep.refl _) (Rn.s rfl Yv.mv (Rn.s rfl Yv.mv (Rn.s rfl Yv.mv (Rn.s rfl (Yv.ia (e := 33) hr' (by omega) (by omega)) (Rn.s rfl (Yv.fa (off := 0)) (Rn.s rfl (Yv.ld (hr'.ld 0 (by omega) (by omega))) (Rn.s rfl Yv.len_s (Rn.s rfl Yv.mv (Rn.s rfl Yv.mv (Rn.s rfl (Yv.ia (e := 33) hr' (by omega) (by omega)) (Rn.s rfl (Yv.fa (off := 1)) (Rn.s rfl (Yv.ld (hr'.ld 1 (by omega) (by omega))) (Rn.s rfl Yv.len_s (Rn.s rfl (Yv.max3 (loneN (files.take (i + 1)) root : Nat) (by rw [hstep]; split <;> split <;> omega)) (Rn.s rfl Yv.as (Rn.nil)))))))))))))))) ?_
    refine Wp.reads (is := [0, 1, 2]) (Keep.refl _) (Rn.s rfl Yv.mv (Rn.s rfl (Yv.add (by unfold inI; omega)) (Rn.s rfl Yv.as (Rn.nil)))) ?_
    exact ⟨i + 1, ⟨rfl, hk'.trans (Keep.drew _), by omega, rfl, rfl, rfl, trivial⟩, by omega⟩
  have h2 := of_decide_eq_false h2
  rw [List.take_of_length_le (by omega)]
  refine Wp.exit ?_
  obtain ⟨n, hn⟩ : ∃ n, n = loneN files root := ⟨_, rfl⟩
  have hnb : n ≤ 140737488351232 := by rw [hn]; exact lone_bd files root.length hrb hb
  have e : loneS files root = List.replicate (n + 1) 120 := by unfold loneS; rw [hn]
  rw [e, ← hn]
  have e1 : ((n : Nat) : Int) + 1 = ((n + 1 : Nat) : Int) := rfl
  refine Wp.seq (Wp.regionL (l := [0, 1, 2, 3]) (WO.rd (is := [0, 1]) (js := [2, 3]) (Keep.refl _) (Rn.s rfl Yv.mv (Rn.s rfl (Yv.add (by unfold inI; omega)) (Rn.nil))) (WO.act (he := Ef.mkbytes (n := n + 1) (T := 5) ((St.init w).quiet hk') (fun b w2 k2 hs2 => WO.rd (is := [3]) (js := []) (Keep.refl _) (Rn.s rfl Yv.as (Rn.nil)) (WO.done ?_)) (by omega)))))
  refine Wp.seq (Wp.seq (Wp.reads (is := [0]) (Keep.refl _) (Rn.s rfl Yv.as (Rn.nil)) ?_))
  refine Wp.block ?_
  refine Wp.loop (α := Nat) (fun i ρ ds w' => ds = [] ∧ i ≤ n + 1 ∧ (∃ xs : List UInt8, xs.length = n + 1 ∧ (∀ j : Nat, j < i → xs[j]? = some 120) ∧ St w [] w' [Ch.row ByE 5 (some ⟨b, 0, none⟩) (n + 1) xs]) ∧ Sub [(7, .slice (some ⟨b, 0, none⟩) (n + 1) (n + 1)), (8, .int .i64 (i : Int))] ρ) (fun i => n + 1 - i) 0
    ⟨rfl, Nat.zero_le _, ⟨_, List.length_replicate, fun j hj => absurd hj (Nat.not_lt_zero j), hs2⟩, rfl, rfl, trivial⟩ ?_
  clear hs2
  rintro i ρ ds w3 ⟨rfl, hi, ⟨xs, hxl, hall, hst⟩, hs⟩
  refine Wp.forget _ ?_ hs
  have hrx := hst.rd 0
  refine Wp.seq (Wp.seq (Wp.reads (is := [0, 1, 2, 3]) (Keep.refl _) (Rn.s rfl Yv.mv (Rn.s rfl Yv.mv (Rn.s rfl (Yv.len_v (e := 5) (m := 1)) (Rn.s rfl (Yv.cmp _ rfl) (Rn.nil))))) ?_))
  refine Wp.cond rfl (fun h3 => ?_) (fun h3 => ?_)
  · have h3 := of_decide_eq_true h3
    refine Wp.skip (Wp.seq (Wp.block ?_))
    refine Wp.regionL (l := [0, 1, 2, 3]) (WO.rd (is := [0, 1, 2]) (js := [3]) (Keep.refl _) (Rn.s rfl Yv.mv (Rn.s rfl Yv.mv (Rn.s rfl (Yv.ia (e := 5) hrx (by omega) (by omega) (hm := hxl.symm)) (Rn.nil)))) (WO.act (hc := rfl) (he := Ef.setFld (E := ByE) (xs := xs) (j := (i : Int)) (f := 0) hst 0 (120 : UInt8) rfl rfl (by omega) (by omega) (fun wy1 hsy1 => WO.done ?_))))
    refine Wp.reads (is := [0, 1, 2]) (Keep.refl _) (Rn.s rfl Yv.mv (Rn.s rfl (Yv.add (by unfold inI; omega)) (Rn.s rfl Yv.as (Rn.nil)))) ?_
    refine ⟨i + 1, ⟨rfl, by omega, ⟨xs.set i 120, (by simp [hxl]), fun j hj => ?_, hsy1⟩, rfl, rfl, trivial⟩, by omega⟩
    by_cases q : j = i
    · subst q
      rw [List.getElem?_set_self (by omega)]
    · rw [List.getElem?_set_ne (fun e => q e.symm)]
      exact hall j (by omega)
  have h3 := of_decide_eq_false h3
  refine Wp.exit ?_
  refine Wp.seq (Wp.reads (is := [0, 1, 2]) (Keep.refl _) (Rn.s rfl Yv.mv (Rn.s rfl (Yv.bstr hrx (hm := hxl.symm)) (Rn.s rfl Yv.as (Rn.nil)))) ?_)
  have ex : xs = List.replicate (n + 1) 120 := by
    refine List.ext_getElem? fun j => ?_
    by_cases hj : j < n + 1
    · rw [hall j (by omega), List.getElem?_replicate, if_pos hj]
    · rw [List.getElem?_eq_none (by omega), List.getElem?_eq_none (by simp; omega)]
  rw [ex]
  exact Wp.ret (Fin.ret (Res.one rfl rfl) ⟨rfl, hst.keep⟩)
end Go.Proofs.YtgjhbapbomdpbaaDoor.C
