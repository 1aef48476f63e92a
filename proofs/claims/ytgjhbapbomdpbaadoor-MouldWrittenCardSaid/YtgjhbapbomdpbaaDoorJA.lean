/- Templates under jobs: what mould.Job computes, in plain words; and a map's entry that is taken away. -/
import Derived.Test.YtgjhbapbomdpbaaDoorMa
import Derived.Test.YtgjhbapbomdpbaaDoorJ7
set_option linter.unusedVariables false
set_option linter.unusedSimpArgs false
set_option maxRecDepth 10000
namespace Go.Proofs.YtgjhbapbomdpbaaDoor.Sh
open Go.RowKit Go.MapKept
section
variable {κ β : Type} [DecidableEq κ] {Y : Ky κ} {V : β → Value} {P : Program} {w : World} {b : Nat} {l : List (κ × β)}
theorem map_erase {α γ : Type} (f : α → γ) : ∀ (l : List α) (j : Nat), (l.eraseIdx j).map f = (l.map f).eraseIdx j
  | [], _ => rfl
  | _ :: _, 0 => rfl
  | a :: l, j + 1 => by simp only [List.eraseIdx_cons_succ, List.map_cons, map_erase f l j]
theorem run_mapdel {t kt ty : TypeId} (ht : mapB P t Y.d = true) (h : (Ch.mp Y V b l).ok w) (k : κ) :
    ∃ w', (Builtin.delete_ #[t, kt] ty #[.map (some b), Y.enc k]).run P w = .ok (.tuple #[]) w' ∧ (Ch.mp Y V b (adel k l)).ok w' ∧ Chg [b] w w' ∧ w'.heap.size = w.heap.size := by
  obtain ⟨kt, et, hm, hk⟩ := mapB_of ht
  obtain ⟨es, clock, hb, hl⟩ := h
  have chg : ∀ o, Chg [b] w { w with heap := w.heap.setIfInBounds b o } := fun o => ⟨rfl, rfl, rfl, by simp, fun x hx hn => (heap_set hb).2 x (by simpa using hn)⟩
  rcases findNow_list (Y := Y) (V := V) k es.toList l 0 hl with ⟨q1, q2, q3, q4, q5, q6⟩ | ⟨j, u, e, q1, q2, q3, q4, q5, q6⟩
  · refine ⟨{ w with heap := w.heap.setIfInBounds b (.map es clock) }, ?_, ⟨_, _, (heap_set hb).1, by rw [q6]; exact hl⟩, chg _, by simp⟩
    simp [Builtin.delete_, run_underlying hm, MapKept.run_getObj_map hb, run_checkKey hk (Y.isk k), run_findKey hk q2, MapKept.run_setObj_map _ hb, Result.andThen]
  · have hjl : j < es.toList.length := (List.getElem?_eq_some_iff.1 q3).1
    have hjs : j < es.size := by simpa using hjl
    have hsub : (es.eraseIdxIfInBounds j).toList = es.toList.eraseIdx j := by
      unfold Array.eraseIdxIfInBounds
      rw [dif_pos hjs]
      simp
    refine ⟨{ w with heap := w.heap.setIfInBounds b (.map (es.eraseIdxIfInBounds j) clock) }, ?_, ⟨_, _, (heap_set hb).1, ?_⟩, chg _, by simp⟩
    · simp [Builtin.delete_, run_underlying hm, MapKept.run_getObj_map hb, run_checkKey hk (Y.isk k), run_findKey hk q2, MapKept.run_setObj_map _ hb, Result.andThen]
    · rw [hsub, q6, map_erase, map_erase, hl]
variable {r : Option Nat} {N : Nat} {ρ : Env} {ds : List Deferred} {w0 : World} {M : List Nat} {D : List Chunk} {K : Env → World → Prop} {Q : Post} {dst : Option Nat}
theorem Ef.mapdel {t kt : TypeId} {x y : Operand} {key : κ} (h : St w0 M w D) (i : Nat) (k : ∀ w', St w0 M w' (Ch.mp Y V b (adel key l) :: D.eraseIdx i) → K (putE ρ dst (.tuple #[])) w')
    (hC : D[i]? = some (Ch.mp Y V b l) := by rfl) (ht : mapB P t Y.d = true := by kernel_rfl) : Ef r P N dst (.call { callee := .builtin .delete, args := #[x, y], argTypes := #[t, kt] }) [.map (some b), Y.enc key] ρ ds w K Q := by
  have hp := h.pull i hC
  obtain ⟨w', hr, hok, hk, hs⟩ := run_mapdel (P := P) (kt := kt) (ty := 0) ht (hp.at_ 0) key
  refine Ef.of_run (v := .tuple #[]) (w' := w') (by simp) (fun o e ho he => ?_) (k w' (hp.upd hk hok ?_))
  · have h2 : e x = .map (some b) ∧ e y = Y.enc key := by simpa [Op.operands, Call.operands] using he
    have hr2 : ∀ ty, (Builtin.delete_ #[t, kt] ty #[.map (some b), Y.enc key]).run P w = .ok (.tuple #[]) w' := fun ty => hr
    simp only [execOp, ho, resolve, invoke, builtin, Sem.run_bind, Sem.run_pure, Result.andThen_ok, List.map_toArray, List.map_cons, List.map_nil, h2.1, h2.2, hr2]
  · intro x hx
    refine ⟨.inl hx, ?_⟩
    have := (hp.rng _ (List.mem_cons_self ..) x hx).2
    omega
theorem adel_aput {κ β : Type} [DecidableEq κ] {k : κ} {v : β} : ∀ {l : List (κ × β)}, alook k l = none → adel k (aput k v l) = l
  | [], _ => by simp [aput, adel]
  | (a, u) :: l, h => by
    unfold alook at h
    split at h
    · cases h
    · rename_i q
      rw [aput, if_neg q, adel, if_neg q, adel_aput h]
end
end Go.Proofs.YtgjhbapbomdpbaaDoor.Sh
namespace Go.Proofs.YtgjhbapbomdpbaaDoor.C
open Go.RowKit Go.Proofs.YtgjhbapbomdpbaaDoor.Sh
def kExt : Bs := [101, 120, 116, 101, 110, 100, 115]
def kDef : Bs := [100, 101, 102, 97, 117, 108, 116, 115]
def kTem : Bs := [116, 101, 109, 112, 108, 97, 116, 101, 115]
def kJob : Bs := [106, 111, 98, 115]
/-- what a template comes to -/
structure Md where
  tree : List Nd
  height : Int
  fault : Ft
deriving Inhabited
structure MS where
  done : List (Bs × Md)
  under : List (Bs × Int)
deriving Inhabited
def extS (t : List Nd) (i : Nat) : List Nd × Ft :=
  if findS t i kExt < 0 then ([], ft0)
  else if (textsS t (findS t i kExt).toNat).2.2 = false then ([], placeS 90 (nth t (textsS t (findS t i kExt).toNat).2.1))
  else ((textsS t (findS t i kExt).toNat).1.map (fun n : Nat => nth t (n : Int)), ft0)
def ownS (t : List Nd) (i : Int) : List Nd := (withoutS (partS t i).1 kExt).1
def failM (f : Ft) : Md := ⟨[], 0, f⟩
def tmAt (t : List Nd) (T : Int) (key : Bs) : Int := if 0 ≤ T then findS t T.toNat key else -1
def underS (s : MS) (key : Bs) : MS := { s with under := aput key (w64 ((alook key s.under).getD 0 + 1)) s.under }
def doneM (s : MS) (key : Bs) (x : Md) : MS := { done := aput key x s.done, under := adel key s.under }
def tmplS (node : MS → Nat → MS × Md) (t : List Nd) (T : Int) (s : MS) (n : Nd) : MS × Md :=
  if tmAt t T n.text < 0 then (s, failM (placeS 91 n))
  else if 0 < (alook n.text s.under).getD 0 then (s, failM (placeS 92 n))
  else if (alook n.text s.done).isSome = true then (s, (alook n.text s.done).getD default)
  else (doneM (node (underS s n.text) (tmAt t T n.text).toNat).1 n.text (node (underS s n.text) (tmAt t T n.text).toNat).2, (node (underS s n.text) (tmAt t T n.text).toNat).2)
/-- a template's fault, or that it is too high -/
def faultS (most : Int) (n : Nd) (x : Md) : Ft := if x.fault.code = 0 ∧ most < x.height then placeS 93 n else x.fault
structure Lp where
  s : MS
  f : Ft
  ahead : List (List Nd)
  h : Int
def loopS (tm : MS → Nd → MS × Md) (most : Int) : List Nd → MS → List (List Nd) → Int → Lp
  | [], s, ah, h => ⟨s, ft0, ah, h⟩
  | n :: r, s, ah, h => if (faultS most n (tm s n).2).code ≠ 0 then ⟨(tm s n).1, faultS most n (tm s n).2, ah, h⟩ else loopS tm most r (tm s n).1 (ah ++ [(tm s n).2.tree]) (if (tm s n).2.height + 1 > h then (tm s n).2.height + 1 else h)
def wholeS (tm : MS → Nd → MS × Md) (most : Int) (names : List Nd × Ft) (own : List Nd) (ahead : List (List Nd)) (s : MS) : MS × Md :=
  if names.2.code ≠ 0 then (s, failM names.2)
  else if (loopS tm most names.1 s ahead 1).f.code ≠ 0 then ((loopS tm most names.1 s ahead 1).s, failM (loopS tm most names.1 s ahead 1).f)
  else ((loopS tm most names.1 s ahead 1).s, ⟨(mergeS ((loopS tm most names.1 s ahead 1).ahead ++ [own])).1, (loopS tm most names.1 s ahead 1).h, ⟨(mergeS ((loopS tm most names.1 s ahead 1).ahead ++ [own])).2, [], 0, 0⟩⟩)
def nodeF (t : List Nd) (T : Int) : Nat → MS → Nat → MS × Md
  | 0, s, _ => (s, failM ⟨1, [], 0, 0⟩)
  | f + 1, s, i => if (nth t (i : Int)).kind ≠ 1 then (s, failM (placeS 90 (nth t (i : Int)))) else wholeS (tmplS (nodeF t T f) t T) 15 (extS t i) (ownS t i) [] s
def keyPlaceS (why : Int) (n : Nd) : Ft := ⟨why, n.file, n.line, n.col⟩
/-- the first section that is no map -/
def secS (t : List Nd) : Ft :=
  if 0 ≤ findS t 0 kDef ∧ (nth t (findS t 0 kDef)).kind ≠ 1 then placeS 90 (nth t (findS t 0 kDef))
  else if 0 ≤ findS t 0 kTem ∧ (nth t (findS t 0 kTem)).kind ≠ 1 then placeS 90 (nth t (findS t 0 kTem))
  else if 0 ≤ findS t 0 kJob ∧ (nth t (findS t 0 kJob)).kind ≠ 1 then placeS 90 (nth t (findS t 0 kJob))
  else ft0
def jobAt (t : List Nd) (name : Bs) : Int := if 0 ≤ findS t 0 kJob then findS t (findS t 0 kJob).toNat name else -1
def fuelM : Nat := 16385
def jobW (t : List Nd) (name : Bs) (ahead : List (List Nd)) : Md := (wholeS (tmplS (nodeF t (findS t 0 kTem) fuelM) t (findS t 0 kTem)) 16 (extS t (jobAt t name).toNat) (ownS t (jobAt t name)) ahead ⟨[], []⟩).2
def jobR (x : Md) : List Nd × Ft := if x.fault.code ≠ 0 then ([], x.fault) else (x.tree, ft0)
/-- what mould.Job hands back -/
def jobS (t : List Nd) (name : Bs) : List Nd × Ft :=
  if isS t = false then ([], ⟨80, [], 0, 0⟩)
  else if (secS t).code ≠ 0 then ([], secS t)
  else if jobAt t name < 0 then ([], ⟨91, [], 0, 0⟩)
  else if (nth t (jobAt t name)).kind ≠ 1 then ([], placeS 90 (nth t (jobAt t name)))
  else if 0 ≤ findS t 0 kDef then
    if 0 ≤ findS t (findS t 0 kDef).toNat kExt then ([], keyPlaceS 90 (nth t (findS t (findS t 0 kDef).toNat kExt)))
    else jobR (jobW t name [ownS t (findS t 0 kDef)])
  else jobR (jobW t name [])
/-! ### what is being worked out is what it was -/
theorem alook_none {κ β : Type} [DecidableEq κ] {k : κ} : ∀ {l : List (κ × β)}, alook k l = none ↔ k ∉ l.map (·.1)
  | [] => by simp [alook]
  | (a, u) :: l => by
    unfold alook
    rw [List.map_cons, List.mem_cons, not_or]
    by_cases h : a = k
    · simp [h]
    · rw [if_neg h, alook_none]
      exact ⟨fun q => ⟨fun e => h e.symm, q⟩, fun q => q.2⟩
/-- the names that are being worked out: each once, each a template -/
structure UI (t : List Nd) (T : Int) (u : List (Bs × Int)) : Prop where
  nd : (u.map (·.1)).Nodup
  one : ∀ key, key ∈ u.map (·.1) → 0 < (alook key u).getD 0
  isT : ∀ key ∈ u.map (·.1), 0 ≤ tmAt t T key
theorem aput_new {κ β : Type} [DecidableEq κ] {k : κ} {v : β} : ∀ {l : List (κ × β)}, alook k l = none → aput k v l = l ++ [(k, v)]
  | [], _ => rfl
  | (a, u) :: l, h => by
    unfold alook at h
    split at h
    · cases h
    · rename_i q
      rw [aput, if_neg q, aput_new h]
      rfl
theorem UI.push {t : List Nd} {T : Int} {u : List (Bs × Int)} (h : UI t T u) {key : Bs} (hk : ¬ 0 < (alook key u).getD 0) (ht : 0 ≤ tmAt t T key) : alook key u = none ∧ UI t T (aput key (w64 ((alook key u).getD 0 + 1)) u) := by
  have hn : alook key u = none := alook_none.2 (fun q => hk (h.one key q))
  have e : w64 ((alook key u).getD 0 + 1) = 1 := by rw [hn]; decide
  refine ⟨hn, ?_⟩
  rw [e]
  have e2 := aput_new (v := (1 : Int)) hn
  refine ⟨?_, ?_, ?_⟩
  · rw [e2, List.map_append, List.nodup_append]
    refine ⟨h.nd, by simp, fun a ha b hb => ?_⟩
    simp only [List.map_cons, List.map_nil, List.mem_singleton] at hb
    rintro rfl
    exact alook_none.1 hn (hb ▸ ha)
  · intro k hm
    rw [alook_aput]
    split
    · simp
    · rename_i q
      rw [e2, List.map_append] at hm
      rcases List.mem_append.1 hm with hm | hm
      · exact h.one k hm
      · simp only [List.map_cons, List.map_nil, List.mem_singleton] at hm
        exact absurd hm.symm q
  · intro k hm
    rw [e2, List.map_append] at hm
    rcases List.mem_append.1 hm with hm | hm
    · exact h.isT k hm
    · simp only [List.map_cons, List.map_nil, List.mem_singleton] at hm
      rw [hm]; exact ht
theorem UI.len {t : List Nd} {T : Int} {u : List (Bs × Int)} (h : UI t T u) (hT : T < t.length) (hl : t.length ≤ 16384) : u.length ≤ 16384 := by
  by_cases h0 : 0 ≤ T
  · have hsub : ∀ k ∈ u.map (·.1), k ∈ (partsS t T.toNat).map (fun n : Nat => (nth t (n : Int)).key) := by
      intro k hk
      have h1 := h.isT k hk
      unfold tmAt at h1
      rw [if_pos h0] at h1
      unfold findS at h1
      cases hf : (partsS t T.toNat).find? (fun n : Nat => (nth t (n : Int)).key == k) with
      | none => rw [hf] at h1; exact absurd h1 (by simp [orN])
      | some n =>
        have := List.find?_some hf
        exact List.mem_map.2 ⟨n, List.mem_of_find?_eq_some hf, by simpa using this⟩
    have hle := h.nd.length_le_of_subset hsub
    have hpl : (partsS t T.toNat).length ≤ t.length := by
      have := partsR_len (nth t ((T.toNat : Nat) : Int)).depth (t.drop (T.toNat + 1)) (T.toNat + 1)
      simp only [List.length_drop] at this
      unfold partsS
      omega
    simp only [List.length_map] at hle
    omega
  · cases u with
    | nil => simp
    | cons p u =>
      exfalso
      have := h.isT p.1 (by simp)
      unfold tmAt at this
      rw [if_neg h0] at this
      omega
def SameU (nd : MS → Nat → MS × Md) : Prop := ∀ s i, (nd s i).1.under = s.under
theorem tmplS_u {node : MS → Nat → MS × Md} (h : SameU node) (t : List Nd) (T : Int) {s : MS} (hu : UI t T s.under) (n : Nd) : (tmplS node t T s n).1.under = s.under := by
  unfold tmplS
  split
  · rfl
  rename_i q1
  split
  · rfl
  rename_i q2
  split
  · rfl
  · show adel n.text (node _ _).1.under = s.under
    rw [h]
    show adel n.text (aput n.text _ s.under) = s.under
    exact adel_aput (hu.push q2 (by omega)).1
theorem loopS_u {tm : MS → Nd → MS × Md} {P : List (Bs × Int) → Prop} (h : ∀ s n, P s.under → (tm s n).1.under = s.under) (most : Int) : ∀ (ns : List Nd) (s : MS) (ah : List (List Nd)) (x : Int), P s.under → (loopS tm most ns s ah x).s.under = s.under
  | [], s, ah, x, _ => rfl
  | n :: r, s, ah, x, hp => by
    rw [loopS]
    have e := h s n hp
    split
    · exact e
    · rw [loopS_u h most r _ _ _ (by rw [e]; exact hp), e]
theorem wholeS_u {tm : MS → Nd → MS × Md} {P : List (Bs × Int) → Prop} (h : ∀ s n, P s.under → (tm s n).1.under = s.under) (most : Int) (names : List Nd × Ft) (own : List Nd) (ah : List (List Nd)) (s : MS) (hp : P s.under) : (wholeS tm most names own ah s).1.under = s.under := by
  unfold wholeS
  split
  · rfl
  split
  · exact loopS_u h most _ _ _ _ hp
  · exact loopS_u h most _ _ _ _ hp
end Go.Proofs.YtgjhbapbomdpbaaDoor.C
/- Templates under jobs: what a body extends, and its own part: walked. -/
set_option linter.unusedVariables false
set_option linter.unusedSimpArgs false
set_option maxRecDepth 10000
namespace Go.Proofs.YtgjhbapbomdpbaaDoor.C
open Go.RowKit Go.Proofs.YtgjhbapbomdpbaaDoor.Sh
abbrev bcs (A : Option Addr) (n c : Nat) (i : Int) : List Value := [.slice A n c, .int .i64 i]
theorem ext_cx (A : Option Addr) (c : Nat) (t : List Nd) (i : Nat) (w : World) (hr : Rd NdE w A t) (hi : i < t.length) (hl : t.length ≤ 1000000) (hd : DepOk t) :
    Cx Tryd.prog 44 [.agg (bcs A t.length c i).toArray] [] (fun v D => ∃ O co, v = .tuple #[.slice O (extS t i).1.length co, .agg (extS t i).2.cs.toArray] ∧ D = [Ch.row NdE 48 O co (extS t i).1]) w := by
  refine calls_of_Wp (vs := [_]) Tryd.func44 ?_
  refine Wp.seq (Wp.regionL (l := [0, 1, 2]) (WO.act (hc := rfl) (he := Ef.boxL ((bcs A t.length c i)) (St.init w) (fun ba1 wa1 ka1 hsa1 => WO.rd (is := [1]) (js := [2]) ((Keep.refl _).trans ka1) (Rn.s rfl Yv.as (Rn.nil)) (WO.act (hc := rfl) (he := Ef.allocL (vs := [.int .i64 0, S [], .int .i64 0, .int .i64 0]) hsa1 (fun ba2 wa2 ka2 hsa2 => WO.done ?_)))))))
  have c1 := hsa2.cells 1
  obtain ⟨F, hF⟩ : ∃ F, F = findS t i kExt := ⟨_, rfl⟩
  have hfb := findS_bd hi kExt
  have hfc : Cv Tryd.prog 39 [.slice A t.length c, .int .i64 i, S kExt] (.int .i64 F) wa2 := by
    rw [hF]
    exact find_cv A c t i kExt wa2 (hr.keep hsa2.keep) hi (by omega) (hd i hi)
  unfold extS
  rw [← hF] at hfb ⊢
  refine Wp.seq (Wp.regionL (l := [0, 1, 2, 3, 4, 5]) (WO.rd (is := [0, 1, 2, 3]) (js := [4, 5]) (Keep.refl _) (Rn.s rfl (Yv.fa (off := 0)) (Rn.s rfl (Yv.ld (c1.at_ 0)) (Rn.s rfl (Yv.fa (off := 1)) (Rn.s rfl (Yv.ld (c1.at_ 1)) (Rn.nil))))) (WO.cv rfl hfc (Keep.refl _) (FnOk.of Tryd.func39) (fun wx1 kx1 => WO.rd (is := [5]) (js := []) ((Keep.refl _).trans kx1) (Rn.s rfl Yv.as (Rn.nil)) (WO.done ?_)))))
  have hst := hsa2.quiet kx1
  have c1 := hst.cells 1
  refine Wp.seq (Wp.seq (Wp.reads (is := [0, 1]) (Keep.refl _) (Rn.s rfl Yv.mv (Rn.s rfl (Yv.cmp _ rfl) (Rn.nil))) ?_))
  refine Wp.cond rfl (fun h => ?_) (fun h => ?_)
  · have h := of_decide_eq_true h
    refine Wp.seq (Wp.regionL (l := [0, 1, 2]) (WO.rd (is := [0, 1]) (js := [2]) (Keep.refl _) (Rn.s rfl (Yv.bd (cs := ft0.cs)) (Rn.s rfl Yv.as (Rn.nil))) (WO.act (hc := rfl) (he := Ef.stores hst 0 (fun wy1 hsy1 => WO.done ?_)))))
    refine Wp.ret (Fin.ret (resTA rfl rfl rfl (hsy1.cells 0)) ?_)
    rw [if_pos h]
    exact ⟨_, _, rfl, ⟨none, 0, rfl, rfl⟩, (hsy1.pick []).nilrow _ _⟩
  have h := of_decide_eq_false h
  obtain ⟨m, hm⟩ : ∃ m : Nat, F = m := ⟨F.toNat, by omega⟩
  have hml : m < t.length := by omega
  rw [hm] at h ⊢
  clear hfc
  rw [show ((m : Int)).toNat = m from Int.toNat_natCast m]
  obtain ⟨tm1, tm2, tm3⟩ := textsS_mem hml
  refine Wp.skip ?_
  refine Wp.seq (Wp.regionL (l := [0, 1, 2, 3, 4, 5, 6, 7, 8, 9, 10]) (WO.rd (is := [0, 1, 2]) (js := [3, 4, 5, 6, 7, 8, 9, 10]) (Keep.refl _) (Rn.s rfl (Yv.fa (off := 0)) (Rn.s rfl (Yv.ld (c1.at_ 0)) (Rn.s rfl Yv.mv (Rn.nil)))) (WO.act (hc := rfl) (he := Ef.cx (texts_cx A c t m wx1 (hr.keep hst.keep) hml hl (hd m hml)) hst (FnOk.of Tryd.func63) ?_))))
  rintro v D w2 ⟨O, co, rfl, rfl⟩ hs2
  refine WO.rd (is := [4, 5, 6, 7, 8, 9, 10]) (js := []) (Keep.refl _) (Rn.s rfl Yv.mv (Rn.s rfl Yv.ex (Rn.s rfl Yv.ex (Rn.s rfl Yv.ex (Rn.s rfl Yv.as (Rn.s rfl Yv.as (Rn.s rfl Yv.as (Rn.nil)))))))) (WO.done ?_)
  have hst : St w [] w2 [Ch.row IvE 3 O co (textsS t m).1, Ch.cells ba2 27 ft0.cs, Ch.cells ba1 91 (bcs A t.length c i)] := hs2
  clear hs2 c1
  have c1 := hst.cells 2
  obtain ⟨L, bad, ok, hL⟩ : ∃ L bad ok, textsS t m = (L, bad, ok) := ⟨_, _, _, rfl⟩
  rw [hL] at hst tm1 tm2 tm3 ⊢
  simp only at hst tm1 tm2 tm3 ⊢
  refine Wp.seq (Wp.seq (Wp.reads (is := [0, 1]) (Keep.refl _) (Rn.s rfl Yv.mv (Rn.s rfl Yv.not (Rn.nil))) ?_))
  cases ok with
  | false =>
    refine Wp.cond_t rfl ?_
    have hrt := hr.keep hst.keep
    refine Wp.seq (Wp.regionL (l := [0, 1, 2, 3, 4, 5, 6, 7]) (WO.rd (is := [0, 1, 2, 3, 4]) (js := [5, 6, 7]) (Keep.refl _) (Rn.s rfl (Yv.fa (off := 0)) (Rn.s rfl (Yv.ld (c1.at_ 0)) (Rn.s rfl Yv.mv (Rn.s rfl (Yv.ia (e := 48) hrt (by omega) (by omega)) (Rn.s rfl (Yv.ldel hrt rfl rfl (by omega) (by omega)) (Rn.nil)))))) (WO.cv rfl (place_cv 90 (nth t bad) _) (Keep.refl _) (FnOk.of Tryd.func40) (fun wy1 ky1 => WO.rd (is := [6]) (js := [7]) ((Keep.refl _).trans ky1) (Rn.s rfl Yv.as (Rn.nil)) (WO.act (hc := rfl) (he := Ef.stores (hst.quiet ky1) 1 (fun wy2 hsy2 => WO.done ?_)))))))
    refine Wp.ret (Fin.ret (resTA rfl rfl rfl (hsy2.cells 0)) ?_)
    rw [if_neg h, if_pos rfl]
    exact ⟨_, _, rfl, ⟨none, 0, rfl, rfl⟩, (hsy2.pick []).nilrow _ _⟩
  | true =>
  refine Wp.cond_f rfl (Wp.skip ?_)
  refine Wp.seq (Wp.reads (is := [0]) (Keep.refl _) (Rn.s rfl Yv.as (Rn.nil)) ?_)
  refine Wp.seq (Wp.seq (Wp.reads (is := [0, 1, 2]) (Keep.refl _) (Rn.s rfl Yv.mv (Rn.s rfl (Yv.len_v (e := 3) (m := 1)) (Rn.s rfl Yv.mv (Rn.nil)))) ?_))
  refine Wp.block ?_
  refine Wp.loop (α := Nat) (fun k ρ ds w' => ds = [] ∧ k ≤ L.length ∧ (∃ B d, St w [] w' [Ch.row NdE 48 B d ((L.take k).map (fun n : Nat => nth t (n : Int))), Ch.row IvE 3 O co L, Ch.cells ba2 27 ft0.cs, Ch.cells ba1 91 (bcs A t.length c i)] ∧
    Sub [(1, PB ba1), (3, PB ba2), (8, .slice B ((L.take k).map (fun n : Nat => nth t (n : Int))).length d), (35, .slice O L.length co), (36, .int .i64 (L.length : Int)), (37, .int .i64 (k : Int))] ρ)) (fun k => L.length - k) 0
    ⟨rfl, Nat.zero_le _, ⟨none, 0, hst.nilrow NdE _, rfl, rfl, rfl, rfl, rfl, rfl, trivial⟩⟩ ?_
  clear hst c1
  rintro k ρ ds w3 ⟨rfl, hk, B, d, hst, hs⟩
  refine Wp.forget _ ?_ hs
  clear hs ρ
  refine Wp.seq (Wp.reads (is := [0]) (Keep.refl _) (Rn.s rfl (Yv.cmp _ rfl) (Rn.nil)) ?_)
  refine Wp.seq (Wp.cond rfl (fun h2 => ?_) (fun h2 => ?_))
  · have h2 := of_decide_eq_true h2
    have hkl : k < L.length := by omega
    have hget : nth L (k : Int) = L[k] := nth_of (List.getElem?_eq_getElem hkl)
    have hxl := tm1 L[k] (List.getElem_mem hkl)
    rw [← hget] at hxl
    have hrl := hst.rd 1
    have c1 := hst.cells 3
    have hrt := hr.keep hst.keep
    refine Wp.skip (Wp.seq (Wp.block ?_))
    refine Wp.seq (Wp.reads (is := [0, 1, 2]) (Keep.refl _) (Rn.s rfl (Yv.ia (e := 3) hrl (by omega) (by omega)) (Rn.s rfl (Yv.ld (hrl.ld 0 (by omega) (by omega))) (Rn.s rfl Yv.as (Rn.nil)))) ?_)
    refine Wp.regionL (l := [0, 1, 2, 3, 4, 5, 6, 7, 8]) (WO.rd (is := [0, 1, 2, 3, 4, 5]) (js := [6, 7, 8]) (Keep.refl _) (Rn.s rfl Yv.mv (Rn.s rfl (Yv.fa (off := 0)) (Rn.s rfl (Yv.ld (c1.at_ 0)) (Rn.s rfl Yv.mv (Rn.s rfl (Yv.ia (e := 48) hrt (j := (nth L (k : Int) : Nat)) (by omega) (by omega)) (Rn.s rfl (Yv.ldel (i := (nth L (k : Int) : Nat)) hrt rfl rfl (by omega) (by omega)) (Rn.nil))))))) (WO.app NdE [nth t ((nth L (k : Int) : Nat) : Int)] rfl (fun _ => rfl) hst 0 (fitN (by simp; omega)) (fun by1 Ay1 cy1 wy1 hsy1 => WO.rd (is := [8]) (js := []) (Keep.refl _) (Rn.s rfl Yv.as (Rn.nil)) (WO.done ?_))))
    refine Wp.reads (is := [0, 1]) (Keep.refl _) (Rn.s rfl (Yv.add (by unfold inI; omega)) (Rn.s rfl Yv.mv (Rn.nil))) ?_
    have e : (L.take (k + 1)).map (fun n : Nat => nth t (n : Int)) = (L.take k).map (fun n : Nat => nth t (n : Int)) ++ [nth t ((nth L (k : Int) : Nat) : Int)] := by
      rw [List.take_add_one, List.getElem?_eq_getElem hkl, hget, List.map_append]; rfl
    refine ⟨k + 1, ⟨rfl, by omega, ⟨Ay1, cy1, ?_, rfl, rfl, ?_, rfl, rfl, rfl, trivial⟩⟩, by omega⟩
    · rw [e]; exact hsy1
    · rw [e]; rfl
  · have h2 := of_decide_eq_false h2
    have e : L.take k = L := List.take_of_length_le (by omega)
    rw [e] at hst
    refine Wp.exit ?_
    refine Wp.seq (Wp.regionL (l := [0, 1, 2, 3]) (WO.rd (is := [0, 1, 2]) (js := [3]) (Keep.refl _) (Rn.s rfl Yv.mv (Rn.s rfl (Yv.bd (cs := ft0.cs)) (Rn.s rfl Yv.as (Rn.nil)))) (WO.act (hc := rfl) (he := Ef.stores hst 2 (fun wy1 hsy1 => WO.done ?_)))))
    refine Wp.ret (Fin.ret (resTA rfl rfl rfl (hsy1.cells 0)) ?_)
    rw [if_neg h, if_neg (by decide), e]
    exact ⟨_, _, rfl, ⟨B, d, rfl, rfl⟩, hsy1.pick [1]⟩
theorem own_cx (A : Option Addr) (c : Nat) (t : List Nd) (i : Int) (w : World) (hr : Rd NdE w A t) (hcap : t.length ≤ c) (hl : t.length ≤ 1000000) :
    Cx Tryd.prog 42 [.agg (bcs A t.length c i).toArray] [] (fun v D => ∃ O co, v = .slice O (ownS t i).length co ∧ D = [Ch.row NdE 48 O co (ownS t i)]) w := by
  refine calls_of_Wp (vs := [_]) Tryd.func42 ?_
  refine Wp.seq (Wp.regionL (l := [0, 1]) (WO.act (hc := rfl) (he := Ef.boxL ((bcs A t.length c i)) (St.init w) (fun ba1 wa1 ka1 hsa1 => WO.rd (is := [1]) (js := []) ((Keep.refl _).trans ka1) (Rn.s rfl Yv.as (Rn.nil)) (WO.done ?_)))))
  have c1 := hsa1.cells 0
  refine Wp.seq (Wp.regionL (l := [0, 1, 2, 3, 4, 5, 6, 7, 8, 9]) (WO.rd (is := [0, 1, 2, 3]) (js := [4, 5, 6, 7, 8, 9]) (Keep.refl _) (Rn.s rfl (Yv.fa (off := 0)) (Rn.s rfl (Yv.ld (c1.at_ 0)) (Rn.s rfl (Yv.fa (off := 1)) (Rn.s rfl (Yv.ld (c1.at_ 1)) (Rn.nil))))) (WO.act (hc := rfl) (he := Ef.cx (part_cx A c t i wa1 (hr.keep hsa1.keep) hcap (by omega)) hsa1 (FnOk.of Tryd.func28) ?_))))
  rintro v D w2 ⟨O, co, rfl, rfl⟩ hs2
  refine WO.rd (is := [5, 6, 7, 8, 9]) (js := []) (Keep.refl _) (Rn.s rfl Yv.mv (Rn.s rfl Yv.ex (Rn.s rfl Yv.ex (Rn.s rfl Yv.as (Rn.s rfl Yv.as (Rn.nil)))))) (WO.done ?_)
  have hst : St w [] w2 [Ch.row NdE 48 O co (partS t i).1, Ch.cells ba1 91 (bcs A t.length c i)] := hs2
  clear hs2
  have hpl : (partS t i).1.length ≤ 1000000 := by
    unfold partS
    split
    · rename_i q
      unfold partOk at q
      simp only [Bool.and_eq_true, decide_eq_true_eq] at q
      unfold partL
      simp only [List.length_set, List.length_map]
      rw [subS_len (by omega)]
      have := endS_bd (t := t) (i := i.toNat) (by omega)
      omega
    · simp
  refine Wp.seq (Wp.regionL (l := [0, 1, 2, 3, 4, 5]) (WO.rd (is := [0]) (js := [1, 2, 3, 4, 5]) (Keep.refl _) (Rn.s rfl Yv.mv (Rn.nil)) (WO.act (hc := rfl) (he := Ef.cx (without_cx O co (partS t i).1 kExt w2 (hst.rd 0) (hst.cap 0) (by omega)) hst (FnOk.of Tryd.func61) ?_))))
  rintro v D w3 ⟨O2, co2, rfl, rfl⟩ hs3
  refine WO.rd (is := [2, 3, 4, 5]) (js := []) (Keep.refl _) (Rn.s rfl Yv.mv (Rn.s rfl Yv.ex (Rn.s rfl Yv.ex (Rn.s rfl Yv.as (Rn.nil))))) (WO.done ?_)
  refine Wp.seq (Wp.reads (is := [0, 1]) (Keep.refl _) (Rn.s rfl Yv.mv (Rn.s rfl Yv.as (Rn.nil))) ?_)
  exact Wp.ret (Fin.ret (Res.one rfl rfl) ⟨_, _, rfl, ⟨O2, co2, rfl, rfl⟩, hs3.pick [0]⟩)
theorem keyPlaceM_cv (why : Int) (n : Nd) (w0 : World) : Cv Tryd.prog 41 [.int .i64 why, .agg n.cs.toArray] (.agg (keyPlaceS why n).cs.toArray) w0 := by
  intro w hk
  refine calls_of_Wp (vs := [_, _]) Tryd.func41 ?_
  refine Wp.seq (Wp.regionL (l := [0, 1]) (WO.act (hc := rfl) (he := Ef.boxL (n.cs) (St.init w) (fun ba1 wa1 ka1 hsa1 => WO.act (hc := rfl) (he := Ef.allocL (vs := [.int .i64 0, S [], .int .i64 0, .int .i64 0]) hsa1 (fun ba2 wa2 ka2 hsa2 => WO.done ?_))))))
  have c3 := hsa2.cells 1
  refine Wp.seq (Wp.regionL (l := [0, 1, 2, 3, 4, 5, 6, 7, 8]) (WO.rd (is := [0, 1, 2, 3, 4, 5, 6, 7]) (js := [8]) (Keep.refl _) (Rn.s rfl Yv.mv (Rn.s rfl (Yv.fa (off := 4)) (Rn.s rfl (Yv.ld (c3.at_ 4)) (Rn.s rfl (Yv.fa (off := 5)) (Rn.s rfl (Yv.ld (c3.at_ 5)) (Rn.s rfl (Yv.fa (off := 6)) (Rn.s rfl (Yv.ld (c3.at_ 6)) (Rn.s rfl (Yv.bd (cs := Ft.cs ⟨why, n.file, n.line, n.col⟩)) (Rn.nil))))))))) (WO.act (hc := rfl) (he := Ef.stores hsa2 0 (fun wx1 hsx1 => WO.done ?_)))))
  exact Wp.ret (Fin.ret (resCA rfl rfl (hsx1.cells 0)) ⟨rfl, hsx1.keep⟩)
end Go.Proofs.YtgjhbapbomdpbaaDoor.C
/- Templates under jobs: what stands ahead, what is extended and what is a body's own, laid over one another: walked. -/
set_option linter.unusedVariables false
set_option linter.unusedSimpArgs false
set_option maxRecDepth 10000
namespace Go.Proofs.YtgjhbapbomdpbaaDoor.Sh
open Go.RowKit
theorem Yv.max2 {P : Program} {w : World} {ts : Array TypeId} {x y : Operand} {a b : Int} (m : Int) (h : (if b > a then b else a) = m) : Yv P w (.call { callee := .builtin .max, args := #[x, y], argTypes := ts }) [.int .i64 a, .int .i64 b] (.int .i64 m) :=
  ⟨by simp, fun o e hop hv w' _ => by
    subst h
    have hx : e x = .int .i64 a ∧ e y = .int .i64 b := by simpa [Op.operands, Call.operands] using hv
    simp only [execOp, hop, resolve, invoke, builtin, Sem.run_bind, Sem.run_pure, Result.andThen_ok, List.map_toArray, List.map_cons, List.map_nil, hx.1, hx.2]
    simp [Builtin.max_, Builtin.max2]⟩
end Go.Proofs.YtgjhbapbomdpbaaDoor.Sh
namespace Go.Proofs.YtgjhbapbomdpbaaDoor.C
open Go.RowKit Go.Proofs.YtgjhbapbomdpbaaDoor.Sh
/-- what a template comes to, and where its tree lies -/
structure Mv where
  tr : Tr
  h : Int
  f : Ft
deriving Inhabited
abbrev mvcs (x : Mv) : List Value := [.slice x.tr.1 x.tr.2.2.length x.tr.2.1, .int .i64 x.h, .int .i64 x.f.code, S x.f.file, .int .i64 x.f.line, .int .i64 x.f.col]
abbrev VM (x : Mv) : Value := .agg (mvcs x).toArray
def Mv.md (x : Mv) : Md := ⟨x.tr.2.2, x.h, x.f⟩
abbrev mvF (f : Ft) : Mv := ⟨(none, 0, []), 0, f⟩
abbrev mv0 : Mv := mvF ft0
structure VS where
  done : List (Bs × Mv)
  under : List (Bs × Int)
def VS.ms (s : VS) : MS := ⟨s.done.map (fun p => (p.1, p.2.md)), s.under⟩
abbrev mkcs (A : Option Addr) (n c : Nat) (T : Int) (md mu : Nat) : List Value := [.slice A n c, .int .i64 T, .map (some md), .map (some mu)]
abbrev ChM (b : Nat) (A : Option Addr) (n c : Nat) (T : Int) (md mu : Nat) (s : VS) : List Chunk := [Ch.cells b 96 (mkcs A n c T md mu), Ch.mp KyS VM md s.done, Ch.mp KyS VI mu s.under]
structure XOk (rows : List Tr) (x : Mv) : Prop where
  tr : x.f.code = 0 → x.tr ∈ rows
  h0 : 0 ≤ x.h
  h1 : x.h ≤ 1000000
theorem XOk.more {rows : List Tr} {x : Mv} (h : XOk rows x) (more : List Tr) : XOk (rows ++ more) x := ⟨fun q => List.mem_append_left _ (h.tr q), h.h0, h.h1⟩
abbrev DOk (rows : List Tr) (s : VS) : Prop := ∀ p ∈ s.done, XOk rows p.2
theorem permM {F X Y D : List Chunk} : (F ++ (X ++ (Y ++ D))).Perm (X ++ (Y ++ (F ++ D))) :=
  (List.perm_append_comm_assoc F X (Y ++ D)).trans ((List.perm_append_comm_assoc F Y D).append_left X)
theorem st_trok {w0 w : World} {M : List Nat} {D E : List Chunk} {ts : List Tr} (h : St w0 M w (D ++ (trows ts ++ E))) : ∀ x ∈ ts, TrOk w x := by
  intro x hx
  obtain ⟨i, hi⟩ := List.mem_iff_getElem?.1 hx
  have hil := (List.getElem?_eq_some_iff.1 hi).1
  have e : (D ++ (trows ts ++ E))[D.length + i]? = some (Ch.row NdE 48 x.1 x.2.1 x.2.2) := by
    rw [List.getElem?_append_right (by omega), show D.length + i - D.length = i by omega, List.getElem?_append_left (by simpa [trows] using hil)]
    unfold trows
    rw [List.getElem?_map, hi]
    rfl
  exact ⟨h.rd _ e, h.cap _ e⟩
theorem ld_fault {w : World} {b : Nat} {x : Mv} (h : Cells w b (mvcs x)) : ∀ j v, x.f.cs[j]? = some v → w.cell? ⟨b, 2 + j, none⟩ = some v := by
  intro j v hj
  refine h (2 + j) v ?_
  have e : mvcs x = [.slice x.tr.1 x.tr.2.2.length x.tr.2.1, .int .i64 x.h] ++ x.f.cs := rfl
  rw [e, List.getElem?_append_right (by simp)]
  simpa using hj
abbrev exV (A : Option Addr) (n c : Nat) (i : Int) : Value := .func (.func 44) #[.agg (bcs A n c i).toArray] #[]
abbrev owV (A : Option Addr) (n c : Nat) (i : Int) : Value := .func (.func 42) #[.agg (bcs A n c i).toArray] #[]
section
variable (b : Nat) (A : Option Addr) (c : Nat) (t : List Nd) (T : Int) (md mu : Nat) (w0 : World)
def TmAt (f : Nat) : Prop :=
  ∀ (s : VS) (rows : List Tr) (n : Nd) (w : World) (D : List Chunk), UI t T s.under → 16385 ≤ s.under.length + f → DOk rows s →
    St w0 [] w (ChM b A t.length c T md mu s ++ (trows rows ++ D)) →
    Calls Tryd.prog 62 #[PB b, .agg n.cs.toArray] w fun e w' => ∃ (x : Mv) (s' : VS) (more : List Tr), e = .returned (VM x) ∧ x.md = (tmplS (nodeF t T f) t T s.ms n).2 ∧ s'.ms = (tmplS (nodeF t T f) t T s.ms n).1 ∧ DOk (rows ++ more) s' ∧ XOk (rows ++ more) x ∧
      St w0 [] w' (ChM b A t.length c T md mu s' ++ (trows (rows ++ more) ++ D))
def WhAt (f : Nat) : Prop :=
  ∀ (s : VS) (rows : List Tr) (i : Nat) (most : Int) (TA : Option Addr) (tc : Nat) (ahead : List Tr) (w : World) (D : List Chunk), i < t.length → UI t T s.under → 16385 ≤ s.under.length + f → DOk rows s → (∀ x ∈ ahead, x ∈ rows) → ahead.length ≤ 1 → most ≤ 16 →
    St w0 [] w (ChM b A t.length c T md mu s ++ (trows rows ++ (Ch.row TsE 43 TA tc ahead :: D))) →
    Calls Tryd.prog 43 #[PB b, exV A t.length c i, owV A t.length c i, .slice TA ahead.length tc, .int .i64 most] w fun e w' => ∃ (x : Mv) (s' : VS) (more : List Tr), e = .returned (VM x) ∧
      x.md = (wholeS (tmplS (nodeF t T f) t T) most (extS t i) (ownS t i) (ahead.map ts1) s.ms).2 ∧ s'.ms = (wholeS (tmplS (nodeF t T f) t T) most (extS t i) (ownS t i) (ahead.map ts1) s.ms).1 ∧ DOk (rows ++ more) s' ∧ XOk (rows ++ more) x ∧
      St w0 [] w' (ChM b A t.length c T md mu s' ++ (trows (rows ++ more) ++ D))
end
theorem nodeF_u (t : List Nd) (T : Int) (hT : T < t.length) (hl : t.length ≤ 16384) : ∀ (f : Nat) (s : MS) (i : Nat), UI t T s.under → (nodeF t T f s i).1.under = s.under
  | 0, s, i, _ => rfl
  | f + 1, s, i, hu => by
    rw [nodeF]
    split
    · rfl
    · refine wholeS_u (P := UI t T) (fun s n hs => ?_) _ _ _ _ _ hu
      unfold tmplS
      split
      · rfl
      rename_i q1
      split
      · rfl
      rename_i q2
      split
      · rfl
      · have hp := hs.push q2 (by omega)
        show adel n.text (nodeF t T f _ _).1.under = s.under
        rw [nodeF_u t T hT hl f (underS s n.text) _ hp.2]
        exact adel_aput hp.1
theorem tmplF_u {t : List Nd} {T : Int} (hT : T < t.length) (hl : t.length ≤ 16384) (f : Nat) {s : MS} (hs : UI t T s.under) (n : Nd) : (tmplS (nodeF t T f) t T s n).1.under = s.under := by
  unfold tmplS
  split
  · rfl
  rename_i q1
  split
  · rfl
  rename_i q2
  split
  · rfl
  · have hp := hs.push q2 (by omega)
    show adel n.text (nodeF t T f _ _).1.under = s.under
    rw [nodeF_u t T hT hl f (underS s n.text) _ hp.2]
    exact adel_aput hp.1
theorem extS_len {t : List Nd} {i : Nat} (hi : i < t.length) : (extS t i).1.length ≤ t.length := by
  have hb := findS_bd hi kExt
  unfold extS
  split
  · simp
  split
  · simp
  · have := (textsS_mem (t := t) (i := (findS t i kExt).toNat) (by omega)).2.2
    simpa using this
set_option maxHeartbeats 6400000 in
theorem whole_at (b : Nat) (A : Option Addr) (c : Nat) (t : List Nd) (T : Int) (md mu : Nat) (w0 : World) (f : Nat) (hr0 : Rd NdE w0 A t) (hcap : t.length ≤ c) (hl : t.length ≤ 16384) (hT : T < t.length) (hd : DepOk t) (hTm : TmAt b A c t T md mu w0 f) : WhAt b A c t T md mu w0 f := by
  intro s rows i most TA tc ahead w D hi hu hf hdo hah hal hmost hst
  have hst := hst.perm (permM (F := [Ch.row TsE 43 TA tc ahead]) (X := ChM b A t.length c T md mu s) (Y := trows rows) (D := D)).symm
  refine calls_of_Wp (vs := [_, _, _, _, _]) Tryd.func43 ?_
  refine Wp.seq (Wp.regionL (l := [0]) (WO.act (hc := rfl) (he := Ef.allocL (vs := (mvcs mv0)) hst (fun ba1 wa1 ka1 hsa1 => WO.done ?_))))
  have hex := ext_cx A c t i wa1 (hr0.keep hsa1.keep) hi (by omega) hd
  have e0 : (#[.agg (bcs A t.length c i).toArray] ++ ([] : List Value).toArray ++ #[] : Array Value) = #[.agg (bcs A t.length c i).toArray] := by simp
  unfold Cx at hex
  rw [show ([.agg (bcs A t.length c i).toArray] : List Value).toArray = #[.agg (bcs A t.length c i).toArray] from rfl, ← e0] at hex
  obtain ⟨ns, NF, hN⟩ : ∃ ns NF, extS t i = (ns, NF) := ⟨_, _, rfl⟩
  have hnl := extS_len hi
  unfold wholeS
  rw [hN] at hex hnl ⊢
  simp only at hex hnl ⊢
  refine Wp.seq (Wp.regionL (l := [0, 1, 2, 3, 4, 5, 6, 7]) (WO.rd (is := [0]) (js := [1, 2, 3, 4, 5, 6, 7]) (Keep.refl _) (Rn.s rfl Yv.mv (Rn.nil)) (WO.act (hc := rfl) (he := Ef.callb Tryd.func44 (Calls.mono hex ?_)))))
  rintro e w1 ⟨v, D1, rfl, ⟨NA, nc, rfl, rfl⟩, hp⟩
  have hs1 := hsa1.call0 hp
  refine WO.rd (is := [2, 3, 4]) (js := [5, 6, 7]) (Keep.refl _) (Rn.s rfl Yv.mv (Rn.s rfl Yv.ex (Rn.s rfl Yv.ex (Rn.nil)))) (WO.act (he := Ef.allocL (vs := ft0.cs) hs1 (fun b12 w2 k2 hs2 => WO.rd (is := [6]) (js := [7]) (Keep.refl _) (Rn.s rfl Yv.as (Rn.nil)) (WO.act (he := Ef.stores hs2 0 (fun w3 hs3 => WO.done ?_))))))
  have hst : St w0 [] w3 ([Ch.cells b12 27 NF.cs, Ch.row NdE 48 NA nc ns, Ch.cells ba1 98 (mvcs mv0), Ch.row TsE 43 TA tc ahead] ++ (ChM b A t.length c T md mu s ++ (trows rows ++ D))) := hs3
  clear hs1 hs2 hs3 hp hex hsa1
  have c12 := hst.cells 0
  refine Wp.seq (Wp.seq (Wp.reads (is := [0, 1, 2]) (Keep.refl _) (Rn.s rfl (Yv.fa (off := 0)) (Rn.s rfl (Yv.ld (c12.at_ 0)) (Rn.s rfl (Yv.cmp _ rfl) (Rn.nil)))) ?_))
  refine Wp.cond rfl (fun h => ?_) (fun h => ?_)
  · have h : NF.code ≠ 0 := bne_iff_ne.1 h
    refine Wp.seq (Wp.regionL (l := [0, 1, 2]) (WO.rd (is := [0, 1]) (js := [2]) (Keep.refl _) (Rn.s rfl (Yv.ldb c12) (Rn.s rfl (Yv.bd (cs := mvcs (mvF NF))) (Rn.nil))) (WO.act (hc := rfl) (he := Ef.stores hst 2 (fun wx1 hsx1 => WO.done ?_)))))
    refine Wp.ret (Fin.ret (resCA rfl rfl (hsx1.cells 0)) ⟨mvF NF, s, [], rfl, ?_, ?_, ?_, ⟨fun q => absurd q h, Int.le_refl 0, (by show (0 : Int) ≤ 1000000; decide)⟩, ?_⟩)
    · rw [if_pos h]; rfl
    · rw [if_pos h]
    · rw [List.append_nil]; exact hdo
    · rw [List.append_nil]
      exact hsx1.pickT (P := [_, _, _, _, _, _, _]) (T := trows rows ++ D) [4, 5, 6]
  have h : ¬ NF.code ≠ 0 := fun q => q (bne_eq_false_iff_eq.1 h)
  rw [if_neg h]
  obtain ⟨G, hG⟩ : ∃ G, G = loopS (tmplS (nodeF t T f) t T) most ns s.ms (ahead.map ts1) 1 := ⟨_, rfl⟩
  rw [← hG]
  refine Wp.skip (Wp.seq (Wp.regionL (l := [0, 1, 2]) (WO.rd (is := [0]) (js := [1, 2]) (Keep.refl _) (Rn.s rfl (Yv.bd (cs := mvcs ⟨(none, 0, []), 1, ft0⟩)) (Rn.nil)) (WO.act (hc := rfl) (he := Ef.allocL (vs := [.slice none 0 0, .int .i64 0, .int .i64 0, S [], .int .i64 0, .int .i64 0]) hst (fun bx1 wx1 kx1 hsx1 => WO.act (hc := rfl) (he := Ef.stores hsx1 0 (fun wx2 hsx2 => WO.done ?_))))))))
  have hst : St w0 [] wx2 ([Ch.cells bx1 98 (mvcs ⟨(none, 0, []), 1, ft0⟩), Ch.row NdE 48 NA nc ns, Ch.cells ba1 98 (mvcs mv0), Ch.row TsE 43 TA tc ahead] ++ (ChM b A t.length c T md mu s ++ (trows (rows ++ []) ++ D))) := by
    rw [List.append_nil]
    exact hsx2.pickT (P := [_, _, _, _, _, _, _, _]) (T := trows rows ++ D) [0, 2, 3, 4, 5, 6, 7]
  clear hsx1 hsx2 c12
  have hdo : DOk (rows ++ []) s := by rw [List.append_nil]; exact hdo
  have hah : ∀ x ∈ ahead, x ∈ rows ++ [] := by rw [List.append_nil]; exact hah
  refine Wp.seq (Wp.seq (Wp.reads (is := [0, 1, 2]) (Keep.refl _) (Rn.s rfl Yv.mv (Rn.s rfl (Yv.len_v (e := 48) (m := 8)) (Rn.s rfl Yv.mv (Rn.nil)))) ?_))
  refine Wp.block ?_
  refine Wp.loop (α := Nat) (fun k ρ ds w' => ds = [] ∧ k ≤ ns.length ∧ (∃ (s2 : VS) (more ah : List Tr) (TA : Option Addr) (tc : Nat) (h2 : Int), loopS (tmplS (nodeF t T f) t T) most (ns.drop k) s2.ms (ah.map ts1) h2 = G ∧ s2.under = s.under ∧ DOk (rows ++ more) s2 ∧ (∀ x ∈ ah, x ∈ rows ++ more) ∧ ah.length ≤ 1 + k ∧ 0 ≤ h2 ∧ h2 ≤ 1000000 ∧
      St w0 [] w' ([Ch.cells bx1 98 (mvcs ⟨(none, 0, []), h2, ft0⟩), Ch.row NdE 48 NA nc ns, Ch.cells ba1 98 (mvcs mv0), Ch.row TsE 43 TA tc ah] ++ (ChM b A t.length c T md mu s2 ++ (trows (rows ++ more) ++ D))) ∧
    Sub [(0, PB b), (2, owV A t.length c i), (3, .slice TA ah.length tc), (4, .int .i64 most), (10, PB ba1), (13, PB bx1), (30, .slice NA ns.length nc), (31, .int .i64 (ns.length : Int)), (32, .int .i64 (k : Int))] ρ)) (fun k => ns.length - k) 0
    ⟨rfl, Nat.zero_le _, ⟨s, [], ahead, TA, tc, 1, hG.symm, rfl, hdo, hah, by omega, by decide, by decide, hst, rfl, rfl, rfl, rfl, rfl, rfl, rfl, rfl, rfl, trivial⟩⟩ ?_
  clear hst hdo hah hal
  rintro k ρ ds w4 ⟨rfl, hk, s2, more, ah, TA, tc, h2, hv, hu2, hdo, hah, hal, hh0, hh1, hst, hsub⟩
  refine Wp.forget _ ?_ hsub
  clear hsub ρ
  refine Wp.seq (Wp.reads (is := [0]) (Keep.refl _) (Rn.s rfl (Yv.cmp _ rfl) (Rn.nil)) ?_)
  refine Wp.seq (Wp.cond rfl (fun h3 => ?_) (fun h3 => ?_))
  · have h3 := of_decide_eq_true h3
    have hkl : k < ns.length := by omega
    have hget : nth ns (k : Int) = ns[k] := nth_of (List.getElem?_eq_getElem hkl)
    have hrn := hst.rd 1
    refine Wp.skip (Wp.seq (Wp.block ?_))
    refine Wp.seq (Wp.regionL (l := [0, 1, 2, 3]) (WO.rd (is := [0, 1]) (js := [2, 3]) (Keep.refl _) (Rn.s rfl (Yv.ia (e := 48) hrn (by omega) (by omega)) (Rn.s rfl (Yv.ldel hrn rfl rfl (by omega) (by omega)) (Rn.nil))) (WO.act (hc := rfl) (he := Ef.allocL (vs := [.int .i64 0, .int .i64 0, S [], S [], S [], .int .i64 0, .int .i64 0, .int .i64 0]) hst (fun by1 wy1 ky1 hsy1 => WO.act (hc := rfl) (he := Ef.stores hsy1 0 (fun wy2 hsy2 => WO.done ?_)))))))
    rw [List.drop_eq_getElem_cons hkl, ← hget] at hv
    obtain ⟨n, hne⟩ : ∃ n, n = nth ns (k : Int) := ⟨_, rfl⟩
    rw [← hne] at hv
    have hst : St w0 [] wy2 ([Ch.cells by1 48 n.cs, Ch.cells bx1 98 (mvcs ⟨(none, 0, []), h2, ft0⟩), Ch.row NdE 48 NA nc ns, Ch.cells ba1 98 (mvcs mv0), Ch.row TsE 43 TA tc ah] ++ (ChM b A t.length c T md mu s2 ++ (trows (rows ++ more) ++ D))) := by rw [hne]; exact hsy2
    clear hsy1 hsy2 hrn
    have c15 := hst.cells 0
    have hsw := hst.perm (permM (F := [_, _, _, _, _]) (X := ChM b A t.length c T md mu s2) (Y := trows (rows ++ more)) (D := D))
    have hcall := hTm s2 (rows ++ more) n wy2 _ (by rw [hu2]; exact hu) (by rw [hu2]; exact hf) hdo hsw
    refine Wp.seq (Wp.regionL (l := [0, 1, 2, 3, 4]) (WO.rd (is := [0, 1]) (js := [2, 3, 4]) (Keep.refl _) (Rn.s rfl Yv.mv (Rn.s rfl (Yv.ldb c15) (Rn.nil))) (WO.act (hc := rfl) (he := Ef.callv Tryd.func62 (Calls.mono hcall ?_)))))
    rintro e w5 ⟨x, s3, more3, rfl, q1, q2, hdo3, hx3, hs5⟩
    have hs5 := hs5.perm (permM (F := [Ch.cells by1 48 n.cs, Ch.cells bx1 98 (mvcs ⟨(none, 0, []), h2, ft0⟩), Ch.row NdE 48 NA nc ns, Ch.cells ba1 98 (mvcs mv0), Ch.row TsE 43 TA tc ah]) (X := ChM b A t.length c T md mu s3) (Y := trows (rows ++ more ++ more3)) (D := D)).symm
    refine WO.act (he := Ef.allocL (vs := mvcs mv0) hs5 (fun b16 w6 k6 hs6 => WO.act (he := Ef.stores hs6 0 (fun w7 hs7 => WO.done ?_))))
    have hst : St w0 [] w7 (Ch.cells b16 98 (mvcs x) :: ([Ch.cells by1 48 n.cs, Ch.cells bx1 98 (mvcs ⟨(none, 0, []), h2, ft0⟩), Ch.row NdE 48 NA nc ns, Ch.cells ba1 98 (mvcs mv0), Ch.row TsE 43 TA tc ah] ++ (ChM b A t.length c T md mu s3 ++ (trows (rows ++ more ++ more3) ++ D)))) := hs7
    clear hs5 hs6 hs7 hsw hcall c15
    have c16 := hst.cells 0
    have c15 := hst.cells 1
    have hu3 : s3.under = s.under := by
      have := tmplF_u hT hl f (s := s2.ms) (by show UI t T s2.under; rw [hu2]; exact hu) n
      rw [← q2] at this
      exact this.trans hu2
    have efx : faultS most n x.md = if x.f.code = 0 ∧ most < x.h then placeS 93 n else x.f := rfl
    refine Wp.seq (Wp.mid (fun ρ ds w' => ds = [] ∧ St w0 [] w' (Ch.cells b16 98 (mvcs { x with f := faultS most n x.md }) :: ([Ch.cells by1 48 n.cs, Ch.cells bx1 98 (mvcs ⟨(none, 0, []), h2, ft0⟩), Ch.row NdE 48 NA nc ns, Ch.cells ba1 98 (mvcs mv0), Ch.row TsE 43 TA tc ah] ++ (ChM b A t.length c T md mu s3 ++ (trows (rows ++ more ++ more3) ++ D)))) ∧
      Sub [(0, PB b), (2, owV A t.length c i), (3, .slice TA ah.length tc), (4, .int .i64 most), (10, PB ba1), (13, PB bx1), (16, PB b16), (30, .slice NA ns.length nc), (31, .int .i64 (ns.length : Int)), (32, .int .i64 (k : Int))] ρ) ?_ ?_)
    · rw [efx]
      refine Wp.seq (Wp.reads (is := [0, 1, 2, 3, 4, 5, 6, 7, 8, 9]) (Keep.refl _) (Rn.s rfl (Yv.fa (off := 2)) (Rn.s rfl (Yv.fa (off := 0)) (Rn.s rfl (Yv.ld (c16.at_ 2)) (Rn.s rfl (Yv.cmp _ rfl) (Rn.s rfl Yv.mv (Rn.and (is := [5, 6, 7, 8, 9]) (js := []) (t := 43) (d := 48) (hg := rfl) (ht := fun h4 => have h4 := eq_of_beq h4; Rn.s rfl (Yv.fa (off := 1)) (Rn.s rfl (Yv.ld (c16.at_ 1)) (Rn.s rfl Yv.mv (Rn.s rfl (Yv.cmp _ rfl) (Rn.s rfl Yv.pick_t ((Rn.e 5 rfl rfl))))))) (hf := fun _ => Rn.no rfl (Rn.no rfl (Rn.no rfl (Rn.no rfl (Rn.s rfl Yv.pick_f (Rn.e 5 rfl rfl)))))) (k := Rn.nil))))))) ?_)
      refine Wp.cond rfl (fun h4 => ?_) (fun h4 => ?_)
      · have h4 : x.f.code = 0 ∧ most < x.h := by simpa using h4
        refine Wp.regionL (l := [0, 1, 2, 3]) (WO.rd (is := [0]) (js := [1, 2, 3]) (Keep.refl _) (Rn.s rfl (Yv.ldb c15) (Rn.nil)) (WO.cv rfl (place_cv 93 n _) (Keep.refl _) (FnOk.of Tryd.func40) (fun wz1 kz1 => WO.rd (is := [2]) (js := [3]) ((Keep.refl _).trans kz1) (Rn.s rfl (Yv.fa (off := 2)) (Rn.nil)) (WO.act (hc := rfl) (he := Ef.stores (hst.quiet kz1) 0 (fun wz2 hsz2 => WO.done ?_))))))
        rw [if_pos h4]
        exact ⟨rfl, hsz2, rfl, rfl, rfl, rfl, rfl, rfl, rfl, rfl, rfl, rfl, trivial⟩
      · have h4 : ¬ (x.f.code = 0 ∧ most < x.h) := by
          intro q
          simp [q.1, q.2] at h4
        refine Wp.skip ?_
        rw [if_neg h4]
        exact ⟨rfl, hst, rfl, rfl, rfl, rfl, rfl, rfl, rfl, rfl, rfl, rfl, trivial⟩
    clear hst c16 c15
    rintro ρ ds w8 ⟨rfl, hst, hsub⟩
    refine Wp.forget _ ?_ hsub
    clear hsub ρ
    obtain ⟨R, hR⟩ : ∃ R, R = faultS most n x.md := ⟨_, rfl⟩
    rw [loopS, ← q1, ← q2, ← hR] at hv
    rw [← hR] at hst
    have c16 := hst.cells 0
    have c13 := hst.cells 2
    refine Wp.seq (Wp.seq (Wp.reads (is := [0, 1, 2, 3]) (Keep.refl _) (Rn.s rfl (Yv.fa (off := 2)) (Rn.s rfl (Yv.fa (off := 0)) (Rn.s rfl (Yv.ld (c16.at_ 2)) (Rn.s rfl (Yv.cmp _ rfl) (Rn.nil))))) ?_))
    refine Wp.cond rfl (fun h4 => ?_) (fun h4 => ?_)
    · have h4 : R.code ≠ 0 := bne_iff_ne.1 h4
      rw [if_pos h4] at hv
      refine Wp.seq (Wp.regionL (l := [0, 1, 2, 3]) (WO.rd (is := [0, 1, 2]) (js := [3]) (Keep.refl _) (Rn.s rfl (Yv.fa (off := 2)) (Rn.s rfl (Yv.lds (vs := R.cs) rfl (ld_fault c16)) (Rn.s rfl (Yv.bd (cs := mvcs (mvF R))) (Rn.nil)))) (WO.act (hc := rfl) (he := Ef.stores hst 4 (fun wz1 hsz1 => WO.done ?_)))))
      refine Wp.ret (Fin.ret (resCA rfl rfl (hsz1.cells 0)) ⟨mvF R, s3, more ++ more3, rfl, ?_, ?_, ?_, ⟨fun q => absurd q h4, Int.le_refl 0, (by show (0 : Int) ≤ 1000000; decide)⟩, ?_⟩)
      · rw [← hv, if_pos h4]; rfl
      · rw [← hv, if_pos h4]
      · rw [← List.append_assoc rows more more3]; exact hdo3
      · rw [← List.append_assoc rows more more3]
        exact hsz1.pickT (P := [_, _, _, _, _, _, _, _, _]) (T := trows (rows ++ more ++ more3) ++ D) [6, 7, 8]
    have h4 : R.code = 0 := bne_eq_false_iff_eq.1 h4
    rw [if_neg (fun q => q h4)] at hv
    have hx0 : x.f.code = 0 ∧ x.h ≤ most := by
      rw [hR, efx] at h4
      by_cases q : x.f.code = 0 ∧ most < x.h
      · rw [if_pos q] at h4; cases h4
      · rw [if_neg q] at h4
        refine ⟨h4, ?_⟩
        rw [not_and] at q
        have := q h4
        omega
    have hxh := hx3.h0
    obtain ⟨h5, hh5⟩ : ∃ h5 : Int, h5 = if x.h + 1 > h2 then x.h + 1 else h2 := ⟨_, rfl⟩
    refine Wp.skip (Wp.seq (Wp.regionL (l := [0, 1, 2, 3, 4, 5, 6, 7]) (WO.rd (is := [0, 1, 2, 3, 4, 5, 6]) (js := [7]) (Keep.refl _) (Rn.s rfl (Yv.fa (off := 1)) (Rn.s rfl (Yv.ld (c13.at_ 1)) (Rn.s rfl (Yv.fa (off := 1)) (Rn.s rfl (Yv.ld (c16.at_ 1)) (Rn.s rfl (Yv.add (by unfold inI; show -9223372036854775808 ≤ x.h + 1 ∧ x.h + 1 ≤ 9223372036854775807; omega)) (Rn.s rfl (Yv.max2 h5 hh5.symm) (Rn.s rfl (Yv.fa (off := 1)) (Rn.nil)))))))) (WO.act (hc := rfl) (he := Ef.store hst 2 (fun wz1 hsz1 => WO.done ?_))))))
    have hst : St w0 [] wz1 ([Ch.cells bx1 98 (mvcs ⟨(none, 0, []), h5, ft0⟩), Ch.cells b16 98 (mvcs { x with f := R }), Ch.row NdE 48 NA nc ns, Ch.cells ba1 98 (mvcs mv0), Ch.row TsE 43 TA tc ah] ++ (ChM b A t.length c T md mu s3 ++ (trows (rows ++ more ++ more3) ++ D))) :=
      hsz1.pickT (P := [_, _, _, _, _, _, _, _, _]) (T := trows (rows ++ more ++ more3) ++ D) [0, 1, 3, 4, 5, 6, 7, 8]
    clear hsz1 c16 c13
    have c16 := hst.cells 1
    refine Wp.regionL (l := [0, 1, 2, 3, 4, 5]) (WO.rd (is := [0, 1, 2]) (js := [3, 4, 5]) (Keep.refl _) (Rn.s rfl Yv.mv (Rn.s rfl (Yv.fa (off := 0)) (Rn.s rfl (Yv.ld (c16.at_ 0)) (Rn.nil)))) (WO.app TsE [x.tr] rfl (fun _ => rfl) hst 4 (.inl (by simp only [List.length_cons, List.length_nil]; omega)) (fun bu1 Au1 cu1 wu1 hsu1 => WO.rd (is := [5]) (js := []) (Keep.refl _) (Rn.s rfl Yv.as (Rn.nil)) (WO.done ?_))))
    refine Wp.reads (is := [0, 1]) (Keep.refl _) (Rn.s rfl (Yv.add (by unfold inI; omega)) (Rn.s rfl Yv.mv (Rn.nil))) ?_
    have hv5 : (if x.md.height + 1 > h2 then x.md.height + 1 else h2) = h5 := hh5.symm
    rw [hv5] at hv
    refine ⟨k + 1, ⟨rfl, by omega, ⟨s3, more ++ more3, ah ++ [x.tr], Au1, cu1, h5, ?_, hu3, ?_, ?_, ?_, ?_, ?_, ?_, rfl, rfl, ?_, rfl, rfl, rfl, rfl, rfl, rfl, trivial⟩⟩, by omega⟩
    · rw [List.map_append]; exact hv
    · rw [← List.append_assoc rows more more3]; exact hdo3
    · intro y hy
      rw [← List.append_assoc rows more more3]
      rcases List.mem_append.1 hy with hy | hy
      · exact List.mem_append_left _ (hah y hy)
      · rw [List.mem_singleton.1 hy]; exact hx3.tr hx0.1
    · simp; omega
    · rw [hh5]; split <;> omega
    · rw [hh5]; split <;> omega
    · rw [← List.append_assoc rows more more3]
      exact hsu1.pickT (P := [_, _, _, _, _, _, _, _]) (T := trows (rows ++ more ++ more3) ++ D) [1, 3, 4, 0, 5, 6, 7]
    · rw [List.length_append]; rfl
  have h3 := of_decide_eq_false h3
  rw [List.drop_eq_nil_of_le (by omega), loopS] at hv
  rw [← hv]
  refine Wp.exit ?_
  rw [if_neg (show ¬ (Lp.mk s2.ms ft0 (ah.map ts1) h2).f.code ≠ 0 from fun q => q rfl)]
  show Wp _ _ _ _ _ _ _ _
  have how := own_cx A c t i w4 (hr0.keep hst.keep) hcap (by omega)
  unfold Cx at how
  rw [show ([.agg (bcs A t.length c i).toArray] : List Value).toArray = #[.agg (bcs A t.length c i).toArray] from rfl, ← e0] at how
  refine Wp.seq (Wp.regionL (l := [0, 1, 2, 3, 4, 5, 6, 7, 8, 9, 10]) (WO.rd (is := [0, 1]) (js := [2, 3, 4, 5, 6, 7, 8, 9, 10]) (Keep.refl _) (Rn.s rfl Yv.mv (Rn.s rfl Yv.mv (Rn.nil))) (WO.act (hc := rfl) (he := Ef.callb Tryd.func42 (Calls.mono how ?_)))))
  rintro e w5 ⟨v, D1, rfl, ⟨WA, wc, rfl, rfl⟩, hp⟩
  have hs5 := hst.call0 hp
  have hs5 : St w0 [] w5 (Ch.row NdE 48 WA wc (ownS t i) :: ([Ch.cells bx1 98 (mvcs ⟨(none, 0, []), h2, ft0⟩), Ch.row NdE 48 NA nc ns, Ch.cells ba1 98 (mvcs mv0), Ch.row TsE 43 TA tc ah] ++ (ChM b A t.length c T md mu s2 ++ (trows (rows ++ more) ++ D)))) := hs5
  refine WO.act (hc := rfl) (he := Ef.bsl (T := 43) TsE [((WA, wc, ownS t i) : Tr)] hs5 (fun b6 w6 k6 hs6 => ?_))
  refine WO.act (hc := rfl) (he := Ef.append (ys := [((WA, wc, ownS t i) : Tr)]) hs6 5 (hs6.rd 0) (by simp) (.inl (by simp only [List.length_cons, List.length_nil]; omega)) (fun TA7 tc7 w7 hs7 => ?_))
  have hst : St w0 [] w7 ([Ch.row TsE 43 TA7 tc7 (ah ++ [((WA, wc, ownS t i) : Tr)]), Ch.row NdE 48 WA wc (ownS t i), Ch.cells bx1 98 (mvcs ⟨(none, 0, []), h2, ft0⟩), Ch.cells ba1 98 (mvcs mv0), Ch.cells b 96 (mkcs A t.length c T md mu), Ch.mp KyS VM md s2.done, Ch.mp KyS VI mu s2.under] ++ (trows (rows ++ more) ++ D)) :=
    hs7.pickT (P := [_, _, _, _, _, _, _, _, _]) (T := trows (rows ++ more) ++ D) [0, 2, 3, 5, 6, 7, 8]
  clear hs5 hs6 hs7 hp how
  have hok : ∀ y ∈ ah ++ [((WA, wc, ownS t i) : Tr)], TrOk w7 y := by
    intro y hy
    rcases List.mem_append.1 hy with hy | hy
    · exact st_trok (D := [_, _, _, _, _, _, _]) hst y (hah y hy)
    · rw [List.mem_singleton.1 hy]
      exact ⟨hst.rd 1, hst.cap 1⟩
  have hmg := merge_cx TA7 tc7 (ah ++ [((WA, wc, ownS t i) : Tr)]) w7 (hst.rd 0) (hst.cap 0) (by simp; omega) hok
  have em : (ah ++ [((WA, wc, ownS t i) : Tr)]).map ts1 = ah.map ts1 ++ [ownS t i] := by rw [List.map_append]; rfl
  rw [em] at hmg
  obtain ⟨Z, ze, hZ⟩ : ∃ Z ze, mergeS (ah.map ts1 ++ [ownS t i]) = (Z, ze) := ⟨_, _, rfl⟩
  rw [hZ] at hmg
  simp only at hmg
  refine WO.act (hc := rfl) (he := Ef.cx hmg hst (FnOk.of Tryd.func30) ?_)
  rintro v D w8 ⟨ZA, zc, rfl, rfl⟩ hs8
  refine WO.rd (is := [6, 7, 8, 9, 10]) (js := []) (Keep.refl _) (Rn.s rfl Yv.mv (Rn.s rfl Yv.ex (Rn.s rfl Yv.ex (Rn.s rfl Yv.as (Rn.s rfl Yv.as (Rn.nil)))))) (WO.done ?_)
  have hst : St w0 [] w8 ([Ch.cells bx1 98 (mvcs ⟨(none, 0, []), h2, ft0⟩), Ch.cells ba1 98 (mvcs mv0), Ch.row NdE 48 ZA zc Z, Ch.cells b 96 (mkcs A t.length c T md mu), Ch.mp KyS VM md s2.done, Ch.mp KyS VI mu s2.under] ++ (trows (rows ++ more) ++ D)) :=
    St.pickT (P := [_, _, _, _, _, _, _, _]) (T := trows (rows ++ more) ++ D) hs8 [3, 4, 0, 5, 6, 7]
  clear hs8 hmg hok
  refine Wp.seq (Wp.regionL (l := [0, 1, 2, 3, 4, 5, 6]) (WO.rd (is := [0, 1, 2]) (js := [3, 4, 5, 6]) (Keep.refl _) (Rn.s rfl Yv.mv (Rn.s rfl Yv.mv (Rn.s rfl (Yv.fa (off := 0)) (Rn.nil)))) (WO.act (he := Ef.store hst 0 (fun w9 hs9 => ?_)))))
  have hst : St w0 [] w9 (Ch.cells bx1 98 (mvcs ⟨(ZA, zc, Z), h2, ft0⟩) :: ([Ch.cells ba1 98 (mvcs mv0), Ch.row NdE 48 ZA zc Z, Ch.cells b 96 (mkcs A t.length c T md mu), Ch.mp KyS VM md s2.done, Ch.mp KyS VI mu s2.under] ++ (trows (rows ++ more) ++ D))) := hs9
  clear hs9
  refine WO.rd (is := [4, 5]) (js := [6]) (Keep.refl _) (Rn.s rfl (Yv.fa (off := 2)) (Rn.s rfl (Yv.fa (off := 0)) (Rn.nil))) (WO.act (he := Ef.store hst 0 (fun w10 hs10 => WO.done ?_)))
  have hst : St w0 [] w10 (Ch.cells bx1 98 (mvcs ⟨(ZA, zc, Z), h2, ⟨ze, [], 0, 0⟩⟩) :: ([Ch.cells ba1 98 (mvcs mv0), Ch.row NdE 48 ZA zc Z, Ch.cells b 96 (mkcs A t.length c T md mu), Ch.mp KyS VM md s2.done, Ch.mp KyS VI mu s2.under] ++ (trows (rows ++ more) ++ D))) := hs10
  clear hs10
  have c13 := hst.cells 0
  refine Wp.seq (Wp.regionL (l := [0, 1]) (WO.rd (is := [0]) (js := [1]) (Keep.refl _) (Rn.s rfl (Yv.ldb c13) (Rn.nil)) (WO.act (hc := rfl) (he := Ef.stores hst 1 (fun wz1 hsz1 => WO.done ?_)))))
  have hx : XOk (rows ++ (more ++ [((ZA, zc, Z) : Tr)])) ⟨(ZA, zc, Z), h2, ⟨ze, [], 0, 0⟩⟩ := ⟨fun _ => by simp, hh0, hh1⟩
  refine Wp.ret (Fin.ret (resCA rfl rfl (hsz1.cells 0)) ⟨⟨(ZA, zc, Z), h2, ⟨ze, [], 0, 0⟩⟩, s2, more ++ [((ZA, zc, Z) : Tr)], rfl, ?_, rfl, ?_, hx, ?_⟩)
  · show Md.mk Z h2 ⟨ze, [], 0, 0⟩ = ⟨(mergeS (ah.map ts1 ++ [ownS t i])).1, h2, ⟨(mergeS (ah.map ts1 ++ [ownS t i])).2, [], 0, 0⟩⟩
    rw [hZ]
  · intro p hp
    rw [← List.append_assoc rows more]
    exact (hdo p hp).more _
  · have h9 := hsz1.pickT (P := [_, _, _, _, _, _]) (T := trows (rows ++ more) ++ D) [3, 4, 5, 2]
    have h9 : St w0 [] _ (ChM b A t.length c T md mu s2 ++ (trow (ZA, zc, Z) :: (trows (rows ++ more) ++ D))) := h9
    have h10 := h9.perm ((List.perm_middle (l₁ := trows (rows ++ more)) (l₂ := D) (a := trow (ZA, zc, Z))).symm.append_left (ChM b A t.length c T md mu s2))
    have e7 : trows (rows ++ (more ++ [((ZA, zc, Z) : Tr)])) ++ D = trows (rows ++ more) ++ (trow (ZA, zc, Z) :: D) := by unfold trows; simp
    rw [e7]
    exact h10
end Go.Proofs.YtgjhbapbomdpbaaDoor.C
