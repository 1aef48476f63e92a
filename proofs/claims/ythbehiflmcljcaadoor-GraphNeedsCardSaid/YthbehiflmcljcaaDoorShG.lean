/- A walk over the model's code with a small environment (generic: over any program). Part G: maps as lists of pairs. -/
import Derived.Test.YthbehiflmcljcaaDoorShF
import Derived.MapKept
import Derived.Carry
set_option linter.unusedVariables false
set_option linter.unusedSimpArgs false
set_option linter.unusedSectionVars false
namespace Go.Proofs.YthbehiflmcljcaaDoor.Sh
open Go.RowKit Go.MapKept

/-! ### 1. Lists of pairs -/
section
variable {κ β : Type} [DecidableEq κ]
def alook (k : κ) : List (κ × β) → Option β
  | [] => none
  | (a, v) :: l => if a = k then some v else alook k l
def aput (k : κ) (v : β) : List (κ × β) → List (κ × β)
  | [] => [(k, v)]
  | (a, u) :: l => if a = k then (k, v) :: l else (a, u) :: aput k v l
def adel (k : κ) : List (κ × β) → List (κ × β)
  | [] => []
  | (a, u) :: l => if a = k then l else (a, u) :: adel k l
theorem alook_aput (k k' : κ) (v : β) (l : List (κ × β)) : alook k' (aput k v l) = if k = k' then some v else alook k' l := by
  induction l with
  | nil => simp [aput, alook]
  | cons p l ih =>
    obtain ⟨a, u⟩ := p
    simp only [aput]
    by_cases h : a = k
    · subst h
      simp only [if_true, alook]
      split <;> rfl
    · rw [if_neg h]
      simp only [alook, ih]
      by_cases h1 : a = k'
      · subst h1
        have h' : ¬ k = a := fun e => h e.symm
        simp [h']
      · simp [h1]
end

/-! ### 2. Kinds of keys -/
structure Ky (κ : Type) where
  d : TypeDesc
  enc : κ → Value
  isk : ∀ a, IsKey d (enc a)
  inj : ∀ a b, enc a = enc b → a = b
abbrev KyS : Ky Bs := ⟨.string, S, fun _ => trivial, fun _ _ h => S_inj h⟩
abbrev KyI : Ky Int := ⟨.int .i64, .int .i64, fun _ => rfl, fun _ _ h => by injection h⟩
def mapB (P : Program) (t : TypeId) (d : TypeDesc) : Bool := match P.underlying t with
  | some (.map k _) => match P.underlying k, d with
    | some .string, .string => true
    | some (.int .i64), .int .i64 => true
    | _, _ => false
  | _ => false
theorem mapB_of {P : Program} {t : TypeId} {d : TypeDesc} (h : mapB P t d = true) : ∃ k e, P.underlying t = some (.map k e) ∧ P.underlying k = some d := by
  unfold mapB at h
  cases hd : P.underlying t with
  | none => rw [hd] at h; cases h
  | some x =>
    rw [hd] at h
    cases x with
    | map k e =>
      refine ⟨k, e, rfl, ?_⟩
      simp only at h
      cases hk : P.underlying k with
      | none => rw [hk] at h; cases h
      | some y =>
        rw [hk] at h
        cases y with
        | string => cases d <;> first | rfl | cases h
        | int kd =>
          cases kd <;> cases d <;> try cases h
          rename_i kd2
          cases kd2 <;> first | rfl | cases h
        | _ => cases h
    | _ => cases h
def zeroOf (P : Program) (t : TypeId) : Option Value := match P.underlying t with
  | some (.map _ e) => (P.info? e).bind (·.zero)
  | _ => none

/-! ### 3. A map's block -/
section
variable {κ β : Type} [DecidableEq κ] {Y : Ky κ} {V : β → Value}
def Ch.mp (Y : Ky κ) (V : β → Value) (b : Nat) (l : List (κ × β)) : Chunk :=
  ⟨[b], fun w => ∃ es clock, w.heap[b]? = some (.map es clock) ∧ es.toList.map (fun e => (e.key, e.val)) = l.map (fun p => (Y.enc p.1, V p.2)), fun w w' h ⟨es, clock, h1, h2⟩ => ⟨es, clock, (h b (by simp)).trans h1, h2⟩⟩
theorem keys_ok {es : Array MapEntry} {l : List (κ × β)} (h : es.toList.map (fun e => (e.key, e.val)) = l.map (fun p => (Y.enc p.1, V p.2))) : ∀ x ∈ es.toList, IsKey Y.d x.key := by
  intro x hx
  have : (x.key, x.val) ∈ l.map (fun p => (Y.enc p.1, V p.2)) := h ▸ List.mem_map.2 ⟨x, hx, rfl⟩
  obtain ⟨p, _, hp⟩ := List.mem_map.1 this
  injection hp with h1 h2
  rw [← h1]
  exact Y.isk _
theorem findNow_list (k : κ) : ∀ (es : List MapEntry) (l : List (κ × β)) (i : Nat), es.map (fun e => (e.key, e.val)) = l.map (fun p => (Y.enc p.1, V p.2)) →
    (alook k l = none ∧ Instr.findNow Y.d (Y.enc k) es i = some none ∧ aput k (β := β) = aput k ∧ (∀ x ∈ es, x.key ≠ Y.enc k) ∧ (∀ v : β, aput k v l = l ++ [(k, v)]) ∧ adel k l = l) ∨
    (∃ j v e, alook k l = some v ∧ Instr.findNow Y.d (Y.enc k) es i = some (some (i + j, V v)) ∧ es[j]? = some e ∧ e.key = Y.enc k ∧ (∀ u : β, aput k u l = l.set j (k, u)) ∧ adel k l = l.eraseIdx j)
  | [], [], i, _ => .inl ⟨rfl, rfl, rfl, by simp, fun _ => rfl, rfl⟩
  | [], _ :: _, i, h => by simp at h
  | _ :: _, [], i, h => by simp at h
  | e :: es, (a, u) :: l, i, h => by
    simp only [List.map_cons, List.cons.injEq, Prod.mk.injEq] at h
    obtain ⟨⟨h1, h2⟩, h3⟩ := h
    obtain ⟨r, hr, hiff⟩ := sameNow_of_keys (Y.isk k) (h1 ▸ Y.isk a : IsKey Y.d e.key)
    by_cases hak : a = k
    · subst hak
      have : r = true := hiff.2 (by rw [h1])
      subst this
      refine .inr ⟨0, u, e, by simp [alook], ?_, rfl, h1, fun _ => by simp [aput], by simp [adel]⟩
      simp [Instr.findNow, hr, h2]
    · have : r = false := by
        cases r with
        | false => rfl
        | true => exact absurd (Y.inj _ _ (by rw [← h1]; exact (hiff.1 rfl).symm)) hak
      subst this
      rcases findNow_list k es l (i + 1) h3 with ⟨q1, q2, q3, q4, q5, q6⟩ | ⟨j, v, e', q1, q2, q3, q4, q5, q6⟩
      · refine .inl ⟨by simp [alook, hak, q1], by simp [Instr.findNow, hr, q2], rfl, ?_, fun v => by simp [aput, hak, q5], by simp [adel, hak, q6]⟩
        intro x hx
        rcases List.mem_cons.1 hx with rfl | hx
        · rw [h1]; exact fun e => hak (Y.inj _ _ e)
        · exact q4 x hx
      · refine .inr ⟨j + 1, v, e', by simp [alook, hak, q1], ?_, by simpa using q3, q4, fun u' => by simp [aput, hak, q5], by simp [adel, hak, q6]⟩
        rw [show i + (j + 1) = i + 1 + j by omega]
        simp [Instr.findNow, hr, q2]
variable {P : Program} {w : World} {b : Nat} {l : List (κ × β)}
theorem run_look {t : TypeId} (ht : mapB P t Y.d = true) (h : (Ch.mp Y V b l).ok w) (k : κ) (z : β) (hz : zeroOf P t = some (V z)) (ok : Bool) :
    (Instr.lookup t (.map (some b)) (Y.enc k) ok).run P w = .ok (if ok then .tuple #[V ((alook k l).getD z), .bool (alook k l).isSome] else V ((alook k l).getD z)) w := by
  obtain ⟨kt, et, hm, hk⟩ := mapB_of ht
  obtain ⟨es, clock, hb, hl⟩ := h
  have hz' : (zeroValue et).run P w = .ok (V z) w := by
    simp only [zeroOf, hm] at hz
    obtain ⟨i, hi, hi'⟩ := Option.bind_eq_some_iff.1 hz
    simp [zeroValue, typeInfo, hi, hi']
  rcases findNow_list (Y := Y) (V := V) k es.toList l 0 hl with ⟨q1, q2, -⟩ | ⟨j, v, e, q1, q2, -⟩
  · simp [Instr.lookup, run_underlying hm, MapKept.run_getObj_map hb, run_checkKey hk (Y.isk k), run_findKey hk q2, Result.andThen, hz', q1]
  · simp [Instr.lookup, run_underlying hm, MapKept.run_getObj_map hb, run_checkKey hk (Y.isk k), run_findKey hk q2, Result.andThen, q1]
theorem run_mapput {t : TypeId} (ht : mapB P t Y.d = true) (h : (Ch.mp Y V b l).ok w) (k : κ) (v : β) :
    ∃ w', (Instr.mapUpdate t (.map (some b)) (Y.enc k) (V v)).run P w = .ok () w' ∧ (Ch.mp Y V b (aput k v l)).ok w' ∧ Chg [b] w w' ∧ w'.heap.size = w.heap.size := by
  obtain ⟨kt, et, hm, hk⟩ := mapB_of ht
  obtain ⟨es, clock, hb, hl⟩ := h
  have chg : ∀ o, Chg [b] w { w with heap := w.heap.setIfInBounds b o } := fun o => ⟨rfl, rfl, rfl, by simp, fun x hx hn => (heap_set hb).2 x (by simpa using hn)⟩
  rcases findNow_list (Y := Y) (V := V) k es.toList l 0 hl with ⟨q1, q2, q3, q4, q5, q6⟩ | ⟨j, u, e, q1, q2, q3, q4, q5, q6⟩
  · refine ⟨{ w with heap := w.heap.setIfInBounds b (.map (es.push ⟨Y.enc k, V v, clock⟩) (clock + 1)) }, ?_, ⟨_, _, (heap_set hb).1, ?_⟩, chg _, by simp⟩
    · simp [Instr.mapUpdate, run_underlying hm, MapKept.run_getObj_map hb, run_checkKey hk (Y.isk k), run_findKey hk q2, MapKept.run_setObj_map _ hb, Result.andThen]
    · rw [q5]
      simp [hl]
  · have hj : es[j]? = some e := by simpa using q3
    refine ⟨{ w with heap := w.heap.setIfInBounds b (.map (es.modify j (fun e' => { e' with key := Y.enc k, val := V v })) clock) }, ?_, ⟨_, _, (heap_set hb).1, ?_⟩, chg _, by simp⟩
    · simp [Instr.mapUpdate, run_underlying hm, MapKept.run_getObj_map hb, run_checkKey hk (Y.isk k), run_findKey hk q2, hj, q4, run_keyThatStays (Y.isk k), MapKept.run_setObj_map _ hb, Result.andThen]
    · rw [q5, List.map_set, ← hl, Array.toList_modify]
      apply List.ext_getElem?
      intro i
      simp only [List.getElem?_map, List.getElem?_modify, List.getElem?_set, List.length_map]
      by_cases hij : j = i
      · subst hij
        have : j < es.toList.length := (List.getElem?_eq_some_iff.1 q3).1
        simp [q3, this]
        have := (Array.getElem?_eq_some_iff.1 hj).1
        omega
      · simp [hij]
/-! ### 4. Operations on maps -/
variable {r : Option Nat} {N : Nat} {ρ : Env} {ds : List Deferred} {w0 : World} {M : List Nat} {D : List Chunk} {K : Env → World → Prop} {Q : Post} {dst : Option Nat}
theorem mp_keep {w' : World} (k : Keep w w') (h : (Ch.mp Y V b l).ok w) : (Ch.mp Y V b l).ok w' := by
  obtain ⟨es, clock, h1, h2⟩ := h
  exact ⟨es, clock, k.blk h1, h2⟩
theorem Yv.look {t : TypeId} {x y : Operand} {k : κ} (h : (Ch.mp Y V b l).ok w) (z : β) (ht : mapB P t Y.d = true := by kernel_rfl) (hz : zeroOf P t = some (V z) := by kernel_rfl) :
    Yv P w (.lookup t x y false) [.map (some b), Y.enc k] (V ((alook k l).getD z)) :=
  Yv.mk2 (x := x) (y := y) (by simp) rfl fun o e w' hop hx hy hk => by
    have := run_look (P := P) ht (mp_keep (hk rfl) h) k z hz false
    simp [execOp, hop, hx, hy, this]
theorem Yv.look2 {t : TypeId} {x y : Operand} {k : κ} (h : (Ch.mp Y V b l).ok w) (z : β) (ht : mapB P t Y.d = true := by kernel_rfl) (hz : zeroOf P t = some (V z) := by kernel_rfl) :
    Yv P w (.lookup t x y true) [.map (some b), Y.enc k] (.tuple #[V ((alook k l).getD z), .bool (alook k l).isSome]) :=
  Yv.mk2 (x := x) (y := y) (by simp) rfl fun o e w' hop hx hy hk => by
    have := run_look (P := P) ht (mp_keep (hk rfl) h) k z hz true
    simp [execOp, hop, hx, hy, this]
theorem Ef.makeMap {t : TypeId} (Y : Ky κ) (V : β → Value) (h : St w0 M w D) (k : ∀ b w', Keep w w' → St w0 M w' (Ch.mp Y V b [] :: D) → K (putE ρ dst (.map (some b))) w') : Ef r P N dst (.makeMap t none) [] ρ ds w K Q :=
  Ef.of_run (v := .map (some w.heap.size)) (w' := w.alloc (.map #[] 0)) (by simp)
    (fun o e ho hv => by simp [execOp, ho, run_makeMap]) (k _ _ (Keep.alloc _ _) (h.new (Keep.alloc _ _) ⟨#[], 0, heap_alloc_new w _, rfl⟩ (fun x hx => by simp [Ch.mp] at hx; subst hx; simp)))
theorem Ef.mapput {t : TypeId} {x y z : Operand} {key : κ} {v : β} (h : St w0 M w D) (i : Nat) (k : ∀ w', St w0 M w' (Ch.mp Y V b (aput key v l) :: D.eraseIdx i) → K (putE ρ dst undef) w')
    (hC : D[i]? = some (Ch.mp Y V b l) := by rfl) (ht : mapB P t Y.d = true := by kernel_rfl) : Ef r P N dst (.mapUpdate t x y z) [.map (some b), Y.enc key, V v] ρ ds w K Q := by
  have hp := h.pull i hC
  obtain ⟨w', hr, hok, hk, hs⟩ := run_mapput (P := P) ht (hp.at_ 0) key v
  refine Ef.of_skip (w' := w') (by simp) (fun o e ho he => ?_) (k w' (hp.upd hk hok ?_))
  · have h2 : e x = .map (some b) ∧ e y = Y.enc key ∧ e z = V v := by simpa [Op.operands] using he
    simp [execOp, ho, h2.1, h2.2.1, h2.2.2, hr]
  · intro x hx
    refine ⟨.inl hx, ?_⟩
    have := (hp.rng _ (List.mem_cons_self ..) x hx).2
    omega
end
end Go.Proofs.YthbehiflmcljcaaDoor.Sh
