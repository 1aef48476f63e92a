/- A walk over the model's code with a small environment (generic: over any program). Part E: regions whose order of evaluation is drawn: what only reads may be taken first. -/
import Derived.Test.YthbehiflmcljcaaDoorShD
set_option linter.unusedVariables false
set_option linter.unusedSimpArgs false
namespace Go.Proofs.YthbehiflmcljcaaDoor.Sh
open Go.RowKit

/-- in every world that keeps w0 (if the operation looks at memory), from the frame a, the operation leaves v (or is passed over) -/
def Hv (P : Program) (ops : Array Oper) (w0 : World) (o : Oper) (v : Value) (a : Act) : Prop :=
  (Region.wanted o (yielded ops a.tmps) = true ∧ ∀ w', (rdm o.op = true → Keep w0 w') → (execOp a.eval o).run P w' = .ok (.value v) w') ∨ (Region.wanted o (yielded ops a.tmps) = false ∧ v = undef)
def calmOp (o : Oper) : Bool := match o.op with | .select .. | .defer _ => false | _ => true
theorem calmOp_sel {o : Oper} (h : calmOp o = true) : ∀ cs b, o.op ≠ .select cs b := fun cs b e => by simp [calmOp, e] at h
theorem calmOp_def {o : Oper} (h : calmOp o = true) : ∀ c, o.op ≠ .defer c := fun c e => by simp [calmOp, e] at h
theorem Hv.same {P : Program} {ops : Array Oper} {w0 : World} {o : Oper} {v : Value} {a a' : Act} (h : Hv P ops w0 o v a) (he : execOp a'.eval o = execOp a.eval o) (hw : Region.wanted o (yielded ops a'.tmps) = Region.wanted o (yielded ops a.tmps)) : Hv P ops w0 o v a' := by
  unfold Hv at *
  rw [he, hw]
  exact h

section
variable {r : Option Nat} {P : Program} {ops : Array Oper} {Qa : Exit → Act → World → Prop} {w0 : World}
theorem Hv.op {i : Nat} {o : Oper} {v : Value} {a : Act} (hi : ops[i]? = some o) (hc : calmOp o = true) (hv : Hv P ops w0 o v a) {K : Act → World → Prop} {w : World} (hk : rdm o.op = true → Keep w0 w) (h : K (a.put o.dst v) w) : wpOpIn (Fr r) 0 P ops Qa i K a w := by
  unfold Go.wpOpIn
  simp only [hi]
  rcases hv with ⟨hw, hv⟩ | ⟨hw, rfl⟩
  · simp only [hw, if_true]
    refine ⟨fun f hf => trivial, ?_⟩
    rw [semAt_plain _ (calmOp_def hc), hv w hk]
    exact h
  · simp only [hw, Bool.false_eq_true, if_false]
    exact ⟨fun f hf => trivial, h⟩
/-- an operation beside one that only reads: whether that one's value is there already makes no difference to it, and it makes none to that one -/
theorem comm {j : Nat} {oi oj : Oper} {v : Value} (hj : ops[j]? = some oj) (hap : oi.apart ops oj = true) (hci : calmOp oi = true) (hcj : calmOp oj = true) (hQ : ∀ c a w, Qa (.panic c) (a.put oi.dst v) w → Qa (.panic c) a w)
    {K : Act → World → Prop} {a : Act} {w : World} (hy : Hv P ops w0 oi v a) (h : wpOpIn (Fr r) 0 P ops Qa j K (a.put oi.dst v) w) : wpOpIn (Fr r) 0 P ops Qa j (fun a' w' => Hv P ops w0 oi v a' ∧ K (a'.put oi.dst v) w') a w := by
  obtain ⟨h1, h2, h3⟩ := Oper.apart_spec hap
  have keep : ∀ u, Hv P ops w0 oi v (a.put oj.dst u) := fun u => hy.same (execOp_put oi (calmOp_sel hci) a oj.dst u h3) (wanted_put oi a oj.dst u h3)
  unfold wpOpIn at *
  simp only [hj] at *
  rw [wanted_put oj a oi.dst v h1] at h
  split
  · rename_i hw
    simp only [hw, if_true] at h
    unfold Oper.wpIn at *
    refine ⟨fun f hf => trivial, ?_⟩
    have h := h.2
    rw [semAt_plain _ (calmOp_def hcj), execOp_put oj (calmOp_sel hcj) a oi.dst v h1] at h
    rw [semAt_plain _ (calmOp_def hcj)]
    generalize (execOp a.eval oj).run P w = res at *
    have sw : ∀ u, (a.put oi.dst v).put oj.dst u = (a.put oj.dst u).put oi.dst v := fun u => Act.put_comm a v u h2
    cases res with
    | ok x w' =>
      cases x <;> simp only [Oper.uponIn] at h ⊢
      case value u => exact ⟨keep u, by rw [← sw]; exact h⟩
      case skip => exact ⟨keep _, by rw [← sw]; exact h⟩
      case defer dd =>
        refine ⟨Hv.same (a := a.put oj.dst undef) (keep _) ?_ ?_, ?_⟩
        · cases oj.dst <;> rfl
        · cases oj.dst <;> rfl
        · have e : ({ a with defers := dd :: a.defers }.put oj.dst undef).put oi.dst v = ({ a.put oi.dst v with defers := dd :: (a.put oi.dst v).defers }).put oj.dst undef := by
            rw [Act.put_defers, Act.put_comm _ v undef h2]
          rw [e]
          exact h
      case enter f args =>
        refine ⟨h.1, CallsIn.mono h.2 fun e w'' he => ?_⟩
        cases e with
        | returned u => exact ⟨keep u, by rw [← sw]; exact he⟩
        | panicked c => exact hQ _ _ _ he
        | outgrown => exact he
      case row row args => exact ⟨h.1, RowsIn.mono h.2 fun u w'' he => ⟨keep u, by rw [← sw]; exact he⟩⟩
      case round l f tmps assign body =>
        refine ⟨h.1, RoundIn.mono h.2 fun e w'' he => ?_⟩
        cases e with
        | returned u => exact ⟨keep u, by rw [← sw]; exact he⟩
        | panicked c => exact hQ _ _ _ he
        | outgrown => exact he
    | halt x w' =>
      cases x <;> simp only [Oper.uponIn] at h ⊢
      case panic u => exact hQ _ _ _ h
  · rename_i hw
    simp only [hw] at h
    exact ⟨fun f hf => trivial, keep _, by rw [← Act.put_comm a v undef h2]; exact h.2⟩

/-- whatever order is drawn from here on; an operation that is none of 'tail' keeps the world that it finds -/
def Any (r : Option Nat) (P : Program) (ops : Array Oper) (Qa : Exit → Act → World → Prop) (tail : List Nat) : Nat → Array Bool → Act → World → Prop
  | 0, listed, a, w => Region.ready .any ops listed = [] ∧ Qa .normal a w
  | fuel + 1, listed, a, w => (Region.ready .any ops listed = [] → Qa .normal a w) ∧
    ∀ i ∈ Region.ready .any ops listed, wpOpIn (Fr r) 0 P ops Qa i (fun a' w' => (i ∉ tail → Keep w w') ∧ Any r P ops Qa tail fuel (listed.setIfInBounds i true) a' w') a w
theorem Any.sound {tail : List Nat} : ∀ (fuel : Nat) (listed : Array Bool) (a : Act) (w : World), Any r P ops Qa tail fuel listed a w → wpAnyIn (Fr r) 0 P .any ops Qa fuel listed a w
  | 0, _, _, _, h => h
  | fuel + 1, _, _, _, h => ⟨h.1, fun i hi => wpOpIn_mono (fun a' w' h' => Any.sound fuel _ a' w' h'.2) (h.2 i hi)⟩
/-- does number t wait for number s, straight or through others? -/
def reachB (ops : Array Oper) : Nat → Nat → Nat → Bool
  | 0, _, _ => false
  | k + 1, t, s => match ops[t]? with
    | some o => o.after.any fun e => Region.binds .any e && (e.on == s || reachB ops k e.on s)
    | none => false
/-- whatever is listed has been waited for -/
def DC (ops : Array Oper) (listed : Array Bool) : Prop := ∀ i o, ops[i]? = some o → listed.getD i false = true → ∀ e ∈ o.after, Region.binds .any e = true → listed.getD e.on false = true
def dcB (ops : Array Oper) (listed : Array Bool) : Bool := (List.range ops.size).all fun i => !(listed.getD i false) || match ops[i]? with
  | some o => o.after.all fun e => !(Region.binds .any e) || listed.getD e.on false
  | none => true
theorem dcB_of {listed : Array Bool} (h : dcB ops listed = true) : DC ops listed := by
  intro i o hi hl e he hb
  have h1 := List.all_eq_true.1 h i (List.mem_range.2 (Array.getElem?_eq_some_iff.1 hi).1)
  rw [hl, hi] at h1
  simp only [Bool.not_true, Bool.false_or] at h1
  have h2 := Array.all_eq_true_iff_forall_mem.1 h1 e he
  rw [hb] at h2
  simpa using h2
theorem getD_mark {listed : Array Bool} {x j : Nat} (h : listed.getD x false = true) : (listed.setIfInBounds j true).getD x false = true := by
  simp only [Array.getD_eq_getD_getElem?] at h ⊢
  by_cases hxj : j = x
  · subst hxj
    rcases Nat.lt_or_ge j listed.size with hj | hj
    · simp [Array.getElem?_setIfInBounds_self_of_lt hj]
    · simp [Array.getElem?_eq_none hj] at h
  · rw [Array.getElem?_setIfInBounds_ne hxj]; exact h
theorem getD_marked {listed : Array Bool} {x j : Nat} (h : (listed.setIfInBounds j true).getD x false = true) : x = j ∨ listed.getD x false = true := by
  by_cases hxj : j = x
  · exact .inl hxj.symm
  · right
    simp only [Array.getD_eq_getD_getElem?] at h ⊢
    rwa [Array.getElem?_setIfInBounds_ne hxj] at h
theorem DC.mark {listed : Array Bool} {j : Nat} (h : DC ops listed) (hj : j ∈ Region.ready .any ops listed) : DC ops (listed.setIfInBounds j true) := by
  intro i o hi hl e he hb
  rcases getD_marked hl with rfl | hl
  · obtain ⟨-, oj, hoj, hall⟩ := mem_ready.1 hj
    obtain rfl := Option.some.inj (hi.symm.trans hoj)
    exact getD_mark (hall e he hb)
  · exact getD_mark (h i o hi hl e he hb)
theorem DC.reach {listed : Array Bool} (h : DC ops listed) : ∀ (k t s : Nat) (o : Oper), ops[t]? = some o → (∀ e ∈ o.after, Region.binds .any e = true → listed.getD e.on false = true) → reachB ops k t s = true → listed.getD s false = true
  | 0, _, _, _, _, _, hr => by cases hr
  | k + 1, t, s, o, ho, hall, hr => by
    simp only [reachB, ho] at hr
    obtain ⟨e, he, hb⟩ := Array.any_eq_true'.1 hr
    simp only [Bool.and_eq_true, Bool.or_eq_true, beq_iff_eq] at hb
    obtain ⟨hb, hs⟩ := hb
    have hl := hall e he hb
    rcases hs with rfl | hs
    · exact hl
    · cases hx : ops[e.on]? with
      | none =>
        cases k with
        | zero => cases hs
        | succ k => simp [reachB, hx] at hs
      | some oe => exact h.reach k e.on s oe hx (h e.on oe hx hl) hs
/-- the tail waits for whatever looks at memory -/
def tailOk (ops : Array Oper) (tail : List Nat) : Bool :=
  tail.all fun t => match ops[t]? with
    | none => false
    | some o => (List.range ops.size).all fun s => tail.contains s || (match ops[s]? with
      | some os => !rdm os.op || reachB ops ops.size t s
      | none => true)
theorem tailOk_spec {tail : List Nat} (h : tailOk ops tail = true) {t s : Nat} {ot os : Oper} (ht : t ∈ tail) (hot : ops[t]? = some ot) (hs : s ∉ tail) (hos : ops[s]? = some os) (hr : rdm os.op = true) : reachB ops ops.size t s = true := by
  have h1 := List.all_eq_true.1 h t ht
  rw [hot] at h1
  have h2 := List.all_eq_true.1 h1 s (List.mem_range.2 (Array.getElem?_eq_some_iff.1 hos).1)
  rw [hos] at h2
  have hc : tail.contains s = false := by
    cases hcc : tail.contains s with
    | false => rfl
    | true => exact absurd (List.contains_iff_mem.1 hcc) hs
  simpa only [hc, hr, Bool.false_or, Bool.not_true] using h2
theorem Any.first {tail : List Nat} {i : Nat} {oi : Oper} {v : Value} (hi : ops[i]? = some oi) (hit : i ∉ tail) (htail : tailOk ops tail = true) (hcalm : ops.all calmOp = true) (hQ : ∀ c a w, Qa (.panic c) (a.put oi.dst v) w → Qa (.panic c) a w) :
    ∀ (fuel : Nat) (listed : Array Bool) (a : Act) (w : World), DC ops listed →
      (∀ j oj, ops[j]? = some oj → j ≠ i → listed.getD j true = false → (∀ e ∈ oj.after, Region.binds .any e = true → e.on ≠ i) → oi.apart ops oj = true) →
      i ∈ Region.ready .any ops listed → Hv P ops w0 oi v a → Keep w0 w → Any r P ops Qa tail fuel (listed.setIfInBounds i true) (a.put oi.dst v) w → Any r P ops Qa tail (fuel + 1) listed a w := by
  have calm : ∀ (k : Nat) (ok : Oper), ops[k]? = some ok → calmOp ok = true := fun k ok hk => Array.all_eq_true_iff_forall_mem.1 hcalm ok (Array.mem_of_getElem? hk)
  suffices main : ∀ (fuel : Nat) (listed : Array Bool) (a : Act) (w : World), DC ops listed →
      (∀ j oj, ops[j]? = some oj → j ≠ i → listed.getD j true = false → (∀ e ∈ oj.after, Region.binds .any e = true → e.on ≠ i) → oi.apart ops oj = true) →
      i ∈ Region.ready .any ops listed → Hv P ops w0 oi v a → (rdm oi.op = true → Keep w0 w) → Any r P ops Qa tail fuel (listed.setIfInBounds i true) (a.put oi.dst v) w → Any r P ops Qa tail (fuel + 1) listed a w by
    exact fun fuel listed a w h0 h1 h2 h3 h4 h5 => main fuel listed a w h0 h1 h2 h3 (fun _ => h4) h5
  intro fuel
  induction fuel with
  | zero =>
    intro listed a w _ _ hr hy hk H
    refine ⟨fun h => (by rw [h] at hr; cases hr), fun j hj => ?_⟩
    by_cases hji : j = i
    · subst hji; exact hy.op hi (calm _ _ hi) hk ⟨fun _ => Keep.refl w, H⟩
    · have := ready_mono hj hji
      rw [H.1] at this
      cases this
  | succ fuel ih =>
    intro listed a w hdc hfree hr hy hk H
    refine ⟨fun h => (by rw [h] at hr; cases hr), fun j hj => ?_⟩
    by_cases hji : j = i
    · subst hji; exact hy.op hi (calm _ _ hi) hk ⟨fun _ => Keep.refl w, H⟩
    · have hH := H.2 j (ready_mono hj hji)
      obtain ⟨hjun, oj, hoj, hall⟩ := mem_ready.1 hj
      have hiun := (mem_ready.1 hr).1
      have hilt : listed.getD i false = false := by
        rcases Nat.lt_or_ge i listed.size with h' | h'
        · simpa [h'] using hiun
        · simp [Array.getElem?_eq_none h']
      have hnot : ∀ e ∈ oj.after, Region.binds .any e = true → e.on ≠ i := fun e he hb heq => by
        have h1 := hall e he hb
        rw [heq, hilt] at h1
        cases h1
      have hc := comm hoj (hfree j oj hoj hji hjun hnot) (calm _ _ hi) (calm _ _ hoj) hQ hy hH
      have hfree' : ∀ k ok, ops[k]? = some ok → k ≠ i → (listed.setIfInBounds j true).getD k true = false → (∀ e ∈ ok.after, Region.binds .any e = true → e.on ≠ i) → oi.apart ops ok = true := fun k ok hk' hki hun hno => by
        refine hfree k ok hk' hki ?_ hno
        by_cases hjk : j = k
        · subst hjk; exact hjun
        · rw [getD_set_ne true hjk] at hun; exact hun
      refine wpOpIn_mono (fun a' w' h3 => ?_) hc
      obtain ⟨hy', h3⟩ := h3
      refine ⟨h3.1, ih _ a' w' (hdc.mark hj) hfree' (ready_mono hr (Ne.symm hji)) hy' (fun hrd => ?_) ?_⟩
      · have hjt : j ∉ tail := fun hjt => by
          have hre := tailOk_spec htail hjt hoj hit hi hrd
          have := hdc.reach _ j i oj hoj hall hre
          rw [hilt] at this
          cases this
        exact (hk hrd).trans (h3.1 hjt)
      · rw [Array.setIfInBounds_comm _ _ hji]
        exact h3.2

/-! ### over environments -/
/-- how many are still to come -/
def still (listed : Array Bool) : Nat := listed.toList.countP (!·)
theorem still_set {listed : Array Bool} {i : Nat} (h : listed.getD i true = false) : still listed = still (listed.setIfInBounds i true) + 1 := by
  obtain ⟨l⟩ := listed
  unfold still
  simp only [Array.getD_eq_getD_getElem?, List.getElem?_toArray] at h
  simp only [List.setIfInBounds_toArray]
  induction l generalizing i with
  | nil => simp at h
  | cons x l ih =>
    cases i with
    | zero => simp at h; subst h; simp
    | succ i =>
      have := ih (i := i) (by simpa using h)
      cases x <;> simp_all <;> omega
theorem still_new (n : Nat) : still (Array.replicate n false) = n := by
  simp only [still, Array.toList_replicate]
  induction n with
  | zero => rfl
  | succ n ih => rw [List.replicate_succ, List.countP_cons_of_pos (by rfl), ih]
def WD (r : Option Nat) (P : Program) (N : Nat) (ops : Array Oper) (tail : List Nat) (listed : Array Bool) (ρ : Env) (ds : List Deferred) (w : World) (Q : Post) : Prop :=
  ∀ a, Rep N a ρ ds → Any r P ops (lift N Q) tail (still listed) listed a w
/-- the post of a panic does not hang on the environment -/
def Pf (Q : Post) : Prop := ∀ c ρ ρ' ds w, Q (.panic c) ρ ds w → Q (.panic c) ρ' ds w
theorem Pf.thn {K : Env → List Deferred → World → Prop} {Q : Post} (h : Pf Q) : Pf (thn K Q) := h
theorem Pf.blk {id : Nat} {Q : Post} (h : Pf Q) : Pf (blk id Q) := h
theorem Pf.fin {fn : Func} {N : Nat} {R : Ending → World → Prop} : Pf (Fin P fn N R) := fun _ _ _ _ _ h => h
theorem Pf.lift {N : Nat} {Q : Post} (h : Pf Q) (dst : Option Nat) (v : Value) (c : List PanicEntry) (a : Act) (w : World) (hh : Sh.lift N Q (.panic c) (a.put dst v) w) : Sh.lift N Q (.panic c) a w := by
  obtain ⟨ρ, ds, hr, hq⟩ := hh
  refine ⟨[], ds, ⟨?_, fun t v ht => by simp [lk] at ht, ?_⟩, h c ρ [] ds w hq⟩
  · have := hr.size
    cases dst <;> simpa [Act.put] using this
  · have := hr.defers
    cases dst <;> simpa [Act.put] using this
/-- may number i be taken now? -/
def mayTake (ops : Array Oper) (tail : List Nat) (listed : Array Bool) (i : Nat) : Bool :=
  (Region.ready .any ops listed).contains i && Region.free .any ops listed i && !tail.contains i
def marks (listed : Array Bool) : List Nat → Array Bool
  | [] => listed
  | i :: is => marks (listed.setIfInBounds i true) is
def mayTakes (ops : Array Oper) (tail : List Nat) : Array Bool → List Nat → Bool
  | _, [] => true
  | listed, i :: is => mayTake ops tail listed i && mayTakes ops tail (listed.setIfInBounds i true) is
section
variable {N : Nat} {ρ ρ' : Env} {ds : List Deferred} {w : World} {Q : Post} {id : Nat} {tail : List Nat} {listed : Array Bool}
def regOk (ops : Array Oper) (tail : List Nat) : Bool := ops.all calmOp && tailOk ops tail
theorem ready_un {i : Nat} (h : i ∈ Region.ready .any ops listed) : listed.getD i true = false := by
  obtain ⟨h1, oj, hoj, h2⟩ := mem_ready.1 h
  exact h1
theorem Wp.draws (tail : List Nat) (hm : P.follows .mixedOrders = true) (h : WD r P N ops tail (Array.replicate ops.size false) ρ ds w.drew Q) : Wp r P N (.region id ops true) ρ ds w Q :=
  fun a ha => wpIn_region_any hm (Any.sound _ _ _ _ (by have := h a ha; rwa [still_new] at this))
theorem WD.takes (is : List Nat) (hQ : Pf Q) (hdc : DC ops listed) (h : Rn P w N ops is ρ ρ') (hok : regOk ops tail = true) (hl : mayTakes ops tail listed is = true) (k : WD r P N ops tail (marks listed is) ρ' ds w Q) : WD r P N ops tail listed ρ ds w Q := by
  have hok' := hok
  simp only [regOk, Bool.and_eq_true] at hok
  induction is generalizing ρ listed with
  | nil => exact fun a ha => k a (ha.le h)
  | cons i is ih =>
    intro a ha
    simp only [mayTakes, Bool.and_eq_true] at hl
    obtain ⟨ht, hl⟩ := hl
    simp only [mayTake, Bool.and_eq_true, Bool.not_eq_true'] at ht
    obtain ⟨⟨hrd, hfr⟩, htl⟩ := ht
    have hit : i ∉ tail := fun hm => by simp [hm] at htl
    have hrd' : i ∈ Region.ready .any ops listed := by simpa using hrd
    rw [still_set (ready_un hrd')]
    rcases h with ⟨d, op, vs, v, hc, hy, hrest⟩ | ⟨d, hc, hrest⟩
    · obtain ⟨o, ho, hg, hd, rfl, hN, hv⟩ := cop_spec hc
      have hnext := ih (hdc.mark hrd') hrest hl k
      refine Any.first ho hit hok.2 hok.1 (fun c a w hh => hQ.lift _ _ _ _ _ hh) _ _ _ _ hdc (Region.free_spec ho hfr) hrd' (v := v) (.inl ⟨wanted_of_gd ha hg, fun w' hk => hy.2 o a.eval rfl (evs_spec ha hv) w' hk⟩) (Keep.refl w) ?_
      rw [hd]
      exact hnext _ (ha.putE hN v)
    · obtain ⟨o, ho, hg, hd, hN⟩ := cno_spec hc
      have hnext := ih (hdc.mark hrd') hrest hl k
      refine Any.first ho hit hok.2 hok.1 (fun c a w hh => hQ.lift _ _ _ _ _ hh) _ _ _ _ hdc (Region.free_spec ho hfr) hrd' (v := undef) (w0 := w) (.inr ⟨wanted_of_gd ha hg, rfl⟩) (Keep.refl w) ?_
      rw [hd]
      exact hnext _ (ha.putE hN undef)
/-- some reading ahead -/
theorem WD.rd {w0 : World} {is : List Nat} (hQ : Pf Q) (hk : Keep w0 w) (h : Rn P w0 N ops is ρ ρ') (k : WD r P N ops tail (marks listed is) ρ' ds w Q) (hok : regOk ops tail = true := by kernel_rfl) (hl : mayTakes ops tail listed is = true := by kernel_rfl) (hdc : dcB ops listed = true := by kernel_rfl) : WD r P N ops tail listed ρ ds w Q :=
  WD.takes is hQ (dcB_of hdc) (h.weak hk) hok hl k
theorem WD.done (h : Q .normal ρ ds w) (hl : Region.ready .any ops listed = [] := by kernel_rfl) : WD r P N ops tail listed ρ ds w Q := fun a ha => by
  cases still listed with
  | zero => exact ⟨hl, ρ, ds, ha, h⟩
  | succ n => exact ⟨fun _ => ⟨ρ, ds, ha, h⟩, by rw [hl]; simp⟩
/-- one operation alone may come up -/
theorem WD.act (i : Nat) {dst : Option Nat} {op : Op} {vs : List Value} (hc : cop N ops ρ i = some (dst, op, vs) := by rfl)
    (he : Ef r P N dst op vs ρ ds w (fun ρ' w' => (i ∉ tail → Keep w w') ∧ WD r P N ops tail (listed.setIfInBounds i true) ρ' ds w' Q) Q) (hl : Region.ready .any ops listed = [i] := by kernel_rfl) : WD r P N ops tail listed ρ ds w Q := by
  intro a ha
  have hi : i ∈ Region.ready .any ops listed := by rw [hl]; simp
  rw [still_set (ready_un hi)]
  refine ⟨fun h => (by rw [hl] at h; cases h), fun j hj => ?_⟩
  rw [hl] at hj
  obtain rfl : j = i := by simpa using hj
  obtain ⟨o, ho, hg, hd, rfl, hN, hv⟩ := cop_spec hc
  unfold wpOpIn
  simp only [ho]
  rw [wanted_of_gd ha hg]
  simp only [if_true]
  refine Oper.wpIn_mono ?_ (he hN o a rfl hd ha (evs_spec ha hv))
  rintro a' w' ⟨ρ', hr, hk⟩
  exact ⟨hk.1, hk.2 a' hr⟩
theorem WD.no (i : Nat) {dst : Option Nat} (hc : cno N ops ρ i = some dst := by rfl)
    (k : WD r P N ops tail (listed.setIfInBounds i true) (putE ρ dst undef) ds w Q) (hl : Region.ready .any ops listed = [i] := by kernel_rfl) : WD r P N ops tail listed ρ ds w Q := by
  intro a ha
  have hi : i ∈ Region.ready .any ops listed := by rw [hl]; simp
  rw [still_set (ready_un hi)]
  refine ⟨fun h => (by rw [hl] at h; cases h), fun j hj => ?_⟩
  rw [hl] at hj
  obtain rfl : j = i := by simpa using hj
  obtain ⟨o, ho, hg, hd, hN⟩ := cno_spec hc
  unfold wpOpIn
  simp only [ho]
  rw [wanted_of_gd ha hg]
  simp only [Bool.false_eq_true, if_false, hd]
  exact ⟨fun f hf => trivial, fun _ => Keep.refl w, k _ (ha.putE hN undef)⟩
/-- one of two may come up -/
theorem WD.act2 (i j : Nat) {di dj : Option Nat} {oi oj : Op} {vi vj : List Value} (hci : cop N ops ρ i = some (di, oi, vi) := by rfl) (hcj : cop N ops ρ j = some (dj, oj, vj) := by rfl)
    (hi : Ef r P N di oi vi ρ ds w (fun ρ' w' => (i ∉ tail → Keep w w') ∧ WD r P N ops tail (listed.setIfInBounds i true) ρ' ds w' Q) Q) (hj : Ef r P N dj oj vj ρ ds w (fun ρ' w' => (j ∉ tail → Keep w w') ∧ WD r P N ops tail (listed.setIfInBounds j true) ρ' ds w' Q) Q) (hl : Region.ready .any ops listed = [i, j] := by kernel_rfl) : WD r P N ops tail listed ρ ds w Q := by
  intro a ha
  have hri : i ∈ Region.ready .any ops listed := by rw [hl]; simp
  have hrj : j ∈ Region.ready .any ops listed := by rw [hl]; simp
  rw [still_set (ready_un hri)]
  have hji : still (listed.setIfInBounds i true) = still (listed.setIfInBounds j true) := by
    have h1 := still_set (ready_un hri)
    have h2 := still_set (ready_un hrj)
    omega
  refine ⟨fun h => (by rw [hl] at h; cases h), fun k hk => ?_⟩
  rw [hl] at hk
  simp only [List.mem_cons, List.not_mem_nil, or_false] at hk
  rcases hk with rfl | rfl
  · obtain ⟨o, ho, hg, hd, rfl, hN, hv⟩ := cop_spec hci
    unfold wpOpIn
    simp only [ho]
    rw [wanted_of_gd ha hg]
    simp only [if_true]
    refine Oper.wpIn_mono ?_ (hi hN o a rfl hd ha (evs_spec ha hv))
    rintro a' w' ⟨ρ', hr, hk⟩
    exact ⟨hk.1, hk.2 a' hr⟩
  · obtain ⟨o, ho, hg, hd, rfl, hN, hv⟩ := cop_spec hcj
    unfold wpOpIn
    simp only [ho]
    rw [wanted_of_gd ha hg]
    simp only [if_true]
    refine Oper.wpIn_mono ?_ (hj hN o a rfl hd ha (evs_spec ha hv))
    rintro a' w' ⟨ρ', hr, hk⟩
    refine ⟨hk.1, ?_⟩
    rw [hji]
    exact hk.2 a' hr
theorem dc_new (ops : Array Oper) : dcB ops (Array.replicate ops.size false) = true := by
  rw [dcB, List.all_eq_true]
  intro i hi
  have : (Array.replicate ops.size false).getD i false = false := by
    simp only [Array.getD_eq_getD_getElem?, Array.getElem?_replicate]
    split <;> rfl
  rw [this]
  rfl
/-- a region that draws its order and only reads -/
theorem Wp.readsD (hm : P.follows .mixedOrders = true) (hQ : Pf Q) {ρ' : Env} {w0 : World} {is : List Nat} (hk : Keep w0 w) (h : Rn P w0 N ops is ρ ρ') (k : Q .normal ρ' ds w.drew)
    (hok : regOk ops [] = true := by kernel_rfl) (hl : mayTakes ops [] (Array.replicate ops.size false) is = true := by kernel_rfl) (hr : Region.ready .any ops (marks (Array.replicate ops.size false) is) = [] := by kernel_rfl) : Wp r P N (.region id ops true) ρ ds w Q :=
  Wp.draws [] hm (WD.takes is hQ (dcB_of (dc_new ops)) (h.weak (hk.trans (Keep.drew w))) hok hl (WD.done k hr))
end
end
end Go.Proofs.YthbehiflmcljcaaDoor.Sh
