/- Regions whose order is drawn, where a store to new memory may come up between what only reads: what reads looks at an older world alone. (Part E's rules once more, over a base world.) -/
import Derived.Test.YthbehiflmcljcaaDoorShN
set_option linter.unusedVariables false
set_option linter.unusedSimpArgs false
namespace Go.Proofs.YthbehiflmcljcaaDoor.Sh
open Go.RowKit
section
variable {r : Option Nat} {P : Program} {ops : Array Oper} {Qa : Exit → Act → World → Prop} {wb : World}
/-- does the tail wait for number i, if that one looks at memory? -/
def tailFor (ops : Array Oper) (tail : List Nat) (i : Nat) : Bool := tail.all fun t => match ops[i]? with
  | some os => !rdm os.op || reachB ops ops.size t i
  | none => true
theorem tailFor_spec {tail : List Nat} {i : Nat} {oi : Oper} (hi : ops[i]? = some oi) (h : tailFor ops tail i = true) : ∀ t ∈ tail, ∀ ot, ops[t]? = some ot → rdm oi.op = true → reachB ops ops.size t i = true := by
  intro t ht ot hot hr
  have h1 := List.all_eq_true.1 h t ht
  rw [hi] at h1
  simpa [hr] using h1
def regOkS (ops : Array Oper) (tail is : List Nat) : Bool := ops.all calmOp && is.all (tailFor ops tail)
def AnyB (wb : World) (r : Option Nat) (P : Program) (ops : Array Oper) (Qa : Exit → Act → World → Prop) (tail : List Nat) : Nat → Array Bool → Act → World → Prop
  | 0, listed, a, w => Region.ready .any ops listed = [] ∧ Qa .normal a w
  | fuel + 1, listed, a, w => (Region.ready .any ops listed = [] → Qa .normal a w) ∧
    ∀ i ∈ Region.ready .any ops listed, wpOpIn (Fr r) 0 P ops Qa i (fun a' w' => (i ∉ tail → Keep wb w → Keep wb w') ∧ AnyB wb r P ops Qa tail fuel (listed.setIfInBounds i true) a' w') a w
theorem AnyB.sound {tail : List Nat} : ∀ (fuel : Nat) (listed : Array Bool) (a : Act) (w : World), AnyB wb r P ops Qa tail fuel listed a w → wpAnyIn (Fr r) 0 P .any ops Qa fuel listed a w
  | 0, _, _, _, h => h
  | fuel + 1, _, _, _, h => ⟨h.1, fun i hi => wpOpIn_mono (fun a' w' h' => AnyB.sound fuel _ a' w' h'.2) (h.2 i hi)⟩
theorem AnyB.first {tail : List Nat} {i : Nat} {oi : Oper} {v : Value} (hi : ops[i]? = some oi) (hit : i ∉ tail) (htail : ∀ t ∈ tail, ∀ ot, ops[t]? = some ot → rdm oi.op = true → reachB ops ops.size t i = true) (hcalm : ops.all calmOp = true) (hQ : ∀ c a w, Qa (.panic c) (a.put oi.dst v) w → Qa (.panic c) a w) :
    ∀ (fuel : Nat) (listed : Array Bool) (a : Act) (w : World), DC ops listed →
      (∀ j oj, ops[j]? = some oj → j ≠ i → listed.getD j true = false → (∀ e ∈ oj.after, Region.binds .any e = true → e.on ≠ i) → oi.apart ops oj = true) →
      i ∈ Region.ready .any ops listed → Hv P ops wb oi v a → (rdm oi.op = true → Keep wb w) → AnyB wb r P ops Qa tail fuel (listed.setIfInBounds i true) (a.put oi.dst v) w → AnyB wb r P ops Qa tail (fuel + 1) listed a w := by
  have calm : ∀ (k : Nat) (ok : Oper), ops[k]? = some ok → calmOp ok = true := fun k ok hk => Array.all_eq_true_iff_forall_mem.1 hcalm ok (Array.mem_of_getElem? hk)
  suffices main : ∀ (fuel : Nat) (listed : Array Bool) (a : Act) (w : World), DC ops listed →
      (∀ j oj, ops[j]? = some oj → j ≠ i → listed.getD j true = false → (∀ e ∈ oj.after, Region.binds .any e = true → e.on ≠ i) → oi.apart ops oj = true) →
      i ∈ Region.ready .any ops listed → Hv P ops wb oi v a → (rdm oi.op = true → Keep wb w) → AnyB wb r P ops Qa tail fuel (listed.setIfInBounds i true) (a.put oi.dst v) w → AnyB wb r P ops Qa tail (fuel + 1) listed a w by
    exact fun fuel listed a w h0 h1 h2 h3 h4 h5 => main fuel listed a w h0 h1 h2 h3 h4 h5
  intro fuel
  induction fuel with
  | zero =>
    intro listed a w _ _ hr hy hk H
    refine ⟨fun h => (by rw [h] at hr; cases hr), fun j hj => ?_⟩
    by_cases hji : j = i
    · subst hji; exact hy.op hi (calm _ _ hi) hk ⟨fun _ h => h, H⟩
    · have := ready_mono hj hji
      rw [H.1] at this
      cases this
  | succ fuel ih =>
    intro listed a w hdc hfree hr hy hk H
    refine ⟨fun h => (by rw [h] at hr; cases hr), fun j hj => ?_⟩
    by_cases hji : j = i
    · subst hji; exact hy.op hi (calm _ _ hi) hk ⟨fun _ h => h, H⟩
    · have hH := H.2 j (ready_mono hj hji)
      obtain ⟨hjun, oj, hoj, hall⟩ := mem_ready.1 hj
      have hiun := (mem_ready.1 hr).1
      have hilt : listed.getD i false = false := by
        rcases Nat.lt_or_ge i listed.size with h' | h'
        · simpa [h'] using hiun
        · simp [Array.getElem?_eq_none h']
      have hnot : ∀ e ∈ oj.after, Region.binds .any e = true → e.on ≠ i := fun e he hb heq => by
        have h1 := hall e he hb
        rw [heq, hilt] at h1
        cases h1
      have hc := comm hoj (hfree j oj hoj hji hjun hnot) (calm _ _ hi) (calm _ _ hoj) hQ hy hH
      have hfree' : ∀ k ok, ops[k]? = some ok → k ≠ i → (listed.setIfInBounds j true).getD k true = false → (∀ e ∈ ok.after, Region.binds .any e = true → e.on ≠ i) → oi.apart ops ok = true := fun k ok hk' hki hun hno => by
        refine hfree k ok hk' hki ?_ hno
        by_cases hjk : j = k
        · subst hjk; exact hjun
        · rw [getD_set_ne true hjk] at hun; exact hun
      refine wpOpIn_mono (fun a' w' h3 => ?_) hc
      obtain ⟨hy', h3⟩ := h3
      refine ⟨h3.1, ih _ a' w' (hdc.mark hj) hfree' (ready_mono hr (Ne.symm hji)) hy' (fun hrd => ?_) ?_⟩
      · have hjt : j ∉ tail := fun hjt => by
          have hre := htail j hjt oj hoj hrd
          have := hdc.reach _ j i oj hoj hall hre
          rw [hilt] at this
          cases this
        exact h3.1 hjt (hk hrd)
      · rw [Array.setIfInBounds_comm _ _ hji]
        exact h3.2


def WDB (wb : World) (r : Option Nat) (P : Program) (N : Nat) (ops : Array Oper) (tail : List Nat) (listed : Array Bool) (ρ : Env) (ds : List Deferred) (w : World) (Q : Post) : Prop :=
  ∀ a, Rep N a ρ ds → AnyB wb r P ops (lift N Q) tail (still listed) listed a w
section
variable {N : Nat} {ρ ρ' : Env} {ds : List Deferred} {w : World} {Q : Post} {id : Nat} {tail : List Nat} {listed : Array Bool}
theorem Wp.drawsB (tail : List Nat) (hm : P.follows .mixedOrders = true) (h : WDB w.drew r P N ops tail (Array.replicate ops.size false) ρ ds w.drew Q) : Wp r P N (.region id ops true) ρ ds w Q :=
  fun a ha => wpIn_region_any hm (AnyB.sound _ _ _ _ (by have := h a ha; rwa [still_new] at this))
theorem WDB.takes (is : List Nat) (hQ : Pf Q) (hdc : DC ops listed) (hb : ∀ i ∈ is, ∀ o, ops[i]? = some o → rdm o.op = true → Keep wb w) (h : Rn P wb N ops is ρ ρ') (hok : regOkS ops tail is = true) (hl : mayTakes ops tail listed is = true) (k : WDB wb r P N ops tail (marks listed is) ρ' ds w Q) : WDB wb r P N ops tail listed ρ ds w Q := by
  simp only [regOkS, Bool.and_eq_true] at hok
  induction is generalizing ρ listed with
  | nil => exact fun a ha => k a (ha.le h)
  | cons i is ih =>
    intro a ha
    obtain ⟨hok1, hok2⟩ := hok
    simp only [List.all_cons, Bool.and_eq_true] at hok2
    simp only [mayTakes, Bool.and_eq_true] at hl
    obtain ⟨ht, hl⟩ := hl
    simp only [mayTake, Bool.and_eq_true, Bool.not_eq_true'] at ht
    obtain ⟨⟨hrd, hfr⟩, htl⟩ := ht
    have hit : i ∉ tail := fun hm => by simp [hm] at htl
    have hrd' : i ∈ Region.ready .any ops listed := by simpa using hrd
    rw [still_set (ready_un hrd')]
    rcases h with ⟨d, op, vs, v, hc, hy, hrest⟩ | ⟨d, hc, hrest⟩
    · obtain ⟨o, ho, hg, hd, rfl, hN, hv⟩ := cop_spec hc
      have hnext := ih (hdc.mark hrd') (fun j hj => hb j (List.mem_cons_of_mem _ hj)) hrest hl k ⟨hok1, hok2.2⟩
      refine AnyB.first ho hit (tailFor_spec ho hok2.1) hok1 (fun c a w hh => hQ.lift _ _ _ _ _ hh) _ _ _ _ hdc (Region.free_spec ho hfr) hrd' (v := v) (.inl ⟨wanted_of_gd ha hg, fun w' hk => hy.2 o a.eval rfl (evs_spec ha hv) w' hk⟩) (hb i (List.mem_cons_self ..) o ho) ?_
      rw [hd]
      exact hnext _ (ha.putE hN v)
    · obtain ⟨o, ho, hg, hd, hN⟩ := cno_spec hc
      have hnext := ih (hdc.mark hrd') (fun j hj => hb j (List.mem_cons_of_mem _ hj)) hrest hl k ⟨hok1, hok2.2⟩
      refine AnyB.first ho hit (tailFor_spec ho hok2.1) hok1 (fun c a w hh => hQ.lift _ _ _ _ _ hh) _ _ _ _ hdc (Region.free_spec ho hfr) hrd' (v := undef) (.inr ⟨wanted_of_gd ha hg, rfl⟩) (hb i (List.mem_cons_self ..) o ho) ?_
      rw [hd]
      exact hnext _ (ha.putE hN undef)
theorem WDB.rd {w0 : World} {is : List Nat} (hQ : Pf Q) (hb : Keep wb w) (hk : Keep w0 wb) (h : Rn P w0 N ops is ρ ρ') (k : WDB wb r P N ops tail (marks listed is) ρ' ds w Q) (hok : regOkS ops tail is = true := by kernel_rfl) (hl : mayTakes ops tail listed is = true := by kernel_rfl) (hdc : dcB ops listed = true := by kernel_rfl) : WDB wb r P N ops tail listed ρ ds w Q :=
  WDB.takes is hQ (dcB_of hdc) (fun _ _ _ _ _ => hb) (h.weak hk) hok hl k
/-- what does not look at memory, in whatever world -/
theorem WDB.rd0 {w0 : World} {is : List Nat} (hQ : Pf Q) (hk : Keep w0 wb) (h : Rn P w0 N ops is ρ ρ') (k : WDB wb r P N ops tail (marks listed is) ρ' ds w Q) (hok : regOkS ops tail is = true := by kernel_rfl) (hl : mayTakes ops tail listed is = true := by kernel_rfl) (hdc : dcB ops listed = true := by kernel_rfl) (hn : (is.all fun i => match ops[i]? with | some o => !rdm o.op | none => true) = true := by kernel_rfl) : WDB wb r P N ops tail listed ρ ds w Q :=
  WDB.takes is hQ (dcB_of hdc) (fun i hi o ho hr => by
    have := List.all_eq_true.1 hn i hi
    rw [ho] at this
    simp [hr] at this) (h.weak hk) hok hl k
theorem WDB.done (h : Q .normal ρ ds w) (hl : Region.ready .any ops listed = [] := by kernel_rfl) : WDB wb r P N ops tail listed ρ ds w Q := fun a ha => by
  cases still listed with
  | zero => exact ⟨hl, ρ, ds, ha, h⟩
  | succ n => exact ⟨fun _ => ⟨ρ, ds, ha, h⟩, by rw [hl]; simp⟩
/-- one operation alone may come up -/
theorem WDB.act (i : Nat) {dst : Option Nat} {op : Op} {vs : List Value} (hc : cop N ops ρ i = some (dst, op, vs) := by rfl)
    (he : Ef r P N dst op vs ρ ds w (fun ρ' w' => (i ∉ tail → Keep wb w → Keep wb w') ∧ WDB wb r P N ops tail (listed.setIfInBounds i true) ρ' ds w' Q) Q) (hl : Region.ready .any ops listed = [i] := by kernel_rfl) : WDB wb r P N ops tail listed ρ ds w Q := by
  intro a ha
  have hi : i ∈ Region.ready .any ops listed := by rw [hl]; simp
  rw [still_set (ready_un hi)]
  refine ⟨fun h => (by rw [hl] at h; cases h), fun j hj => ?_⟩
  rw [hl] at hj
  obtain rfl : j = i := by simpa using hj
  obtain ⟨o, ho, hg, hd, rfl, hN, hv⟩ := cop_spec hc
  unfold wpOpIn
  simp only [ho]
  rw [wanted_of_gd ha hg]
  simp only [if_true]
  refine Oper.wpIn_mono ?_ (he hN o a rfl hd ha (evs_spec ha hv))
  rintro a' w' ⟨ρ', hr, hk⟩
  exact ⟨hk.1, hk.2 a' hr⟩
/-- one of two may come up -/
theorem WDB.act2 (i j : Nat) {di dj : Option Nat} {oi oj : Op} {vi vj : List Value} (hci : cop N ops ρ i = some (di, oi, vi) := by rfl) (hcj : cop N ops ρ j = some (dj, oj, vj) := by rfl)
    (hi : Ef r P N di oi vi ρ ds w (fun ρ' w' => (i ∉ tail → Keep wb w → Keep wb w') ∧ WDB wb r P N ops tail (listed.setIfInBounds i true) ρ' ds w' Q) Q) (hj : Ef r P N dj oj vj ρ ds w (fun ρ' w' => (j ∉ tail → Keep wb w → Keep wb w') ∧ WDB wb r P N ops tail (listed.setIfInBounds j true) ρ' ds w' Q) Q) (hl : Region.ready .any ops listed = [i, j] := by kernel_rfl) : WDB wb r P N ops tail listed ρ ds w Q := by
  intro a ha
  have hri : i ∈ Region.ready .any ops listed := by rw [hl]; simp
  have hrj : j ∈ Region.ready .any ops listed := by rw [hl]; simp
  rw [still_set (ready_un hri)]
  have hji : still (listed.setIfInBounds i true) = still (listed.setIfInBounds j true) := by
    have h1 := still_set (ready_un hri)
    have h2 := still_set (ready_un hrj)
    omega
  refine ⟨fun h => (by rw [hl] at h; cases h), fun k hk => ?_⟩
  rw [hl] at hk
  simp only [List.mem_cons, List.not_mem_nil, or_false] at hk
  rcases hk with rfl | rfl
  · obtain ⟨o, ho, hg, hd, rfl, hN, hv⟩ := cop_spec hci
    unfold wpOpIn
    simp only [ho]
    rw [wanted_of_gd ha hg]
    simp only [if_true]
    refine Oper.wpIn_mono ?_ (hi hN o a rfl hd ha (evs_spec ha hv))
    rintro a' w' ⟨ρ', hr, hk⟩
    exact ⟨hk.1, hk.2 a' hr⟩
  · obtain ⟨o, ho, hg, hd, rfl, hN, hv⟩ := cop_spec hcj
    unfold wpOpIn
    simp only [ho]
    rw [wanted_of_gd ha hg]
    simp only [if_true]
    refine Oper.wpIn_mono ?_ (hj hN o a rfl hd ha (evs_spec ha hv))
    rintro a' w' ⟨ρ', hr, hk⟩
    refine ⟨hk.1, ?_⟩
    rw [hji]
    exact hk.2 a' hr
end
end
/-- what only reads, as a step of its own -/
theorem Ef.yv {r : Option Nat} {P : Program} {N : Nat} {ρ : Env} {ds : List Deferred} {w : World} {Q : Post} {dst : Option Nat} {op : Op} {vs : List Value} {v : Value} {K : Env → World → Prop} (h : Yv P w op vs v) (k : K (putE ρ dst v) w) : Ef r P N dst op vs ρ ds w K Q :=
  Ef.of_run h.1 (fun o e ho hv => h.2 o e ho hv w (fun _ => Keep.refl w)) k
end Go.Proofs.YthbehiflmcljcaaDoor.Sh
