/- MouldUnused returns true, whatever comes in: the given card. -/
import Derived.Test.YtgjhbapbomdpbaaDoorEa
import Derived.Test.YtgjhbapbomdpbaaDoorE2
import Derived.Test.YtgjhbapbomdpbaaDoorOf
set_option linter.unusedVariables false
set_option linter.unusedSimpArgs false
set_option maxRecDepth 10000
namespace Go.Proofs.YtgjhbapbomdpbaaDoor.mouldUnused
open Go.ChangeShapes Go.WideShapes Go.ChangeAt Go.RowKit Go.Proofs.YtgjhbapbomdpbaaDoor.Sh Go.Proofs.YtgjhbapbomdpbaaDoor.C
theorem row_read : ∀ t ∈ Tryd.f10.params.toList, Tryd.prog.readableRec t = true ∧ t < Tryd.prog.types.size := by
  intro t ht
  rw [Tryd.params10] at ht
  obtain rfl | rfl | rfl : t = 43 ∨ t = 9 ∨ t = 43 := by simpa using ht
  · exact ⟨by kernel_rfl, of_decide_eq_true (by kernel_rfl)⟩
  · exact ⟨by kernel_rfl, of_decide_eq_true (by kernel_rfl)⟩
  · exact ⟨by kernel_rfl, of_decide_eq_true (by kernel_rfl)⟩
theorem contract (H : Type) (enc : TypeId × Value → H) (W : World) (base : Nat) (args : Array Value) (ds gs : List (DataW H)) (before : List MemPlace)
    (hval : ∀ (j : Nat) t v, Tryd.f10.params[j]? = some t → args[j]? = some v → Value.okWide Tryd.prog W .any base t v)
    (hW : DataW.Whole enc Tryd.prog Tryd.f10.params.toList Rows.mouldUnusedSpec.vars false W args.toList ds gs before)
    (hcond : True)
    (hsz : (DataW.weightsEach Tryd.prog (Tryd.f10.params.toList ++ (OpenSpec.ofChange Rows.mouldUnusedSpec).bare.plain.varTypes Tryd.prog) (ds ++ gs)).all (· ≤ reachBytes) = true)
    (hL : laidMetH Tryd.prog Rows.mouldUnusedRow.laid W) (hsh : W.ShapedOpen Tryd.prog) :
    Calls Tryd.prog 10 args W fun e W' => ∃ v, e = .returned v ∧ Rows.mouldUnusedSpec.post enc Tryd.prog Tryd.f10 false true false false W args v W' := by
  have hW' := hW
  obtain ⟨p, q, hA0, hV, rfl, hfz, hnd⟩ := hW
  have hA : DataW.TrodAll enc Tryd.prog W 0 (fun _ => true) true Tryd.f10.params.toList args.toList ds p := hA0
  rw [Tryd.params10] at hA hval hsz
  obtain ⟨v0, vs0, d0, ds0, p0, q0, hargs, rfl, rfl, h0, r0⟩ := trodAll_cons hA
  obtain ⟨v1, vs1, d1, ds1, p1, q1, rfl, rfl, rfl, h1, r1⟩ := trodAll_cons r0
  obtain ⟨v2, vs2, d2, ds2, p2, q2, rfl, rfl, rfl, h2, r2⟩ := trodAll_cons r1
  obtain ⟨rfl, rfl, rfl⟩ := trodAll_nil r2
  obtain rfl : args = #[v0, v1, v2] := by cases args; simp_all
  obtain ⟨rfl, rfl⟩ := trodVars_none hV
  obtain ⟨a0, l0, c0, rfl⟩ := okWide_slice Tryd.underlying43 (hval 0 _ v0 rfl rfl)
  obtain ⟨fuel0, hf0⟩ := h0
  obtain ⟨A0, x0, cc0, hcs0, hr0, hc0, hm0, hd0⟩ := open_rd NdE (fun _ a => a.Ok) Tryd.underlying43 (by kernel_rfl) (by decide) node_elem hf0
  have hnn0 := open_none Tryd.underlying43 hf0
  injection hcs0 with hcs0
  injection hcs0 with q1 q2 q3
  subst q1 q2 q3
  have hlen0 := sized_rd (E := NdE) (Pr := fun _ a => a.Ok) hsz (j := 0) rfl rfl Tryd.underlying43 hd0
  rw [bytesNode] at hlen0
  simp only [reachBytes] at hlen0
  obtain ⟨x1, rfl, rfl, rfl, sz1⟩ := str_open (hval 1 _ v1 rfl rfl) h1
  obtain ⟨a2, l2, c2, rfl⟩ := okWide_slice Tryd.underlying43 (hval 2 _ v2 rfl rfl)
  obtain ⟨fuel2, hf2⟩ := h2
  obtain ⟨A2, x2, cc2, hcs2, hr2, hc2, hm2, hd2⟩ := open_rd NdE (fun _ a => a.Ok) Tryd.underlying43 (by kernel_rfl) (by decide) node_elem hf2
  have hnn2 := open_none Tryd.underlying43 hf2
  injection hcs2 with hcs2
  injection hcs2 with q1 q2 q3
  subst q1 q2 q3
  have hlen2 := sized_rd (E := NdE) (Pr := fun _ a => a.Ok) hsz (j := 2) rfl rfl Tryd.underlying43 hd2
  rw [bytesNode] at hlen2
  simp only [reachBytes] at hlen2
  have hgl : Gl W := gl_of_laid hL hsh
  refine (unused_calls a0 c0 x0 x1 a2 c2 x2 W hgl hr0 hnn0 hc0 (by omega) hr2 hnn2 (by omega)).mono fun e W' ⟨he, hk⟩ => ?_
  subst he
  exact ⟨_, rfl, post_of_keep laidOut row_read rfl hW' hk rfl rfl (fun _ _ _ => trodAll_cons_mk (shut_bool Tryd.underlying4 _) trodAll_mk0) (ok_one (by kernel_rfl) rfl (okWide_bool_mk Tryd.underlying4 _))⟩
set_option maxRecDepth 100000 in
theorem lifted (os : Os) (started : os.Started) (H : Type) (enc : TypeId × Value → H) (F : Stop.Interp) :
    ReturnsInHanded {} Tryd.checked os 10 .any ((OpenSpec.ofChange Rows.mouldUnusedSpec).preRow enc Tryd.prog Tryd.f10 Rows.mouldUnusedRow.domain false Rows.mouldUnusedRow.laid) (((OpenSpec.ofChange Rows.mouldUnusedSpec).at F).post enc Tryd.prog Tryd.f10 false true false false) := by
  have hx : DataW.whole enc Tryd.prog ((laidWorld os).forCall (fun _ _ => 0) ⟨#[], #[.slice none 0 0, .string ⟨#[]⟩, .slice none 0 0], []⟩).memory Tryd.f10.params.toList Rows.mouldUnusedSpec.vars false (#[.slice none 0 0, .string ⟨#[]⟩, .slice none 0 0] : Array Value).toList 8 = some ([.nil, .lit (.string []), .nil], [], []) := by kernel_rfl
  refine returnsInHanded_of_row (C := Tryd.checked) (s := OpenSpec.ofChange Rows.mouldUnusedSpec) own started (by kernel_rfl) Tryd.func10
    (witness_row_at (enc := enc) (C := Tryd.checked) false (laidWorld os) #[.slice none 0 0, .string ⟨#[]⟩, .slice none 0 0] rfl (by kernel_rfl) (by kernel_rfl) (by kernel_rfl)
      (OpenSpec.preRow_of_cond 8 hx (by kernel_rfl) (fun k hk => by cases hk) (by kernel_rfl) (laid_met os _))) ?_
  intro W base args ds gs before hval hW _ hcond hsz hL hsh _
  exact contract H enc W base args ds gs before hval hW trivial hsz hL hsh
theorem facts : joinedFacts Tryd.prog 10 Tryd.f10 (OpenSpec.ofChange Rows.mouldUnusedSpec).bare Rows.mouldUnusedRow = true := by
  unfold joinedFacts
  rw [mayEnterT, makeT, liftsT]
  kernel_rfl
theorem said : Rows.MouldUnusedSaid :=
  OpenClaim.holds_of_cond 10 Tryd.f10 rfl rfl rfl rfl rfl rfl rfl ⟨rfl, rfl, rfl, rfl, rfl⟩ rfl rfl rfl rfl rfl (by kernel_rfl) Tryd.func10 facts
    (of_decide_eq_true (by kernel_rfl)) (by unfold Func.isWrapper; first | (rw [if_pos (by decide +kernel)]; kernel_rfl) | (rw [if_neg (by decide +kernel)]; exact ⟨rfl, rfl⟩))
    (fun os started H enc _ F => by rw [OpenClaim.pre_eq_preRow]; exact lifted os started H enc F)
theorem plain (f : FuncId) (fn : Func) (hf : Tryd.pinned.checked.prog.funcNamed "shuttle/shuttlelaw9.MouldUnused" = some f) (hfn : Tryd.pinned.checked.prog.funcs[f]? = some fn) :
    true = Tryd.pinned.checked.prog.looks [] ∧ ∀ (j : Nat) t, fn.params[j]? = some t → Tryd.pinned.checked.prog.wantsStandIn t = false := by
  obtain rfl : f = 10 := Option.some.inj ((show Tryd.prog.funcNamed "shuttle/shuttlelaw9.MouldUnused" = some 10 by kernel_rfl).symm.trans hf) |>.symm
  obtain rfl : fn = Tryd.f10 := (Option.some.inj (Tryd.func10.symm.trans hfn)).symm
  refine ⟨by kernel_rfl, fun j t ht => ?_⟩
  rw [Tryd.params10] at ht
  obtain rfl | rfl | rfl : t = 43 ∨ t = 9 ∨ t = 43 := by simpa using Array.mem_of_getElem? ht
  · exact (show Tryd.prog.wantsStandIn 43 = false by kernel_rfl)
  · exact (show Tryd.prog.wantsStandIn 9 = false by kernel_rfl)
  · exact (show Tryd.prog.wantsStandIn 43 = false by kernel_rfl)
theorem card : Rows.MouldUnusedCardSaid :=
  Claim7.holds_tied_plain_at .later [] _ _ _ _ said (fun _ h => by cases h) (by kernel_rfl) (fun _ h => by cases h) mouldUnused_row_tie rfl ⟨rfl, rfl⟩ mainT rfl plain (by kernel_rfl)
#print axioms card
end Go.Proofs.YtgjhbapbomdpbaaDoor.mouldUnused
