/- GraphNeeds walked. -/
import Derived.Test.YthbehiflmcljcaaDoorHb
import Derived.Test.YthbehiflmcljcaaDoorHc
set_option linter.unusedVariables false
set_option linter.unusedSimpArgs false
set_option maxRecDepth 10000
namespace Go.Proofs.YthbehiflmcljcaaDoor.C
open Go.RowKit Go.Proofs.YthbehiflmcljcaaDoor.Sh
abbrev hereB : Bs := [104, 101, 114, 101]
abbrev at78 : Ft := ⟨0, hereB, 7, 8⟩
abbrev mute (x : Ist) : Ist := { x with has := true, needs := (none, 0, []) }
abbrev loneN (b : Nat) (y : Ne) : Ist := ⟨zzName, 0, (none, 0, []), (none, 0, []), [], (some ⟨b, 0, none⟩, 1, [y]), 0, 0, false, 0, (none, 0, []), true, ft0⟩
abbrev ofL (is : List Ist) (job : Bs) : Is := allK is.length (fun i => ofB job (nth is (i : Int)).name)
abbrev meansL (is : List Ist) (job : Bs) (ps : List Va) : Is := allK is.length (fun i => meansB job ps (nth is (i : Int)))
section
variable {is is' : List Ist}
theorem mute_ok {x : Ist} (h : InOk x) : InOk (mute x) := ⟨h.pick, h.vars, ⟨fun _ => rfl, by simp⟩, h.rules, h.steps⟩
theorem mute_in {w : World} {x : Ist} (h : InAt w x) : InAt w (mute x) := ⟨h.pick, h.vars, rd_nil _ _, h.rules, h.steps⟩
theorem dat_nth (h : is'.map datI = (is.map mute).map datI) (k : Nat) (hk : k < is.length) : (nth is' (k : Int)).name = (nth is (k : Int)).name ∧ (nth is' (k : Int)).vars.2.2 = (nth is (k : Int)).vars.2.2 := by
  have h1 := nth_dat is' (k : Int)
  have h2 := nth_dat (is.map mute) (k : Int)
  rw [h, h2] at h1
  have h3 : nth (is.map mute) (k : Int) = mute (nth is (k : Int)) := by
    rw [nth_getElem (by simpa using hk), nth_getElem hk, List.getElem_map]
  rw [h3] at h1
  exact ⟨(congrArg (fun z : Ist => z.name) h1).symm, (congrArg (fun z : Ist => z.vars.2.2) h1).symm⟩
theorem dat_len (h : is'.map datI = (is.map mute).map datI) : is'.length = is.length := by
  have := congrArg List.length h
  simpa using this
theorem allK_congr {n : Nat} {p q : Nat → Bool} (h : ∀ i, i < n → p i = q i) : allK n p = allK n q := by
  unfold allK
  rw [List.filter_congr (fun i hi => h i (List.mem_range.1 hi))]
theorem dat_ofL (h : is'.map datI = (is.map mute).map datI) (job : Bs) : ofL is' job = ofL is job := by
  show allK is'.length _ = allK is.length _
  rw [dat_len h]
  exact allK_congr fun i hi => by rw [(dat_nth h i hi).1]
theorem dat_meansL (h : is'.map datI = (is.map mute).map datI) (job : Bs) (ps : List Va) : meansL is' job ps = meansL is job ps := by
  show allK is'.length _ = allK is.length _
  rw [dat_len h]
  exact allK_congr fun i hi => by
    unfold meansB
    rw [(dat_nth h i hi).1, (dat_nth h i hi).2]
theorem dat_mute (h : is'.map datI = (is.map mute).map datI) : ∀ x ∈ is', x.has = true ∧ x.needs.2.2 = [] := fun x hx => by
  obtain ⟨y, hy, e⟩ := dat_mem h hx
  obtain ⟨z, hz, rfl⟩ := List.mem_map.1 hy
  exact ⟨(congrArg (fun z : Ist => z.has) e).symm, (dat_needs e).symm⟩
theorem meansL_nil (job : Bs) : meansL is job [] = ofL is job := allK_congr fun i hi => means_nil _ _
theorem lone_needE (h : is'.map datI = (is.map mute).map datI) {b : Nat} {y : Ne} {job : Bs} {ps : List Va} (hj : LowB job) (hr : readG y.text = some (job, ps)) :
    needE (is' ++ [loneN b y]) y.text = if ofL is job = [] then (161, []) else if meansL is job ps = [] then (162, []) else (0, meansL is job ps) := by
  rw [needE_last (e := loneN b y) hr (zz_no hj), ← dat_ofL h job, ← dat_meansL h job ps]
theorem lone_161 (h : is'.map datI = (is.map mute).map datI) {b : Nat} {y : Ne} {job : Bs} {ps : List Va} (hj : LowB job) (hr : readG y.text = some (job, ps)) (h1 : ofL is job = []) : buildS (is' ++ [loneN b y]) = ([], { y.at_ with code := 161 }) := by
  have hE := lone_needE h (b := b) hj hr
  rw [if_pos h1] at hE
  have := needs_bad (e := loneN b y) (y := y) (dat_mute h) rfl rfl (by rw [hE]; decide)
  rw [hE] at this
  exact this
theorem lone_162 (h : is'.map datI = (is.map mute).map datI) {b : Nat} {y : Ne} {job : Bs} {ps : List Va} (hj : LowB job) (hr : readG y.text = some (job, ps)) (h1 : ofL is job ≠ []) (h2 : meansL is job ps = []) : buildS (is' ++ [loneN b y]) = ([], { y.at_ with code := 162 }) := by
  have hE := lone_needE h (b := b) hj hr
  rw [if_neg h1, if_pos h2] at hE
  have := needs_bad (e := loneN b y) (y := y) (dat_mute h) rfl rfl (by rw [hE]; decide)
  rw [hE] at this
  exact this
theorem lone_0 (h : is'.map datI = (is.map mute).map datI) {b : Nat} {y : Ne} {job : Bs} {ps : List Va} (hj : LowB job) (hr : readG y.text = some (job, ps)) (h1 : ofL is job ≠ []) (h2 : meansL is job ps ≠ []) : ∃ es : List Is, buildS (is' ++ [loneN b y]) = (es, ft0) ∧ es.length = is.length + 1 ∧ nth es (is.length : Int) = meansL is job ps := by
  have hE := lone_needE h (b := b) hj hr
  rw [if_neg h1, if_neg h2] at hE
  have hl := dat_len h
  have hg := needs_good (e := loneN b y) (y := y) (p := fun i => meansB job ps (nth is (i : Int))) (dat_mute h) rfl rfl (by rw [hE, hl])
  rw [hl] at hg
  exact ⟨_, hg.1, by rw [edges_len]; simp [hl], hg.2⟩
theorem lone_bld (h : is'.map datI = (is.map mute).map datI) {b : Nat} {y : Ne} (hl : is.length ≤ 100) (hv : ∀ x ∈ is', x.vars.2.2.length ≤ 4398046511104) (ht : TxOk y.text) : BldOk (is' ++ [loneN b y]) := by
  have hd := dat_len h
  refine ⟨by simp; omega, fun x hx => ?_, fun x hx _ => ?_, fun x hx _ z hz => ?_⟩
  all_goals
    rcases List.mem_append.1 hx with hx | hx
  · have := hv x hx; omega
  · rw [List.mem_singleton.1 hx]; simp
  · rw [(dat_mute h x hx).2]; simp
  · rw [List.mem_singleton.1 hx]
    simp only [List.length_append, List.length_cons, List.length_nil]
    omega
  · rw [(dat_mute h x hx).2] at hz; cases hz
  · rw [List.mem_singleton.1 hx] at hz
    have : z = y := by simpa using hz
    rw [this]; exact ht
end
theorem fitNe1 {n : Nat} (h : n ≤ 2513169434916) : Fits Tryd.prog 53 n := fitNe h
theorem St.tuck {w0 w : World} {M : List Nat} {a : Chunk} {X S Y : List Chunk} (h : St w0 M w (a :: (X ++ (S ++ Y)))) : St w0 M w (a :: (S ++ (X ++ Y))) := by
  refine h.perm (List.Perm.cons _ ?_)
  rw [← List.append_assoc, ← List.append_assoc]
  exact List.perm_append_comm.append_right _
/-- one of three may come up -/
theorem WDB.act3 {r : Option Nat} {P : Program} {N : Nat} {ops : Array Oper} {wb : World} {tail : List Nat} {listed : Array Bool} {ρ : Env} {ds : List Deferred} {w : World} {Q : Post} (i j k : Nat) {di dj dk : Option Nat} {oi oj ok : Op} {vi vj vk : List Value} (hci : cop N ops ρ i = some (di, oi, vi) := by rfl) (hcj : cop N ops ρ j = some (dj, oj, vj) := by rfl) (hck : cop N ops ρ k = some (dk, ok, vk) := by rfl)
    (hi : Ef r P N di oi vi ρ ds w (fun ρ' w' => (i ∉ tail → Keep wb w → Keep wb w') ∧ WDB wb r P N ops tail (listed.setIfInBounds i true) ρ' ds w' Q) Q) (hj : Ef r P N dj oj vj ρ ds w (fun ρ' w' => (j ∉ tail → Keep wb w → Keep wb w') ∧ WDB wb r P N ops tail (listed.setIfInBounds j true) ρ' ds w' Q) Q)
    (hk : Ef r P N dk ok vk ρ ds w (fun ρ' w' => (k ∉ tail → Keep wb w → Keep wb w') ∧ WDB wb r P N ops tail (listed.setIfInBounds k true) ρ' ds w' Q) Q) (hl : Region.ready .any ops listed = [i, j, k] := by kernel_rfl) : WDB wb r P N ops tail listed ρ ds w Q := by
  intro a ha
  have hri : i ∈ Region.ready .any ops listed := by rw [hl]; simp
  have hrj : j ∈ Region.ready .any ops listed := by rw [hl]; simp
  have hrk : k ∈ Region.ready .any ops listed := by rw [hl]; simp
  rw [still_set (ready_un hri)]
  have h1 := still_set (ready_un hri)
  have h2 := still_set (ready_un hrj)
  have h3 := still_set (ready_un hrk)
  have hji : Sh.still (listed.setIfInBounds i true) = Sh.still (listed.setIfInBounds j true) := by omega
  have hki : Sh.still (listed.setIfInBounds i true) = Sh.still (listed.setIfInBounds k true) := by omega
  refine ⟨fun h => (by rw [hl] at h; cases h), fun x hx => ?_⟩
  rw [hl] at hx
  simp only [List.mem_cons, List.not_mem_nil, or_false] at hx
  rcases hx with rfl | rfl | rfl
  · obtain ⟨o, ho, hg, hd, rfl, hN, hv⟩ := cop_spec hci
    unfold wpOpIn
    simp only [ho]
    rw [wanted_of_gd ha hg]
    simp only [if_true]
    refine Oper.wpIn_mono ?_ (hi hN o a rfl hd ha (evs_spec ha hv))
    rintro a' w' ⟨ρ', hr, hk⟩
    exact ⟨hk.1, hk.2 a' hr⟩
  · obtain ⟨o, ho, hg, hd, rfl, hN, hv⟩ := cop_spec hcj
    unfold wpOpIn
    simp only [ho]
    rw [wanted_of_gd ha hg]
    simp only [if_true]
    refine Oper.wpIn_mono ?_ (hj hN o a rfl hd ha (evs_spec ha hv))
    rintro a' w' ⟨ρ', hr, hk⟩
    refine ⟨hk.1, ?_⟩
    rw [hji]
    exact hk.2 a' hr
  · obtain ⟨o, ho, hg, hd, rfl, hN, hv⟩ := cop_spec hck
    unfold wpOpIn
    simp only [ho]
    rw [wanted_of_gd ha hg]
    simp only [if_true]
    refine Oper.wpIn_mono ?_ (hk hN o a rfl hd ha (evs_spec ha hv))
    rintro a' w' ⟨ρ', hr, hk⟩
    refine ⟨hk.1, ?_⟩
    rw [hki]
    exact hk.2 a' hr
/-- what graph reads of the copies and the one more -/
theorem lone_at {w0 w : World} {M : List Nat} {D : List Chunk} {A : Option Addr} {c b : Nat} {js : List Ist} {y : Ne} (h : St w0 M w D) (h1 : ∀ x ∈ js, ∀ C ∈ inC x, C ∈ D) (h2 : Ch.row IsE 46 A c (js ++ [loneN b y]) ∈ D) (h3 : Rd NeE w (some ⟨b, 0, none⟩) [y]) : IsB w A (js ++ [loneN b y]) := by
  refine ⟨row_rd (h.ok _ h2), fun x hx => ?_, fun x hx => ?_⟩
  all_goals
    rcases List.mem_append.1 hx with hx | hx
  · exact (inC_at h (h1 x hx)).vars
  · rw [List.mem_singleton.1 hx]; exact rd_nil _ _
  · exact (inC_at h (h1 x hx)).needs
  · rw [List.mem_singleton.1 hx]; exact h3
set_option maxHeartbeats 2000000 in
theorem needs_calls (A : Option Addr) (c : Nat) (is : List Ist) (job name value : Bs) (w : World) (h : IsAt w A is) (hok : ∀ x ∈ is, InOk x) (hvl : value.length ≤ 140737488351232) (hjl : job.length ≤ 9223372036854775807) :
    Calls Tryd.prog 8 #[.slice A is.length c, S job, S name, S value] w fun e w' => e = .returned (.bool true) ∧ Keep w w' := by
  refine calls_of_Wp (vs := [_, _, _, _]) Tryd.func8 ?_
  refine Wp.seq (Wp.reads (is := [0]) (Keep.refl _) (Rn.s rfl Yv.as (Rn.nil)) ?_)
  refine Wp.seq (Wp.seq (Wp.reads (is := [0, 1, 2, 3, 4, 5, 6, 7, 8, 9, 10, 11]) (Keep.refl _) (Rn.s rfl Yv.mv (Rn.s rfl (Yv.len_v (e := 46) (m := 16)) (Rn.s rfl (Yv.cmp _ rfl) (Rn.s rfl Yv.mv (Rn.or (is := [4, 5, 6]) (js := [7, 8, 9, 10, 11]) (t := 27) (d := 30) (hg := rfl) (hf := fun h3 => have h3 := of_decide_eq_false h3; Rn.s rfl Yv.mv (Rn.s rfl (Yv.scm _ rfl) (Rn.s rfl Yv.pick_f ((Rn.e 3 rfl rfl))))) (ht := fun _ => Rn.no rfl (Rn.no rfl (Rn.s rfl Yv.pick_t (Rn.e 3 rfl rfl)))) (k := Rn.s rfl Yv.mv (Rn.or (is := [8, 9, 10, 11]) (js := []) (t := 31) (d := 35) (hg := rfl) (hf := fun h7 => Rn.s rfl Yv.mv (Rn.s rfl Yv.len_s (Rn.s rfl (Yv.cmp _ rfl) (Rn.s rfl Yv.pick_f ((Rn.e 4 rfl rfl)))))) (ht := fun _ => Rn.no rfl (Rn.no rfl (Rn.no rfl (Rn.s rfl Yv.pick_t (Rn.e 4 rfl rfl))))) (k := Rn.nil)))))))) ?_))
  refine Wp.cond rfl (fun hc => ?_) (fun hc => ?_)
  · refine Wp.seq (Wp.regionL (l := [0, 1]) (WO.cv rfl (awake_cv w) (Keep.refl _) (FnOk.of Tryd.func19) (fun wa1 ka1 => WO.rd (is := [1]) (js := []) ((Keep.refl _).trans ka1) (Rn.s rfl Yv.as (Rn.nil)) (WO.done ?_))))
    exact Wp.ret (Fin.ret (Res.one rfl rfl) ⟨rfl, ka1⟩)
  have hc2 : is.length ≤ 100 ∧ job ≠ [] ∧ job.length ≤ 64 := by
    simp only [Bool.or_eq_false_iff, decide_eq_false_iff_not, beq_eq_false_iff_ne] at hc
    refine ⟨by omega, ?_, by omega⟩
    intro e
    exact hc.1.2 (by rw [e])
  obtain ⟨hil, hjne, hj64⟩ := hc2
  refine Wp.skip ?_
  refine Wp.seq (Wp.seq (Wp.reads (is := [0]) (Keep.refl _) (Rn.s rfl Yv.as (Rn.nil)) ?_))
  refine Wp.mid (fun ρ ds w' => ds = [] ∧ Keep w w' ∧ LowB job ∧ Sub [(0, .slice A is.length c), (1, S job), (2, S name), (3, S value)] ρ) (Wp.block ?_) ?_
  · refine Wp.loop (α := Nat) (fun k ρ ds w' => ds = [] ∧ Keep w w' ∧ k ≤ job.length ∧ (∀ (i : Nat) b, i < k → job[i]? = some b → 97 ≤ b.toNat ∧ b.toNat ≤ 122) ∧ Sub [(0, .slice A is.length c), (1, S job), (2, S name), (3, S value), (9, .int .i64 (k : Int))] ρ) (fun k => job.length - k) 0
      ⟨rfl, Keep.refl _, by omega, fun i b hi => absurd hi (Nat.not_lt_zero i), rfl, rfl, rfl, rfl, rfl, trivial⟩ ?_
    rintro k ρ ds w1 ⟨rfl, hk1, hk, hlow, hs⟩
    refine Wp.forget _ ?_ hs
    clear hs ρ
    refine Wp.seq (Wp.seq (Wp.reads (is := [0, 1, 2, 3]) (Keep.refl _) (Rn.s rfl Yv.mv (Rn.s rfl Yv.mv (Rn.s rfl Yv.len_s (Rn.s rfl (Yv.cmp _ rfl) (Rn.nil))))) ?_))
    refine Wp.cond rfl (fun hlt => ?_) (fun hlt => ?_)
    · have hlt : k < job.length := by have := of_decide_eq_true hlt; omega
      refine Wp.skip (Wp.seq (Wp.block ?_))
      refine Wp.seq (Wp.reads (is := [0, 1, 2, 3, 4, 5, 6, 7, 8, 9]) (Keep.refl _) (Rn.s rfl Yv.mv (Rn.s rfl Yv.mv (Rn.s rfl (Yv.ix (l := job) (n := (k : Int)) (by omega) (by omega)) (Rn.s rfl (Yv.cmp _ rfl) (Rn.s rfl Yv.mv (Rn.or (is := [5, 6, 7, 8, 9]) (js := []) (t := 47) (d := 52) (hg := rfl) (hf := fun h4 => have h4 := of_decide_eq_false h4; Rn.s rfl Yv.mv (Rn.s rfl Yv.mv (Rn.s rfl (Yv.ix (l := job) (n := (k : Int)) (by omega) (by omega)) (Rn.s rfl (Yv.cmp _ rfl) (Rn.s rfl Yv.pick_f ((Rn.e 5 rfl rfl))))))) (ht := fun _ => Rn.no rfl (Rn.no rfl (Rn.no rfl (Rn.no rfl (Rn.s rfl Yv.pick_t (Rn.e 5 rfl rfl)))))) (k := Rn.nil))))))) ?_)
      refine Wp.cond rfl (fun hb => ?_) (fun hb => ?_)
      · refine Wp.seq (Wp.regionL (l := [0, 1]) (WO.cv rfl (awake_cv w1) (Keep.refl _) (FnOk.of Tryd.func19) (fun wa1 ka1 => WO.rd (is := [1]) (js := []) ((Keep.refl _).trans ka1) (Rn.s rfl Yv.as (Rn.nil)) (WO.done ?_))))
        exact Wp.ret (Fin.ret (Res.one rfl rfl) ⟨rfl, hk1.trans ka1⟩)
      · refine Wp.skip (Wp.reads (is := [0, 1, 2]) (Keep.refl _) (Rn.s rfl Yv.mv (Rn.s rfl (Yv.add (by unfold inI; omega)) (Rn.s rfl Yv.as (Rn.nil)))) ?_)
        refine ⟨k + 1, ⟨rfl, hk1, by omega, fun i b hi hib => ?_, rfl, rfl, rfl, rfl, rfl, trivial⟩, by omega⟩
        by_cases q : i = k
        · subst q
          have hby := byt_of hib
          simp only [Bool.or_eq_false_iff, decide_eq_false_iff_not] at hb
          rw [hby] at hb
          omega
        · exact hlow i b (by omega) hib
    · have hlt : k = job.length := by have := of_decide_eq_false hlt; omega
      subst hlt
      refine Wp.exit ⟨rfl, hk1, ⟨hjne, hj64, fun b hb => ?_⟩, rfl, rfl, rfl, rfl, trivial⟩
      obtain ⟨i, hi, e⟩ := List.mem_iff_getElem.1 hb
      exact hlow i b hi (by rw [List.getElem?_eq_getElem hi, e])
  rintro ρ ds w1 ⟨rfl, hk1, hjob, hs⟩
  refine Wp.forget _ ?_ hs
  clear hs ρ
  refine Wp.seq (Wp.reads (is := [0]) (Keep.refl _) (Rn.s rfl Yv.as (Rn.nil)) ?_)
  refine Wp.seq (Wp.seq (Wp.reads (is := [0]) (Keep.refl _) (Rn.s rfl Yv.as (Rn.nil)) ?_))
  refine Wp.mid (fun ρ ds w' => ds = [] ∧ ∃ B d, St w [] w' [Ch.row IsE 46 B d (is.map mute)] ∧ Sub [(1, S job), (2, S name), (3, S value), (10, .slice B is.length d)] ρ) (Wp.block ?_) ?_
  · refine Wp.loop (α := Nat) (fun k ρ ds w' => ds = [] ∧ k ≤ is.length ∧ ∃ B d, St w [] w' [Ch.row IsE 46 B d ((is.take k).map mute)] ∧ Sub [(0, .slice A is.length c), (1, S job), (2, S name), (3, S value), (10, .slice B ((is.take k).map mute).length d), (11, .int .i64 (k : Int))] ρ) (fun k => is.length - k) 0
      ⟨rfl, by omega, none, 0, ((St.init w).quiet hk1).nilrow IsE 46, rfl, rfl, rfl, rfl, rfl, rfl, trivial⟩ ?_
    rintro k ρ ds w2 ⟨rfl, hk, B, d, hst, hs⟩
    refine Wp.forget _ ?_ hs
    clear hs ρ
    have htl : ((is.take k).map mute).length = k := by simp; omega
    refine Wp.seq (Wp.seq (Wp.reads (is := [0, 1, 2, 3]) (Keep.refl _) (Rn.s rfl Yv.mv (Rn.s rfl Yv.mv (Rn.s rfl (Yv.len_v (e := 46) (m := 16)) (Rn.s rfl (Yv.cmp _ rfl) (Rn.nil))))) ?_))
    refine Wp.cond rfl (fun hlt => ?_) (fun hlt => ?_)
    · have hlt : k < is.length := by have := of_decide_eq_true hlt; omega
      have hr1 := h.rd.keep hst.keep
      refine Wp.skip (Wp.seq (Wp.block ?_))
      refine Wp.seq (Wp.regionL (l := [0, 1, 2, 3, 4, 5]) (WO.rd (is := [0, 1, 2, 3]) (js := [4, 5]) (Keep.refl _) (Rn.s rfl Yv.mv (Rn.s rfl Yv.mv (Rn.s rfl (Yv.ia (e := 46) hr1 (by omega) (by omega)) (Rn.s rfl (Yv.ldel hr1 rfl rfl (by omega) (by omega)) (Rn.nil))))) (WO.act (hc := rfl) (he := Ef.allocL (vs := zIs) hst (fun ba1 wa1 ka1 hsa1 => WO.act (hc := rfl) (he := Ef.stores hsa1 0 (fun wa2 hsa2 => WO.done ?_)))))))
      obtain ⟨x, hxe⟩ : ∃ x, nth is (k : Int) = x := ⟨_, rfl⟩
      have hst : St w [] wa2 [Ch.cells ba1 46 (IsE.cells x), Ch.row IsE 46 B d ((is.take k).map mute)] := by
        rw [← hxe]; exact hsa2
      clear hsa1 hsa2 hr1
      refine Wp.seq (Wp.regionL (l := [0, 1]) (WO.rd (is := [0]) (js := [1]) (Keep.refl _) (Rn.s rfl (Yv.fa (off := 11)) (Rn.nil)) (WO.act (hc := rfl) (he := Ef.store hst 0 (fun wb1 hsb1 => WO.done ?_)))))
      refine Wp.seq (Wp.regionL (l := [0, 1]) (WO.rd (is := [0]) (js := [1]) (Keep.refl _) (Rn.s rfl (Yv.fa (off := 5)) (Rn.nil)) (WO.act (hc := rfl) (he := Ef.store hsb1 0 (fun wd1 hsd1 => WO.done ?_)))))
      have hst : St w [] wd1 [Ch.cells ba1 46 (IsE.cells (mute x)), Ch.row IsE 46 B d ((is.take k).map mute)] := hsd1
      have c12 := hst.cells 0
      refine Wp.regionL (l := [0, 1, 2, 3, 4]) (WO.rd (is := [0, 1]) (js := [2, 3, 4]) (Keep.refl _) (Rn.s rfl Yv.mv (Rn.s rfl (Yv.ldb c12) (Rn.nil))) (WO.app IsE [mute x] rfl (fun _ => rfl) hst 1 (fitIs (by simp only [List.length_cons, List.length_nil]; omega)) (fun be1 Ae1 ce1 we1 hse1 => WO.rd (is := [4]) (js := []) (Keep.refl _) (Rn.s rfl Yv.as (Rn.nil)) (WO.done ?_))))
      refine Wp.reads (is := [0, 1, 2]) (Keep.refl _) (Rn.s rfl Yv.mv (Rn.s rfl (Yv.add (by unfold inI; omega)) (Rn.s rfl Yv.as (Rn.nil)))) ?_
      have e1 : (is.take k).map mute ++ [mute x] = (is.take (k + 1)).map mute := by
        rw [List.take_add_one, List.getElem?_eq_getElem hlt, List.map_append, ← hxe, nth_getElem hlt]
        rfl
      rw [e1] at hse1 ⊢
      exact ⟨k + 1, ⟨rfl, by omega, _, _, hse1.pick [0], rfl, rfl, rfl, rfl, rfl, rfl, trivial⟩, by omega⟩
    · have hlt : k = is.length := by have := of_decide_eq_false hlt; omega
      subst hlt
      rw [List.take_length] at hst htl ⊢
      refine Wp.exit ⟨rfl, B, d, hst, rfl, rfl, rfl, ?_, trivial⟩
      rw [htl]
      rfl
  rintro ρ ds w2 ⟨rfl, B, d, hst, hs⟩
  refine Wp.forget _ ?_ hs
  clear hs ρ hk1 w1
  -- who has the job's name, and the value
  refine Wp.seq (Wp.reads (is := [0]) (Keep.refl _) (Rn.s rfl Yv.as (Rn.nil)) ?_)
  refine Wp.seq (Wp.reads (is := [0]) (Keep.refl _) (Rn.s rfl Yv.as (Rn.nil)) ?_)
  refine Wp.seq (Wp.seq (Wp.reads (is := [0]) (Keep.refl _) (Rn.s rfl Yv.as (Rn.nil)) ?_))
  have hmx : ∀ i : Nat, i < is.length → nth (is.map mute) (i : Int) = mute (nth is (i : Int)) := fun i hi => by
    rw [nth_getElem (by simpa using hi), nth_getElem hi, List.getElem_map]
  have hml : (is.map mute).length = is.length := by simp
  refine Wp.mid (fun ρ ds w' => ds = [] ∧ ∃ O co, St w [] w' [Ch.row InE 3 O co (meansL is job [⟨name, value⟩]), Ch.row IsE 46 B d (is.map mute)] ∧ Sub [(1, S job), (2, S name), (3, S value), (10, .slice B is.length d), (13, .int .i64 ((ofL is job).length : Int)), (14, .slice O (meansL is job [⟨name, value⟩]).length co)] ρ) (Wp.block ?_) ?_
  · refine Wp.loop (α := Nat) (fun i ρ ds w' => ds = [] ∧ i ≤ is.length ∧ ∃ O co, St w [] w' [Ch.row InE 3 O co (allK i (fun i => meansB job [⟨name, value⟩] (nth is (i : Int)))), Ch.row IsE 46 B d (is.map mute)] ∧
        Sub [(1, S job), (2, S name), (3, S value), (10, .slice B is.length d), (13, .int .i64 ((allK i (fun i => ofB job (nth is (i : Int)).name)).length : Int)), (14, .slice O (allK i (fun i => meansB job [⟨name, value⟩] (nth is (i : Int)))).length co), (15, .int .i64 (i : Int))] ρ) (fun i => is.length - i) 0
      ⟨rfl, by omega, none, 0, hst.nilrow InE 3, rfl, rfl, rfl, rfl, rfl, rfl, rfl, trivial⟩ ?_
    clear hst
    rintro i ρ ds w3 ⟨rfl, hi, O, co, hst, hs⟩
    refine Wp.forget _ ?_ hs
    clear hs ρ
    refine Wp.seq (Wp.seq (Wp.reads (is := [0, 1, 2, 3]) (Keep.refl _) (Rn.s rfl Yv.mv (Rn.s rfl Yv.mv (Rn.s rfl (Yv.len_v (e := 46) (m := 16)) (Rn.s rfl (Yv.cmp _ rfl) (Rn.nil))))) ?_))
    refine Wp.cond rfl (fun hlt => ?_) (fun hlt => ?_)
    · have hlt : i < is.length := by have := of_decide_eq_true hlt; omega
      have hmi := hmx i hlt
      have hx := h.each _ (nth_mem' hlt)
      have hxo := hok _ (nth_mem' hlt)
      have hrx := hst.rd 1
      have hl0 : (allK i (fun i => ofB job (nth is (i : Int)).name)).length ≤ i := allK_len _ _
      have hl1 : (allK i (fun i => meansB job [⟨name, value⟩] (nth is (i : Int)))).length ≤ i := allK_len _ _
      refine Wp.skip (Wp.seq (Wp.block ?_))
      refine Wp.seq (Wp.reads (is := [0, 1, 2, 3, 4, 5, 6, 7, 8, 9, 10, 11, 12, 13, 14, 15, 16, 17, 18, 19, 20, 21, 22, 23, 24, 25, 26, 27, 28, 29, 30, 31]) (Keep.refl _) (Rn.s rfl Yv.mv (Rn.s rfl Yv.mv (Rn.s rfl (Yv.ia (e := 46) hrx (by omega) (by omega) hml.symm) (Rn.s rfl (Yv.fa (off := 0)) (Rn.s rfl (Yv.ld (hrx.ld 0 (by omega) (by omega))) (Rn.s rfl Yv.mv (Rn.s rfl (Yv.scm _ rfl) (Rn.s rfl Yv.mv (Rn.or (is := [8, 9, 10, 11, 12, 13, 14, 15, 16, 17, 18, 19, 20, 21, 22, 23, 24, 25, 26, 27, 28, 29, 30, 31]) (js := []) (t := 83) (d := 107) (hg := rfl) (hf := fun h7 => Rn.s rfl Yv.mv (Rn.s rfl Yv.mv (Rn.s rfl (Yv.ia (e := 46) hrx (by omega) (by omega) hml.symm) (Rn.s rfl (Yv.fa (off := 0)) (Rn.s rfl (Yv.ld (hrx.ld 0 (by omega) (by omega))) (Rn.s rfl Yv.len_s (Rn.s rfl Yv.mv (Rn.s rfl Yv.len_s (Rn.s rfl (Yv.cmp _ rfl) (Rn.s rfl Yv.mv (Rn.and (is := [18, 19, 20, 21, 22, 23, 24, 25, 26, 27, 28, 29, 30]) (js := [31]) (t := 93) (d := 106) (hg := rfl) (ht := fun h17 => have h17 := of_decide_eq_true h17; Rn.s rfl Yv.mv (Rn.s rfl Yv.mv (Rn.s rfl (Yv.ia (e := 46) hrx (by omega) (by omega) hml.symm) (Rn.s rfl (Yv.fa (off := 0)) (Rn.s rfl (Yv.ld (hrx.ld 0 (by omega) (by omega))) (Rn.s rfl Yv.mv (Rn.s rfl Yv.len_s (Rn.s rfl (Yv.add ⟨by omega, by omega⟩) (Rn.s rfl (Yv.ss_t (by omega) (by omega)) (Rn.s rfl Yv.mv (Rn.s rfl (Yv.cat (by simp only [List.length_cons, List.length_nil]; omega)) (Rn.s rfl (Yv.scm _ rfl) (Rn.s rfl Yv.pick_t ((Rn.e 13 rfl rfl))))))))))))))) (hf := fun _ => Rn.no rfl (Rn.no rfl (Rn.no rfl (Rn.no rfl (Rn.no rfl (Rn.no rfl (Rn.no rfl (Rn.no rfl (Rn.no rfl (Rn.no rfl (Rn.no rfl (Rn.no rfl (Rn.s rfl Yv.pick_f (Rn.e 13 rfl rfl)))))))))))))) (k := Rn.s rfl Yv.pick_f ((Rn.e 12 rfl rfl)))))))))))))) (ht := fun _ => Rn.no rfl (Rn.no rfl (Rn.no rfl (Rn.no rfl (Rn.no rfl (Rn.no rfl (Rn.no rfl (Rn.no rfl (Rn.no rfl (Rn.no rfl (Rn.no rfl (Rn.no rfl (Rn.no rfl (Rn.no rfl (Rn.no rfl (Rn.no rfl (Rn.no rfl (Rn.no rfl (Rn.no rfl (Rn.no rfl (Rn.no rfl (Rn.no rfl (Rn.no rfl (Rn.s rfl Yv.pick_t (Rn.e 24 rfl rfl))))))))))))))))))))))))) (k := Rn.nil)))))))))) ?_)
      rw [hmi]
      have eof : ((nth is (i : Int)).name == job || (decide ((job.length : Int) < ((nth is (i : Int)).name.length : Int)) && ((nth is (i : Int)).name.take ((job.length : Int) + 1).toNat == job ++ [91]))) = ofB job (nth is (i : Int)).name := by
        unfold ofB
        congr 1
        rw [Bool.eq_iff_iff]
        simp only [Bool.and_eq_true, decide_eq_true_eq, beq_iff_eq, List.length_append, List.length_cons, List.length_nil]
        have e : ((job.length : Int) + 1).toNat = job.length + (0 + 1) := by omega
        rw [e]
        constructor
        · rintro ⟨q1, q2⟩; exact ⟨by omega, q2⟩
        · rintro ⟨q1, q2⟩; exact ⟨by omega, q2⟩
      rw [eof]
      have hvar : (nth (is.map mute) (i : Int)).vars = (nth is (i : Int)).vars := by rw [hmi]
      have hvr : Rd VaE w3 (nth is (i : Int)).vars.1 (nth is (i : Int)).vars.2.2 := hx.vars.keep hst.keep
      have hvb := hxo.vars.2
      generalize hV : (nth is (i : Int)).vars = V at hvar hvr hvb
      refine Wp.mid (fun ρ ds w' => ds = [] ∧ ∃ O co, St w [] w' [Ch.row InE 3 O co (allK (i + 1) (fun i => meansB job [⟨name, value⟩] (nth is (i : Int)))), Ch.row IsE 46 B d (is.map mute)] ∧
        Sub [(1, S job), (2, S name), (3, S value), (10, .slice B is.length d), (13, .int .i64 ((allK (i + 1) (fun i => ofB job (nth is (i : Int)).name)).length : Int)), (14, .slice O (allK (i + 1) (fun i => meansB job [⟨name, value⟩] (nth is (i : Int)))).length co), (15, .int .i64 (i : Int))] ρ) ?_ ?_
      · refine Wp.cond rfl (fun hof => ?_) (fun hof => ?_)
        · have e0 : allK (i + 1) (fun i => ofB job (nth is (i : Int)).name) = allK i (fun i => ofB job (nth is (i : Int)).name) ++ [(i : Int)] := by rw [allK_succ, if_pos hof]
          have e1 : meansB job [⟨name, value⟩] (nth is (i : Int)) = okV V.2.2 ⟨name, value⟩ := by
            unfold meansB
            rw [hof, hV]
            simp
          refine Wp.seq (Wp.reads (is := [0, 1, 2]) (Keep.refl _) (Rn.s rfl Yv.mv (Rn.s rfl (Yv.add ⟨by omega, by omega⟩) (Rn.s rfl Yv.as (Rn.nil)))) ?_)
          refine Wp.seq (Wp.reads (is := [0]) (Keep.refl _) (Rn.s rfl Yv.as (Rn.nil)) ?_)
          refine Wp.block ?_
          have e2 : ((allK i (fun i => ofB job (nth is (i : Int)).name)).length : Int) + 1 = ((allK (i + 1) (fun i => ofB job (nth is (i : Int)).name)).length : Int) := by rw [e0]; simp
          rw [e2]
          refine Wp.loop (α := Nat) (fun k ρ ds w' => ds = [] ∧ k ≤ V.2.2.length ∧ getV V.2.2 name = getV (V.2.2.drop k) name ∧ St w [] w' [Ch.row InE 3 O co (allK i (fun i => meansB job [⟨name, value⟩] (nth is (i : Int)))), Ch.row IsE 46 B d (is.map mute)] ∧
              Sub [(1, S job), (2, S name), (3, S value), (10, .slice B is.length d), (13, .int .i64 ((allK (i + 1) (fun i => ofB job (nth is (i : Int)).name)).length : Int)), (14, .slice O (allK i (fun i => meansB job [⟨name, value⟩] (nth is (i : Int)))).length co), (15, .int .i64 (i : Int)), (16, .int .i64 (k : Int))] ρ) (fun k => V.2.2.length - k) 0
            ⟨rfl, by omega, rfl, hst, rfl, rfl, rfl, rfl, rfl, rfl, rfl, rfl, trivial⟩ ?_
          clear hst hrx hvr
          rintro k ρ ds w4 ⟨rfl, hk, hg, hst, hs⟩
          refine Wp.forget _ ?_ hs
          clear hs ρ
          have hrx := hst.rd 1
          have hvr : Rd VaE w4 V.1 V.2.2 := by rw [← hV]; exact hx.vars.keep hst.keep
          refine Wp.seq (Wp.seq (Wp.reads (is := [0, 1, 2, 3, 4, 5, 6, 7]) (Keep.refl _) (Rn.s rfl Yv.mv (Rn.s rfl Yv.mv (Rn.s rfl Yv.mv (Rn.s rfl (Yv.ia (e := 46) hrx (by omega) (by omega) hml.symm) (Rn.s rfl (Yv.fa (off := 3)) (Rn.s rfl (Yv.ld (hrx.ld 3 (by omega) (by omega))) (Rn.s rfl (Yv.len_v (e := 51) (m := 2)) (Rn.s rfl (Yv.cmp _ rfl) (Rn.nil))))))))) ?_))
          rw [hvar]
          refine Wp.cond rfl (fun hlk => ?_) (fun hlk => ?_)
          · have hlk : k < V.2.2.length := by have := of_decide_eq_true hlk; omega
            rw [getV_drop hlk] at hg
            have hlv := hrx.ld (i := (i : Int)) (u := sv V) 3 (by omega) (by omega) (by rw [← hvar]; rfl)
            refine Wp.skip (Wp.seq (Wp.block ?_))
            refine Wp.seq (Wp.reads (is := [0, 1, 2, 3, 4, 5, 6, 7, 8, 9, 10]) (Keep.refl _) (Rn.s rfl Yv.mv (Rn.s rfl Yv.mv (Rn.s rfl (Yv.ia (e := 46) hrx (by omega) (by omega) hml.symm) (Rn.s rfl (Yv.fa (off := 3)) (Rn.s rfl (Yv.ld hlv) (Rn.s rfl Yv.mv (Rn.s rfl (Yv.ia (e := 51) hvr (by omega) (by omega)) (Rn.s rfl (Yv.fa (off := 0)) (Rn.s rfl (Yv.ld (hvr.ld 0 (by omega) (by omega))) (Rn.s rfl Yv.mv (Rn.s rfl (Yv.scm _ rfl) (Rn.nil)))))))))))) ?_)
            refine Wp.cond rfl (fun hn => ?_) (fun hn => ?_)
            · have hn : (nth V.2.2 (k : Int)).name = name := by simpa using hn
              rw [if_pos hn] at hg
              have e3 : okV V.2.2 ⟨name, value⟩ = ((nth V.2.2 (k : Int)).value == value) := by
                unfold okV
                rw [hg]
                rfl
              refine Wp.seq (Wp.seq (Wp.reads (is := [0, 1, 2, 3, 4, 5, 6, 7, 8, 9, 10]) (Keep.refl _) (Rn.s rfl Yv.mv (Rn.s rfl Yv.mv (Rn.s rfl (Yv.ia (e := 46) hrx (by omega) (by omega) hml.symm) (Rn.s rfl (Yv.fa (off := 3)) (Rn.s rfl (Yv.ld hlv) (Rn.s rfl Yv.mv (Rn.s rfl (Yv.ia (e := 51) hvr (by omega) (by omega)) (Rn.s rfl (Yv.fa (off := 1)) (Rn.s rfl (Yv.ld (hvr.ld 1 (by omega) (by omega))) (Rn.s rfl Yv.mv (Rn.s rfl (Yv.scm _ rfl) (Rn.nil)))))))))))) ?_))
              refine Wp.cond rfl (fun hv => ?_) (fun hv => ?_)
              · have hv : ((nth V.2.2 (k : Int)).value == value) = true := hv
                have e4 : allK (i + 1) (fun i => meansB job [⟨name, value⟩] (nth is (i : Int))) = allK i (fun i => meansB job [⟨name, value⟩] (nth is (i : Int))) ++ [(i : Int)] := by rw [allK_succ, if_pos (by rw [e1, e3]; exact hv)]
                refine Wp.regionL (l := [0, 1, 2, 3, 4]) (WO.rd (is := [0, 1]) (js := [2, 3, 4]) (Keep.refl _) (Rn.s rfl Yv.mv (Rn.s rfl Yv.mv (Rn.nil))) (WO.app InE [(i : Int)] rfl (fun _ => rfl) hst 0 (fitInt (by simp only [List.length_cons, List.length_nil]; omega)) (fun bf1 Af1 cf1 wf1 hsf1 => WO.rd (is := [4]) (js := []) (Keep.refl _) (Rn.s rfl Yv.as (Rn.nil)) (WO.done ?_))))
                refine Wp.exit ?_
                rw [e4]
                exact ⟨rfl, _, _, hsf1, rfl, rfl, rfl, rfl, rfl, rfl, rfl, trivial⟩
              · have hv : ((nth V.2.2 (k : Int)).value == value) = false := hv
                have e4 : allK (i + 1) (fun i => meansB job [⟨name, value⟩] (nth is (i : Int))) = allK i (fun i => meansB job [⟨name, value⟩] (nth is (i : Int))) := by rw [allK_succ, if_neg (by rw [e1, e3, hv]; exact Bool.false_ne_true), List.append_nil]
                refine Wp.skip ?_
                refine Wp.exit ?_
                rw [e4]
                exact ⟨rfl, _, _, hst, rfl, rfl, rfl, rfl, rfl, rfl, rfl, trivial⟩
            · have hn : (nth V.2.2 (k : Int)).name ≠ name := by simpa using hn
              rw [if_neg hn] at hg
              refine Wp.skip (Wp.reads (is := [0, 1, 2]) (Keep.refl _) (Rn.s rfl Yv.mv (Rn.s rfl (Yv.add (by unfold inI; omega)) (Rn.s rfl Yv.as (Rn.nil)))) ?_)
              exact ⟨k + 1, ⟨rfl, by omega, hg, hst, rfl, rfl, rfl, rfl, rfl, rfl, rfl, rfl, trivial⟩, by omega⟩
          · have hlk : k = V.2.2.length := by have := of_decide_eq_false hlk; omega
            subst hlk
            rw [List.drop_length] at hg
            have e4 : allK (i + 1) (fun i => meansB job [⟨name, value⟩] (nth is (i : Int))) = allK i (fun i => meansB job [⟨name, value⟩] (nth is (i : Int))) := by
              rw [allK_succ, if_neg (by rw [e1]; unfold okV; rw [hg]; exact Bool.false_ne_true), List.append_nil]
            refine Wp.exit ?_
            rw [e4]
            exact ⟨rfl, _, _, hst, rfl, rfl, rfl, rfl, rfl, rfl, rfl, trivial⟩
        · have e0 : allK (i + 1) (fun i => ofB job (nth is (i : Int)).name) = allK i (fun i => ofB job (nth is (i : Int)).name) := by rw [allK_succ, if_neg (by rw [hof]; exact Bool.false_ne_true), List.append_nil]
          have e4 : allK (i + 1) (fun i => meansB job [⟨name, value⟩] (nth is (i : Int))) = allK i (fun i => meansB job [⟨name, value⟩] (nth is (i : Int))) := by
            rw [allK_succ, if_neg (by unfold meansB; rw [hof]; exact Bool.false_ne_true), List.append_nil]
          refine Wp.skip ?_
          rw [e0, e4]
          exact ⟨rfl, _, _, hst, rfl, rfl, rfl, rfl, rfl, rfl, rfl, trivial⟩
      · rintro ρ ds w4 ⟨rfl, O, co, hst, hs⟩
        refine Wp.forget _ ?_ hs
        clear hs ρ
        refine Wp.reads (is := [0, 1, 2]) (Keep.refl _) (Rn.s rfl Yv.mv (Rn.s rfl (Yv.add (by unfold inI; omega)) (Rn.s rfl Yv.as (Rn.nil)))) ?_
        exact ⟨i + 1, ⟨rfl, by omega, O, co, hst, rfl, rfl, rfl, rfl, rfl, rfl, rfl, trivial⟩, by omega⟩
    · have hlt : i = is.length := by have := of_decide_eq_false hlt; omega
      subst hlt
      exact Wp.exit ⟨rfl, O, co, hst, rfl, rfl, rfl, rfl, rfl, rfl, trivial⟩
  rintro ρ ds w3 ⟨rfl, O, co, hst, hs⟩
  refine Wp.forget _ ?_ hs
  clear hs ρ
  have hat0 : ∀ {w' : World}, Keep w w' → Rd IsE w' B (is.map mute) → IsAt w' B (is.map mute) := fun k hr => ⟨hr, fun x hx => by
    obtain ⟨z, hz, rfl⟩ := List.mem_map.1 hx
    exact mute_in ((h.each z hz).keep k)⟩
  have hok0 : ∀ x ∈ is.map mute, InOk x := fun x hx => by
    obtain ⟨z, hz, rfl⟩ := List.mem_map.1 hx
    exact mute_ok (hok z hz)
  have hvars0 : ∀ {js : List Ist}, js.map datI = (is.map mute).map datI → ∀ x ∈ js, x.vars.2.2.length ≤ 4398046511104 := fun {js} hj x hx => by
    obtain ⟨z, hz, e⟩ := dat_mem hj hx
    rw [← dat_vars e]
    exact (hok0 z hz).vars.2
  refine Wp.seq (Wp.regionL (l := [0, 1, 2]) (WO.rd (is := [0]) (js := [1, 2]) (Keep.refl _) (Rn.s rfl (Yv.bd (cs := at78.cs)) (Rn.nil)) (WO.act (hc := rfl) (he := Ef.allocL (vs := ft0.cs) hst (fun ba1 wa1 ka1 hsa1 => WO.act (hc := rfl) (he := Ef.stores hsa1 0 (fun wa2 hsa2 => WO.done ?_)))))))
  have c17 := hsa2.cells 0
  refine Wp.seq (Wp.regionL (l := [0, 1, 2, 3, 4, 5, 6]) (WO.rd (is := [0, 1, 2]) (js := [3, 4, 5, 6]) (Keep.refl _) (Rn.s rfl Yv.mv (Rn.s rfl (Yv.ldb c17) (Rn.s rfl (Yv.bd (cs := NeE.cells ⟨job, at78⟩)) (Rn.nil)))) (WO.act (hc := rfl) (he := Ef.bsl (T := 53) NeE [(⟨job, at78⟩ : Ne)] hsa2 (fun bb1 wb1 kb1 hsb1 => WO.rd (is := [4]) (js := [5, 6]) ((Keep.refl _).trans kb1) (Rn.s rfl (Yv.bd (cs := IsE.cells (loneN bb1 ⟨job, at78⟩))) (Rn.nil)) (WO.act (hc := rfl) (he := Ef.allocL (vs := zIs) hsb1 (fun bb2 wb2 kb2 hsb2 => WO.act (hc := rfl) (he := Ef.stores hsb2 0 (fun wb3 hsb3 => WO.done ?_))))))))))
  have hst : St w [] wb3 [Ch.cells bb2 46 (IsE.cells (loneN bb1 ⟨job, at78⟩)), Ch.row NeE 53 (some ⟨bb1, 0, none⟩) 1 [⟨job, at78⟩], Ch.row InE 3 O co (meansL is job [⟨name, value⟩]), Ch.row IsE 46 B d (is.map mute)] := hsb3.pick [0, 1, 3, 4]
  clear hsa1 hsa2 hsb1 hsb2 hsb3 c17
  generalize hWL : meansL is job [⟨name, value⟩] = WL at hst ⊢
  have hcopy : ∀ {w' : World}, Keep w w' → Rd IsE w' B (is.map mute) → Cx Tryd.prog 22 [.slice B is.length d] [] (fun v D => ∃ O co is', is'.map datI = (is.map mute).map datI ∧ v = .slice O is'.length co ∧ D = Ch.row IsE 46 O co is' :: is'.flatMap inC) w' := fun k hr => by
    have := copyIs_cx B d (is.map mute) _ (hat0 k hr) hok0 (by omega)
    rw [hml] at this
    exact this
  have htx : TxOk job := ⟨by omega, Nat.le_trans List.count_le_length (by omega)⟩
  have hrl : readG (⟨job, at78⟩ : Ne).text = some (job, []) := read_low hjob
  refine Wp.seq (Wp.mid (fun ρ ds w' => ds = [] ∧ ∃ b20 O6 co6 rr bs bf is4, is4.map datI = (is.map mute).map datI ∧ buildS (is4 ++ [loneN bb1 ⟨job, at78⟩]) = (bs, bf) ∧ rr.map (fun x : Sl => x.2.2) = bs ∧ St w [] w' [Ch.cells b20 44 bf.cs, Ch.cells bb2 46 (IsE.cells (loneN bb1 ⟨job, at78⟩)), Ch.row NeE 53 (some ⟨bb1, 0, none⟩) 1 [⟨job, at78⟩], Ch.row InE 3 O co WL, Ch.row IsE 46 B d (is.map mute)] ∧
      LsAt w' O6 rr ∧ Sub [(1, S job), (2, S name), (3, S value), (10, .slice B is.length d), (13, .int .i64 ((ofL is job).length : Int)), (14, .slice O WL.length co), (18, PB bb2), (19, .slice O6 rr.length co6), (20, PB b20)] ρ) ?_ ?_)
  · have hst := hst.quiet (Keep.drew wb3)
    have c18 := hst.cells 0
    refine Wp.drawsB [] mixed (WDB.rd (is := [0]) (fun _ _ _ _ _ h => h) (Keep.refl _) (Keep.refl _) (Rn.s rfl Yv.mv (Rn.nil)) ?_)
    refine WDB.rd (is := [2]) (fun _ _ _ _ _ h => h) (Keep.refl _) (Keep.refl _) (Rn.s rfl (Yv.ldb c18) (Rn.nil)) ?_
    have hs0 : St wb3.drew [] wb3.drew [] := St.init wb3.drew
    refine WDB.act3 1 3 9 (hci := rfl) (hcj := rfl) (hck := rfl) (hi := Ef.callv (caps := #[]) Tryd.func22 (Calls.mono (hcopy (hst.keep.trans hs0.keep) ((hst.rd 3).keep hs0.keep)) ?_)) (hj := Ef.bsl (T := 46) IsE [loneN bb1 ⟨job, at78⟩] hs0 (fun b3 w2 k3 hs2 => ⟨fun _ _ => hs2.keep, ?_⟩)) (hk := Ef.allocL (vs := ft0.cs) hs0 (fun b9 w3 k9 hs3 => ⟨fun _ _ => hs3.keep, ?_⟩))
    · rintro ev w1 ⟨v, D, rfl, ⟨O4, co4, is4, hd4, rfl, rfl⟩, hk4⟩
      refine ⟨fun _ _ => (hs0.call0 hk4).keep, ?_⟩
      have hs1 : St wb3.drew [] w1 (Ch.row IsE 46 O4 co4 is4 :: (is4.flatMap inC ++ [])) := St.tuck (S := []) (hs0.call0 hk4)
      have hl4 := dat_len hd4
      clear hk4
      refine WDB.act2 3 9 (hci := rfl) (hcj := rfl) (hi := Ef.bsl (T := 46) IsE [loneN bb1 ⟨job, at78⟩] hs1 (fun b3 w4 k3 hs4 => ⟨fun _ _ => hs4.keep, ?_⟩)) (hj := Ef.allocL (vs := ft0.cs) hs1 (fun b9 w5 k9 hs5 => ⟨fun _ _ => hs5.keep, ?_⟩))
      · have hs4 : St wb3.drew [] w4 (Ch.row IsE 46 (some ⟨b3, 0, none⟩) 1 [loneN bb1 ⟨job, at78⟩] :: Ch.row IsE 46 O4 co4 is4 :: (is4.flatMap inC ++ [])) := hs4
        clear k3
        refine WDB.act2 4 9 (hci := rfl) (hcj := rfl) (hi := Ef.append hs4 1 (hs4.rd 0) (fun q => by cases q) (fitIs (by simp only [List.length_cons, List.length_nil]; omega)) (fun A4 c4 w6 hs6 => ⟨fun _ _ => hs6.keep, ?_⟩)) (hj := Ef.allocL (vs := ft0.cs) hs4 (fun b9 w7 k9 hs7 => ⟨fun _ _ => hs7.keep, ?_⟩))
        · have hs6 : St wb3.drew [] w6 (Ch.row IsE 46 A4 c4 (is4 ++ [loneN bb1 ⟨job, at78⟩]) :: Ch.row IsE 46 (some ⟨b3, 0, none⟩) 1 [loneN bb1 ⟨job, at78⟩] :: (is4.flatMap inC ++ [])) := hs6
          have hbc := build_cx A4 c4 (is4 ++ [loneN bb1 ⟨job, at78⟩]) w6 (lone_at (c := c4) hs6 (fun x hx C hC => List.mem_append_right [Ch.row IsE 46 A4 c4 (is4 ++ [loneN bb1 ⟨job, at78⟩]), Ch.row IsE 46 (some ⟨b3, 0, none⟩) 1 [loneN bb1 ⟨job, at78⟩]] (List.mem_append_left _ (List.mem_flatMap.2 ⟨x, hx, hC⟩))) (by simp) ((hst.rd 1).keep hs6.keep)) (lone_bld hd4 hil (hvars0 hd4) htx)
          obtain ⟨bs, bf, hbs⟩ : ∃ bs bf, buildS (is4 ++ [loneN bb1 ⟨job, at78⟩]) = (bs, bf) := ⟨_, _, rfl⟩
          rw [hbs] at hbc
          refine WDB.act2 5 9 (hci := rfl) (hcj := rfl) (hi := Ef.callv (caps := #[]) Tryd.func23 (Calls.mono hbc ?_)) (hj := Ef.allocL (vs := ft0.cs) hs6 (fun b9 w9 k9 hs9 => ⟨fun _ _ => hs9.keep, ?_⟩))
          · rintro ev w8 ⟨v, D, rfl, ⟨O6, co6, rr, hrr, rfl, rfl⟩, hk6⟩
            refine ⟨fun _ _ => (hs6.call0 hk6).keep, ?_⟩
            have hs8 : St wb3.drew [] w8 (Ch.row ShE 23 O6 co6 rr :: Ch.row IsE 46 A4 c4 (is4 ++ [loneN bb1 ⟨job, at78⟩]) :: Ch.row IsE 46 (some ⟨b3, 0, none⟩) 1 [loneN bb1 ⟨job, at78⟩] :: (RsD rr ++ (is4.flatMap inC ++ []))) := St.tuck (S := [Ch.row IsE 46 A4 c4 (is4 ++ [loneN bb1 ⟨job, at78⟩]), Ch.row IsE 46 (some ⟨b3, 0, none⟩) 1 [loneN bb1 ⟨job, at78⟩]]) (hs6.call0 hk6)
            clear hk6
            refine WDB.rd0 (is := [6, 7, 8]) (fun _ _ _ _ _ h => h) (Keep.refl _) (Rn.s rfl Yv.mv (Rn.s rfl Yv.ex (Rn.s rfl Yv.ex (Rn.nil)))) ?_
            refine WDB.act 9 (hc := rfl) (he := Ef.allocL (vs := ft0.cs) hs8 (fun b9 w10 k9 hs10 => ⟨fun _ _ => hs10.keep, ?_⟩))
            have hs10 : St wb3.drew [] w10 (Ch.cells b9 44 ft0.cs :: Ch.row ShE 23 O6 co6 rr :: Ch.row IsE 46 A4 c4 (is4 ++ [loneN bb1 ⟨job, at78⟩]) :: Ch.row IsE 46 (some ⟨b3, 0, none⟩) 1 [loneN bb1 ⟨job, at78⟩] :: (RsD rr ++ (is4.flatMap inC ++ []))) := hs10
            clear k9
            refine WDB.rd0 (is := [10]) (fun _ _ _ _ _ h => h) (Keep.refl _) (Rn.s rfl Yv.as (Rn.nil)) ?_
            refine WDB.act 11 (hc := rfl) (he := Ef.stores hs10 0 (fun w11 hs11 => ⟨fun _ _ => hs11.keep, WDB.done ?_⟩))
            have hs11 : St wb3.drew [] w11 (Ch.cells b9 44 bf.cs :: Ch.row ShE 23 O6 co6 rr :: Ch.row IsE 46 A4 c4 (is4 ++ [loneN bb1 ⟨job, at78⟩]) :: Ch.row IsE 46 (some ⟨b3, 0, none⟩) 1 [loneN bb1 ⟨job, at78⟩] :: (RsD rr ++ (is4.flatMap inC ++ []))) := hs11
            exact ⟨rfl, b9, O6, co6, rr, bs, bf, is4, hd4, hbs, hrr, hst.call0 (hs11.pick [0]), ls_of (co := co6) hs11 (by simp) (fun C hC => by simp [hC]), rfl, rfl, rfl, rfl, rfl, rfl, rfl, rfl, rfl, trivial⟩
          · have hs9 : St wb3.drew [] w9 (Ch.cells b9 44 ft0.cs :: Ch.row IsE 46 A4 c4 (is4 ++ [loneN bb1 ⟨job, at78⟩]) :: Ch.row IsE 46 (some ⟨b3, 0, none⟩) 1 [loneN bb1 ⟨job, at78⟩] :: (is4.flatMap inC ++ [])) := hs9
            clear k9
            have hbc := build_cx A4 c4 (is4 ++ [loneN bb1 ⟨job, at78⟩]) w9 (lone_at (c := c4) hs9 (fun x hx C hC => List.mem_append_right [Ch.cells b9 44 ft0.cs, Ch.row IsE 46 A4 c4 (is4 ++ [loneN bb1 ⟨job, at78⟩]), Ch.row IsE 46 (some ⟨b3, 0, none⟩) 1 [loneN bb1 ⟨job, at78⟩]] (List.mem_append_left _ (List.mem_flatMap.2 ⟨x, hx, hC⟩))) (by simp) ((hst.rd 1).keep hs9.keep)) (lone_bld hd4 hil (hvars0 hd4) htx)
            obtain ⟨bs, bf, hbs⟩ : ∃ bs bf, buildS (is4 ++ [loneN bb1 ⟨job, at78⟩]) = (bs, bf) := ⟨_, _, rfl⟩
            rw [hbs] at hbc
            refine WDB.act 5 (hc := rfl) (he := Ef.callv (caps := #[]) Tryd.func23 (Calls.mono hbc ?_))
            rintro ev w12 ⟨v, D, rfl, ⟨O6, co6, rr, hrr, rfl, rfl⟩, hk6⟩
            refine ⟨fun _ _ => (hs9.call0 hk6).keep, ?_⟩
            have hs12 : St wb3.drew [] w12 (Ch.row ShE 23 O6 co6 rr :: Ch.cells b9 44 ft0.cs :: Ch.row IsE 46 A4 c4 (is4 ++ [loneN bb1 ⟨job, at78⟩]) :: Ch.row IsE 46 (some ⟨b3, 0, none⟩) 1 [loneN bb1 ⟨job, at78⟩] :: (RsD rr ++ (is4.flatMap inC ++ []))) := St.tuck (S := [Ch.cells b9 44 ft0.cs, Ch.row IsE 46 A4 c4 (is4 ++ [loneN bb1 ⟨job, at78⟩]), Ch.row IsE 46 (some ⟨b3, 0, none⟩) 1 [loneN bb1 ⟨job, at78⟩]]) (hs9.call0 hk6)
            clear hk6
            refine WDB.rd0 (is := [6, 7, 8]) (fun _ _ _ _ _ h => h) (Keep.refl _) (Rn.s rfl Yv.mv (Rn.s rfl Yv.ex (Rn.s rfl Yv.ex (Rn.nil)))) ?_
            refine WDB.rd0 (is := [10]) (fun _ _ _ _ _ h => h) (Keep.refl _) (Rn.s rfl Yv.as (Rn.nil)) ?_
            refine WDB.act 11 (hc := rfl) (he := Ef.stores hs12 1 (fun w13 hs13 => ⟨fun _ _ => hs13.keep, WDB.done ?_⟩))
            have hs13 : St wb3.drew [] w13 (Ch.cells b9 44 bf.cs :: Ch.row ShE 23 O6 co6 rr :: Ch.row IsE 46 A4 c4 (is4 ++ [loneN bb1 ⟨job, at78⟩]) :: Ch.row IsE 46 (some ⟨b3, 0, none⟩) 1 [loneN bb1 ⟨job, at78⟩] :: (RsD rr ++ (is4.flatMap inC ++ []))) := hs13
            exact ⟨rfl, b9, O6, co6, rr, bs, bf, is4, hd4, hbs, hrr, hst.call0 (hs13.pick [0]), ls_of (co := co6) hs13 (by simp) (fun C hC => by simp [hC]), rfl, rfl, rfl, rfl, rfl, rfl, rfl, rfl, rfl, trivial⟩
        · have hs7 : St wb3.drew [] w7 (Ch.cells b9 44 ft0.cs :: Ch.row IsE 46 (some ⟨b3, 0, none⟩) 1 [loneN bb1 ⟨job, at78⟩] :: Ch.row IsE 46 O4 co4 is4 :: (is4.flatMap inC ++ [])) := hs7
          clear k9
          refine WDB.act 4 (hc := rfl) (he := Ef.append hs7 2 (hs7.rd 1) (fun q => by cases q) (fitIs (by simp only [List.length_cons, List.length_nil]; omega)) (fun A4 c4 w14 hs14 => ⟨fun _ _ => hs14.keep, ?_⟩))
          have hs14 : St wb3.drew [] w14 (Ch.row IsE 46 A4 c4 (is4 ++ [loneN bb1 ⟨job, at78⟩]) :: Ch.cells b9 44 ft0.cs :: Ch.row IsE 46 (some ⟨b3, 0, none⟩) 1 [loneN bb1 ⟨job, at78⟩] :: (is4.flatMap inC ++ [])) := hs14
          have hbc := build_cx A4 c4 (is4 ++ [loneN bb1 ⟨job, at78⟩]) w14 (lone_at (c := c4) hs14 (fun x hx C hC => List.mem_append_right [Ch.row IsE 46 A4 c4 (is4 ++ [loneN bb1 ⟨job, at78⟩]), Ch.cells b9 44 ft0.cs, Ch.row IsE 46 (some ⟨b3, 0, none⟩) 1 [loneN bb1 ⟨job, at78⟩]] (List.mem_append_left _ (List.mem_flatMap.2 ⟨x, hx, hC⟩))) (by simp) ((hst.rd 1).keep hs14.keep)) (lone_bld hd4 hil (hvars0 hd4) htx)
          obtain ⟨bs, bf, hbs⟩ : ∃ bs bf, buildS (is4 ++ [loneN bb1 ⟨job, at78⟩]) = (bs, bf) := ⟨_, _, rfl⟩
          rw [hbs] at hbc
          refine WDB.act 5 (hc := rfl) (he := Ef.callv (caps := #[]) Tryd.func23 (Calls.mono hbc ?_))
          rintro ev w15 ⟨v, D, rfl, ⟨O6, co6, rr, hrr, rfl, rfl⟩, hk6⟩
          refine ⟨fun _ _ => (hs14.call0 hk6).keep, ?_⟩
          have hs15 : St wb3.drew [] w15 (Ch.row ShE 23 O6 co6 rr :: Ch.row IsE 46 A4 c4 (is4 ++ [loneN bb1 ⟨job, at78⟩]) :: Ch.cells b9 44 ft0.cs :: Ch.row IsE 46 (some ⟨b3, 0, none⟩) 1 [loneN bb1 ⟨job, at78⟩] :: (RsD rr ++ (is4.flatMap inC ++ []))) := St.tuck (S := [Ch.row IsE 46 A4 c4 (is4 ++ [loneN bb1 ⟨job, at78⟩]), Ch.cells b9 44 ft0.cs, Ch.row IsE 46 (some ⟨b3, 0, none⟩) 1 [loneN bb1 ⟨job, at78⟩]]) (hs14.call0 hk6)
          clear hk6
          refine WDB.rd0 (is := [6, 7, 8]) (fun _ _ _ _ _ h => h) (Keep.refl _) (Rn.s rfl Yv.mv (Rn.s rfl Yv.ex (Rn.s rfl Yv.ex (Rn.nil)))) ?_
          refine WDB.rd0 (is := [10]) (fun _ _ _ _ _ h => h) (Keep.refl _) (Rn.s rfl Yv.as (Rn.nil)) ?_
          refine WDB.act 11 (hc := rfl) (he := Ef.stores hs15 2 (fun w16 hs16 => ⟨fun _ _ => hs16.keep, WDB.done ?_⟩))
          have hs16 : St wb3.drew [] w16 (Ch.cells b9 44 bf.cs :: Ch.row ShE 23 O6 co6 rr :: Ch.row IsE 46 A4 c4 (is4 ++ [loneN bb1 ⟨job, at78⟩]) :: Ch.row IsE 46 (some ⟨b3, 0, none⟩) 1 [loneN bb1 ⟨job, at78⟩] :: (RsD rr ++ (is4.flatMap inC ++ []))) := hs16
          exact ⟨rfl, b9, O6, co6, rr, bs, bf, is4, hd4, hbs, hrr, hst.call0 (hs16.pick [0]), ls_of (co := co6) hs16 (by simp) (fun C hC => by simp [hC]), rfl, rfl, rfl, rfl, rfl, rfl, rfl, rfl, rfl, trivial⟩
      · have hs5 : St wb3.drew [] w5 (Ch.cells b9 44 ft0.cs :: Ch.row IsE 46 O4 co4 is4 :: (is4.flatMap inC ++ [])) := hs5
        clear k9
        refine WDB.act 3 (hc := rfl) (he := Ef.bsl (T := 46) IsE [loneN bb1 ⟨job, at78⟩] hs5 (fun b3 w17 k3 hs17 => ⟨fun _ _ => hs17.keep, ?_⟩))
        have hs17 : St wb3.drew [] w17 (Ch.row IsE 46 (some ⟨b3, 0, none⟩) 1 [loneN bb1 ⟨job, at78⟩] :: Ch.cells b9 44 ft0.cs :: Ch.row IsE 46 O4 co4 is4 :: (is4.flatMap inC ++ [])) := hs17
        clear k3
        refine WDB.act 4 (hc := rfl) (he := Ef.append hs17 2 (hs17.rd 0) (fun q => by cases q) (fitIs (by simp only [List.length_cons, List.length_nil]; omega)) (fun A4 c4 w18 hs18 => ⟨fun _ _ => hs18.keep, ?_⟩))
        have hs18 : St wb3.drew [] w18 (Ch.row IsE 46 A4 c4 (is4 ++ [loneN bb1 ⟨job, at78⟩]) :: Ch.row IsE 46 (some ⟨b3, 0, none⟩) 1 [loneN bb1 ⟨job, at78⟩] :: Ch.cells b9 44 ft0.cs :: (is4.flatMap inC ++ [])) := hs18
        have hbc := build_cx A4 c4 (is4 ++ [loneN bb1 ⟨job, at78⟩]) w18 (lone_at (c := c4) hs18 (fun x hx C hC => List.mem_append_right [Ch.row IsE 46 A4 c4 (is4 ++ [loneN bb1 ⟨job, at78⟩]), Ch.row IsE 46 (some ⟨b3, 0, none⟩) 1 [loneN bb1 ⟨job, at78⟩], Ch.cells b9 44 ft0.cs] (List.mem_append_left _ (List.mem_flatMap.2 ⟨x, hx, hC⟩))) (by simp) ((hst.rd 1).keep hs18.keep)) (lone_bld hd4 hil (hvars0 hd4) htx)
        obtain ⟨bs, bf, hbs⟩ : ∃ bs bf, buildS (is4 ++ [loneN bb1 ⟨job, at78⟩]) = (bs, bf) := ⟨_, _, rfl⟩
        rw [hbs] at hbc
        refine WDB.act 5 (hc := rfl) (he := Ef.callv (caps := #[]) Tryd.func23 (Calls.mono hbc ?_))
        rintro ev w19 ⟨v, D, rfl, ⟨O6, co6, rr, hrr, rfl, rfl⟩, hk6⟩
        refine ⟨fun _ _ => (hs18.call0 hk6).keep, ?_⟩
        have hs19 : St wb3.drew [] w19 (Ch.row ShE 23 O6 co6 rr :: Ch.row IsE 46 A4 c4 (is4 ++ [loneN bb1 ⟨job, at78⟩]) :: Ch.row IsE 46 (some ⟨b3, 0, none⟩) 1 [loneN bb1 ⟨job, at78⟩] :: Ch.cells b9 44 ft0.cs :: (RsD rr ++ (is4.flatMap inC ++ []))) := St.tuck (S := [Ch.row IsE 46 A4 c4 (is4 ++ [loneN bb1 ⟨job, at78⟩]), Ch.row IsE 46 (some ⟨b3, 0, none⟩) 1 [loneN bb1 ⟨job, at78⟩], Ch.cells b9 44 ft0.cs]) (hs18.call0 hk6)
        clear hk6
        refine WDB.rd0 (is := [6, 7, 8]) (fun _ _ _ _ _ h => h) (Keep.refl _) (Rn.s rfl Yv.mv (Rn.s rfl Yv.ex (Rn.s rfl Yv.ex (Rn.nil)))) ?_
        refine WDB.rd0 (is := [10]) (fun _ _ _ _ _ h => h) (Keep.refl _) (Rn.s rfl Yv.as (Rn.nil)) ?_
        refine WDB.act 11 (hc := rfl) (he := Ef.stores hs19 3 (fun w20 hs20 => ⟨fun _ _ => hs20.keep, WDB.done ?_⟩))
        have hs20 : St wb3.drew [] w20 (Ch.cells b9 44 bf.cs :: Ch.row ShE 23 O6 co6 rr :: Ch.row IsE 46 A4 c4 (is4 ++ [loneN bb1 ⟨job, at78⟩]) :: Ch.row IsE 46 (some ⟨b3, 0, none⟩) 1 [loneN bb1 ⟨job, at78⟩] :: (RsD rr ++ (is4.flatMap inC ++ []))) := hs20
        exact ⟨rfl, b9, O6, co6, rr, bs, bf, is4, hd4, hbs, hrr, hst.call0 (hs20.pick [0]), ls_of (co := co6) hs20 (by simp) (fun C hC => by simp [hC]), rfl, rfl, rfl, rfl, rfl, rfl, rfl, rfl, rfl, trivial⟩
    · have hs2 : St wb3.drew [] w2 (Ch.row IsE 46 (some ⟨b3, 0, none⟩) 1 [loneN bb1 ⟨job, at78⟩] :: []) := hs2
      clear k3
      refine WDB.act2 1 9 (hci := rfl) (hcj := rfl) (hi := Ef.callv (caps := #[]) Tryd.func22 (Calls.mono (hcopy (hst.keep.trans hs2.keep) ((hst.rd 3).keep hs2.keep)) ?_)) (hj := Ef.allocL (vs := ft0.cs) hs2 (fun b9 w22 k9 hs22 => ⟨fun _ _ => hs22.keep, ?_⟩))
      · rintro ev w21 ⟨v, D, rfl, ⟨O4, co4, is4, hd4, rfl, rfl⟩, hk4⟩
        refine ⟨fun _ _ => (hs2.call0 hk4).keep, ?_⟩
        have hs21 : St wb3.drew [] w21 (Ch.row IsE 46 O4 co4 is4 :: Ch.row IsE 46 (some ⟨b3, 0, none⟩) 1 [loneN bb1 ⟨job, at78⟩] :: (is4.flatMap inC ++ [])) := St.tuck (S := [Ch.row IsE 46 (some ⟨b3, 0, none⟩) 1 [loneN bb1 ⟨job, at78⟩]]) (hs2.call0 hk4)
        have hl4 := dat_len hd4
        clear hk4
        refine WDB.act2 4 9 (hci := rfl) (hcj := rfl) (hi := Ef.append hs21 0 (hs21.rd 1) (fun q => by cases q) (fitIs (by simp only [List.length_cons, List.length_nil]; omega)) (fun A4 c4 w23 hs23 => ⟨fun _ _ => hs23.keep, ?_⟩)) (hj := Ef.allocL (vs := ft0.cs) hs21 (fun b9 w24 k9 hs24 => ⟨fun _ _ => hs24.keep, ?_⟩))
        · have hs23 : St wb3.drew [] w23 (Ch.row IsE 46 A4 c4 (is4 ++ [loneN bb1 ⟨job, at78⟩]) :: Ch.row IsE 46 (some ⟨b3, 0, none⟩) 1 [loneN bb1 ⟨job, at78⟩] :: (is4.flatMap inC ++ [])) := hs23
          have hbc := build_cx A4 c4 (is4 ++ [loneN bb1 ⟨job, at78⟩]) w23 (lone_at (c := c4) hs23 (fun x hx C hC => List.mem_append_right [Ch.row IsE 46 A4 c4 (is4 ++ [loneN bb1 ⟨job, at78⟩]), Ch.row IsE 46 (some ⟨b3, 0, none⟩) 1 [loneN bb1 ⟨job, at78⟩]] (List.mem_append_left _ (List.mem_flatMap.2 ⟨x, hx, hC⟩))) (by simp) ((hst.rd 1).keep hs23.keep)) (lone_bld hd4 hil (hvars0 hd4) htx)
          obtain ⟨bs, bf, hbs⟩ : ∃ bs bf, buildS (is4 ++ [loneN bb1 ⟨job, at78⟩]) = (bs, bf) := ⟨_, _, rfl⟩
          rw [hbs] at hbc
          refine WDB.act2 5 9 (hci := rfl) (hcj := rfl) (hi := Ef.callv (caps := #[]) Tryd.func23 (Calls.mono hbc ?_)) (hj := Ef.allocL (vs := ft0.cs) hs23 (fun b9 w26 k9 hs26 => ⟨fun _ _ => hs26.keep, ?_⟩))
          · rintro ev w25 ⟨v, D, rfl, ⟨O6, co6, rr, hrr, rfl, rfl⟩, hk6⟩
            refine ⟨fun _ _ => (hs23.call0 hk6).keep, ?_⟩
            have hs25 : St wb3.drew [] w25 (Ch.row ShE 23 O6 co6 rr :: Ch.row IsE 46 A4 c4 (is4 ++ [loneN bb1 ⟨job, at78⟩]) :: Ch.row IsE 46 (some ⟨b3, 0, none⟩) 1 [loneN bb1 ⟨job, at78⟩] :: (RsD rr ++ (is4.flatMap inC ++ []))) := St.tuck (S := [Ch.row IsE 46 A4 c4 (is4 ++ [loneN bb1 ⟨job, at78⟩]), Ch.row IsE 46 (some ⟨b3, 0, none⟩) 1 [loneN bb1 ⟨job, at78⟩]]) (hs23.call0 hk6)
            clear hk6
            refine WDB.rd0 (is := [6, 7, 8]) (fun _ _ _ _ _ h => h) (Keep.refl _) (Rn.s rfl Yv.mv (Rn.s rfl Yv.ex (Rn.s rfl Yv.ex (Rn.nil)))) ?_
            refine WDB.act 9 (hc := rfl) (he := Ef.allocL (vs := ft0.cs) hs25 (fun b9 w27 k9 hs27 => ⟨fun _ _ => hs27.keep, ?_⟩))
            have hs27 : St wb3.drew [] w27 (Ch.cells b9 44 ft0.cs :: Ch.row ShE 23 O6 co6 rr :: Ch.row IsE 46 A4 c4 (is4 ++ [loneN bb1 ⟨job, at78⟩]) :: Ch.row IsE 46 (some ⟨b3, 0, none⟩) 1 [loneN bb1 ⟨job, at78⟩] :: (RsD rr ++ (is4.flatMap inC ++ []))) := hs27
            clear k9
            refine WDB.rd0 (is := [10]) (fun _ _ _ _ _ h => h) (Keep.refl _) (Rn.s rfl Yv.as (Rn.nil)) ?_
            refine WDB.act 11 (hc := rfl) (he := Ef.stores hs27 0 (fun w28 hs28 => ⟨fun _ _ => hs28.keep, WDB.done ?_⟩))
            have hs28 : St wb3.drew [] w28 (Ch.cells b9 44 bf.cs :: Ch.row ShE 23 O6 co6 rr :: Ch.row IsE 46 A4 c4 (is4 ++ [loneN bb1 ⟨job, at78⟩]) :: Ch.row IsE 46 (some ⟨b3, 0, none⟩) 1 [loneN bb1 ⟨job, at78⟩] :: (RsD rr ++ (is4.flatMap inC ++ []))) := hs28
            exact ⟨rfl, b9, O6, co6, rr, bs, bf, is4, hd4, hbs, hrr, hst.call0 (hs28.pick [0]), ls_of (co := co6) hs28 (by simp) (fun C hC => by simp [hC]), rfl, rfl, rfl, rfl, rfl, rfl, rfl, rfl, rfl, trivial⟩
          · have hs26 : St wb3.drew [] w26 (Ch.cells b9 44 ft0.cs :: Ch.row IsE 46 A4 c4 (is4 ++ [loneN bb1 ⟨job, at78⟩]) :: Ch.row IsE 46 (some ⟨b3, 0, none⟩) 1 [loneN bb1 ⟨job, at78⟩] :: (is4.flatMap inC ++ [])) := hs26
            clear k9
            have hbc := build_cx A4 c4 (is4 ++ [loneN bb1 ⟨job, at78⟩]) w26 (lone_at (c := c4) hs26 (fun x hx C hC => List.mem_append_right [Ch.cells b9 44 ft0.cs, Ch.row IsE 46 A4 c4 (is4 ++ [loneN bb1 ⟨job, at78⟩]), Ch.row IsE 46 (some ⟨b3, 0, none⟩) 1 [loneN bb1 ⟨job, at78⟩]] (List.mem_append_left _ (List.mem_flatMap.2 ⟨x, hx, hC⟩))) (by simp) ((hst.rd 1).keep hs26.keep)) (lone_bld hd4 hil (hvars0 hd4) htx)
            obtain ⟨bs, bf, hbs⟩ : ∃ bs bf, buildS (is4 ++ [loneN bb1 ⟨job, at78⟩]) = (bs, bf) := ⟨_, _, rfl⟩
            rw [hbs] at hbc
            refine WDB.act 5 (hc := rfl) (he := Ef.callv (caps := #[]) Tryd.func23 (Calls.mono hbc ?_))
            rintro ev w29 ⟨v, D, rfl, ⟨O6, co6, rr, hrr, rfl, rfl⟩, hk6⟩
            refine ⟨fun _ _ => (hs26.call0 hk6).keep, ?_⟩
            have hs29 : St wb3.drew [] w29 (Ch.row ShE 23 O6 co6 rr :: Ch.cells b9 44 ft0.cs :: Ch.row IsE 46 A4 c4 (is4 ++ [loneN bb1 ⟨job, at78⟩]) :: Ch.row IsE 46 (some ⟨b3, 0, none⟩) 1 [loneN bb1 ⟨job, at78⟩] :: (RsD rr ++ (is4.flatMap inC ++ []))) := St.tuck (S := [Ch.cells b9 44 ft0.cs, Ch.row IsE 46 A4 c4 (is4 ++ [loneN bb1 ⟨job, at78⟩]), Ch.row IsE 46 (some ⟨b3, 0, none⟩) 1 [loneN bb1 ⟨job, at78⟩]]) (hs26.call0 hk6)
            clear hk6
            refine WDB.rd0 (is := [6, 7, 8]) (fun _ _ _ _ _ h => h) (Keep.refl _) (Rn.s rfl Yv.mv (Rn.s rfl Yv.ex (Rn.s rfl Yv.ex (Rn.nil)))) ?_
            refine WDB.rd0 (is := [10]) (fun _ _ _ _ _ h => h) (Keep.refl _) (Rn.s rfl Yv.as (Rn.nil)) ?_
            refine WDB.act 11 (hc := rfl) (he := Ef.stores hs29 1 (fun w30 hs30 => ⟨fun _ _ => hs30.keep, WDB.done ?_⟩))
            have hs30 : St wb3.drew [] w30 (Ch.cells b9 44 bf.cs :: Ch.row ShE 23 O6 co6 rr :: Ch.row IsE 46 A4 c4 (is4 ++ [loneN bb1 ⟨job, at78⟩]) :: Ch.row IsE 46 (some ⟨b3, 0, none⟩) 1 [loneN bb1 ⟨job, at78⟩] :: (RsD rr ++ (is4.flatMap inC ++ []))) := hs30
            exact ⟨rfl, b9, O6, co6, rr, bs, bf, is4, hd4, hbs, hrr, hst.call0 (hs30.pick [0]), ls_of (co := co6) hs30 (by simp) (fun C hC => by simp [hC]), rfl, rfl, rfl, rfl, rfl, rfl, rfl, rfl, rfl, trivial⟩
        · have hs24 : St wb3.drew [] w24 (Ch.cells b9 44 ft0.cs :: Ch.row IsE 46 O4 co4 is4 :: Ch.row IsE 46 (some ⟨b3, 0, none⟩) 1 [loneN bb1 ⟨job, at78⟩] :: (is4.flatMap inC ++ [])) := hs24
          clear k9
          refine WDB.act 4 (hc := rfl) (he := Ef.append hs24 1 (hs24.rd 2) (fun q => by cases q) (fitIs (by simp only [List.length_cons, List.length_nil]; omega)) (fun A4 c4 w31 hs31 => ⟨fun _ _ => hs31.keep, ?_⟩))
          have hs31 : St wb3.drew [] w31 (Ch.row IsE 46 A4 c4 (is4 ++ [loneN bb1 ⟨job, at78⟩]) :: Ch.cells b9 44 ft0.cs :: Ch.row IsE 46 (some ⟨b3, 0, none⟩) 1 [loneN bb1 ⟨job, at78⟩] :: (is4.flatMap inC ++ [])) := hs31
          have hbc := build_cx A4 c4 (is4 ++ [loneN bb1 ⟨job, at78⟩]) w31 (lone_at (c := c4) hs31 (fun x hx C hC => List.mem_append_right [Ch.row IsE 46 A4 c4 (is4 ++ [loneN bb1 ⟨job, at78⟩]), Ch.cells b9 44 ft0.cs, Ch.row IsE 46 (some ⟨b3, 0, none⟩) 1 [loneN bb1 ⟨job, at78⟩]] (List.mem_append_left _ (List.mem_flatMap.2 ⟨x, hx, hC⟩))) (by simp) ((hst.rd 1).keep hs31.keep)) (lone_bld hd4 hil (hvars0 hd4) htx)
          obtain ⟨bs, bf, hbs⟩ : ∃ bs bf, buildS (is4 ++ [loneN bb1 ⟨job, at78⟩]) = (bs, bf) := ⟨_, _, rfl⟩
          rw [hbs] at hbc
          refine WDB.act 5 (hc := rfl) (he := Ef.callv (caps := #[]) Tryd.func23 (Calls.mono hbc ?_))
          rintro ev w32 ⟨v, D, rfl, ⟨O6, co6, rr, hrr, rfl, rfl⟩, hk6⟩
          refine ⟨fun _ _ => (hs31.call0 hk6).keep, ?_⟩
          have hs32 : St wb3.drew [] w32 (Ch.row ShE 23 O6 co6 rr :: Ch.row IsE 46 A4 c4 (is4 ++ [loneN bb1 ⟨job, at78⟩]) :: Ch.cells b9 44 ft0.cs :: Ch.row IsE 46 (some ⟨b3, 0, none⟩) 1 [loneN bb1 ⟨job, at78⟩] :: (RsD rr ++ (is4.flatMap inC ++ []))) := St.tuck (S := [Ch.row IsE 46 A4 c4 (is4 ++ [loneN bb1 ⟨job, at78⟩]), Ch.cells b9 44 ft0.cs, Ch.row IsE 46 (some ⟨b3, 0, none⟩) 1 [loneN bb1 ⟨job, at78⟩]]) (hs31.call0 hk6)
          clear hk6
          refine WDB.rd0 (is := [6, 7, 8]) (fun _ _ _ _ _ h => h) (Keep.refl _) (Rn.s rfl Yv.mv (Rn.s rfl Yv.ex (Rn.s rfl Yv.ex (Rn.nil)))) ?_
          refine WDB.rd0 (is := [10]) (fun _ _ _ _ _ h => h) (Keep.refl _) (Rn.s rfl Yv.as (Rn.nil)) ?_
          refine WDB.act 11 (hc := rfl) (he := Ef.stores hs32 2 (fun w33 hs33 => ⟨fun _ _ => hs33.keep, WDB.done ?_⟩))
          have hs33 : St wb3.drew [] w33 (Ch.cells b9 44 bf.cs :: Ch.row ShE 23 O6 co6 rr :: Ch.row IsE 46 A4 c4 (is4 ++ [loneN bb1 ⟨job, at78⟩]) :: Ch.row IsE 46 (some ⟨b3, 0, none⟩) 1 [loneN bb1 ⟨job, at78⟩] :: (RsD rr ++ (is4.flatMap inC ++ []))) := hs33
          exact ⟨rfl, b9, O6, co6, rr, bs, bf, is4, hd4, hbs, hrr, hst.call0 (hs33.pick [0]), ls_of (co := co6) hs33 (by simp) (fun C hC => by simp [hC]), rfl, rfl, rfl, rfl, rfl, rfl, rfl, rfl, rfl, trivial⟩
      · have hs22 : St wb3.drew [] w22 (Ch.cells b9 44 ft0.cs :: Ch.row IsE 46 (some ⟨b3, 0, none⟩) 1 [loneN bb1 ⟨job, at78⟩] :: []) := hs22
        clear k9
        refine WDB.act 1 (hc := rfl) (he := Ef.callv (caps := #[]) Tryd.func22 (Calls.mono (hcopy (hst.keep.trans hs22.keep) ((hst.rd 3).keep hs22.keep)) ?_))
        rintro ev w34 ⟨v, D, rfl, ⟨O4, co4, is4, hd4, rfl, rfl⟩, hk4⟩
        refine ⟨fun _ _ => (hs22.call0 hk4).keep, ?_⟩
        have hs34 : St wb3.drew [] w34 (Ch.row IsE 46 O4 co4 is4 :: Ch.cells b9 44 ft0.cs :: Ch.row IsE 46 (some ⟨b3, 0, none⟩) 1 [loneN bb1 ⟨job, at78⟩] :: (is4.flatMap inC ++ [])) := St.tuck (S := [Ch.cells b9 44 ft0.cs, Ch.row IsE 46 (some ⟨b3, 0, none⟩) 1 [loneN bb1 ⟨job, at78⟩]]) (hs22.call0 hk4)
        have hl4 := dat_len hd4
        clear hk4
        refine WDB.act 4 (hc := rfl) (he := Ef.append hs34 0 (hs34.rd 2) (fun q => by cases q) (fitIs (by simp only [List.length_cons, List.length_nil]; omega)) (fun A4 c4 w35 hs35 => ⟨fun _ _ => hs35.keep, ?_⟩))
        have hs35 : St wb3.drew [] w35 (Ch.row IsE 46 A4 c4 (is4 ++ [loneN bb1 ⟨job, at78⟩]) :: Ch.cells b9 44 ft0.cs :: Ch.row IsE 46 (some ⟨b3, 0, none⟩) 1 [loneN bb1 ⟨job, at78⟩] :: (is4.flatMap inC ++ [])) := hs35
        have hbc := build_cx A4 c4 (is4 ++ [loneN bb1 ⟨job, at78⟩]) w35 (lone_at (c := c4) hs35 (fun x hx C hC => List.mem_append_right [Ch.row IsE 46 A4 c4 (is4 ++ [loneN bb1 ⟨job, at78⟩]), Ch.cells b9 44 ft0.cs, Ch.row IsE 46 (some ⟨b3, 0, none⟩) 1 [loneN bb1 ⟨job, at78⟩]] (List.mem_append_left _ (List.mem_flatMap.2 ⟨x, hx, hC⟩))) (by simp) ((hst.rd 1).keep hs35.keep)) (lone_bld hd4 hil (hvars0 hd4) htx)
        obtain ⟨bs, bf, hbs⟩ : ∃ bs bf, buildS (is4 ++ [loneN bb1 ⟨job, at78⟩]) = (bs, bf) := ⟨_, _, rfl⟩
        rw [hbs] at hbc
        refine WDB.act 5 (hc := rfl) (he := Ef.callv (caps := #[]) Tryd.func23 (Calls.mono hbc ?_))
        rintro ev w36 ⟨v, D, rfl, ⟨O6, co6, rr, hrr, rfl, rfl⟩, hk6⟩
        refine ⟨fun _ _ => (hs35.call0 hk6).keep, ?_⟩
        have hs36 : St wb3.drew [] w36 (Ch.row ShE 23 O6 co6 rr :: Ch.row IsE 46 A4 c4 (is4 ++ [loneN bb1 ⟨job, at78⟩]) :: Ch.cells b9 44 ft0.cs :: Ch.row IsE 46 (some ⟨b3, 0, none⟩) 1 [loneN bb1 ⟨job, at78⟩] :: (RsD rr ++ (is4.flatMap inC ++ []))) := St.tuck (S := [Ch.row IsE 46 A4 c4 (is4 ++ [loneN bb1 ⟨job, at78⟩]), Ch.cells b9 44 ft0.cs, Ch.row IsE 46 (some ⟨b3, 0, none⟩) 1 [loneN bb1 ⟨job, at78⟩]]) (hs35.call0 hk6)
        clear hk6
        refine WDB.rd0 (is := [6, 7, 8]) (fun _ _ _ _ _ h => h) (Keep.refl _) (Rn.s rfl Yv.mv (Rn.s rfl Yv.ex (Rn.s rfl Yv.ex (Rn.nil)))) ?_
        refine WDB.rd0 (is := [10]) (fun _ _ _ _ _ h => h) (Keep.refl _) (Rn.s rfl Yv.as (Rn.nil)) ?_
        refine WDB.act 11 (hc := rfl) (he := Ef.stores hs36 2 (fun w37 hs37 => ⟨fun _ _ => hs37.keep, WDB.done ?_⟩))
        have hs37 : St wb3.drew [] w37 (Ch.cells b9 44 bf.cs :: Ch.row ShE 23 O6 co6 rr :: Ch.row IsE 46 A4 c4 (is4 ++ [loneN bb1 ⟨job, at78⟩]) :: Ch.row IsE 46 (some ⟨b3, 0, none⟩) 1 [loneN bb1 ⟨job, at78⟩] :: (RsD rr ++ (is4.flatMap inC ++ []))) := hs37
        exact ⟨rfl, b9, O6, co6, rr, bs, bf, is4, hd4, hbs, hrr, hst.call0 (hs37.pick [0]), ls_of (co := co6) hs37 (by simp) (fun C hC => by simp [hC]), rfl, rfl, rfl, rfl, rfl, rfl, rfl, rfl, rfl, trivial⟩
    · have hs3 : St wb3.drew [] w3 (Ch.cells b9 44 ft0.cs :: []) := hs3
      clear k9
      refine WDB.act2 1 3 (hci := rfl) (hcj := rfl) (hi := Ef.callv (caps := #[]) Tryd.func22 (Calls.mono (hcopy (hst.keep.trans hs3.keep) ((hst.rd 3).keep hs3.keep)) ?_)) (hj := Ef.bsl (T := 46) IsE [loneN bb1 ⟨job, at78⟩] hs3 (fun b3 w39 k3 hs39 => ⟨fun _ _ => hs39.keep, ?_⟩))
      · rintro ev w38 ⟨v, D, rfl, ⟨O4, co4, is4, hd4, rfl, rfl⟩, hk4⟩
        refine ⟨fun _ _ => (hs3.call0 hk4).keep, ?_⟩
        have hs38 : St wb3.drew [] w38 (Ch.row IsE 46 O4 co4 is4 :: Ch.cells b9 44 ft0.cs :: (is4.flatMap inC ++ [])) := St.tuck (S := [Ch.cells b9 44 ft0.cs]) (hs3.call0 hk4)
        have hl4 := dat_len hd4
        clear hk4
        refine WDB.act 3 (hc := rfl) (he := Ef.bsl (T := 46) IsE [loneN bb1 ⟨job, at78⟩] hs38 (fun b3 w40 k3 hs40 => ⟨fun _ _ => hs40.keep, ?_⟩))
        have hs40 : St wb3.drew [] w40 (Ch.row IsE 46 (some ⟨b3, 0, none⟩) 1 [loneN bb1 ⟨job, at78⟩] :: Ch.row IsE 46 O4 co4 is4 :: Ch.cells b9 44 ft0.cs :: (is4.flatMap inC ++ [])) := hs40
        clear k3
        refine WDB.act 4 (hc := rfl) (he := Ef.append hs40 1 (hs40.rd 0) (fun q => by cases q) (fitIs (by simp only [List.length_cons, List.length_nil]; omega)) (fun A4 c4 w41 hs41 => ⟨fun _ _ => hs41.keep, ?_⟩))
        have hs41 : St wb3.drew [] w41 (Ch.row IsE 46 A4 c4 (is4 ++ [loneN bb1 ⟨job, at78⟩]) :: Ch.row IsE 46 (some ⟨b3, 0, none⟩) 1 [loneN bb1 ⟨job, at78⟩] :: Ch.cells b9 44 ft0.cs :: (is4.flatMap inC ++ [])) := hs41
        have hbc := build_cx A4 c4 (is4 ++ [loneN bb1 ⟨job, at78⟩]) w41 (lone_at (c := c4) hs41 (fun x hx C hC => List.mem_append_right [Ch.row IsE 46 A4 c4 (is4 ++ [loneN bb1 ⟨job, at78⟩]), Ch.row IsE 46 (some ⟨b3, 0, none⟩) 1 [loneN bb1 ⟨job, at78⟩], Ch.cells b9 44 ft0.cs] (List.mem_append_left _ (List.mem_flatMap.2 ⟨x, hx, hC⟩))) (by simp) ((hst.rd 1).keep hs41.keep)) (lone_bld hd4 hil (hvars0 hd4) htx)
        obtain ⟨bs, bf, hbs⟩ : ∃ bs bf, buildS (is4 ++ [loneN bb1 ⟨job, at78⟩]) = (bs, bf) := ⟨_, _, rfl⟩
        rw [hbs] at hbc
        refine WDB.act 5 (hc := rfl) (he := Ef.callv (caps := #[]) Tryd.func23 (Calls.mono hbc ?_))
        rintro ev w42 ⟨v, D, rfl, ⟨O6, co6, rr, hrr, rfl, rfl⟩, hk6⟩
        refine ⟨fun _ _ => (hs41.call0 hk6).keep, ?_⟩
        have hs42 : St wb3.drew [] w42 (Ch.row ShE 23 O6 co6 rr :: Ch.row IsE 46 A4 c4 (is4 ++ [loneN bb1 ⟨job, at78⟩]) :: Ch.row IsE 46 (some ⟨b3, 0, none⟩) 1 [loneN bb1 ⟨job, at78⟩] :: Ch.cells b9 44 ft0.cs :: (RsD rr ++ (is4.flatMap inC ++ []))) := St.tuck (S := [Ch.row IsE 46 A4 c4 (is4 ++ [loneN bb1 ⟨job, at78⟩]), Ch.row IsE 46 (some ⟨b3, 0, none⟩) 1 [loneN bb1 ⟨job, at78⟩], Ch.cells b9 44 ft0.cs]) (hs41.call0 hk6)
        clear hk6
        refine WDB.rd0 (is := [6, 7, 8]) (fun _ _ _ _ _ h => h) (Keep.refl _) (Rn.s rfl Yv.mv (Rn.s rfl Yv.ex (Rn.s rfl Yv.ex (Rn.nil)))) ?_
        refine WDB.rd0 (is := [10]) (fun _ _ _ _ _ h => h) (Keep.refl _) (Rn.s rfl Yv.as (Rn.nil)) ?_
        refine WDB.act 11 (hc := rfl) (he := Ef.stores hs42 3 (fun w43 hs43 => ⟨fun _ _ => hs43.keep, WDB.done ?_⟩))
        have hs43 : St wb3.drew [] w43 (Ch.cells b9 44 bf.cs :: Ch.row ShE 23 O6 co6 rr :: Ch.row IsE 46 A4 c4 (is4 ++ [loneN bb1 ⟨job, at78⟩]) :: Ch.row IsE 46 (some ⟨b3, 0, none⟩) 1 [loneN bb1 ⟨job, at78⟩] :: (RsD rr ++ (is4.flatMap inC ++ []))) := hs43
        exact ⟨rfl, b9, O6, co6, rr, bs, bf, is4, hd4, hbs, hrr, hst.call0 (hs43.pick [0]), ls_of (co := co6) hs43 (by simp) (fun C hC => by simp [hC]), rfl, rfl, rfl, rfl, rfl, rfl, rfl, rfl, rfl, trivial⟩
      · have hs39 : St wb3.drew [] w39 (Ch.row IsE 46 (some ⟨b3, 0, none⟩) 1 [loneN bb1 ⟨job, at78⟩] :: Ch.cells b9 44 ft0.cs :: []) := hs39
        clear k3
        refine WDB.act 1 (hc := rfl) (he := Ef.callv (caps := #[]) Tryd.func22 (Calls.mono (hcopy (hst.keep.trans hs39.keep) ((hst.rd 3).keep hs39.keep)) ?_))
        rintro ev w44 ⟨v, D, rfl, ⟨O4, co4, is4, hd4, rfl, rfl⟩, hk4⟩
        refine ⟨fun _ _ => (hs39.call0 hk4).keep, ?_⟩
        have hs44 : St wb3.drew [] w44 (Ch.row IsE 46 O4 co4 is4 :: Ch.row IsE 46 (some ⟨b3, 0, none⟩) 1 [loneN bb1 ⟨job, at78⟩] :: Ch.cells b9 44 ft0.cs :: (is4.flatMap inC ++ [])) := St.tuck (S := [Ch.row IsE 46 (some ⟨b3, 0, none⟩) 1 [loneN bb1 ⟨job, at78⟩], Ch.cells b9 44 ft0.cs]) (hs39.call0 hk4)
        have hl4 := dat_len hd4
        clear hk4
        refine WDB.act 4 (hc := rfl) (he := Ef.append hs44 0 (hs44.rd 1) (fun q => by cases q) (fitIs (by simp only [List.length_cons, List.length_nil]; omega)) (fun A4 c4 w45 hs45 => ⟨fun _ _ => hs45.keep, ?_⟩))
        have hs45 : St wb3.drew [] w45 (Ch.row IsE 46 A4 c4 (is4 ++ [loneN bb1 ⟨job, at78⟩]) :: Ch.row IsE 46 (some ⟨b3, 0, none⟩) 1 [loneN bb1 ⟨job, at78⟩] :: Ch.cells b9 44 ft0.cs :: (is4.flatMap inC ++ [])) := hs45
        have hbc := build_cx A4 c4 (is4 ++ [loneN bb1 ⟨job, at78⟩]) w45 (lone_at (c := c4) hs45 (fun x hx C hC => List.mem_append_right [Ch.row IsE 46 A4 c4 (is4 ++ [loneN bb1 ⟨job, at78⟩]), Ch.row IsE 46 (some ⟨b3, 0, none⟩) 1 [loneN bb1 ⟨job, at78⟩], Ch.cells b9 44 ft0.cs] (List.mem_append_left _ (List.mem_flatMap.2 ⟨x, hx, hC⟩))) (by simp) ((hst.rd 1).keep hs45.keep)) (lone_bld hd4 hil (hvars0 hd4) htx)
        obtain ⟨bs, bf, hbs⟩ : ∃ bs bf, buildS (is4 ++ [loneN bb1 ⟨job, at78⟩]) = (bs, bf) := ⟨_, _, rfl⟩
        rw [hbs] at hbc
        refine WDB.act 5 (hc := rfl) (he := Ef.callv (caps := #[]) Tryd.func23 (Calls.mono hbc ?_))
        rintro ev w46 ⟨v, D, rfl, ⟨O6, co6, rr, hrr, rfl, rfl⟩, hk6⟩
        refine ⟨fun _ _ => (hs45.call0 hk6).keep, ?_⟩
        have hs46 : St wb3.drew [] w46 (Ch.row ShE 23 O6 co6 rr :: Ch.row IsE 46 A4 c4 (is4 ++ [loneN bb1 ⟨job, at78⟩]) :: Ch.row IsE 46 (some ⟨b3, 0, none⟩) 1 [loneN bb1 ⟨job, at78⟩] :: Ch.cells b9 44 ft0.cs :: (RsD rr ++ (is4.flatMap inC ++ []))) := St.tuck (S := [Ch.row IsE 46 A4 c4 (is4 ++ [loneN bb1 ⟨job, at78⟩]), Ch.row IsE 46 (some ⟨b3, 0, none⟩) 1 [loneN bb1 ⟨job, at78⟩], Ch.cells b9 44 ft0.cs]) (hs45.call0 hk6)
        clear hk6
        refine WDB.rd0 (is := [6, 7, 8]) (fun _ _ _ _ _ h => h) (Keep.refl _) (Rn.s rfl Yv.mv (Rn.s rfl Yv.ex (Rn.s rfl Yv.ex (Rn.nil)))) ?_
        refine WDB.rd0 (is := [10]) (fun _ _ _ _ _ h => h) (Keep.refl _) (Rn.s rfl Yv.as (Rn.nil)) ?_
        refine WDB.act 11 (hc := rfl) (he := Ef.stores hs46 3 (fun w47 hs47 => ⟨fun _ _ => hs47.keep, WDB.done ?_⟩))
        have hs47 : St wb3.drew [] w47 (Ch.cells b9 44 bf.cs :: Ch.row ShE 23 O6 co6 rr :: Ch.row IsE 46 A4 c4 (is4 ++ [loneN bb1 ⟨job, at78⟩]) :: Ch.row IsE 46 (some ⟨b3, 0, none⟩) 1 [loneN bb1 ⟨job, at78⟩] :: (RsD rr ++ (is4.flatMap inC ++ []))) := hs47
        exact ⟨rfl, b9, O6, co6, rr, bs, bf, is4, hd4, hbs, hrr, hst.call0 (hs47.pick [0]), ls_of (co := co6) hs47 (by simp) (fun C hC => by simp [hC]), rfl, rfl, rfl, rfl, rfl, rfl, rfl, rfl, rfl, trivial⟩
  rintro ρ ds w4 ⟨rfl, b20, O6, co6, rr, bs, bf, is4, hd4, hbs, hrr, hst, hls, hs⟩
  refine Wp.forget _ ?_ hs
  clear hs ρ
  have c20 := hst.cells 0
  refine Wp.seq (Wp.seq (Wp.reads (is := [0, 1]) (Keep.refl _) (Rn.s rfl Yv.mv (Rn.s rfl (Yv.cmp _ rfl) (Rn.nil))) ?_))
  refine Wp.cond rfl (fun ha => ?_) (fun ha => ?_)
  · have ha : ofL is job = [] := by
      have := eq_of_beq ha
      injection this with this
      exact List.eq_nil_of_length_eq_zero (by omega)
    have h161 := lone_161 hd4 (b := bb1) hjob hrl ha
    rw [hbs] at h161
    injection h161 with e1 e2
    subst e1 e2
    have hr0 : rr.length = 0 := by
      have := congrArg List.length hrr
      simpa using this
    rw [hr0]
    refine Wp.seq (Wp.regionL (l := [0, 1, 2, 3, 4, 5, 6, 7, 8, 9, 10, 11]) (WO.rd (is := [0, 1, 2, 3, 4, 5, 6, 7, 8]) (js := [9, 10, 11]) (Keep.refl _) (Rn.s rfl (Yv.ldb c20) (Rn.s rfl (Yv.bd (cs := (⟨161, hereB, 7, 8⟩ : Ft).cs)) (Rn.s rfl (Yv.eqs (b := true) ((ftEq ⟨161, hereB, 7, 8⟩ ⟨161, hereB, 7, 8⟩).trans (by simp))) (Rn.s rfl Yv.mv (Rn.and (is := [4, 5, 6, 7]) (js := [8]) (t := 166) (d := 170) (hg := rfl) (ht := fun h3 => Rn.s rfl Yv.mv (Rn.s rfl (Yv.len_v (e := 23) (m := 1)) (Rn.s rfl (Yv.cmp _ rfl) (Rn.s rfl Yv.pick_t ((Rn.e 4 rfl rfl)))))) (hf := fun _ => Rn.no rfl (Rn.no rfl (Rn.no rfl (Rn.s rfl Yv.pick_f (Rn.e 4 rfl rfl))))) (k := Rn.s rfl Yv.mv (Rn.nil))))))) (WO.and (js := [11]) 171 173 (b := true) (hg := rfl) (ht := fun h8 qe1 => WO.cv rfl (awake_cv w4) (Keep.refl _) (FnOk.of Tryd.func19) (fun we2 ke2 => WO.rd (is := [10]) (js := [11]) ((Keep.refl _).trans ke2) (Rn.s rfl Yv.pick_t (Rn.nil)) (WO.e 2 (qe1 _ ((Keep.refl _).trans ke2))))) (hf := fun _ qe1 => WO.rd (is := [9, 10]) (js := [11]) (Keep.refl _) (Rn.no rfl (Rn.s rfl Yv.pick_f Rn.nil)) (WO.e 2 (qe1 _ (Keep.refl _)))) (k := fun we1 ke1 => WO.rd (is := [11]) (js := []) ((Keep.refl _).trans ke1) (Rn.s rfl Yv.as (Rn.nil)) (WO.done ?_)))))
    exact Wp.ret (Fin.ret (Res.one rfl rfl) ⟨rfl, hst.keep.trans ke1⟩)
  have ha : ofL is job ≠ [] := fun q => by
    rw [q] at ha
    exact absurd ha (by decide)
  refine Wp.skip ?_
  obtain ⟨es, h0, hel, hnl⟩ := lone_0 hd4 (b := bb1) hjob hrl ha (by rw [meansL_nil]; exact ha)
  rw [hbs] at h0
  injection h0 with e1 e2
  subst e1 e2
  have hrrl : rr.length = is.length + 1 := by
    have := congrArg List.length hrr
    rw [hel] at this
    simpa using this
  have hlast : (nth rr (is.length : Int)).2.2.length = (ofL is job).length := by
    rw [← nth_pl]
    have e1 : pl rr = bs := hrr
    rw [e1, hnl, meansL_nil]
  have hrd := hls.rd
  rw [hrrl]
  refine Wp.seq (Wp.seq (Wp.reads (is := [0, 1, 2, 3, 4, 5, 6, 7, 8, 9, 10, 11, 12, 13, 14, 15, 16, 17, 18, 19, 20]) (Keep.refl _) (Rn.s rfl (Yv.fa (off := 0)) (Rn.s rfl (Yv.ld (c20.at_ 0)) (Rn.s rfl (Yv.cmp _ rfl) (Rn.s rfl Yv.mv (Rn.or (is := [4, 5, 6, 7, 8, 9, 10]) (js := [11, 12, 13, 14, 15, 16, 17, 18, 19, 20]) (t := 177) (d := 184) (hg := rfl) (hf := fun h3 => have h3 := bne_eq_false_iff_eq.1 h3; Rn.s rfl Yv.mv (Rn.s rfl (Yv.len_v (e := 23) (m := 1)) (Rn.s rfl Yv.mv (Rn.s rfl (Yv.len_v (e := 46) (m := 16)) (Rn.s rfl (Yv.add ⟨by omega, by omega⟩) (Rn.s rfl (Yv.cmp _ rfl) (Rn.s rfl Yv.pick_f ((Rn.e 7 rfl rfl))))))))) (ht := fun _ => Rn.no rfl (Rn.no rfl (Rn.no rfl (Rn.no rfl (Rn.no rfl (Rn.no rfl (Rn.s rfl Yv.pick_t (Rn.e 7 rfl rfl)))))))) (k := Rn.s rfl Yv.mv (Rn.or (is := [12, 13, 14, 15, 16, 17, 18, 19, 20]) (js := []) (t := 185) (d := 194) (hg := rfl) (hf := fun h11 => Rn.s rfl Yv.mv (Rn.s rfl Yv.mv (Rn.s rfl (Yv.len_v (e := 46) (m := 16)) (Rn.s rfl (Yv.ia (e := 23) (j := (is.length : Int)) hrd (by omega) (by omega) hrrl.symm) (Rn.s rfl (Yv.ld (hrd.ld (i := (is.length : Int)) 0 (by omega) (by omega))) (Rn.s rfl (Yv.len_v (e := 3) (m := 1)) (Rn.s rfl Yv.mv (Rn.s rfl (Yv.cmp _ rfl) (Rn.s rfl Yv.pick_f ((Rn.e 9 rfl rfl))))))))))) (ht := fun _ => Rn.no rfl (Rn.no rfl (Rn.no rfl (Rn.no rfl (Rn.no rfl (Rn.no rfl (Rn.no rfl (Rn.no rfl (Rn.s rfl Yv.pick_t (Rn.e 9 rfl rfl)))))))))) (k := Rn.nil)))))))) ?_))
  rw [hlast]
  have e1 : (((is.length + 1 : Nat) : Int) != (is.length : Int) + 1) = false := by
    rw [bne_eq_false_iff_eq]
    omega
  have e2 : (((ofL is job).length : Int) != ((ofL is job).length : Int)) = false := by simp
  rw [e1, e2]
  refine Wp.cond_f rfl ?_
  refine Wp.skip ?_
  refine Wp.seq (Wp.seq (Wp.reads (is := [0]) (Keep.refl _) (Rn.s rfl Yv.as (Rn.nil)) ?_))
  refine Wp.mid (fun ρ ds w' => ds = [] ∧ Keep w4 w' ∧ ((44 : UInt8) ∉ value ∧ (93 : UInt8) ∉ value) ∧ Sub [(1, S job), (2, S name), (3, S value), (10, .slice B is.length d), (14, .slice O WL.length co), (18, PB bb2)] ρ) (Wp.block ?_) ?_
  · refine Wp.loop (α := Nat) (fun k ρ ds w' => ds = [] ∧ Keep w4 w' ∧ k ≤ value.length ∧ (∀ (i : Nat) b, i < k → value[i]? = some b → b ≠ 44 ∧ b ≠ 93) ∧ Sub [(1, S job), (2, S name), (3, S value), (10, .slice B is.length d), (14, .slice O WL.length co), (18, PB bb2), (21, .int .i64 (k : Int))] ρ) (fun k => value.length - k) 0
      ⟨rfl, Keep.refl _, by omega, fun i b hi => absurd hi (Nat.not_lt_zero i), rfl, rfl, rfl, rfl, rfl, rfl, rfl, trivial⟩ ?_
    rintro k ρ ds w5 ⟨rfl, hk5, hk, hno, hs⟩
    refine Wp.forget _ ?_ hs
    clear hs ρ
    refine Wp.seq (Wp.seq (Wp.reads (is := [0, 1, 2, 3]) (Keep.refl _) (Rn.s rfl Yv.mv (Rn.s rfl Yv.mv (Rn.s rfl Yv.len_s (Rn.s rfl (Yv.cmp _ rfl) (Rn.nil))))) ?_))
    refine Wp.cond rfl (fun hlt => ?_) (fun hlt => ?_)
    · have hlt : k < value.length := by have := of_decide_eq_true hlt; omega
      refine Wp.skip (Wp.seq (Wp.block ?_))
      refine Wp.seq (Wp.reads (is := [0, 1, 2, 3, 4, 5, 6, 7, 8, 9]) (Keep.refl _) (Rn.s rfl Yv.mv (Rn.s rfl Yv.mv (Rn.s rfl (Yv.ix (l := value) (n := (k : Int)) (by omega) (by omega)) (Rn.s rfl (Yv.cmp _ rfl) (Rn.s rfl Yv.mv (Rn.or (is := [5, 6, 7, 8, 9]) (js := []) (t := 205) (d := 210) (hg := rfl) (hf := fun h4 => have h4 := ne_of_beq_false h4; Rn.s rfl Yv.mv (Rn.s rfl Yv.mv (Rn.s rfl (Yv.ix (l := value) (n := (k : Int)) (by omega) (by omega)) (Rn.s rfl (Yv.cmp _ rfl) (Rn.s rfl Yv.pick_f ((Rn.e 5 rfl rfl))))))) (ht := fun _ => Rn.no rfl (Rn.no rfl (Rn.no rfl (Rn.no rfl (Rn.s rfl Yv.pick_t (Rn.e 5 rfl rfl)))))) (k := Rn.nil))))))) ?_)
      refine Wp.cond rfl (fun hb => ?_) (fun hb => ?_)
      · refine Wp.seq (Wp.regionL (l := [0, 1]) (WO.cv rfl (awake_cv w5) (Keep.refl _) (FnOk.of Tryd.func19) (fun wa1 ka1 => WO.rd (is := [1]) (js := []) ((Keep.refl _).trans ka1) (Rn.s rfl Yv.as (Rn.nil)) (WO.done ?_))))
        exact Wp.ret (Fin.ret (Res.one rfl rfl) ⟨rfl, (hst.keep.trans hk5).trans ka1⟩)
      · refine Wp.skip (Wp.reads (is := [0, 1, 2]) (Keep.refl _) (Rn.s rfl Yv.mv (Rn.s rfl (Yv.add (by unfold inI; omega)) (Rn.s rfl Yv.as (Rn.nil)))) ?_)
        refine ⟨k + 1, ⟨rfl, hk5, by omega, fun i b hi hib => ?_, rfl, rfl, rfl, rfl, rfl, rfl, rfl, trivial⟩, by omega⟩
        by_cases q : i = k
        · subst q
          have hby := byt_of hib
          simp only [Bool.or_eq_false_iff, beq_eq_false_iff_ne] at hb
          rw [hby] at hb
          refine ⟨fun e => hb.1 ?_, fun e => hb.2 ?_⟩
          · rw [e]; rfl
          · rw [e]; rfl
        · exact hno i b (by omega) hib
    · have hlt : k = value.length := by have := of_decide_eq_false hlt; omega
      subst hlt
      refine Wp.exit ⟨rfl, hk5, ⟨fun q => ?_, fun q => ?_⟩, rfl, rfl, rfl, rfl, rfl, rfl, trivial⟩
      · obtain ⟨i, hi, e⟩ := List.mem_iff_getElem.1 q
        exact (hno i 44 hi (by rw [List.getElem?_eq_getElem hi, e])).1 rfl
      · obtain ⟨i, hi, e⟩ := List.mem_iff_getElem.1 q
        exact (hno i 93 hi (by rw [List.getElem?_eq_getElem hi, e])).2 rfl
  rintro ρ ds w5 ⟨rfl, hk5, ⟨hv44, hv93⟩, hs⟩
  refine Wp.forget _ ?_ hs
  clear hs ρ
  have hst := hst.quiet hk5
  refine Wp.seq (Wp.seq (Wp.reads (is := [0, 1, 2, 3, 4, 5]) (Keep.refl _) (Rn.s rfl Yv.mv (Rn.s rfl (Yv.scm _ rfl) (Rn.s rfl Yv.mv (Rn.and (is := [3, 4, 5]) (js := []) (t := 214) (d := 217) (hg := rfl) (ht := fun h2 => Rn.s rfl Yv.mv (Rn.s rfl (Yv.scm _ rfl) (Rn.s rfl Yv.pick_t ((Rn.e 3 rfl rfl))))) (hf := fun _ => Rn.no rfl (Rn.no rfl (Rn.s rfl Yv.pick_f (Rn.e 3 rfl rfl)))) (k := Rn.nil))))) ?_))
  refine Wp.cond rfl (fun hn => ?_) (fun hn => ?_)
  · refine Wp.seq (Wp.regionL (l := [0, 1]) (WO.cv rfl (awake_cv w5) (Keep.refl _) (FnOk.of Tryd.func19) (fun wa1 ka1 => WO.rd (is := [1]) (js := []) ((Keep.refl _).trans ka1) (Rn.s rfl Yv.as (Rn.nil)) (WO.done ?_))))
    exact Wp.ret (Fin.ret (Res.one rfl rfl) ⟨rfl, hst.keep.trans ka1⟩)
  have hnm : name = [65] ∨ name = [111, 115] := by
    rw [Bool.and_eq_false_iff] at hn
    rcases hn with hn | hn
    · exact .inl (by simpa using hn)
    · exact .inr (by simpa using hn)
  have hnl2 : name.length ≤ 2 := by rcases hnm with rfl | rfl <;> simp
  refine Wp.skip ?_
  have hst : St w [] w5 [Ch.cells bb2 46 (IsE.cells (loneN bb1 ⟨job, at78⟩)), Ch.row NeE 53 (some ⟨bb1, 0, none⟩) 1 [⟨job, at78⟩], Ch.row InE 3 O co WL, Ch.row IsE 46 B d (is.map mute)] := hst.pick [1, 2, 3, 4]
  have c18 := hst.cells 0
  have hrn := hst.rd 1
  refine Wp.seq (Wp.regionL (l := [0, 1, 2, 3, 4, 5, 6, 7, 8, 9, 10, 11, 12]) (WO.rd (is := [0, 1, 2, 3, 4, 5, 6, 7, 8, 9, 10, 11]) (js := [12]) (Keep.refl _) (Rn.s rfl (Yv.fa (off := 5)) (Rn.s rfl (Yv.ld (c18.at_ 5)) (Rn.s rfl Yv.mv (Rn.s rfl (Yv.cat (by simp only [List.length_cons, List.length_nil]; omega)) (Rn.s rfl Yv.mv (Rn.s rfl (Yv.cat (by simp only [List.length_append, List.length_cons, List.length_nil]; omega)) (Rn.s rfl (Yv.cat (by simp only [List.length_append, List.length_cons, List.length_nil]; omega)) (Rn.s rfl Yv.mv (Rn.s rfl (Yv.cat (by simp only [List.length_append, List.length_cons, List.length_nil]; omega)) (Rn.s rfl (Yv.cat (by simp only [List.length_append, List.length_cons, List.length_nil]; omega)) (Rn.s rfl (Yv.ia (e := 53) hrn (by decide) (by simp)) (Rn.s rfl (Yv.fa (off := 0)) (Rn.nil))))))))))))) (WO.act (hc := rfl) (he := Ef.setFld (E := NeE) (xs := [(⟨job, at78⟩ : Ne)]) (f := 0) hst 1 (⟨valT job name value, at78⟩ : Ne) rfl rfl (by decide) (by simp) (fun wg1 hsg1 => WO.done ?_)))))
  have hst : St w [] wg1 [Ch.cells bb2 46 (IsE.cells (loneN bb1 ⟨valT job name value, at78⟩)), Ch.row NeE 53 (some ⟨bb1, 0, none⟩) 1 [⟨valT job name value, at78⟩], Ch.row InE 3 O co WL, Ch.row IsE 46 B d (is.map mute)] := hsg1.pick [1, 0, 2, 3]
  clear hsg1 c18 hrn
  have hj44 : (44 : UInt8) ∉ job := hjob.not (by decide)
  have hn44 : (44 : UInt8) ∉ name := by rcases hnm with rfl | rfl <;> decide
  have htv : TxOk (valT job name value) := ⟨by simp only [valT, List.length_append, List.length_cons, List.length_nil]; omega, by
    rw [List.count_eq_zero.2 (by simp [valT, hj44, hn44, hv44])]
    omega⟩
  have hrv : readG (⟨valT job name value, at78⟩ : Ne).text = some (job, [⟨name, value⟩]) := read_val hjob hnm hv44 hv93
  clear hbs hrr hls hrd hnl hlast hd4
  refine Wp.seq (Wp.mid (fun ρ ds w' => ds = [] ∧ ∃ b20 O6 co6 rr bs bf is4, is4.map datI = (is.map mute).map datI ∧ buildS (is4 ++ [loneN bb1 ⟨valT job name value, at78⟩]) = (bs, bf) ∧ rr.map (fun x : Sl => x.2.2) = bs ∧ St w [] w' [Ch.cells b20 44 bf.cs, Ch.cells bb2 46 (IsE.cells (loneN bb1 ⟨valT job name value, at78⟩)), Ch.row NeE 53 (some ⟨bb1, 0, none⟩) 1 [⟨valT job name value, at78⟩], Ch.row InE 3 O co WL, Ch.row IsE 46 B d (is.map mute)] ∧
      LsAt w' O6 rr ∧ Sub [(10, .slice B is.length d), (14, .slice O WL.length co), (22, .slice O6 rr.length co6), (23, PB b20)] ρ) ?_ ?_)
  · have hst := hst.quiet (Keep.drew wg1)
    have c18 := hst.cells 0
    refine Wp.drawsB [] mixed (WDB.rd (is := [0]) (fun _ _ _ _ _ h => h) (Keep.refl _) (Keep.refl _) (Rn.s rfl Yv.mv (Rn.nil)) ?_)
    refine WDB.rd (is := [2]) (fun _ _ _ _ _ h => h) (Keep.refl _) (Keep.refl _) (Rn.s rfl (Yv.ldb c18) (Rn.nil)) ?_
    have hs0 : St wg1.drew [] wg1.drew [] := St.init wg1.drew
    refine WDB.act3 1 3 9 (hci := rfl) (hcj := rfl) (hck := rfl) (hi := Ef.callv (caps := #[]) Tryd.func22 (Calls.mono (hcopy (hst.keep.trans hs0.keep) ((hst.rd 3).keep hs0.keep)) ?_)) (hj := Ef.bsl (T := 46) IsE [loneN bb1 ⟨valT job name value, at78⟩] hs0 (fun b3 w2 k3 hs2 => ⟨fun _ _ => hs2.keep, ?_⟩)) (hk := Ef.allocL (vs := ft0.cs) hs0 (fun b9 w3 k9 hs3 => ⟨fun _ _ => hs3.keep, ?_⟩))
    · rintro ev w1 ⟨v, D, rfl, ⟨O4, co4, is4, hd4, rfl, rfl⟩, hk4⟩
      refine ⟨fun _ _ => (hs0.call0 hk4).keep, ?_⟩
      have hs1 : St wg1.drew [] w1 (Ch.row IsE 46 O4 co4 is4 :: (is4.flatMap inC ++ [])) := St.tuck (S := []) (hs0.call0 hk4)
      have hl4 := dat_len hd4
      clear hk4
      refine WDB.act2 3 9 (hci := rfl) (hcj := rfl) (hi := Ef.bsl (T := 46) IsE [loneN bb1 ⟨valT job name value, at78⟩] hs1 (fun b3 w4 k3 hs4 => ⟨fun _ _ => hs4.keep, ?_⟩)) (hj := Ef.allocL (vs := ft0.cs) hs1 (fun b9 w5 k9 hs5 => ⟨fun _ _ => hs5.keep, ?_⟩))
      · have hs4 : St wg1.drew [] w4 (Ch.row IsE 46 (some ⟨b3, 0, none⟩) 1 [loneN bb1 ⟨valT job name value, at78⟩] :: Ch.row IsE 46 O4 co4 is4 :: (is4.flatMap inC ++ [])) := hs4
        clear k3
        refine WDB.act2 4 9 (hci := rfl) (hcj := rfl) (hi := Ef.append hs4 1 (hs4.rd 0) (fun q => by cases q) (fitIs (by simp only [List.length_cons, List.length_nil]; omega)) (fun A4 c4 w6 hs6 => ⟨fun _ _ => hs6.keep, ?_⟩)) (hj := Ef.allocL (vs := ft0.cs) hs4 (fun b9 w7 k9 hs7 => ⟨fun _ _ => hs7.keep, ?_⟩))
        · have hs6 : St wg1.drew [] w6 (Ch.row IsE 46 A4 c4 (is4 ++ [loneN bb1 ⟨valT job name value, at78⟩]) :: Ch.row IsE 46 (some ⟨b3, 0, none⟩) 1 [loneN bb1 ⟨valT job name value, at78⟩] :: (is4.flatMap inC ++ [])) := hs6
          have hbc := build_cx A4 c4 (is4 ++ [loneN bb1 ⟨valT job name value, at78⟩]) w6 (lone_at (c := c4) hs6 (fun x hx C hC => List.mem_append_right [Ch.row IsE 46 A4 c4 (is4 ++ [loneN bb1 ⟨valT job name value, at78⟩]), Ch.row IsE 46 (some ⟨b3, 0, none⟩) 1 [loneN bb1 ⟨valT job name value, at78⟩]] (List.mem_append_left _ (List.mem_flatMap.2 ⟨x, hx, hC⟩))) (by simp) ((hst.rd 1).keep hs6.keep)) (lone_bld hd4 hil (hvars0 hd4) htv)
          obtain ⟨bs, bf, hbs⟩ : ∃ bs bf, buildS (is4 ++ [loneN bb1 ⟨valT job name value, at78⟩]) = (bs, bf) := ⟨_, _, rfl⟩
          rw [hbs] at hbc
          refine WDB.act2 5 9 (hci := rfl) (hcj := rfl) (hi := Ef.callv (caps := #[]) Tryd.func23 (Calls.mono hbc ?_)) (hj := Ef.allocL (vs := ft0.cs) hs6 (fun b9 w9 k9 hs9 => ⟨fun _ _ => hs9.keep, ?_⟩))
          · rintro ev w8 ⟨v, D, rfl, ⟨O6, co6, rr, hrr, rfl, rfl⟩, hk6⟩
            refine ⟨fun _ _ => (hs6.call0 hk6).keep, ?_⟩
            have hs8 : St wg1.drew [] w8 (Ch.row ShE 23 O6 co6 rr :: Ch.row IsE 46 A4 c4 (is4 ++ [loneN bb1 ⟨valT job name value, at78⟩]) :: Ch.row IsE 46 (some ⟨b3, 0, none⟩) 1 [loneN bb1 ⟨valT job name value, at78⟩] :: (RsD rr ++ (is4.flatMap inC ++ []))) := St.tuck (S := [Ch.row IsE 46 A4 c4 (is4 ++ [loneN bb1 ⟨valT job name value, at78⟩]), Ch.row IsE 46 (some ⟨b3, 0, none⟩) 1 [loneN bb1 ⟨valT job name value, at78⟩]]) (hs6.call0 hk6)
            clear hk6
            refine WDB.rd0 (is := [6, 7, 8]) (fun _ _ _ _ _ h => h) (Keep.refl _) (Rn.s rfl Yv.mv (Rn.s rfl Yv.ex (Rn.s rfl Yv.ex (Rn.nil)))) ?_
            refine WDB.act 9 (hc := rfl) (he := Ef.allocL (vs := ft0.cs) hs8 (fun b9 w10 k9 hs10 => ⟨fun _ _ => hs10.keep, ?_⟩))
            have hs10 : St wg1.drew [] w10 (Ch.cells b9 44 ft0.cs :: Ch.row ShE 23 O6 co6 rr :: Ch.row IsE 46 A4 c4 (is4 ++ [loneN bb1 ⟨valT job name value, at78⟩]) :: Ch.row IsE 46 (some ⟨b3, 0, none⟩) 1 [loneN bb1 ⟨valT job name value, at78⟩] :: (RsD rr ++ (is4.flatMap inC ++ []))) := hs10
            clear k9
            refine WDB.rd0 (is := [10]) (fun _ _ _ _ _ h => h) (Keep.refl _) (Rn.s rfl Yv.as (Rn.nil)) ?_
            refine WDB.act 11 (hc := rfl) (he := Ef.stores hs10 0 (fun w11 hs11 => ⟨fun _ _ => hs11.keep, WDB.done ?_⟩))
            have hs11 : St wg1.drew [] w11 (Ch.cells b9 44 bf.cs :: Ch.row ShE 23 O6 co6 rr :: Ch.row IsE 46 A4 c4 (is4 ++ [loneN bb1 ⟨valT job name value, at78⟩]) :: Ch.row IsE 46 (some ⟨b3, 0, none⟩) 1 [loneN bb1 ⟨valT job name value, at78⟩] :: (RsD rr ++ (is4.flatMap inC ++ []))) := hs11
            exact ⟨rfl, b9, O6, co6, rr, bs, bf, is4, hd4, hbs, hrr, hst.call0 (hs11.pick [0]), ls_of (co := co6) hs11 (by simp) (fun C hC => by simp [hC]), rfl, rfl, rfl, rfl, trivial⟩
          · have hs9 : St wg1.drew [] w9 (Ch.cells b9 44 ft0.cs :: Ch.row IsE 46 A4 c4 (is4 ++ [loneN bb1 ⟨valT job name value, at78⟩]) :: Ch.row IsE 46 (some ⟨b3, 0, none⟩) 1 [loneN bb1 ⟨valT job name value, at78⟩] :: (is4.flatMap inC ++ [])) := hs9
            clear k9
            have hbc := build_cx A4 c4 (is4 ++ [loneN bb1 ⟨valT job name value, at78⟩]) w9 (lone_at (c := c4) hs9 (fun x hx C hC => List.mem_append_right [Ch.cells b9 44 ft0.cs, Ch.row IsE 46 A4 c4 (is4 ++ [loneN bb1 ⟨valT job name value, at78⟩]), Ch.row IsE 46 (some ⟨b3, 0, none⟩) 1 [loneN bb1 ⟨valT job name value, at78⟩]] (List.mem_append_left _ (List.mem_flatMap.2 ⟨x, hx, hC⟩))) (by simp) ((hst.rd 1).keep hs9.keep)) (lone_bld hd4 hil (hvars0 hd4) htv)
            obtain ⟨bs, bf, hbs⟩ : ∃ bs bf, buildS (is4 ++ [loneN bb1 ⟨valT job name value, at78⟩]) = (bs, bf) := ⟨_, _, rfl⟩
            rw [hbs] at hbc
            refine WDB.act 5 (hc := rfl) (he := Ef.callv (caps := #[]) Tryd.func23 (Calls.mono hbc ?_))
            rintro ev w12 ⟨v, D, rfl, ⟨O6, co6, rr, hrr, rfl, rfl⟩, hk6⟩
            refine ⟨fun _ _ => (hs9.call0 hk6).keep, ?_⟩
            have hs12 : St wg1.drew [] w12 (Ch.row ShE 23 O6 co6 rr :: Ch.cells b9 44 ft0.cs :: Ch.row IsE 46 A4 c4 (is4 ++ [loneN bb1 ⟨valT job name value, at78⟩]) :: Ch.row IsE 46 (some ⟨b3, 0, none⟩) 1 [loneN bb1 ⟨valT job name value, at78⟩] :: (RsD rr ++ (is4.flatMap inC ++ []))) := St.tuck (S := [Ch.cells b9 44 ft0.cs, Ch.row IsE 46 A4 c4 (is4 ++ [loneN bb1 ⟨valT job name value, at78⟩]), Ch.row IsE 46 (some ⟨b3, 0, none⟩) 1 [loneN bb1 ⟨valT job name value, at78⟩]]) (hs9.call0 hk6)
            clear hk6
            refine WDB.rd0 (is := [6, 7, 8]) (fun _ _ _ _ _ h => h) (Keep.refl _) (Rn.s rfl Yv.mv (Rn.s rfl Yv.ex (Rn.s rfl Yv.ex (Rn.nil)))) ?_
            refine WDB.rd0 (is := [10]) (fun _ _ _ _ _ h => h) (Keep.refl _) (Rn.s rfl Yv.as (Rn.nil)) ?_
            refine WDB.act 11 (hc := rfl) (he := Ef.stores hs12 1 (fun w13 hs13 => ⟨fun _ _ => hs13.keep, WDB.done ?_⟩))
            have hs13 : St wg1.drew [] w13 (Ch.cells b9 44 bf.cs :: Ch.row ShE 23 O6 co6 rr :: Ch.row IsE 46 A4 c4 (is4 ++ [loneN bb1 ⟨valT job name value, at78⟩]) :: Ch.row IsE 46 (some ⟨b3, 0, none⟩) 1 [loneN bb1 ⟨valT job name value, at78⟩] :: (RsD rr ++ (is4.flatMap inC ++ []))) := hs13
            exact ⟨rfl, b9, O6, co6, rr, bs, bf, is4, hd4, hbs, hrr, hst.call0 (hs13.pick [0]), ls_of (co := co6) hs13 (by simp) (fun C hC => by simp [hC]), rfl, rfl, rfl, rfl, trivial⟩
        · have hs7 : St wg1.drew [] w7 (Ch.cells b9 44 ft0.cs :: Ch.row IsE 46 (some ⟨b3, 0, none⟩) 1 [loneN bb1 ⟨valT job name value, at78⟩] :: Ch.row IsE 46 O4 co4 is4 :: (is4.flatMap inC ++ [])) := hs7
          clear k9
          refine WDB.act 4 (hc := rfl) (he := Ef.append hs7 2 (hs7.rd 1) (fun q => by cases q) (fitIs (by simp only [List.length_cons, List.length_nil]; omega)) (fun A4 c4 w14 hs14 => ⟨fun _ _ => hs14.keep, ?_⟩))
          have hs14 : St wg1.drew [] w14 (Ch.row IsE 46 A4 c4 (is4 ++ [loneN bb1 ⟨valT job name value, at78⟩]) :: Ch.cells b9 44 ft0.cs :: Ch.row IsE 46 (some ⟨b3, 0, none⟩) 1 [loneN bb1 ⟨valT job name value, at78⟩] :: (is4.flatMap inC ++ [])) := hs14
          have hbc := build_cx A4 c4 (is4 ++ [loneN bb1 ⟨valT job name value, at78⟩]) w14 (lone_at (c := c4) hs14 (fun x hx C hC => List.mem_append_right [Ch.row IsE 46 A4 c4 (is4 ++ [loneN bb1 ⟨valT job name value, at78⟩]), Ch.cells b9 44 ft0.cs, Ch.row IsE 46 (some ⟨b3, 0, none⟩) 1 [loneN bb1 ⟨valT job name value, at78⟩]] (List.mem_append_left _ (List.mem_flatMap.2 ⟨x, hx, hC⟩))) (by simp) ((hst.rd 1).keep hs14.keep)) (lone_bld hd4 hil (hvars0 hd4) htv)
          obtain ⟨bs, bf, hbs⟩ : ∃ bs bf, buildS (is4 ++ [loneN bb1 ⟨valT job name value, at78⟩]) = (bs, bf) := ⟨_, _, rfl⟩
          rw [hbs] at hbc
          refine WDB.act 5 (hc := rfl) (he := Ef.callv (caps := #[]) Tryd.func23 (Calls.mono hbc ?_))
          rintro ev w15 ⟨v, D, rfl, ⟨O6, co6, rr, hrr, rfl, rfl⟩, hk6⟩
          refine ⟨fun _ _ => (hs14.call0 hk6).keep, ?_⟩
          have hs15 : St wg1.drew [] w15 (Ch.row ShE 23 O6 co6 rr :: Ch.row IsE 46 A4 c4 (is4 ++ [loneN bb1 ⟨valT job name value, at78⟩]) :: Ch.cells b9 44 ft0.cs :: Ch.row IsE 46 (some ⟨b3, 0, none⟩) 1 [loneN bb1 ⟨valT job name value, at78⟩] :: (RsD rr ++ (is4.flatMap inC ++ []))) := St.tuck (S := [Ch.row IsE 46 A4 c4 (is4 ++ [loneN bb1 ⟨valT job name value, at78⟩]), Ch.cells b9 44 ft0.cs, Ch.row IsE 46 (some ⟨b3, 0, none⟩) 1 [loneN bb1 ⟨valT job name value, at78⟩]]) (hs14.call0 hk6)
          clear hk6
          refine WDB.rd0 (is := [6, 7, 8]) (fun _ _ _ _ _ h => h) (Keep.refl _) (Rn.s rfl Yv.mv (Rn.s rfl Yv.ex (Rn.s rfl Yv.ex (Rn.nil)))) ?_
          refine WDB.rd0 (is := [10]) (fun _ _ _ _ _ h => h) (Keep.refl _) (Rn.s rfl Yv.as (Rn.nil)) ?_
          refine WDB.act 11 (hc := rfl) (he := Ef.stores hs15 2 (fun w16 hs16 => ⟨fun _ _ => hs16.keep, WDB.done ?_⟩))
          have hs16 : St wg1.drew [] w16 (Ch.cells b9 44 bf.cs :: Ch.row ShE 23 O6 co6 rr :: Ch.row IsE 46 A4 c4 (is4 ++ [loneN bb1 ⟨valT job name value, at78⟩]) :: Ch.row IsE 46 (some ⟨b3, 0, none⟩) 1 [loneN bb1 ⟨valT job name value, at78⟩] :: (RsD rr ++ (is4.flatMap inC ++ []))) := hs16
          exact ⟨rfl, b9, O6, co6, rr, bs, bf, is4, hd4, hbs, hrr, hst.call0 (hs16.pick [0]), ls_of (co := co6) hs16 (by simp) (fun C hC => by simp [hC]), rfl, rfl, rfl, rfl, trivial⟩
      · have hs5 : St wg1.drew [] w5 (Ch.cells b9 44 ft0.cs :: Ch.row IsE 46 O4 co4 is4 :: (is4.flatMap inC ++ [])) := hs5
        clear k9
        refine WDB.act 3 (hc := rfl) (he := Ef.bsl (T := 46) IsE [loneN bb1 ⟨valT job name value, at78⟩] hs5 (fun b3 w17 k3 hs17 => ⟨fun _ _ => hs17.keep, ?_⟩))
        have hs17 : St wg1.drew [] w17 (Ch.row IsE 46 (some ⟨b3, 0, none⟩) 1 [loneN bb1 ⟨valT job name value, at78⟩] :: Ch.cells b9 44 ft0.cs :: Ch.row IsE 46 O4 co4 is4 :: (is4.flatMap inC ++ [])) := hs17
        clear k3
        refine WDB.act 4 (hc := rfl) (he := Ef.append hs17 2 (hs17.rd 0) (fun q => by cases q) (fitIs (by simp only [List.length_cons, List.length_nil]; omega)) (fun A4 c4 w18 hs18 => ⟨fun _ _ => hs18.keep, ?_⟩))
        have hs18 : St wg1.drew [] w18 (Ch.row IsE 46 A4 c4 (is4 ++ [loneN bb1 ⟨valT job name value, at78⟩]) :: Ch.row IsE 46 (some ⟨b3, 0, none⟩) 1 [loneN bb1 ⟨valT job name value, at78⟩] :: Ch.cells b9 44 ft0.cs :: (is4.flatMap inC ++ [])) := hs18
        have hbc := build_cx A4 c4 (is4 ++ [loneN bb1 ⟨valT job name value, at78⟩]) w18 (lone_at (c := c4) hs18 (fun x hx C hC => List.mem_append_right [Ch.row IsE 46 A4 c4 (is4 ++ [loneN bb1 ⟨valT job name value, at78⟩]), Ch.row IsE 46 (some ⟨b3, 0, none⟩) 1 [loneN bb1 ⟨valT job name value, at78⟩], Ch.cells b9 44 ft0.cs] (List.mem_append_left _ (List.mem_flatMap.2 ⟨x, hx, hC⟩))) (by simp) ((hst.rd 1).keep hs18.keep)) (lone_bld hd4 hil (hvars0 hd4) htv)
        obtain ⟨bs, bf, hbs⟩ : ∃ bs bf, buildS (is4 ++ [loneN bb1 ⟨valT job name value, at78⟩]) = (bs, bf) := ⟨_, _, rfl⟩
        rw [hbs] at hbc
        refine WDB.act 5 (hc := rfl) (he := Ef.callv (caps := #[]) Tryd.func23 (Calls.mono hbc ?_))
        rintro ev w19 ⟨v, D, rfl, ⟨O6, co6, rr, hrr, rfl, rfl⟩, hk6⟩
        refine ⟨fun _ _ => (hs18.call0 hk6).keep, ?_⟩
        have hs19 : St wg1.drew [] w19 (Ch.row ShE 23 O6 co6 rr :: Ch.row IsE 46 A4 c4 (is4 ++ [loneN bb1 ⟨valT job name value, at78⟩]) :: Ch.row IsE 46 (some ⟨b3, 0, none⟩) 1 [loneN bb1 ⟨valT job name value, at78⟩] :: Ch.cells b9 44 ft0.cs :: (RsD rr ++ (is4.flatMap inC ++ []))) := St.tuck (S := [Ch.row IsE 46 A4 c4 (is4 ++ [loneN bb1 ⟨valT job name value, at78⟩]), Ch.row IsE 46 (some ⟨b3, 0, none⟩) 1 [loneN bb1 ⟨valT job name value, at78⟩], Ch.cells b9 44 ft0.cs]) (hs18.call0 hk6)
        clear hk6
        refine WDB.rd0 (is := [6, 7, 8]) (fun _ _ _ _ _ h => h) (Keep.refl _) (Rn.s rfl Yv.mv (Rn.s rfl Yv.ex (Rn.s rfl Yv.ex (Rn.nil)))) ?_
        refine WDB.rd0 (is := [10]) (fun _ _ _ _ _ h => h) (Keep.refl _) (Rn.s rfl Yv.as (Rn.nil)) ?_
        refine WDB.act 11 (hc := rfl) (he := Ef.stores hs19 3 (fun w20 hs20 => ⟨fun _ _ => hs20.keep, WDB.done ?_⟩))
        have hs20 : St wg1.drew [] w20 (Ch.cells b9 44 bf.cs :: Ch.row ShE 23 O6 co6 rr :: Ch.row IsE 46 A4 c4 (is4 ++ [loneN bb1 ⟨valT job name value, at78⟩]) :: Ch.row IsE 46 (some ⟨b3, 0, none⟩) 1 [loneN bb1 ⟨valT job name value, at78⟩] :: (RsD rr ++ (is4.flatMap inC ++ []))) := hs20
        exact ⟨rfl, b9, O6, co6, rr, bs, bf, is4, hd4, hbs, hrr, hst.call0 (hs20.pick [0]), ls_of (co := co6) hs20 (by simp) (fun C hC => by simp [hC]), rfl, rfl, rfl, rfl, trivial⟩
    · have hs2 : St wg1.drew [] w2 (Ch.row IsE 46 (some ⟨b3, 0, none⟩) 1 [loneN bb1 ⟨valT job name value, at78⟩] :: []) := hs2
      clear k3
      refine WDB.act2 1 9 (hci := rfl) (hcj := rfl) (hi := Ef.callv (caps := #[]) Tryd.func22 (Calls.mono (hcopy (hst.keep.trans hs2.keep) ((hst.rd 3).keep hs2.keep)) ?_)) (hj := Ef.allocL (vs := ft0.cs) hs2 (fun b9 w22 k9 hs22 => ⟨fun _ _ => hs22.keep, ?_⟩))
      · rintro ev w21 ⟨v, D, rfl, ⟨O4, co4, is4, hd4, rfl, rfl⟩, hk4⟩
        refine ⟨fun _ _ => (hs2.call0 hk4).keep, ?_⟩
        have hs21 : St wg1.drew [] w21 (Ch.row IsE 46 O4 co4 is4 :: Ch.row IsE 46 (some ⟨b3, 0, none⟩) 1 [loneN bb1 ⟨valT job name value, at78⟩] :: (is4.flatMap inC ++ [])) := St.tuck (S := [Ch.row IsE 46 (some ⟨b3, 0, none⟩) 1 [loneN bb1 ⟨valT job name value, at78⟩]]) (hs2.call0 hk4)
        have hl4 := dat_len hd4
        clear hk4
        refine WDB.act2 4 9 (hci := rfl) (hcj := rfl) (hi := Ef.append hs21 0 (hs21.rd 1) (fun q => by cases q) (fitIs (by simp only [List.length_cons, List.length_nil]; omega)) (fun A4 c4 w23 hs23 => ⟨fun _ _ => hs23.keep, ?_⟩)) (hj := Ef.allocL (vs := ft0.cs) hs21 (fun b9 w24 k9 hs24 => ⟨fun _ _ => hs24.keep, ?_⟩))
        · have hs23 : St wg1.drew [] w23 (Ch.row IsE 46 A4 c4 (is4 ++ [loneN bb1 ⟨valT job name value, at78⟩]) :: Ch.row IsE 46 (some ⟨b3, 0, none⟩) 1 [loneN bb1 ⟨valT job name value, at78⟩] :: (is4.flatMap inC ++ [])) := hs23
          have hbc := build_cx A4 c4 (is4 ++ [loneN bb1 ⟨valT job name value, at78⟩]) w23 (lone_at (c := c4) hs23 (fun x hx C hC => List.mem_append_right [Ch.row IsE 46 A4 c4 (is4 ++ [loneN bb1 ⟨valT job name value, at78⟩]), Ch.row IsE 46 (some ⟨b3, 0, none⟩) 1 [loneN bb1 ⟨valT job name value, at78⟩]] (List.mem_append_left _ (List.mem_flatMap.2 ⟨x, hx, hC⟩))) (by simp) ((hst.rd 1).keep hs23.keep)) (lone_bld hd4 hil (hvars0 hd4) htv)
          obtain ⟨bs, bf, hbs⟩ : ∃ bs bf, buildS (is4 ++ [loneN bb1 ⟨valT job name value, at78⟩]) = (bs, bf) := ⟨_, _, rfl⟩
          rw [hbs] at hbc
          refine WDB.act2 5 9 (hci := rfl) (hcj := rfl) (hi := Ef.callv (caps := #[]) Tryd.func23 (Calls.mono hbc ?_)) (hj := Ef.allocL (vs := ft0.cs) hs23 (fun b9 w26 k9 hs26 => ⟨fun _ _ => hs26.keep, ?_⟩))
          · rintro ev w25 ⟨v, D, rfl, ⟨O6, co6, rr, hrr, rfl, rfl⟩, hk6⟩
            refine ⟨fun _ _ => (hs23.call0 hk6).keep, ?_⟩
            have hs25 : St wg1.drew [] w25 (Ch.row ShE 23 O6 co6 rr :: Ch.row IsE 46 A4 c4 (is4 ++ [loneN bb1 ⟨valT job name value, at78⟩]) :: Ch.row IsE 46 (some ⟨b3, 0, none⟩) 1 [loneN bb1 ⟨valT job name value, at78⟩] :: (RsD rr ++ (is4.flatMap inC ++ []))) := St.tuck (S := [Ch.row IsE 46 A4 c4 (is4 ++ [loneN bb1 ⟨valT job name value, at78⟩]), Ch.row IsE 46 (some ⟨b3, 0, none⟩) 1 [loneN bb1 ⟨valT job name value, at78⟩]]) (hs23.call0 hk6)
            clear hk6
            refine WDB.rd0 (is := [6, 7, 8]) (fun _ _ _ _ _ h => h) (Keep.refl _) (Rn.s rfl Yv.mv (Rn.s rfl Yv.ex (Rn.s rfl Yv.ex (Rn.nil)))) ?_
            refine WDB.act 9 (hc := rfl) (he := Ef.allocL (vs := ft0.cs) hs25 (fun b9 w27 k9 hs27 => ⟨fun _ _ => hs27.keep, ?_⟩))
            have hs27 : St wg1.drew [] w27 (Ch.cells b9 44 ft0.cs :: Ch.row ShE 23 O6 co6 rr :: Ch.row IsE 46 A4 c4 (is4 ++ [loneN bb1 ⟨valT job name value, at78⟩]) :: Ch.row IsE 46 (some ⟨b3, 0, none⟩) 1 [loneN bb1 ⟨valT job name value, at78⟩] :: (RsD rr ++ (is4.flatMap inC ++ []))) := hs27
            clear k9
            refine WDB.rd0 (is := [10]) (fun _ _ _ _ _ h => h) (Keep.refl _) (Rn.s rfl Yv.as (Rn.nil)) ?_
            refine WDB.act 11 (hc := rfl) (he := Ef.stores hs27 0 (fun w28 hs28 => ⟨fun _ _ => hs28.keep, WDB.done ?_⟩))
            have hs28 : St wg1.drew [] w28 (Ch.cells b9 44 bf.cs :: Ch.row ShE 23 O6 co6 rr :: Ch.row IsE 46 A4 c4 (is4 ++ [loneN bb1 ⟨valT job name value, at78⟩]) :: Ch.row IsE 46 (some ⟨b3, 0, none⟩) 1 [loneN bb1 ⟨valT job name value, at78⟩] :: (RsD rr ++ (is4.flatMap inC ++ []))) := hs28
            exact ⟨rfl, b9, O6, co6, rr, bs, bf, is4, hd4, hbs, hrr, hst.call0 (hs28.pick [0]), ls_of (co := co6) hs28 (by simp) (fun C hC => by simp [hC]), rfl, rfl, rfl, rfl, trivial⟩
          · have hs26 : St wg1.drew [] w26 (Ch.cells b9 44 ft0.cs :: Ch.row IsE 46 A4 c4 (is4 ++ [loneN bb1 ⟨valT job name value, at78⟩]) :: Ch.row IsE 46 (some ⟨b3, 0, none⟩) 1 [loneN bb1 ⟨valT job name value, at78⟩] :: (is4.flatMap inC ++ [])) := hs26
            clear k9
            have hbc := build_cx A4 c4 (is4 ++ [loneN bb1 ⟨valT job name value, at78⟩]) w26 (lone_at (c := c4) hs26 (fun x hx C hC => List.mem_append_right [Ch.cells b9 44 ft0.cs, Ch.row IsE 46 A4 c4 (is4 ++ [loneN bb1 ⟨valT job name value, at78⟩]), Ch.row IsE 46 (some ⟨b3, 0, none⟩) 1 [loneN bb1 ⟨valT job name value, at78⟩]] (List.mem_append_left _ (List.mem_flatMap.2 ⟨x, hx, hC⟩))) (by simp) ((hst.rd 1).keep hs26.keep)) (lone_bld hd4 hil (hvars0 hd4) htv)
            obtain ⟨bs, bf, hbs⟩ : ∃ bs bf, buildS (is4 ++ [loneN bb1 ⟨valT job name value, at78⟩]) = (bs, bf) := ⟨_, _, rfl⟩
            rw [hbs] at hbc
            refine WDB.act 5 (hc := rfl) (he := Ef.callv (caps := #[]) Tryd.func23 (Calls.mono hbc ?_))
            rintro ev w29 ⟨v, D, rfl, ⟨O6, co6, rr, hrr, rfl, rfl⟩, hk6⟩
            refine ⟨fun _ _ => (hs26.call0 hk6).keep, ?_⟩
            have hs29 : St wg1.drew [] w29 (Ch.row ShE 23 O6 co6 rr :: Ch.cells b9 44 ft0.cs :: Ch.row IsE 46 A4 c4 (is4 ++ [loneN bb1 ⟨valT job name value, at78⟩]) :: Ch.row IsE 46 (some ⟨b3, 0, none⟩) 1 [loneN bb1 ⟨valT job name value, at78⟩] :: (RsD rr ++ (is4.flatMap inC ++ []))) := St.tuck (S := [Ch.cells b9 44 ft0.cs, Ch.row IsE 46 A4 c4 (is4 ++ [loneN bb1 ⟨valT job name value, at78⟩]), Ch.row IsE 46 (some ⟨b3, 0, none⟩) 1 [loneN bb1 ⟨valT job name value, at78⟩]]) (hs26.call0 hk6)
            clear hk6
            refine WDB.rd0 (is := [6, 7, 8]) (fun _ _ _ _ _ h => h) (Keep.refl _) (Rn.s rfl Yv.mv (Rn.s rfl Yv.ex (Rn.s rfl Yv.ex (Rn.nil)))) ?_
            refine WDB.rd0 (is := [10]) (fun _ _ _ _ _ h => h) (Keep.refl _) (Rn.s rfl Yv.as (Rn.nil)) ?_
            refine WDB.act 11 (hc := rfl) (he := Ef.stores hs29 1 (fun w30 hs30 => ⟨fun _ _ => hs30.keep, WDB.done ?_⟩))
            have hs30 : St wg1.drew [] w30 (Ch.cells b9 44 bf.cs :: Ch.row ShE 23 O6 co6 rr :: Ch.row IsE 46 A4 c4 (is4 ++ [loneN bb1 ⟨valT job name value, at78⟩]) :: Ch.row IsE 46 (some ⟨b3, 0, none⟩) 1 [loneN bb1 ⟨valT job name value, at78⟩] :: (RsD rr ++ (is4.flatMap inC ++ []))) := hs30
            exact ⟨rfl, b9, O6, co6, rr, bs, bf, is4, hd4, hbs, hrr, hst.call0 (hs30.pick [0]), ls_of (co := co6) hs30 (by simp) (fun C hC => by simp [hC]), rfl, rfl, rfl, rfl, trivial⟩
        · have hs24 : St wg1.drew [] w24 (Ch.cells b9 44 ft0.cs :: Ch.row IsE 46 O4 co4 is4 :: Ch.row IsE 46 (some ⟨b3, 0, none⟩) 1 [loneN bb1 ⟨valT job name value, at78⟩] :: (is4.flatMap inC ++ [])) := hs24
          clear k9
          refine WDB.act 4 (hc := rfl) (he := Ef.append hs24 1 (hs24.rd 2) (fun q => by cases q) (fitIs (by simp only [List.length_cons, List.length_nil]; omega)) (fun A4 c4 w31 hs31 => ⟨fun _ _ => hs31.keep, ?_⟩))
          have hs31 : St wg1.drew [] w31 (Ch.row IsE 46 A4 c4 (is4 ++ [loneN bb1 ⟨valT job name value, at78⟩]) :: Ch.cells b9 44 ft0.cs :: Ch.row IsE 46 (some ⟨b3, 0, none⟩) 1 [loneN bb1 ⟨valT job name value, at78⟩] :: (is4.flatMap inC ++ [])) := hs31
          have hbc := build_cx A4 c4 (is4 ++ [loneN bb1 ⟨valT job name value, at78⟩]) w31 (lone_at (c := c4) hs31 (fun x hx C hC => List.mem_append_right [Ch.row IsE 46 A4 c4 (is4 ++ [loneN bb1 ⟨valT job name value, at78⟩]), Ch.cells b9 44 ft0.cs, Ch.row IsE 46 (some ⟨b3, 0, none⟩) 1 [loneN bb1 ⟨valT job name value, at78⟩]] (List.mem_append_left _ (List.mem_flatMap.2 ⟨x, hx, hC⟩))) (by simp) ((hst.rd 1).keep hs31.keep)) (lone_bld hd4 hil (hvars0 hd4) htv)
          obtain ⟨bs, bf, hbs⟩ : ∃ bs bf, buildS (is4 ++ [loneN bb1 ⟨valT job name value, at78⟩]) = (bs, bf) := ⟨_, _, rfl⟩
          rw [hbs] at hbc
          refine WDB.act 5 (hc := rfl) (he := Ef.callv (caps := #[]) Tryd.func23 (Calls.mono hbc ?_))
          rintro ev w32 ⟨v, D, rfl, ⟨O6, co6, rr, hrr, rfl, rfl⟩, hk6⟩
          refine ⟨fun _ _ => (hs31.call0 hk6).keep, ?_⟩
          have hs32 : St wg1.drew [] w32 (Ch.row ShE 23 O6 co6 rr :: Ch.row IsE 46 A4 c4 (is4 ++ [loneN bb1 ⟨valT job name value, at78⟩]) :: Ch.cells b9 44 ft0.cs :: Ch.row IsE 46 (some ⟨b3, 0, none⟩) 1 [loneN bb1 ⟨valT job name value, at78⟩] :: (RsD rr ++ (is4.flatMap inC ++ []))) := St.tuck (S := [Ch.row IsE 46 A4 c4 (is4 ++ [loneN bb1 ⟨valT job name value, at78⟩]), Ch.cells b9 44 ft0.cs, Ch.row IsE 46 (some ⟨b3, 0, none⟩) 1 [loneN bb1 ⟨valT job name value, at78⟩]]) (hs31.call0 hk6)
          clear hk6
          refine WDB.rd0 (is := [6, 7, 8]) (fun _ _ _ _ _ h => h) (Keep.refl _) (Rn.s rfl Yv.mv (Rn.s rfl Yv.ex (Rn.s rfl Yv.ex (Rn.nil)))) ?_
          refine WDB.rd0 (is := [10]) (fun _ _ _ _ _ h => h) (Keep.refl _) (Rn.s rfl Yv.as (Rn.nil)) ?_
          refine WDB.act 11 (hc := rfl) (he := Ef.stores hs32 2 (fun w33 hs33 => ⟨fun _ _ => hs33.keep, WDB.done ?_⟩))
          have hs33 : St wg1.drew [] w33 (Ch.cells b9 44 bf.cs :: Ch.row ShE 23 O6 co6 rr :: Ch.row IsE 46 A4 c4 (is4 ++ [loneN bb1 ⟨valT job name value, at78⟩]) :: Ch.row IsE 46 (some ⟨b3, 0, none⟩) 1 [loneN bb1 ⟨valT job name value, at78⟩] :: (RsD rr ++ (is4.flatMap inC ++ []))) := hs33
          exact ⟨rfl, b9, O6, co6, rr, bs, bf, is4, hd4, hbs, hrr, hst.call0 (hs33.pick [0]), ls_of (co := co6) hs33 (by simp) (fun C hC => by simp [hC]), rfl, rfl, rfl, rfl, trivial⟩
      · have hs22 : St wg1.drew [] w22 (Ch.cells b9 44 ft0.cs :: Ch.row IsE 46 (some ⟨b3, 0, none⟩) 1 [loneN bb1 ⟨valT job name value, at78⟩] :: []) := hs22
        clear k9
        refine WDB.act 1 (hc := rfl) (he := Ef.callv (caps := #[]) Tryd.func22 (Calls.mono (hcopy (hst.keep.trans hs22.keep) ((hst.rd 3).keep hs22.keep)) ?_))
        rintro ev w34 ⟨v, D, rfl, ⟨O4, co4, is4, hd4, rfl, rfl⟩, hk4⟩
        refine ⟨fun _ _ => (hs22.call0 hk4).keep, ?_⟩
        have hs34 : St wg1.drew [] w34 (Ch.row IsE 46 O4 co4 is4 :: Ch.cells b9 44 ft0.cs :: Ch.row IsE 46 (some ⟨b3, 0, none⟩) 1 [loneN bb1 ⟨valT job name value, at78⟩] :: (is4.flatMap inC ++ [])) := St.tuck (S := [Ch.cells b9 44 ft0.cs, Ch.row IsE 46 (some ⟨b3, 0, none⟩) 1 [loneN bb1 ⟨valT job name value, at78⟩]]) (hs22.call0 hk4)
        have hl4 := dat_len hd4
        clear hk4
        refine WDB.act 4 (hc := rfl) (he := Ef.append hs34 0 (hs34.rd 2) (fun q => by cases q) (fitIs (by simp only [List.length_cons, List.length_nil]; omega)) (fun A4 c4 w35 hs35 => ⟨fun _ _ => hs35.keep, ?_⟩))
        have hs35 : St wg1.drew [] w35 (Ch.row IsE 46 A4 c4 (is4 ++ [loneN bb1 ⟨valT job name value, at78⟩]) :: Ch.cells b9 44 ft0.cs :: Ch.row IsE 46 (some ⟨b3, 0, none⟩) 1 [loneN bb1 ⟨valT job name value, at78⟩] :: (is4.flatMap inC ++ [])) := hs35
        have hbc := build_cx A4 c4 (is4 ++ [loneN bb1 ⟨valT job name value, at78⟩]) w35 (lone_at (c := c4) hs35 (fun x hx C hC => List.mem_append_right [Ch.row IsE 46 A4 c4 (is4 ++ [loneN bb1 ⟨valT job name value, at78⟩]), Ch.cells b9 44 ft0.cs, Ch.row IsE 46 (some ⟨b3, 0, none⟩) 1 [loneN bb1 ⟨valT job name value, at78⟩]] (List.mem_append_left _ (List.mem_flatMap.2 ⟨x, hx, hC⟩))) (by simp) ((hst.rd 1).keep hs35.keep)) (lone_bld hd4 hil (hvars0 hd4) htv)
        obtain ⟨bs, bf, hbs⟩ : ∃ bs bf, buildS (is4 ++ [loneN bb1 ⟨valT job name value, at78⟩]) = (bs, bf) := ⟨_, _, rfl⟩
        rw [hbs] at hbc
        refine WDB.act 5 (hc := rfl) (he := Ef.callv (caps := #[]) Tryd.func23 (Calls.mono hbc ?_))
        rintro ev w36 ⟨v, D, rfl, ⟨O6, co6, rr, hrr, rfl, rfl⟩, hk6⟩
        refine ⟨fun _ _ => (hs35.call0 hk6).keep, ?_⟩
        have hs36 : St wg1.drew [] w36 (Ch.row ShE 23 O6 co6 rr :: Ch.row IsE 46 A4 c4 (is4 ++ [loneN bb1 ⟨valT job name value, at78⟩]) :: Ch.cells b9 44 ft0.cs :: Ch.row IsE 46 (some ⟨b3, 0, none⟩) 1 [loneN bb1 ⟨valT job name value, at78⟩] :: (RsD rr ++ (is4.flatMap inC ++ []))) := St.tuck (S := [Ch.row IsE 46 A4 c4 (is4 ++ [loneN bb1 ⟨valT job name value, at78⟩]), Ch.cells b9 44 ft0.cs, Ch.row IsE 46 (some ⟨b3, 0, none⟩) 1 [loneN bb1 ⟨valT job name value, at78⟩]]) (hs35.call0 hk6)
        clear hk6
        refine WDB.rd0 (is := [6, 7, 8]) (fun _ _ _ _ _ h => h) (Keep.refl _) (Rn.s rfl Yv.mv (Rn.s rfl Yv.ex (Rn.s rfl Yv.ex (Rn.nil)))) ?_
        refine WDB.rd0 (is := [10]) (fun _ _ _ _ _ h => h) (Keep.refl _) (Rn.s rfl Yv.as (Rn.nil)) ?_
        refine WDB.act 11 (hc := rfl) (he := Ef.stores hs36 2 (fun w37 hs37 => ⟨fun _ _ => hs37.keep, WDB.done ?_⟩))
        have hs37 : St wg1.drew [] w37 (Ch.cells b9 44 bf.cs :: Ch.row ShE 23 O6 co6 rr :: Ch.row IsE 46 A4 c4 (is4 ++ [loneN bb1 ⟨valT job name value, at78⟩]) :: Ch.row IsE 46 (some ⟨b3, 0, none⟩) 1 [loneN bb1 ⟨valT job name value, at78⟩] :: (RsD rr ++ (is4.flatMap inC ++ []))) := hs37
        exact ⟨rfl, b9, O6, co6, rr, bs, bf, is4, hd4, hbs, hrr, hst.call0 (hs37.pick [0]), ls_of (co := co6) hs37 (by simp) (fun C hC => by simp [hC]), rfl, rfl, rfl, rfl, trivial⟩
    · have hs3 : St wg1.drew [] w3 (Ch.cells b9 44 ft0.cs :: []) := hs3
      clear k9
      refine WDB.act2 1 3 (hci := rfl) (hcj := rfl) (hi := Ef.callv (caps := #[]) Tryd.func22 (Calls.mono (hcopy (hst.keep.trans hs3.keep) ((hst.rd 3).keep hs3.keep)) ?_)) (hj := Ef.bsl (T := 46) IsE [loneN bb1 ⟨valT job name value, at78⟩] hs3 (fun b3 w39 k3 hs39 => ⟨fun _ _ => hs39.keep, ?_⟩))
      · rintro ev w38 ⟨v, D, rfl, ⟨O4, co4, is4, hd4, rfl, rfl⟩, hk4⟩
        refine ⟨fun _ _ => (hs3.call0 hk4).keep, ?_⟩
        have hs38 : St wg1.drew [] w38 (Ch.row IsE 46 O4 co4 is4 :: Ch.cells b9 44 ft0.cs :: (is4.flatMap inC ++ [])) := St.tuck (S := [Ch.cells b9 44 ft0.cs]) (hs3.call0 hk4)
        have hl4 := dat_len hd4
        clear hk4
        refine WDB.act 3 (hc := rfl) (he := Ef.bsl (T := 46) IsE [loneN bb1 ⟨valT job name value, at78⟩] hs38 (fun b3 w40 k3 hs40 => ⟨fun _ _ => hs40.keep, ?_⟩))
        have hs40 : St wg1.drew [] w40 (Ch.row IsE 46 (some ⟨b3, 0, none⟩) 1 [loneN bb1 ⟨valT job name value, at78⟩] :: Ch.row IsE 46 O4 co4 is4 :: Ch.cells b9 44 ft0.cs :: (is4.flatMap inC ++ [])) := hs40
        clear k3
        refine WDB.act 4 (hc := rfl) (he := Ef.append hs40 1 (hs40.rd 0) (fun q => by cases q) (fitIs (by simp only [List.length_cons, List.length_nil]; omega)) (fun A4 c4 w41 hs41 => ⟨fun _ _ => hs41.keep, ?_⟩))
        have hs41 : St wg1.drew [] w41 (Ch.row IsE 46 A4 c4 (is4 ++ [loneN bb1 ⟨valT job name value, at78⟩]) :: Ch.row IsE 46 (some ⟨b3, 0, none⟩) 1 [loneN bb1 ⟨valT job name value, at78⟩] :: Ch.cells b9 44 ft0.cs :: (is4.flatMap inC ++ [])) := hs41
        have hbc := build_cx A4 c4 (is4 ++ [loneN bb1 ⟨valT job name value, at78⟩]) w41 (lone_at (c := c4) hs41 (fun x hx C hC => List.mem_append_right [Ch.row IsE 46 A4 c4 (is4 ++ [loneN bb1 ⟨valT job name value, at78⟩]), Ch.row IsE 46 (some ⟨b3, 0, none⟩) 1 [loneN bb1 ⟨valT job name value, at78⟩], Ch.cells b9 44 ft0.cs] (List.mem_append_left _ (List.mem_flatMap.2 ⟨x, hx, hC⟩))) (by simp) ((hst.rd 1).keep hs41.keep)) (lone_bld hd4 hil (hvars0 hd4) htv)
        obtain ⟨bs, bf, hbs⟩ : ∃ bs bf, buildS (is4 ++ [loneN bb1 ⟨valT job name value, at78⟩]) = (bs, bf) := ⟨_, _, rfl⟩
        rw [hbs] at hbc
        refine WDB.act 5 (hc := rfl) (he := Ef.callv (caps := #[]) Tryd.func23 (Calls.mono hbc ?_))
        rintro ev w42 ⟨v, D, rfl, ⟨O6, co6, rr, hrr, rfl, rfl⟩, hk6⟩
        refine ⟨fun _ _ => (hs41.call0 hk6).keep, ?_⟩
        have hs42 : St wg1.drew [] w42 (Ch.row ShE 23 O6 co6 rr :: Ch.row IsE 46 A4 c4 (is4 ++ [loneN bb1 ⟨valT job name value, at78⟩]) :: Ch.row IsE 46 (some ⟨b3, 0, none⟩) 1 [loneN bb1 ⟨valT job name value, at78⟩] :: Ch.cells b9 44 ft0.cs :: (RsD rr ++ (is4.flatMap inC ++ []))) := St.tuck (S := [Ch.row IsE 46 A4 c4 (is4 ++ [loneN bb1 ⟨valT job name value, at78⟩]), Ch.row IsE 46 (some ⟨b3, 0, none⟩) 1 [loneN bb1 ⟨valT job name value, at78⟩], Ch.cells b9 44 ft0.cs]) (hs41.call0 hk6)
        clear hk6
        refine WDB.rd0 (is := [6, 7, 8]) (fun _ _ _ _ _ h => h) (Keep.refl _) (Rn.s rfl Yv.mv (Rn.s rfl Yv.ex (Rn.s rfl Yv.ex (Rn.nil)))) ?_
        refine WDB.rd0 (is := [10]) (fun _ _ _ _ _ h => h) (Keep.refl _) (Rn.s rfl Yv.as (Rn.nil)) ?_
        refine WDB.act 11 (hc := rfl) (he := Ef.stores hs42 3 (fun w43 hs43 => ⟨fun _ _ => hs43.keep, WDB.done ?_⟩))
        have hs43 : St wg1.drew [] w43 (Ch.cells b9 44 bf.cs :: Ch.row ShE 23 O6 co6 rr :: Ch.row IsE 46 A4 c4 (is4 ++ [loneN bb1 ⟨valT job name value, at78⟩]) :: Ch.row IsE 46 (some ⟨b3, 0, none⟩) 1 [loneN bb1 ⟨valT job name value, at78⟩] :: (RsD rr ++ (is4.flatMap inC ++ []))) := hs43
        exact ⟨rfl, b9, O6, co6, rr, bs, bf, is4, hd4, hbs, hrr, hst.call0 (hs43.pick [0]), ls_of (co := co6) hs43 (by simp) (fun C hC => by simp [hC]), rfl, rfl, rfl, rfl, trivial⟩
      · have hs39 : St wg1.drew [] w39 (Ch.row IsE 46 (some ⟨b3, 0, none⟩) 1 [loneN bb1 ⟨valT job name value, at78⟩] :: Ch.cells b9 44 ft0.cs :: []) := hs39
        clear k3
        refine WDB.act 1 (hc := rfl) (he := Ef.callv (caps := #[]) Tryd.func22 (Calls.mono (hcopy (hst.keep.trans hs39.keep) ((hst.rd 3).keep hs39.keep)) ?_))
        rintro ev w44 ⟨v, D, rfl, ⟨O4, co4, is4, hd4, rfl, rfl⟩, hk4⟩
        refine ⟨fun _ _ => (hs39.call0 hk4).keep, ?_⟩
        have hs44 : St wg1.drew [] w44 (Ch.row IsE 46 O4 co4 is4 :: Ch.row IsE 46 (some ⟨b3, 0, none⟩) 1 [loneN bb1 ⟨valT job name value, at78⟩] :: Ch.cells b9 44 ft0.cs :: (is4.flatMap inC ++ [])) := St.tuck (S := [Ch.row IsE 46 (some ⟨b3, 0, none⟩) 1 [loneN bb1 ⟨valT job name value, at78⟩], Ch.cells b9 44 ft0.cs]) (hs39.call0 hk4)
        have hl4 := dat_len hd4
        clear hk4
        refine WDB.act 4 (hc := rfl) (he := Ef.append hs44 0 (hs44.rd 1) (fun q => by cases q) (fitIs (by simp only [List.length_cons, List.length_nil]; omega)) (fun A4 c4 w45 hs45 => ⟨fun _ _ => hs45.keep, ?_⟩))
        have hs45 : St wg1.drew [] w45 (Ch.row IsE 46 A4 c4 (is4 ++ [loneN bb1 ⟨valT job name value, at78⟩]) :: Ch.row IsE 46 (some ⟨b3, 0, none⟩) 1 [loneN bb1 ⟨valT job name value, at78⟩] :: Ch.cells b9 44 ft0.cs :: (is4.flatMap inC ++ [])) := hs45
        have hbc := build_cx A4 c4 (is4 ++ [loneN bb1 ⟨valT job name value, at78⟩]) w45 (lone_at (c := c4) hs45 (fun x hx C hC => List.mem_append_right [Ch.row IsE 46 A4 c4 (is4 ++ [loneN bb1 ⟨valT job name value, at78⟩]), Ch.row IsE 46 (some ⟨b3, 0, none⟩) 1 [loneN bb1 ⟨valT job name value, at78⟩], Ch.cells b9 44 ft0.cs] (List.mem_append_left _ (List.mem_flatMap.2 ⟨x, hx, hC⟩))) (by simp) ((hst.rd 1).keep hs45.keep)) (lone_bld hd4 hil (hvars0 hd4) htv)
        obtain ⟨bs, bf, hbs⟩ : ∃ bs bf, buildS (is4 ++ [loneN bb1 ⟨valT job name value, at78⟩]) = (bs, bf) := ⟨_, _, rfl⟩
        rw [hbs] at hbc
        refine WDB.act 5 (hc := rfl) (he := Ef.callv (caps := #[]) Tryd.func23 (Calls.mono hbc ?_))
        rintro ev w46 ⟨v, D, rfl, ⟨O6, co6, rr, hrr, rfl, rfl⟩, hk6⟩
        refine ⟨fun _ _ => (hs45.call0 hk6).keep, ?_⟩
        have hs46 : St wg1.drew [] w46 (Ch.row ShE 23 O6 co6 rr :: Ch.row IsE 46 A4 c4 (is4 ++ [loneN bb1 ⟨valT job name value, at78⟩]) :: Ch.row IsE 46 (some ⟨b3, 0, none⟩) 1 [loneN bb1 ⟨valT job name value, at78⟩] :: Ch.cells b9 44 ft0.cs :: (RsD rr ++ (is4.flatMap inC ++ []))) := St.tuck (S := [Ch.row IsE 46 A4 c4 (is4 ++ [loneN bb1 ⟨valT job name value, at78⟩]), Ch.row IsE 46 (some ⟨b3, 0, none⟩) 1 [loneN bb1 ⟨valT job name value, at78⟩], Ch.cells b9 44 ft0.cs]) (hs45.call0 hk6)
        clear hk6
        refine WDB.rd0 (is := [6, 7, 8]) (fun _ _ _ _ _ h => h) (Keep.refl _) (Rn.s rfl Yv.mv (Rn.s rfl Yv.ex (Rn.s rfl Yv.ex (Rn.nil)))) ?_
        refine WDB.rd0 (is := [10]) (fun _ _ _ _ _ h => h) (Keep.refl _) (Rn.s rfl Yv.as (Rn.nil)) ?_
        refine WDB.act 11 (hc := rfl) (he := Ef.stores hs46 3 (fun w47 hs47 => ⟨fun _ _ => hs47.keep, WDB.done ?_⟩))
        have hs47 : St wg1.drew [] w47 (Ch.cells b9 44 bf.cs :: Ch.row ShE 23 O6 co6 rr :: Ch.row IsE 46 A4 c4 (is4 ++ [loneN bb1 ⟨valT job name value, at78⟩]) :: Ch.row IsE 46 (some ⟨b3, 0, none⟩) 1 [loneN bb1 ⟨valT job name value, at78⟩] :: (RsD rr ++ (is4.flatMap inC ++ []))) := hs47
        exact ⟨rfl, b9, O6, co6, rr, bs, bf, is4, hd4, hbs, hrr, hst.call0 (hs47.pick [0]), ls_of (co := co6) hs47 (by simp) (fun C hC => by simp [hC]), rfl, rfl, rfl, rfl, trivial⟩
  rintro ρ ds w6 ⟨rfl, b20, O6, co6, rr, bs, bf, is4, hd4, hbs, hrr, hst, hls, hs⟩
  refine Wp.forget _ ?_ hs
  clear hs ρ
  have c23 := hst.cells 0
  refine Wp.seq (Wp.seq (Wp.reads (is := [0, 1, 2]) (Keep.refl _) (Rn.s rfl Yv.mv (Rn.s rfl (Yv.len_v (e := 3) (m := 1)) (Rn.s rfl (Yv.cmp _ rfl) (Rn.nil)))) ?_))
  refine Wp.cond rfl (fun hw => ?_) (fun hw => ?_)
  · have hw : meansL is job [⟨name, value⟩] = [] := by
      have := eq_of_beq hw
      injection this with this
      rw [hWL]
      exact List.eq_nil_of_length_eq_zero (by omega)
    have h162 := lone_162 hd4 (b := bb1) hjob hrv ha hw
    rw [hbs] at h162
    injection h162 with e1 e2
    subst e1 e2
    refine Wp.seq (Wp.regionL (l := [0, 1, 2, 3, 4, 5, 6]) (WO.rd (is := [0, 1, 2, 3]) (js := [4, 5, 6]) (Keep.refl _) (Rn.s rfl (Yv.fa (off := 0)) (Rn.s rfl (Yv.ld (c23.at_ 0)) (Rn.s rfl (Yv.cmp _ rfl) (Rn.s rfl Yv.mv (Rn.nil))))) (WO.and (js := [6]) 246 248 (b := true) (hg := rfl) (ht := fun h3 qe1 => have h3 := eq_of_beq h3; WO.cv rfl (awake_cv w6) (Keep.refl _) (FnOk.of Tryd.func19) (fun we2 ke2 => WO.rd (is := [5]) (js := [6]) ((Keep.refl _).trans ke2) (Rn.s rfl Yv.pick_t (Rn.nil)) (WO.e 2 (qe1 _ ((Keep.refl _).trans ke2))))) (hf := fun _ qe1 => WO.rd (is := [4, 5]) (js := [6]) (Keep.refl _) (Rn.no rfl (Rn.s rfl Yv.pick_f Rn.nil)) (WO.e 2 (qe1 _ (Keep.refl _)))) (k := fun we1 ke1 => WO.rd (is := [6]) (js := []) ((Keep.refl _).trans ke1) (Rn.s rfl Yv.as (Rn.nil)) (WO.done ?_)))))
    exact Wp.ret (Fin.ret (Res.one rfl rfl) ⟨rfl, hst.keep.trans ke1⟩)
  have hw : meansL is job [⟨name, value⟩] ≠ [] := fun q => by
    rw [hWL] at q
    rw [q] at hw
    exact absurd hw (by decide)
  refine Wp.skip ?_
  obtain ⟨es, h0, hel, hnl⟩ := lone_0 hd4 (b := bb1) hjob hrv ha hw
  rw [hbs] at h0
  injection h0 with e1 e2
  subst e1 e2
  have hrrl : rr.length = is.length + 1 := by
    have := congrArg List.length hrr
    rw [hel] at this
    simpa using this
  have hlast : (nth rr (is.length : Int)).2.2 = WL := by
    rw [← nth_pl]
    have e1 : pl rr = bs := hrr
    rw [e1, hnl, hWL]
  have hrd := hls.rd
  have hat := hls.at_ (k := is.length) (by omega)
  have hrw := hst.rd 3
  have hwl : WL.length ≤ is.length := by rw [← hWL]; exact allK_len _ _
  have hsm := same_cv (nth rr (is.length : Int)).1 (nth rr (is.length : Int)).2.1 (nth rr (is.length : Int)).2.2 O co WL w6 hat hrw (by rw [hlast]; omega)
  rw [decide_eq_true hlast] at hsm
  rw [hrrl]
  have e1 : (((is.length + 1 : Nat) : Int) == (is.length : Int) + 1) = true := by
    rw [beq_iff_eq]
    omega
  refine Wp.seq (Wp.regionL (l := [0, 1, 2, 3, 4, 5, 6, 7, 8, 9, 10, 11, 12, 13, 14, 15, 16, 17, 18, 19, 20, 21, 22, 23]) (WO.rd (is := [0, 1, 2, 3, 4, 5, 6, 7, 8, 9, 10, 11]) (js := [12, 13, 14, 15, 16, 17, 18, 19, 20, 21, 22, 23]) (Keep.refl _) (Rn.s rfl (Yv.fa (off := 0)) (Rn.s rfl (Yv.ld (c23.at_ 0)) (Rn.s rfl (Yv.cmp _ rfl) (Rn.s rfl Yv.mv (Rn.and (is := [4, 5, 6, 7, 8, 9, 10]) (js := [11]) (t := 252) (d := 259) (hg := rfl) (ht := fun h3 => have h3 := eq_of_beq h3; Rn.s rfl Yv.mv (Rn.s rfl (Yv.len_v (e := 23) (m := 1)) (Rn.s rfl Yv.mv (Rn.s rfl (Yv.len_v (e := 46) (m := 16)) (Rn.s rfl (Yv.add ⟨by omega, by omega⟩) (Rn.s rfl (Yv.cmp _ rfl) (Rn.s rfl Yv.pick_t ((Rn.e 7 rfl rfl))))))))) (hf := fun _ => Rn.no rfl (Rn.no rfl (Rn.no rfl (Rn.no rfl (Rn.no rfl (Rn.no rfl (Rn.s rfl Yv.pick_f (Rn.e 7 rfl rfl)))))))) (k := Rn.s rfl Yv.mv (Rn.nil))))))) (WO.and (js := [20, 21, 22, 23]) 260 268 (b := true) (hg := rfl) (ht := fun h11 qj1 => WO.rd (is := [12, 13, 14, 15, 16, 17]) (js := [18, 19, 20, 21, 22, 23]) (Keep.refl _) (Rn.s rfl Yv.mv (Rn.s rfl Yv.mv (Rn.s rfl (Yv.len_v (e := 46) (m := 16)) (Rn.s rfl (Yv.ia (e := 23) (j := (is.length : Int)) hrd (by omega) (by omega) hrrl.symm) (Rn.s rfl (Yv.ld (hrd.ld (i := (is.length : Int)) 0 (by omega) (by omega))) (Rn.s rfl Yv.mv (Rn.nil))))))) (WO.cv rfl hsm (Keep.refl _) (FnOk.of Tryd.func17) (fun wj2 kj2 => WO.rd (is := [19]) (js := [20, 21, 22, 23]) ((Keep.refl _).trans kj2) (Rn.s rfl Yv.pick_t (Rn.nil)) (WO.e 8 (qj1 _ ((Keep.refl _).trans kj2)))))) (hf := fun _ qj1 => WO.rd (is := [12, 13, 14, 15, 16, 17, 18, 19]) (js := [20, 21, 22, 23]) (Keep.refl _) (Rn.no rfl (Rn.no rfl (Rn.no rfl (Rn.no rfl (Rn.no rfl (Rn.no rfl (Rn.no rfl (Rn.s rfl Yv.pick_f Rn.nil)))))))) (WO.e 8 (qj1 _ (Keep.refl _)))) (k := fun wj1 kj1 => WO.rd (is := [20]) (js := [21, 22, 23]) ((Keep.refl _).trans kj1) (Rn.s rfl Yv.mv (Rn.nil)) (WO.and (js := [23]) 269 271 (b := true) (hg := rfl) (ht := fun h20 qj3 => WO.cv rfl (awake_cv w6) ((Keep.refl _).trans kj1) (FnOk.of Tryd.func19) (fun wj4 kj4 => WO.rd (is := [22]) (js := [23]) (((Keep.refl _).trans kj1).trans kj4) (Rn.s rfl Yv.pick_t (Rn.nil)) (WO.e 2 (qj3 _ ((Keep.refl _).trans kj4))))) (hf := fun _ qj3 => WO.rd (is := [21, 22]) (js := [23]) ((Keep.refl _).trans kj1) (Rn.no rfl (Rn.s rfl Yv.pick_f Rn.nil)) (WO.e 2 (qj3 _ (Keep.refl _)))) (k := fun wj3 kj3 => WO.rd (is := [23]) (js := []) (((Keep.refl _).trans kj1).trans kj3) (Rn.s rfl Yv.as (Rn.nil)) (WO.done ?_)))))))
  refine Wp.ret (Fin.ret (Res.one rfl rfl) ⟨?_, (hst.keep.trans kj1).trans kj3⟩)
  rw [e1]
  rfl
end Go.Proofs.YthbehiflmcljcaaDoor.C
