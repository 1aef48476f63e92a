/- The document's Get, and that tree.Get answers as it does. -/
import Derived.Test.YtpnkfnenhgfhpaaDoorBs
import Derived.Test.YtpnkfnenhgfhpaaDoorBd
import Derived.Test.YtpnkfnenhgfhpaaDoorBq
set_option linter.unusedVariables false
set_option linter.unusedSimpArgs false
set_option maxRecDepth 10000
namespace Go.Proofs.YtpnkfnenhgfhpaaDoor.C
open Go.RowKit Go.Proofs.YtpnkfnenhgfhpaaDoor.Sh
theorem ris_wf {t : List Nd} (h : refIsS t = true) : 0 < t.length ∧ t.length ≤ 16384 ∧ ∀ j : Nat, j < t.length → (0 ≤ (nth t (j : Int)).depth ∧ (nth t (j : Int)).depth ≤ 32) ∧ (j + 1 < t.length → (nth t ((j + 1 : Nat) : Int)).depth ≤ (nth t (j : Int)).depth + 1) := by
  cases t with
  | nil => cases h
  | cons a r =>
    unfold refIsS at h
    simp only at h
    split at h
    · cases h
    rename_i hl
    split at h
    · cases h
    rename_i hro
    split at h
    · cases h
    rename_i hfg
    have hfg : formGo r a ks0 = true := by simpa using hfg
    have hro : rootOk a = true := by simpa using hro
    have hd0 : a.depth = 0 := by unfold rootOk at hro; simp at hro; omega
    have h1 := formGo_wf r a ks0 hfg
    refine ⟨by simp, by omega, fun j hj => ⟨?_, fun hj1 => ?_⟩⟩
    · cases j with
      | zero => show 0 ≤ a.depth ∧ a.depth ≤ 32; omega
      | succ j => rw [nth_cons_s]; have := h1 j (by simpa using hj); omega
    · rw [nth_cons_s]
      exact (h1 j (by simpa using hj1)).2.2
def rgetGo (t : List Nd) : List Bs → Int → Int
  | [], a => a
  | key :: r, a => if a < 0 then a else rgetGo t r (rstepS t a.toNat key)
def rgetS (t : List Nd) (path : List Bs) : Int := if refIsS t = true then rgetGo t path 0 else -1
theorem orN_bd2 {t : List Nd} {i : Nat} (hi : i < t.length) (m : Nat) : -1 ≤ orN (partsS t i)[m]? ∧ orN (partsS t i)[m]? < t.length :=
  orN_bd fun n h => (partsS_mem hi n (List.mem_of_getElem? h)).2
theorem rstepS_bd (t : List Nd) (i : Nat) (key : Bs) (hi : i < t.length) : -1 ≤ rstepS t i key ∧ rstepS t i key < t.length := by
  unfold rstepS
  split
  · unfold findS
    exact orN_bd fun n h => (partsS_mem hi n (List.mem_of_find?_eq_some h)).2
  · split
    · omega
    · exact orN_bd2 hi _
theorem rget_cv (A : Option Addr) (c : Nat) (t : List Nd) (B : Option Addr) (d : Nat) (path : List Bs) (w0 : World) (hr : Rd NdE w0 A t) (hp : Rd StE w0 B path) (hpl : path.length < 4000000000000000000) (hkl : ∀ s ∈ path, s.length ≤ 9223372036854775807) :
    Cv Tryd.prog 53 [.slice A t.length c, .slice B path.length d] (.int .i64 (rgetS t path)) w0 := by
  intro w hk
  have hr := hr.keep hk
  have hp := hp.keep hk
  refine calls_of_Wp (vs := [_, _]) Tryd.func53 ?_
  refine Wp.seq (Wp.reads (is := [0]) (Keep.refl _) (Rn.s rfl Yv.as (Rn.nil)) ?_)
  refine Wp.seq (Wp.seq (Wp.regionL (l := [0, 1, 2]) (WO.rd (is := [0]) (js := [1, 2]) (Keep.refl _) (Rn.s rfl Yv.mv (Rn.nil)) (WO.cv rfl (ris_cv A c t w hr) (Keep.refl _) (FnOk.of Tryd.func33) (fun wa1 ka1 => WO.rd (is := [2]) (js := []) ((Keep.refl _).trans ka1) (Rn.s rfl Yv.not (Rn.nil)) (WO.done ?_))))))
  cases his : refIsS t with
  | false =>
    refine Wp.cond_t rfl ?_
    refine Wp.seq (Wp.reads (is := [0]) (Keep.refl _) (Rn.s rfl Yv.as (Rn.nil)) ?_)
    exact Wp.ret (Fin.ret (Res.one rfl rfl) ⟨by rw [rgetS, if_neg (by rw [his]; decide)], ka1⟩)
  | true =>
    obtain ⟨hl0, hl1, hwf⟩ := ris_wf his
    refine Wp.cond_f rfl (Wp.skip ?_)
    obtain ⟨G, hG⟩ : ∃ G, G = rgetS t path := ⟨_, rfl⟩
    rw [← hG]
    rw [rgetS, if_pos his] at hG
    refine Wp.seq (Wp.reads (is := [0]) (Keep.refl _) (Rn.s rfl Yv.as (Rn.nil)) ?_)
    refine Wp.seq (Wp.seq (Wp.reads (is := [0]) (Keep.refl _) (Rn.s rfl Yv.as (Rn.nil)) ?_))
    refine Wp.block ?_
    refine Wp.loop (α := Nat × Int) (fun q ρ ds w' => ds = [] ∧ q.1 ≤ path.length ∧ q.2 < t.length ∧ rgetGo t (path.drop q.1) q.2 = G ∧ Keep w w' ∧
      Sub [(0, .slice A t.length c), (1, .slice B path.length d), (5, .int .i64 q.2), (6, .int .i64 (q.1 : Int))] ρ) (fun q => path.length - q.1) (0, 0)
      ⟨rfl, Nat.zero_le _, by simp only; omega, hG.symm, ka1, rfl, rfl, rfl, rfl, trivial⟩ ?_
    rintro ⟨j, a⟩ ρ ds w' ⟨rfl, hj, hal, hgo, hkw, hs⟩
    simp only at hj hal hgo hs
    refine Wp.forget _ ?_ hs
    have hr' := hr.keep hkw
    have hp' := hp.keep hkw
    refine Wp.seq (Wp.seq (Wp.reads (is := [0, 1, 2, 3, 4, 5, 6, 7]) (Keep.refl _) (Rn.s rfl Yv.mv (Rn.s rfl Yv.mv (Rn.s rfl (Yv.len_v (e := 9) (m := 1)) (Rn.s rfl (Yv.cmp _ rfl) (Rn.s rfl Yv.mv (Rn.and (is := [5, 6, 7]) (js := []) (t := 14) (d := 17) (hg := rfl) (ht := fun h4 => have h4 := of_decide_eq_true h4; Rn.s rfl Yv.mv (Rn.s rfl (Yv.cmp _ rfl) (Rn.s rfl Yv.pick_t ((Rn.e 3 rfl rfl))))) (hf := fun _ => Rn.no rfl (Rn.no rfl (Rn.s rfl Yv.pick_f (Rn.e 3 rfl rfl)))) (k := Rn.nil))))))) ?_))
    refine Wp.cond rfl (fun h => ?_) (fun h => ?_)
    · simp only [Bool.and_eq_true, decide_eq_true_eq] at h
      obtain ⟨h1, h2⟩ := h
      have hjl : j < path.length := by omega
      obtain ⟨i, hi⟩ : ∃ i : Nat, a = i := ⟨a.toNat, by omega⟩
      subst hi
      have hil : i < t.length := by omega
      obtain ⟨hd, hnx⟩ := hwf i hil
      rw [drop_cons hjl, rgetGo, if_neg (by omega), Int.toNat_natCast] at hgo
      have hkey : (nth path (j : Int)).length ≤ 9223372036854775807 := hkl _ (List.mem_of_getElem? (nth_get (l := path) (i := (j : Int)) (by omega) (by omega)))
      have hst := rstep_cv A c t i (nth path (j : Int)) w' hr' hil (by omega) hkey ⟨by omega, by omega⟩ hnx (fun h => ⟨(num_back h).1, (num_back h).2.1⟩)
      refine Wp.skip (Wp.seq (Wp.block ?_))
      refine Wp.regionL (l := [0, 1, 2, 3, 4, 5, 6, 7]) (WO.rd (is := [0, 1, 2, 3, 4, 5]) (js := [6, 7]) (Keep.refl _) (Rn.s rfl Yv.mv (Rn.s rfl Yv.mv (Rn.s rfl Yv.mv (Rn.s rfl Yv.mv (Rn.s rfl (Yv.ia (e := 9) hp' (by omega) (by omega)) (Rn.s rfl (Yv.ld (hp'.ld 0 (by omega) (by omega))) (Rn.nil))))))) (WO.cv rfl hst (Keep.refl _) (FnOk.of Tryd.func81) (fun wx1 kx1 => WO.rd (is := [7]) (js := []) ((Keep.refl _).trans kx1) (Rn.s rfl Yv.as (Rn.nil)) (WO.done ?_))))
      refine Wp.reads (is := [0, 1, 2]) (Keep.refl _) (Rn.s rfl Yv.mv (Rn.s rfl (Yv.add (by unfold inI; omega)) (Rn.s rfl Yv.as (Rn.nil)))) ?_
      exact ⟨(j + 1, rstepS t i (nth path (j : Int))), ⟨rfl, hjl, (rstepS_bd t i _ hil).2, hgo, hkw.trans kx1, rfl, rfl, rfl, rfl, trivial⟩, by simp only; omega⟩
    · simp only [Bool.and_eq_false_iff, decide_eq_false_iff_not] at h
      refine Wp.exit ?_
      refine Wp.seq (Wp.reads (is := [0, 1]) (Keep.refl _) (Rn.s rfl Yv.mv (Rn.s rfl Yv.as (Rn.nil))) ?_)
      have e : a = G := by
        rw [← hgo]
        by_cases hjl : j < path.length
        · rw [drop_cons hjl, rgetGo, if_pos (by omega)]
        · rw [List.drop_eq_nil_of_le (by omega), rgetGo]
      exact Wp.ret (Fin.ret (Res.one rfl rfl) ⟨by rw [e], hkw⟩)
/-! ### the two answer alike -/
theorem isGo_kind (t : List Nd) : ∀ (r : List Nd) (a : Nd) (i : Int) (st : List OB), isGo t r a i st = true → ∀ x ∈ r, x.kind = 1 ∨ x.kind = 2 ∨ x.kind = 3
  | [], _, _, _, _, x, hx => by cases hx
  | n :: r, a, i, st, h, x, hx => by
    rw [isGo] at h
    split at h
    · cases h
    rename_i hf
    have hf : fitsB n a = true := by simpa using hf
    have hn : n.kind = 1 ∨ n.kind = 2 ∨ n.kind = 3 := by
      unfold fitsB at hf
      simp only [Bool.and_eq_true, Bool.or_eq_true, decide_eq_true_eq, beq_iff_eq] at hf
      omega
    have ih : ∀ st', isGo t r n (i + 1) st' = true → ∀ x ∈ r, x.kind = 1 ∨ x.kind = 2 ∨ x.kind = 3 := fun st' => isGo_kind t r n (i + 1) st'
    rcases List.mem_cons.1 hx with rfl | hx
    · exact hn
    split at h
    · cases h
    split at h
    · split at h
      · cases h
      · exact ih _ h x hx
    · split at h
      · cases h
      · exact ih _ h x hx
theorem isS_kind {t : List Nd} (h : isS t = true) : ∀ i : Nat, i < t.length → (nth t (i : Int)).kind = 1 ∨ (nth t (i : Int)).kind = 2 ∨ (nth t (i : Int)).kind = 3 := by
  cases t with
  | nil => cases h
  | cons a r =>
    unfold isS at h
    simp only at h
    split at h
    · cases h
    split at h
    · cases h
    rename_i h1 h2
    have h2 : rootOk a = true := by simpa using h2
    intro i hi
    cases i with
    | zero => left; show a.kind = 1; unfold rootOk at h2; simp at h2; omega
    | succ j =>
      have hj : j < r.length := by simpa using hi
      rw [nth_cons_s]
      exact isGo_kind _ _ _ _ _ h _ (List.mem_of_getElem? (nth_get (l := r) (i := (j : Int)) (by omega) (by omega)))
theorem itemI_num (key : Bs) : ∀ (l : List Nat) (no : Nat), no + l.length ≤ 16385 → itemI key l no = if (numR key 16384).2 = true ∧ (no : Int) ≤ (numR key 16384).1 then orN l[(numR key 16384).1.toNat - no]? else -1
  | [], no, _ => by rw [itemI]; split <;> simp [orN]
  | n :: r, no, h => by
    simp only [List.length_cons] at h
    rw [itemI]
    by_cases he : Lib.itoa (no : Int) = key
    · rw [if_pos (by rw [he]; exact beq_self_eq_true _)]
      have := num_itoa (u := no) (by omega)
      rw [he] at this
      rw [this]
      simp [orN]
    · rw [if_neg (by simpa using he), itemI_num key r (no + 1) (by omega)]
      by_cases hok : (numR key 16384).2 = true
      · have hb := num_back hok
        obtain ⟨v, hv⟩ : ∃ v : Nat, (numR key 16384).1 = v := ⟨(numR key 16384).1.toNat, by omega⟩
        rw [hv] at hb ⊢
        have hvn : v ≠ no := by rintro rfl; exact he hb.2.2
        by_cases hlt : no < v
        · rw [if_pos ⟨hok, by omega⟩, if_pos ⟨hok, by omega⟩]
          have : (v : Int).toNat - no = ((v : Int).toNat - (no + 1)) + 1 := by omega
          rw [this]; rfl
        · rw [if_neg (by omega), if_neg (by omega)]
      · rw [if_neg (fun q => hok q.1), if_neg (fun q => hok q.1)]
theorem step_eq {t : List Nd} (h : isS t = true) (i : Nat) (hi : i < t.length) (key : Bs) : stepS t i key = rstepS t i key := by
  unfold stepS rstepS
  rcases isS_kind h i hi with hk | hk | hk
  · rw [if_pos hk, if_pos hk]
  · rw [if_neg (by omega), if_neg (by omega), if_neg (by omega)]
    have hlen : (partsS t i).length ≤ 16384 := by
      have := partsR_len (nth t (i : Int)).depth (t.drop (i + 1)) (i + 1)
      have h1 := (isS_depth h).2.1
      unfold partsS
      simp only [List.length_drop] at this
      omega
    rw [itemI_num _ _ 0 (by omega)]
    by_cases hok : (numR key 16384).2 = true
    · have hb := num_back hok
      have hn2 : ¬ ((nth t (i : Int)).kind ≠ 2 ∨ (numR key 16384).2 = false) := by
        intro q
        rcases q with q | q
        · exact q hk
        · rw [hok] at q; cases q
      rw [if_pos ⟨hok, by simpa using hb.1⟩, if_neg hn2]
      rfl
    · rw [if_neg (fun q => hok q.1), if_pos (.inr (by simpa using hok))]
  · rw [if_neg (by omega), if_pos hk, if_neg (by omega), if_pos (.inl (by omega))]
theorem get_eq (t : List Nd) (path : List Bs) : getS t path = rgetS t path := by
  unfold getS rgetS
  rw [is_ref]
  split
  · rename_i hr
    have his : isS t = true := by rw [is_ref]; exact hr
    have : ∀ (path : List Bs) (i : Nat), i < t.length → getGo t path i = rgetGo t path i := by
      intro path
      induction path with
      | nil => intro i _; rfl
      | cons key r ih =>
        intro i hi
        rw [getGo, rgetGo, if_neg (show ¬ ((i : Int) < 0) by omega), Int.toNat_natCast, step_eq his i hi]
        have hb := rstepS_bd t i key hi
        by_cases hneg : rstepS t i key < 0
        · rw [if_pos hneg]
          have : rstepS t i key = -1 := by omega
          rw [this]
          cases r <;> rfl
        · rw [if_neg hneg, ih _ (by omega)]
          congr 1
          omega
    exact this path 0 (isS_depth his).1
  · rfl
end Go.Proofs.YtpnkfnenhgfhpaaDoor.C
