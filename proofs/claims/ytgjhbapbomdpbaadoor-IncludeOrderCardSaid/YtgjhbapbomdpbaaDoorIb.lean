/- Files that include files: what include.Load computes, in plain words. -/
import Derived.Test.YtgjhbapbomdpbaaDoorIa
set_option linter.unusedVariables false
set_option linter.unusedSimpArgs false
set_option maxRecDepth 10000
namespace Go.Proofs.YtgjhbapbomdpbaaDoor.C
open Go.RowKit Go.Proofs.YtgjhbapbomdpbaaDoor.Sh
structure Fl where
  name : Bs
  text : Bs
deriving Inhabited, DecidableEq
abbrev Fl.cs (f : Fl) : List Value := [S f.name, S f.text]
abbrev FlE : Enc Fl := ⟨2, Fl.cs, fun _ => rfl⟩
abbrev VF (f : Fl) : Value := .agg f.cs.toArray
def incl : Bs := [105, 110, 99, 108, 117, 100, 101]
/-- the names that a tree includes, or a fault -/
def namesS (t : List Nd) : List Nd × Ft :=
  if findS t 0 incl < 0 then ([], ft0)
  else if (textsS t (findS t 0 incl).toNat).2.2 = false then ([], placeS 72 (nth t (textsS t (findS t 0 incl).toNat).2.1))
  else ((textsS t (findS t 0 incl).toNat).1.map (fun n : Nat => nth t (n : Int)), ft0)
def wcutS (t : List Nd) (key : Bs) : List Nd := if findS t 0 key < 0 then t else t.take (findS t 0 key).toNat ++ t.drop (endS t (findS t 0 key).toNat)
/-- a reader's state -/
structure LS where
  rd : List (Bs × Int)
  opn : List Bs
  nms : List Bs
  trs : List (List Nd)
  cyc : List Bs
deriving Inhabited
def idxS (l : List Bs) (x : Bs) : Nat := l.idxOf x
/-- a name that is met: is it to be read? -/
def mayS (set : List (Bs × Fl)) (s : LS) (n : Nd) : Bool × Ft × LS :=
  if (alook n.text set).isSome = false then (false, placeS 73 n, s)
  else if n.text ∈ s.opn then (false, placeS 74 n, { s with cyc := s.opn.drop (idxS s.opn n.text) })
  else if 0 < (alook n.text s.rd).getD 0 then (false, ft0, s)
  else if 16 ≤ s.opn.length then (false, placeS 75 n, s)
  else (true, ft0, s)
def visL (rd : LS → Bs → LS × Ft) (set : List (Bs × Fl)) : List Nd → LS → LS × Ft
  | [], s => (s, ft0)
  | n :: r, s =>
    if (mayS set s n).1 then
      if (rd (mayS set s n).2.2 n.text).2.code ≠ 0 then rd (mayS set s n).2.2 n.text else visL rd set r (rd (mayS set s n).2.2 n.text).1
    else if (mayS set s n).2.1.code ≠ 0 then ((mayS set s n).2.2, (mayS set s n).2.1) else visL rd set r (mayS set s n).2.2
def fileS (set : List (Bs × Fl)) (name : Bs) : Bs := ((alook name set).getD ⟨[], []⟩).text
def pushS (s : LS) (name : Bs) : LS := { s with opn := s.opn ++ [name] }
def doneS (s : LS) (name : Bs) (t : List Nd) : LS :=
  { s with opn := s.opn.dropLast, rd := aput name (w64 ((alook name s.rd).getD 0 + 1)) s.rd, nms := s.nms ++ [name], trs := s.trs ++ [wcutS t incl] }
def loadF (set : List (Bs × Fl)) : Nat → LS → Bs → LS × Ft
  | 0, s, _ => (s, ft0)
  | f + 1, s, name =>
    if (parseS name (fileS set name)).2.code ≠ 0 then (s, (parseS name (fileS set name)).2)
    else if (namesS (parseS name (fileS set name)).1).2.code ≠ 0 then (s, (namesS (parseS name (fileS set name)).1).2)
    else if (visL (loadF set f) set (namesS (parseS name (fileS set name)).1).1 (pushS s name)).2.code ≠ 0 then visL (loadF set f) set (namesS (parseS name (fileS set name)).1).1 (pushS s name)
    else (doneS (visL (loadF set f) set (namesS (parseS name (fileS set name)).1).1 (pushS s name)).1 name (parseS name (fileS set name)).1, ft0)
def ls0 : LS := ⟨[], [], [], [], []⟩
def setS (files : List Fl) : List (Bs × Fl) := files.foldl (fun m f => aput f.name f m) []
/-- what include.load comes to -/
def loadS (files : List Fl) (root : Bs) : LS × Ft :=
  if 64 < files.length ∨ (setS files).length < files.length then (ls0, ⟨70, [], 0, 0⟩)
  else if (alook root (setS files)).isSome = false then (ls0, ⟨71, [], 0, 0⟩)
  else loadF (setS files) 16 ls0 root
/-! ### what stays true -/
/-- what has been read: each once, all in the set, none that is open -/
structure Inv (set : List (Bs × Fl)) (s : LS) : Prop where
  pos : ∀ key, 0 ≤ (alook key s.rd).getD 0
  rd : ∀ key, 0 < (alook key s.rd).getD 0 ↔ key ∈ s.nms
  nd : s.nms.Nodup
  inset : ∀ key ∈ s.nms, (alook key set).isSome = true
  opn : ∀ key ∈ s.opn, key ∉ s.nms
  len : s.trs.length = s.nms.length
theorem mayS_st (set : List (Bs × Fl)) (s : LS) (n : Nd) : (mayS set s n).2.2.rd = s.rd ∧ (mayS set s n).2.2.opn = s.opn ∧ (mayS set s n).2.2.nms = s.nms ∧ (mayS set s n).2.2.trs = s.trs := by
  unfold mayS
  split
  · exact ⟨rfl, rfl, rfl, rfl⟩
  split
  · exact ⟨rfl, rfl, rfl, rfl⟩
  split
  · exact ⟨rfl, rfl, rfl, rfl⟩
  split
  · exact ⟨rfl, rfl, rfl, rfl⟩
  · exact ⟨rfl, rfl, rfl, rfl⟩
theorem mayS_inv {set : List (Bs × Fl)} {s : LS} (h : Inv set s) (n : Nd) : Inv set (mayS set s n).2.2 := by
  obtain ⟨e1, e2, e3, e4⟩ := mayS_st set s n
  exact ⟨by rw [e1]; exact h.pos, by rw [e1, e3]; exact h.rd, by rw [e3]; exact h.nd, by rw [e3]; exact h.inset, by rw [e2, e3]; exact h.opn, by rw [e3, e4]; exact h.len⟩
theorem mayS_true {set : List (Bs × Fl)} {s : LS} {n : Nd} (h : (mayS set s n).1 = true) : (mayS set s n).2.2 = s ∧ (mayS set s n).2.1 = ft0 ∧ (alook n.text set).isSome = true ∧ n.text ∉ s.opn ∧ ¬ 0 < (alook n.text s.rd).getD 0 ∧ s.opn.length < 16 := by
  unfold mayS at h ⊢
  by_cases h1 : (alook n.text set).isSome = false
  · rw [if_pos h1] at h; cases h
  · rw [if_neg h1] at h ⊢
    by_cases h2 : n.text ∈ s.opn
    · rw [if_pos h2] at h; cases h
    · rw [if_neg h2] at h ⊢
      by_cases h3 : 0 < (alook n.text s.rd).getD 0
      · rw [if_pos h3] at h; cases h
      · rw [if_neg h3] at h ⊢
        by_cases h4 : 16 ≤ s.opn.length
        · rw [if_pos h4] at h; cases h
        · rw [if_neg h4]
          exact ⟨rfl, rfl, by rwa [Bool.not_eq_false] at h1, h2, h3, by omega⟩
/-- what reading a file does, where it does not fail: the names grow, what is open is what it was -/
def Good (set : List (Bs × Fl)) (f : Nat) (rd : LS → Bs → LS × Ft) : Prop := ∀ s name, Inv set s → 16 ≤ s.opn.length + f → (alook name set).isSome = true → name ∉ s.nms → name ∉ s.opn → s.opn.length < 16 → (rd s name).2.code = 0 → Inv set (rd s name).1 ∧ (rd s name).1.opn = s.opn ∧ name ∈ (rd s name).1.nms ∧ ∃ more, (rd s name).1.nms = s.nms ++ more
theorem visL_good {set : List (Bs × Fl)} {f : Nat} {rd : LS → Bs → LS × Ft} (hg : Good set f rd) : ∀ (ns : List Nd) (s : LS), Inv set s → 16 ≤ s.opn.length + f → (visL rd set ns s).2.code = 0 → Inv set (visL rd set ns s).1 ∧ (visL rd set ns s).1.opn = s.opn ∧ ∃ more, (visL rd set ns s).1.nms = s.nms ++ more
  | [], s, h, _, _ => ⟨h, rfl, [], by simp [visL]⟩
  | n :: r, s, h, hf, he => by
    rw [visL] at he ⊢
    by_cases h1 : (mayS set s n).1 = true
    · rw [if_pos h1] at he ⊢
      obtain ⟨e1, e2, e3, e4, e5, e6⟩ := mayS_true h1
      rw [e1] at he ⊢
      by_cases h2 : (rd s n.text).2.code ≠ 0
      · rw [if_pos h2] at he; exact (h2 he).elim
      · rw [if_neg h2] at he ⊢
        obtain ⟨g1, g2, g3, more, g4⟩ := hg s n.text h hf e3 (fun hm => e5 ((h.rd _).2 hm)) e4 e6 (by simpa using h2)
        obtain ⟨k1, k2, more', k3⟩ := visL_good hg r _ g1 (by rw [g2]; exact hf) he
        exact ⟨k1, by rw [k2, g2], more ++ more', by rw [k3, g4, List.append_assoc]⟩
    · rw [if_neg h1] at he ⊢
      by_cases h2 : (mayS set s n).2.1.code ≠ 0
      · rw [if_pos h2] at he; exact (h2 he).elim
      · rw [if_neg h2] at he ⊢
        obtain ⟨e1, e2, e3, e4⟩ := mayS_st set s n
        obtain ⟨k1, k2, more', k3⟩ := visL_good hg r _ (mayS_inv h n) (by rw [e2]; exact hf) he
        exact ⟨k1, by rw [k2, e2], more', by rw [k3, e3]⟩
theorem done_inv {set : List (Bs × Fl)} {s : LS} {name : Bs} (t : List Nd) (h : Inv set s) (hs : (alook name set).isSome = true) (hn : name ∉ s.nms) (ho : ∀ key ∈ s.opn.dropLast, key ≠ name) : Inv set (doneS s name t) := by
  have h0 : (alook name s.rd).getD 0 = 0 := by
    have h2 := h.pos name
    by_cases q : 0 < (alook name s.rd).getD 0
    · exact (hn ((h.rd name).1 q)).elim
    · omega
  have h1 : w64 ((alook name s.rd).getD 0 + 1) = 1 := by rw [h0]; decide
  refine ⟨?_, ?_, ?_, ?_, ?_, ?_⟩
  · intro key
    show 0 ≤ (alook key (aput name _ s.rd)).getD 0
    rw [alook_aput, h1]
    split
    · simp
    · exact h.pos key
  · intro key
    show 0 < (alook key (aput name _ s.rd)).getD 0 ↔ key ∈ s.nms ++ [name]
    rw [alook_aput, List.mem_append, List.mem_singleton]
    by_cases hk : name = key
    · subst hk
      rw [if_pos rfl]
      constructor
      · intro _; exact .inr rfl
      · intro _
        rw [h1]; simp
    · rw [if_neg hk, h.rd key]
      exact ⟨.inl, fun q => q.elim id (fun q => (hk q.symm).elim)⟩
  · show (s.nms ++ [name]).Nodup
    rw [List.nodup_append]
    refine ⟨h.nd, by simp, ?_⟩
    intro a ha b hb
    rw [List.mem_singleton] at hb
    rintro rfl
    exact hn (hb ▸ ha)
  · intro key hk
    rcases List.mem_append.1 hk with hk | hk
    · exact h.inset key hk
    · rw [List.mem_singleton.1 hk]; exact hs
  · intro key hk hm
    rcases List.mem_append.1 hm with hm | hm
    · exact h.opn key (List.dropLast_subset _ hk) hm
    · exact ho key hk (List.mem_singleton.1 hm)
  · show (s.trs ++ [_]).length = (s.nms ++ [name]).length
    simp [h.len]
theorem push_inv {set : List (Bs × Fl)} {s : LS} {name : Bs} (h : Inv set s) (hn : name ∉ s.nms) : Inv set (pushS s name) :=
  ⟨h.pos, h.rd, h.nd, h.inset, fun key hk => by
    rcases List.mem_append.1 hk with hk | hk
    · exact h.opn key hk
    · rw [List.mem_singleton.1 hk]; exact hn, h.len⟩
theorem loadF_good (set : List (Bs × Fl)) : ∀ f, Good set f (loadF set f)
  | 0 => fun s name h hf hs hn ho hl _ => by omega
  | f + 1 => fun s name h hf hs hn ho hl he => by
    rw [loadF] at he ⊢
    split at he
    · rename_i q; exact (q he).elim
    rename_i q1
    rw [if_neg q1]
    split at he
    · rename_i q; exact (q he).elim
    rename_i q2
    rw [if_neg q2]
    split at he
    · rename_i q; exact (q he).elim
    rename_i q3
    rw [if_neg q3]
    obtain ⟨g1, g2, more, g3⟩ := visL_good (loadF_good set f) _ (pushS s name) (push_inv h hn) (by simp [pushS]; omega) (by simpa using q3)
    have hop : (visL (loadF set f) set (namesS (parseS name (fileS set name)).1).1 (pushS s name)).1.opn.dropLast = s.opn := by rw [g2]; simp [pushS]
    refine ⟨done_inv _ g1 hs ?_ ?_, hop, ?_, more ++ [name], ?_⟩
    · exact g1.opn name (by rw [g2]; simp [pushS])
    · rw [hop]
      rintro key hk rfl
      exact ho hk
    · show name ∈ _ ++ [name]
      simp
    · show _ ++ [name] = _
      rw [g3]
      simp [pushS]
theorem nodup_le : ∀ (l : List Bs) (m : List (Bs × Fl)), l.Nodup → (∀ key ∈ l, (alook key m).isSome = true) → l.length ≤ m.length
  | [], m, _, _ => by simp
  | x :: l, m, hn, hs => by
    rw [List.nodup_cons] at hn
    have hx := hs x (List.mem_cons_self ..)
    have key : ∀ (m : List (Bs × Fl)), (alook x m).isSome = true → ∃ m' : List (Bs × Fl), m'.length + 1 = m.length ∧ ∀ y, y ≠ x → (alook y m).isSome = true → (alook y m').isSome = true := by
      intro m
      induction m with
      | nil => intro h; cases h
      | cons p m ih =>
        intro h
        obtain ⟨k, v⟩ := p
        by_cases hk : k = x
        · refine ⟨m, rfl, fun y hy hs => ?_⟩
          unfold alook at hs
          rw [if_neg (fun e => hy (e.symm.trans hk))] at hs
          exact hs
        · unfold alook at h
          rw [if_neg hk] at h
          obtain ⟨m', e1, e2⟩ := ih h
          refine ⟨(k, v) :: m', by simp [e1], fun y hy hs => ?_⟩
          unfold alook at hs ⊢
          by_cases hky : k = y
          · rw [if_pos hky]; rfl
          · rw [if_neg hky] at hs ⊢
            exact e2 y hy hs
    obtain ⟨m', e1, e2⟩ := key m hx
    have := nodup_le l m' hn.2 (fun y hy => e2 y (fun e => hn.1 (e ▸ hy)) (hs y (List.mem_cons_of_mem _ hy)))
    simp only [List.length_cons]
    omega
theorem Inv.le {set : List (Bs × Fl)} {s : LS} (h : Inv set s) : s.nms.length ≤ set.length := nodup_le _ _ h.nd h.inset
end Go.Proofs.YtgjhbapbomdpbaaDoor.C
