/- Files that include files: plain laws: each file stands once, behind all that it includes; a cycle that is told is one. -/
import Derived.Test.YtgjhbapbomdpbaaDoorIp
set_option linter.unusedVariables false
set_option linter.unusedSimpArgs false
set_option maxRecDepth 10000
namespace Go.Proofs.YtgjhbapbomdpbaaDoor.C
open Go.RowKit Go.Proofs.YtgjhbapbomdpbaaDoor.Sh
def incT (t : List Nd) : List Bs := (namesS t).1.map Nd.text
def trS (set : List (Bs × Fl)) (name : Bs) : List Nd := (parseS name (fileS set name)).1
def ReadOk (set : List (Bs × Fl)) (name : Bs) : Prop := (parseS name (fileS set name)).2.code = 0 ∧ (namesS (trS set name)).2.code = 0
/-! ### each file once, behind all that it includes -/
structure OI (set : List (Bs × Fl)) (s : LS) : Prop where
  len : s.trs.length = s.nms.length
  at_ : ∀ (i : Nat) (name : Bs), s.nms[i]? = some name → ReadOk set name ∧ s.trs[i]? = some (wcutS (trS set name) incl) ∧ ∀ x ∈ incT (trS set name), x ∈ s.nms.take i
theorem mayS_oi {set : List (Bs × Fl)} {s : LS} (h : OI set s) (n : Nd) : OI set (mayS set s n).2.2 := by
  obtain ⟨e1, e2, e3, e4⟩ := mayS_st set s n
  exact ⟨by rw [e3, e4]; exact h.len, by rw [e3, e4]; exact h.at_⟩
theorem mayS_read {set : List (Bs × Fl)} {s : LS} {n : Nd} (h : ¬ (mayS set s n).1 = true) (h2 : (mayS set s n).2.1.code = 0) : 0 < (alook n.text s.rd).getD 0 := by
  unfold mayS at h h2
  split at h
  · rename_i q; rw [if_pos q] at h2; cases h2
  rename_i q; rw [if_neg q] at h2
  split at h
  · rename_i q; rw [if_pos q] at h2; cases h2
  rename_i q; rw [if_neg q] at h2
  split at h
  · assumption
  rename_i q; rw [if_neg q] at h2
  split at h
  · rename_i q; rw [if_pos q] at h2; cases h2
  · exact (h rfl).elim
def GoodO (set : List (Bs × Fl)) (f : Nat) (rd : LS → Bs → LS × Ft) : Prop := ∀ s name, Inv set s → OI set s → 16 ≤ s.opn.length + f → (alook name set).isSome = true → name ∉ s.nms → name ∉ s.opn → s.opn.length < 16 → (rd s name).2.code = 0 → OI set (rd s name).1
theorem visL_oi {set : List (Bs × Fl)} {f : Nat} {rd : LS → Bs → LS × Ft} (hg : Good set f rd) (ho : GoodO set f rd) : ∀ (ns : List Nd) (s : LS), Inv set s → OI set s → 16 ≤ s.opn.length + f → (visL rd set ns s).2.code = 0 → OI set (visL rd set ns s).1 ∧ ∀ n ∈ ns, n.text ∈ (visL rd set ns s).1.nms
  | [], s, h, h1, _, _ => ⟨h1, fun _ q => by cases q⟩
  | n :: r, s, h, h1, hf, he => by
    rw [visL] at he ⊢
    by_cases q1 : (mayS set s n).1 = true
    · rw [if_pos q1] at he ⊢
      obtain ⟨e1, e2, e3, e4, e5, e6⟩ := mayS_true q1
      rw [e1] at he ⊢
      by_cases h2 : (rd s n.text).2.code ≠ 0
      · rw [if_pos h2] at he; exact (h2 he).elim
      · rw [if_neg h2] at he ⊢
        have h3 : (rd s n.text).2.code = 0 := by simpa using h2
        have hnn : n.text ∉ s.nms := fun hm => e5 ((h.rd _).2 hm)
        obtain ⟨g1, g2, g3, more, g4⟩ := hg s n.text h hf e3 hnn e4 e6 h3
        have g5 := ho s n.text h h1 hf e3 hnn e4 e6 h3
        obtain ⟨k1, k2⟩ := visL_oi hg ho r _ g1 g5 (by rw [g2]; exact hf) he
        obtain ⟨_, _, more', k3⟩ := visL_good hg r _ g1 (by rw [g2]; exact hf) he
        refine ⟨k1, fun x hx => ?_⟩
        rcases List.mem_cons.1 hx with rfl | hx
        · rw [k3]; exact List.mem_append_left _ g3
        · exact k2 x hx
    · rw [if_neg q1] at he ⊢
      by_cases h2 : (mayS set s n).2.1.code ≠ 0
      · rw [if_pos h2] at he; exact (h2 he).elim
      · rw [if_neg h2] at he ⊢
        have h3 := mayS_read q1 (by simpa using h2)
        obtain ⟨e1, e2, e3, e4⟩ := mayS_st set s n
        obtain ⟨k1, k2⟩ := visL_oi hg ho r _ (mayS_inv h n) (mayS_oi h1 n) (by rw [e2]; exact hf) he
        obtain ⟨_, _, more', k3⟩ := visL_good hg r _ (mayS_inv h n) (by rw [e2]; exact hf) he
        refine ⟨k1, fun x hx => ?_⟩
        rcases List.mem_cons.1 hx with rfl | hx
        · rw [k3, e3]; exact List.mem_append_left _ ((h.rd _).1 h3)
        · exact k2 x hx
theorem done_oi {set : List (Bs × Fl)} {s : LS} {name : Bs} (h : OI set s) (hr : ReadOk set name) (hi : ∀ x ∈ incT (trS set name), x ∈ s.nms) : OI set (doneS s name (trS set name)) := by
  have hl := h.len
  refine ⟨by show (s.trs ++ [_]).length = (s.nms ++ [_]).length; simp [hl], fun i nm hn => ?_⟩
  have hn : (s.nms ++ [name])[i]? = some nm := hn
  show ReadOk set nm ∧ (s.trs ++ [wcutS (trS set name) incl])[i]? = _ ∧ ∀ x ∈ _, x ∈ (s.nms ++ [name]).take i
  by_cases q : i < s.nms.length
  · rw [List.getElem?_append_left q] at hn
    rw [List.getElem?_append_left (by omega), List.take_append_of_le_length (by omega)]
    exact h.at_ i nm hn
  · have hi2 : i < (s.nms ++ [name]).length := (List.getElem?_eq_some_iff.1 hn).1
    simp only [List.length_append, List.length_cons, List.length_nil] at hi2
    have e : i = s.nms.length := by omega
    subst e
    have e2 : nm = name := by simpa using hn.symm
    subst e2
    refine ⟨hr, ?_, ?_⟩
    · rw [← hl]; simp
    · rw [List.take_left]; exact hi
theorem loadF_oi (set : List (Bs × Fl)) : ∀ f, GoodO set f (loadF set f)
  | 0 => fun s name h _ hf hs hn ho hl _ => by omega
  | f + 1 => fun s name h h1 hf hs hn ho hl he => by
    rw [loadF] at he ⊢
    split at he
    · rename_i q; exact (q he).elim
    rename_i q1
    rw [if_neg q1]
    split at he
    · rename_i q; exact (q he).elim
    rename_i q2
    rw [if_neg q2]
    split at he
    · rename_i q; exact (q he).elim
    rename_i q3
    rw [if_neg q3]
    obtain ⟨g1, g2⟩ := visL_oi (loadF_good set f) (loadF_oi set f) _ (pushS s name) (push_inv h hn) ⟨h1.len, h1.at_⟩ (by simp [pushS]; omega) (by simpa using q3)
    refine done_oi g1 ⟨Decidable.not_not.1 q1, Decidable.not_not.1 q2⟩ (fun x hx => ?_)
    obtain ⟨n, hm, rfl⟩ := List.mem_map.1 hx
    exact g2 n hm
theorem loadF_last {set : List (Bs × Fl)} {f : Nat} {s : LS} {name : Bs} (he : (loadF set (f + 1) s name).2.code = 0) : (loadF set (f + 1) s name).1.nms.getLast? = some name := by
  rw [loadF] at he ⊢
  split at he
  · rename_i q; exact (q he).elim
  rename_i q1
  rw [if_neg q1]
  split at he
  · rename_i q; exact (q he).elim
  rename_i q2
  rw [if_neg q2]
  split at he
  · rename_i q; exact (q he).elim
  rename_i q3
  rw [if_neg q3]
  show (_ ++ [name]).getLast? = some name
  simp
theorem ls0_inv (set : List (Bs × Fl)) : Inv set ls0 := ⟨fun _ => Int.le_refl _, fun key => (by show 0 < (0 : Int) ↔ key ∈ []; simp), List.nodup_nil, fun _ h => (by cases h), fun _ h => (by cases h), rfl⟩
theorem ls0_oi (set : List (Bs × Fl)) : OI set ls0 := ⟨rfl, fun i name h => by cases h⟩
theorem loadS_root {files : List Fl} {root : Bs} (h : (loadS files root).2.code ≠ 70) (h1 : (loadS files root).2.code ≠ 71) : (alook root (setS files)).isSome = true ∧ loadS files root = loadF (setS files) 16 ls0 root := by
  obtain ⟨q1, q2⟩ := loadS_ok h
  unfold loadS at h1 ⊢
  rw [if_neg (by rw [not_or]; exact ⟨by omega, (setS_nodup files).2 q2⟩)] at h1 ⊢
  split at h1
  · exact (h1 rfl).elim
  · rename_i q
    rw [if_neg q]
    exact ⟨(by rw [Bool.not_eq_false] at q; exact q), rfl⟩
theorem order_law {files : List Fl} {root : Bs} (h : (loadS files root).2.code = 0) : Inv (setS files) (loadS files root).1 ∧ OI (setS files) (loadS files root).1 ∧ (loadS files root).1.nms.getLast? = some root := by
  obtain ⟨h1, h2⟩ := loadS_root (files := files) (root := root) (by rw [h]; decide) (by rw [h]; decide)
  rw [h2] at h ⊢
  have hn : root ∉ ls0.nms := fun q => by cases q
  have ho : root ∉ ls0.opn := fun q => by cases q
  exact ⟨(loadF_good (setS files) 16 ls0 root (ls0_inv _) (by decide) h1 hn ho (by decide) h).1, loadF_oi (setS files) 16 ls0 root (ls0_inv _) (ls0_oi _) (by decide) h1 hn ho (by decide) h, loadF_last h⟩
/-! ### a cycle that is told is one -/
theorem linesR_e : ∀ (xs : List (Nat × Bs)) (acc : List Ln), (linesR xs acc).e ≤ 12
  | [], _ => by simp [linesR]
  | (n, l) :: xs, acc => by
    simp only [linesR]
    split
    · simp
    split
    · simp
    · cases lineOf n l with
      | none => exact linesR_e xs acc
      | some x => exact linesR_e xs (acc ++ [x])
theorem linesS_e (s : Bs) : (linesS s).e ≤ 12 := by
  unfold linesS
  split
  · simp
  · exact linesR_e _ _
theorem tailS_e {s : Bs} {n : Nat} {key : Bs} {why col : Int} (h : tailS s n key = .err why col) : why ≤ 22 := by
  unfold tailS at h
  split at h
  · injection h with h _; omega
  split at h
  · injection h with h _; omega
  · cases h
theorem headS_e {s : Bs} {why col : Int} (h : headS s = .err why col) : why ≤ 22 := by
  unfold headS at h
  split at h
  · cases h
  split at h
  · split at h
    · split at h
      · injection h with h _; omega
      · exact tailS_e h
    · injection h with h _; omega
  · split at h
    · exact tailS_e h
    · injection h with h _; omega
theorem valueS_e {s : Bs} {a : Nat} {o : Ct} {why col : Int} (h : valueS s a o = .err why col) : why ≤ 22 := by
  unfold valueS at h
  split at h
  · cases h
  split at h
  · cases h
  split at h
  · split at h
    · injection h with h _; omega
    · cases h
  · injection h with h _; omega
theorem readC_e (s : Bs) : (readC s).2.2 ≤ 22 := by
  unfold readC
  cases h1 : headS s with
  | err why col => exact headS_e h1
  | ok a o =>
    simp only
    cases h2 : valueS s (gapN s a.toNat) o with
    | err why col => exact valueS_e h2
    | ok a' o' => simp
theorem enterS_e (nodes : List Nd) (st : List OB) (last : Bool) (ind : Int) (l : Ln) (o : Ct) : (enterS nodes st last ind l o).1 ≤ 43 := by
  unfold enterS
  split
  · simp
  split
  · simp
  split
  · simp
  split
  · simp
  split
  · simp
  · simp
theorem goS_e (file : Bs) : ∀ (ls : List Ln) (nodes : List Nd) (st : List OB) (last : Bool) (ind : Int), (goS file ls nodes st last ind).2.code ≤ 43
  | [], _, _, _, _ => by simp [goS]
  | l :: ls, nodes, st, last, ind => by
    rw [goS]
    split
    · have := readC_e l.text; simp only; omega
    split
    · exact enterS_e ..
    · exact goS_e file ls ..
theorem parseS_e (file s : Bs) : (parseS file s).2.code ≤ 43 := by
  unfold parseS
  split
  · have := linesS_e s; simp only; omega
  · exact goS_e ..
theorem namesS_e (t : List Nd) : (namesS t).2.code ≤ 72 := by
  unfold namesS
  split
  · simp
  split
  · simp [placeS]
  · simp
def Chn (set : List (Bs × Fl)) (l : List Bs) : Prop := ∀ (i : Nat) (a b : Bs), l[i]? = some a → l[i + 1]? = some b → ReadOk set a ∧ b ∈ incT (trS set a)
structure Cy (set : List (Bs × Fl)) (c : List Bs) (file : Bs) : Prop where
  last : c.getLast? = some file
  nd : c.Nodup
  chn : Chn set c
  ok : ReadOk set file
  back : ∃ x, c[0]? = some x ∧ x ∈ incT (trS set file)
  len : c.length ≤ 16
theorem chn_push {set : List (Bs × Fl)} {l : List Bs} {cur x : Bs} (h : Chn set l) (hl : l.getLast? = some cur) (hr : ReadOk set cur) (hx : x ∈ incT (trS set cur)) : Chn set (l ++ [x]) := by
  intro i a b ha hb
  have hi := (List.getElem?_eq_some_iff.1 hb).1
  simp only [List.length_append, List.length_cons, List.length_nil] at hi
  rw [List.getElem?_append_left (by omega)] at ha
  by_cases q : i + 1 < l.length
  · rw [List.getElem?_append_left q] at hb
    exact h i a b ha hb
  · have e : i + 1 = l.length := by omega
    rw [e] at hb
    have e2 : b = x := by simpa using hb.symm
    have e3 : a = cur := by
      rw [List.getLast?_eq_getElem?, show l.length - 1 = i by omega, ha] at hl
      injection hl
    subst e2 e3
    exact ⟨hr, hx⟩
def GoodC (set : List (Bs × Fl)) (f : Nat) (rd : LS → Bs → LS × Ft) : Prop := ∀ s name, Inv set s → 16 ≤ s.opn.length + f → (alook name set).isSome = true → name ∉ s.nms → name ∉ s.opn → s.opn.length < 16 → s.opn.Nodup → Chn set (s.opn ++ [name]) → (rd s name).2.code = 74 → Cy set (rd s name).1.cyc (rd s name).2.file
theorem mayS_cyc {set : List (Bs × Fl)} {s : LS} {n : Nd} (h : (mayS set s n).2.1.code = 74) : (mayS set s n).2.1.file = n.file ∧ n.text ∈ s.opn ∧ (mayS set s n).2.2.cyc = s.opn.drop (idxS s.opn n.text) := by
  unfold mayS at h ⊢
  split at h
  · cases h
  rename_i q; rw [if_neg q]
  split at h
  · rename_i q; rw [if_pos q]; exact ⟨rfl, q, rfl⟩
  split at h
  · cases h
  split at h
  · cases h
  · cases h
theorem visL_cy {set : List (Bs × Fl)} {f : Nat} {rd : LS → Bs → LS × Ft} (hg : Good set f rd) (hc : GoodC set f rd) (cur : Bs) (hr : ReadOk set cur) : ∀ (ns : List Nd) (s : LS), Inv set s → 16 ≤ s.opn.length + f → s.opn.Nodup → Chn set s.opn → s.opn.getLast? = some cur → s.opn.length ≤ 16 → (∀ n ∈ ns, n.text ∈ incT (trS set cur) ∧ n.file = cur) →
    (visL rd set ns s).2.code = 74 → Cy set (visL rd set ns s).1.cyc (visL rd set ns s).2.file
  | [], s, _, _, _, _, _, _, _, he => by cases he
  | n :: r, s, h, hf, hnd, hch, hla, hol, hns, he => by
    obtain ⟨hn1, hn2⟩ := hns n (List.mem_cons_self ..)
    have hns' : ∀ x ∈ r, x.text ∈ incT (trS set cur) ∧ x.file = cur := fun x hx => hns x (List.mem_cons_of_mem _ hx)
    rw [visL] at he ⊢
    by_cases q1 : (mayS set s n).1 = true
    · rw [if_pos q1] at he ⊢
      obtain ⟨e1, e2, e3, e4, e5, e6⟩ := mayS_true q1
      rw [e1] at he ⊢
      have hnn : n.text ∉ s.nms := fun hm => e5 ((h.rd _).2 hm)
      by_cases h2 : (rd s n.text).2.code ≠ 0
      · rw [if_pos h2] at he ⊢
        exact hc s n.text h hf e3 hnn e4 e6 hnd (chn_push hch hla hr hn1) he
      · rw [if_neg h2] at he ⊢
        obtain ⟨g1, g2, g3, more, g4⟩ := hg s n.text h hf e3 hnn e4 e6 (by simpa using h2)
        exact visL_cy hg hc cur hr r _ g1 (by rw [g2]; exact hf) (by rw [g2]; exact hnd) (by rw [g2]; exact hch) (by rw [g2]; exact hla) (by rw [g2]; exact hol) hns' he
    · rw [if_neg q1] at he ⊢
      obtain ⟨e1, e2, e3, e4⟩ := mayS_st set s n
      by_cases h2 : (mayS set s n).2.1.code ≠ 0
      · rw [if_pos h2] at he ⊢
        obtain ⟨c1, c2, c3⟩ := mayS_cyc he
        have hix : idxS s.opn n.text < s.opn.length := List.idxOf_lt_length_of_mem c2
        show Cy set (mayS set s n).2.2.cyc (mayS set s n).2.1.file
        rw [c1, c3, hn2]
        refine ⟨?_, hnd.sublist (List.drop_sublist _ _), ?_, hr, ⟨n.text, ?_, hn1⟩, by simp only [List.length_drop]; omega⟩
        · rw [List.getLast?_drop, if_neg (by omega)]; exact hla
        · intro i a b ha hb
          rw [List.getElem?_drop] at ha hb
          exact hch _ a b ha (by rw [← hb]; congr 1)
        · rw [List.getElem?_drop, Nat.add_zero, List.getElem?_eq_getElem hix]
          exact congrArg some (List.getElem_idxOf hix)
      · rw [if_neg h2] at he ⊢
        exact visL_cy hg hc cur hr r _ (mayS_inv h n) (by rw [e2]; exact hf) (by rw [e2]; exact hnd) (by rw [e2]; exact hch) (by rw [e2]; exact hla) (by rw [e2]; exact hol) hns' he
theorem loadF_cy (set : List (Bs × Fl)) : ∀ f, GoodC set f (loadF set f)
  | 0 => fun s name h hf hs hn ho hl _ _ _ => by omega
  | f + 1 => fun s name h hf hs hn ho hl hnd hch he => by
    rw [loadF] at he ⊢
    split at he
    · have he : (parseS name (fileS set name)).2.code = 74 := he
      have := parseS_e name (fileS set name); omega
    rename_i q1
    rw [if_neg q1]
    split at he
    · have he : (namesS (parseS name (fileS set name)).1).2.code = 74 := he
      have := namesS_e (parseS name (fileS set name)).1; omega
    rename_i q2
    rw [if_neg q2]
    split at he
    · rename_i q3
      rw [if_pos q3]
      refine visL_cy (loadF_good set f) (loadF_cy set f) name ⟨Decidable.not_not.1 q1, Decidable.not_not.1 q2⟩ _ (pushS s name) (push_inv h hn) (by simp [pushS]; omega) ?_ hch (by simp [pushS]) (by simp [pushS]; omega) ?_ he
      · show (s.opn ++ [name]).Nodup
        rw [List.nodup_append]
        refine ⟨hnd, by simp, fun a ha b hb => ?_⟩
        rw [List.mem_singleton] at hb
        rintro rfl
        exact ho (hb ▸ ha)
      · intro n hm
        exact ⟨List.mem_map_of_mem hm, parseS_file _ _ n (namesS_mem _ n hm)⟩
    · cases he
theorem cycle_law {files : List Fl} {root : Bs} (h : (loadS files root).2.code = 74) : Cy (setS files) (loadS files root).1.cyc (loadS files root).2.file := by
  obtain ⟨h1, h2⟩ := loadS_root (files := files) (root := root) (by rw [h]; decide) (by rw [h]; decide)
  rw [h2] at h ⊢
  refine loadF_cy (setS files) 16 ls0 root (ls0_inv _) (by decide) h1 (fun q => by cases q) (fun q => by cases q) (by decide) List.nodup_nil ?_ h
  intro i a b ha hb
  have := (List.getElem?_eq_some_iff.1 hb).1
  simp [ls0] at this
/-! ### the names that a file's text includes -/
theorem nth_fl {g : Bs} {t : List Nd} {i : Nat} (hi : i < t.length) : nth (t.map (Nd.fl g)) (i : Int) = (nth t (i : Int)).fl g := by
  rw [nth_nat, nth_nat]
  simp [hi]
theorem partsR_fl (g : Bs) (d : Int) : ∀ (r : List Nd) (k : Nat), partsR d (r.map (Nd.fl g)) k = partsR d r k
  | [], k => rfl
  | n :: r, k => by
    rw [List.map_cons, partsR, partsR, partsR_fl g d r (k + 1)]
    rfl
theorem partsS_fl {g : Bs} {t : List Nd} {i : Nat} (hi : i < t.length) : partsS (t.map (Nd.fl g)) i = partsS t i := by
  unfold partsS
  rw [nth_fl hi, ← List.map_drop, partsR_fl]
  rfl
theorem find_eqv {α : Type} {p q : α → Bool} : ∀ {l : List α}, (∀ x ∈ l, p x = q x) → l.find? p = l.find? q
  | [], _ => rfl
  | x :: l, h => by
    rw [List.find?_cons, List.find?_cons, h x (List.mem_cons_self ..), find_eqv fun y hy => h y (List.mem_cons_of_mem _ hy)]
theorem findS_fl {g : Bs} {t : List Nd} {i : Nat} (hi : i < t.length) (key : Bs) : findS (t.map (Nd.fl g)) i key = findS t i key := by
  unfold findS
  rw [partsS_fl hi, find_eqv (q := fun n : Nat => (nth t (n : Int)).key == key)]
  intro x hx
  rw [nth_fl (partsS_mem hi x hx).2]
  rfl
theorem textsS_fl {g : Bs} {t : List Nd} {i : Nat} (hi : i < t.length) : textsS (t.map (Nd.fl g)) i = textsS t i := by
  unfold textsS
  rw [nth_fl hi, partsS_fl hi, find_eqv (q := fun n : Nat => (nth t (n : Int)).kind != 3)]
  · have e : ∀ G, textsG (t.map (Nd.fl g)) i G = textsG t i G := by
      intro G
      cases G with
      | none => simp only [textsG]; rw [partsS_fl hi]
      | some n => rfl
    rw [e]
    rfl
  · intro x hx
    rw [nth_fl (partsS_mem hi x hx).2]
    rfl
theorem namesS_fl {g : Bs} {t : List Nd} (h0 : 0 < t.length) : incT (t.map (Nd.fl g)) = incT t ∧ (namesS (t.map (Nd.fl g))).2.code = (namesS t).2.code := by
  unfold incT namesS
  rw [findS_fl h0]
  have hb := findS_bd h0 incl
  by_cases h : findS t 0 incl < 0
  · rw [if_pos h, if_pos h]; exact ⟨rfl, rfl⟩
  rw [if_neg h, if_neg h]
  have hm : (findS t 0 incl).toNat < t.length := by omega
  rw [textsS_fl hm]
  by_cases h2 : (textsS t (findS t 0 incl).toNat).2.2 = false
  · rw [if_pos h2, if_pos h2]; exact ⟨rfl, rfl⟩
  rw [if_neg h2, if_neg h2]
  refine ⟨?_, rfl⟩
  simp only [List.map_map]
  refine List.map_congr_left fun x hx => ?_
  have := (textsS_mem hm).1 x hx
  simp only [Function.comp]
  rw [nth_fl this]
  rfl
theorem isGo_fits (t : List Nd) : ∀ (r : List Nd) (a : Nd) (i : Int) (st : List OB), isGo t r a i st = true → ∀ j : Nat, j < r.length → fitsB (nth r (j : Int)) (nth (a :: r) (j : Int)) = true
  | [], _, _, _, _, j, hj => by cases hj
  | n :: r, a, i, st, h, j, hj => by
    rw [isGo] at h
    split at h
    · cases h
    rename_i hf
    have hf : fitsB n a = true := by simpa using hf
    have ih : ∀ st', isGo t r n (i + 1) st' = true → ∀ j : Nat, j < r.length → fitsB (nth r (j : Int)) (nth (n :: r) (j : Int)) = true := fun st' => isGo_fits t r n (i + 1) st'
    cases j with
    | zero => exact hf
    | succ j =>
      have hj : j < r.length := by simpa using hj
      have e1 : nth (n :: r) ((j + 1 : Nat) : Int) = nth r (j : Int) := by rw [nth_nat, nth_nat]; rfl
      have e2 : nth (a :: n :: r) ((j + 1 : Nat) : Int) = nth (n :: r) (j : Int) := by rw [nth_nat, nth_nat]; rfl
      rw [e1, e2]
      split at h
      · cases h
      split at h
      · split at h
        · cases h
        · exact ih _ h j hj
      · split at h
        · cases h
        · exact ih _ h j hj
theorem isS_fits {t : List Nd} (h : isS t = true) {i : Nat} (hi : i + 1 < t.length) : fitsB (nth t ((i + 1 : Nat) : Int)) (nth t (i : Int)) = true := by
  cases t with
  | nil => cases h
  | cons a r =>
    unfold isS at h
    simp only at h
    split at h
    · cases h
    split at h
    · cases h
    have hi : i < r.length := by simpa using hi
    have e1 : nth (a :: r) ((i + 1 : Nat) : Int) = nth r (i : Int) := by rw [nth_nat, nth_nat]; rfl
    rw [e1]
    exact isGo_fits _ r a 1 _ h i hi
theorem isS_text {t : List Nd} (h : isS t = true) {i : Nat} (hi : i < t.length) (hk : (nth t (i : Int)).kind = 3) : partsS t i = [] := by
  unfold partsS
  by_cases q : i + 1 < t.length
  · have hf := isS_fits h q
    rw [drop_cons q, partsR, if_neg]
    unfold fitsB at hf
    simp only [Bool.and_eq_true, Bool.or_eq_true, decide_eq_true_eq, beq_iff_eq, bne_iff_ne] at hf
    obtain ⟨⟨_, h2⟩, _⟩ := hf
    rcases h2 with h2 | h2
    · omega
    · exact (h2.2 hk).elim
  · rw [List.drop_eq_nil_of_le (by omega), partsR]
/-- does a tree include a name? -/
def nmsB (t : List Nd) (name : Bs) : Bool :=
  if findS t 0 incl < 0 then false
  else if (nth t (findS t 0 incl)).kind = 3 ∧ (nth t (findS t 0 incl)).text = name then true
  else (partsS t (findS t 0 incl).toNat).any fun i : Nat => decide ((nth t (i : Int)).text = name)
theorem nmsB_inc {t : List Nd} (hs : isS t = true) (hc : (namesS t).2.code = 0) (name : Bs) : nmsB t name = decide (name ∈ incT t) := by
  have h0 := (isS_depth hs).1
  have hb := findS_bd h0 incl
  unfold incT nmsB
  unfold namesS at hc ⊢
  by_cases h : findS t 0 incl < 0
  · rw [if_pos h, if_pos h]; simp
  rw [if_neg h] at hc
  rw [if_neg h, if_neg h]
  obtain ⟨m, hm⟩ : ∃ m : Nat, findS t 0 incl = m := ⟨(findS t 0 incl).toNat, by omega⟩
  rw [hm] at hb hc ⊢
  rw [Int.toNat_natCast] at hc ⊢
  have hml : m < t.length := by omega
  by_cases h3 : (nth t (m : Int)).kind = 3
  · have ht : textsS t m = ([m], 0, true) := by unfold textsS; rw [if_pos h3]
    rw [ht]
    show (if (nth t (m : Int)).kind = 3 ∧ (nth t (m : Int)).text = name then true else (partsS t m).any fun i : Nat => decide ((nth t (i : Int)).text = name)) = decide (name ∈ [(nth t (m : Int)).text])
    rw [isS_text hs hml h3]
    by_cases q : (nth t (m : Int)).text = name
    · rw [if_pos ⟨h3, q⟩]; simp [q]
    · rw [if_neg (fun x => q x.2)]
      have q2 : ¬ name = (nth t (m : Int)).text := fun e => q e.symm
      simp [q2]
  · rw [if_neg (fun x => h3 x.1)]
    by_cases h1 : (nth t (m : Int)).kind = 1
    · have ht : textsS t m = ([], (m : Int), false) := by unfold textsS; rw [if_neg h3, if_pos h1]
      rw [ht, if_pos rfl] at hc
      cases hc
    · have ht : textsS t m = textsG t m ((partsS t m).find? (fun n : Nat => (nth t (n : Int)).kind != 3)) := by unfold textsS; rw [if_neg h3, if_neg h1]
      cases hG : (partsS t m).find? (fun n : Nat => (nth t (n : Int)).kind != 3) with
      | some n =>
        rw [hG] at ht
        rw [ht] at hc
        simp only [textsG] at hc
        rw [if_pos trivial] at hc
        cases hc
      | none =>
        rw [hG] at ht
        rw [ht]
        show ((partsS t m).any fun i : Nat => decide ((nth t (i : Int)).text = name)) = decide (name ∈ ((partsS t m).map (fun n : Nat => nth t (n : Int))).map Nd.text)
        rw [Bool.eq_iff_iff, List.any_eq_true, decide_eq_true_eq]
        simp only [List.map_map, List.mem_map, Function.comp, decide_eq_true_eq]
/-- does a file's text include a name? -/
def nmsS (s name : Bs) : Bool := if getS (parseS [102] s).1 [incl] < 0 then false
  else if (nth (parseS [102] s).1 (getS (parseS [102] s).1 [incl])).kind = 3 ∧ (nth (parseS [102] s).1 (getS (parseS [102] s).1 [incl])).text = name then true
  else (partsS (parseS [102] s).1 (getS (parseS [102] s).1 [incl]).toNat).any fun i : Nat => decide ((nth (parseS [102] s).1 (i : Int)).text = name)
theorem parseS_is {f s : Bs} (h : (parseS f s).2.code = 0) : isS (parseS f s).1 = true := by
  obtain ⟨h1, h2, h3⟩ := parseS_law f s
  by_cases q : (linesS s).e = 0
  · exact (h3 q h).2.1
  · have := h1 q
    rw [this] at h
    exact (q h).elim
theorem getS_find {t : List Nd} (h : isS t = true) (key : Bs) : getS t [key] = findS t 0 key := by
  have h0 := (isS_depth h).1
  have hb := findS_bd h0 key
  have hk : (nth t ((0 : Nat) : Int)).kind = 1 := by
    cases t with
    | nil => cases h
    | cons a r =>
      unfold isS at h
      simp only at h
      split at h
      · cases h
      split at h
      · cases h
      rename_i h2
      have h2 : rootOk a = true := by simpa using h2
      unfold rootOk at h2
      show a.kind = 1
      simp at h2
      exact h2.1.1.1
  have e : stepS t 0 key = findS t 0 key := by unfold stepS; rw [if_pos hk]
  unfold getS
  rw [if_pos h, getGo, e]
  split
  · omega
  · rw [getGo]; omega
theorem nmsS_inc {set : List (Bs × Fl)} {nm : Bs} (h : ReadOk set nm) (name : Bs) : nmsS (fileS set nm) name = decide (name ∈ incT (trS set nm)) := by
  obtain ⟨h1, h2⟩ := h
  obtain ⟨e1, e2⟩ := parseS_fl nm [102] (fileS set nm)
  have hs := parseS_is h1
  have h3 : isS (parseS [102] (fileS set nm)).1 = true := parseS_is (by rw [e2]; exact h1)
  have e3 : nmsS (fileS set nm) name = nmsB (parseS [102] (fileS set nm)).1 name := by
    unfold nmsS nmsB
    rw [getS_find h3]
  obtain ⟨e4, e5⟩ := namesS_fl (g := [102]) (isS_depth hs).1
  rw [e3, nmsB_inc h3 (by rw [e1, e5]; exact h2), e1, e4]
  rfl
end Go.Proofs.YtgjhbapbomdpbaaDoor.C
