/- Files that include files: plain laws: a tree's texts are no longer than the text; a file's name decides nothing but the places; what a set's lookups decide. -/
import Derived.Test.YtgjhbapbomdpbaaDoorIc
import Derived.Test.YtgjhbapbomdpbaaDoorBf
set_option linter.unusedVariables false
set_option linter.unusedSimpArgs false
set_option maxRecDepth 10000
namespace Go.Proofs.YtgjhbapbomdpbaaDoor.C
open Go.RowKit Go.Proofs.YtgjhbapbomdpbaaDoor.Sh
/-! ### a tree's texts are no longer than the text -/
theorem lineOf_le {n : Nat} {l : Bs} {x : Ln} (h : lineOf n l = some x) : x.text.length ≤ l.length := by
  unfold lineOf at h
  simp only at h
  split at h
  · cases h
  · injection h with h
    subst h
    exact trimB_le l 32
theorem linesR_le (m : Nat) : ∀ (xs : List (Nat × Bs)) (acc : List Ln), (∀ x ∈ xs, x.2.length ≤ m) → (∀ l ∈ acc, l.text.length ≤ m) → ∀ l ∈ (linesR xs acc).ls, l.text.length ≤ m
  | [], acc, _, h => by simpa only [linesR] using h
  | (n, l) :: xs, acc, hx, h => by
    have hl := hx (n, l) (by simp)
    have hxs : ∀ x ∈ xs, x.2.length ≤ m := fun x hm => hx x (List.mem_cons_of_mem _ hm)
    simp only [linesR]
    split
    · simp
    split
    · simp
    · cases hlo : lineOf n l with
      | none => exact linesR_le m xs acc hxs h
      | some x =>
        refine linesR_le m xs (acc ++ [x]) hxs (fun y hm => ?_)
        rcases List.mem_append.1 hm with hm | hm
        · exact h y hm
        · obtain rfl := List.mem_singleton.1 hm
          have := lineOf_le hlo
          simp only at hl
          omega
theorem linesS_le (s : Bs) : ∀ l ∈ (linesS s).ls, l.text.length ≤ s.length := by
  unfold linesS
  split
  · simp
  · refine linesR_le s.length (rawFrom 1 s) [] (fun x hx => ?_) (by simp)
    obtain ⟨k, hk⟩ := List.mem_iff_getElem?.1 hx
    exact (raw_line_le s k x hk).1
theorem tailS_v {s : Bs} {n : Nat} {key : Bs} {a : Int} {o : Ct} (h : tailS s n key = .ok a o) : o.value = [] := by
  unfold tailS at h
  split at h
  · cases h
  split at h
  · cases h
  · injection h with _ h; subst h; rfl
theorem headS_v {s : Bs} {a : Int} {o : Ct} (h : headS s = .ok a o) : o.value = [] := by
  unfold headS at h
  split at h
  · injection h with _ h; subst h; rfl
  split at h
  · split at h
    · split at h
      · cases h
      · exact tailS_v h
    · cases h
  · split at h
    · exact tailS_v h
    · cases h
theorem trimR_le (l : Bs) (c : UInt8) : (Lib.trimRightB l c).length ≤ l.length := by
  unfold Lib.trimRightB
  have h2 := (List.dropWhile_sublist (fun x => x == c) (l := l.reverse)).length_le
  simp only [List.length_reverse] at h2 ⊢
  omega
theorem bareS_v (s : Bs) (a : Nat) (o : Ct) (h : o.value = []) : (bareS s a o).value.length ≤ s.length := by
  unfold bareS
  simp only
  split
  · simp only [h]; simp
  split
  · simp only [h]; simp
  · have h1 := trimR_le (Lib.cut (s.drop a) [32, 35]).1 32
    have h2 := cut_fst_le (s.drop a) [32, 35]
    simp only [List.length_drop] at h2
    simp only
    omega
theorem valueS_v {s : Bs} {a : Nat} {o : Ct} {a' : Int} {o' : Ct} (h : valueS s a o = .ok a' o') (h0 : o.value = []) : o'.value.length ≤ s.length := by
  unfold valueS at h
  split at h
  · injection h with _ h; subst h; rw [h0]; simp
  split at h
  · injection h with _ h; subst h; exact bareS_v s a _ h0
  split at h
  · split at h
    · cases h
    · injection h with _ h; subst h
      have := (quoteR_bd (s.drop a)).2.2
      simp only [List.length_drop] at this
      simp only
      omega
  · cases h
theorem readC_v (s : Bs) : (readC s).1.value.length ≤ s.length := by
  unfold readC
  cases h1 : headS s with
  | err why col => simp
  | ok a o =>
    simp only
    cases h2 : valueS s (gapN s a.toNat) o with
    | err why col => simp
    | ok a' o' => exact valueS_v h2 (headS_v h1)
theorem nodes1_tx (nodes : List Nd) (last : Bool) (ind : Int) (l : Ln) (o : Ct) : (nodes1 nodes last ind l o).map Nd.text = nodes.map Nd.text := by
  unfold nodes1
  split
  · rw [List.map_set]
    refine List.ext_getElem? fun i => ?_
    by_cases hi : nodes.length - 1 = i
    · subst hi
      by_cases hl : nodes.length - 1 < nodes.length
      · simp [hl, List.getElem?_eq_getElem hl, Nd.kd]
      · have : nodes = [] := List.eq_nil_of_length_eq_zero (by omega)
        subst this; rfl
    · rw [List.getElem?_set_ne hi]
  · rfl
theorem enterS_nodes (nodes : List Nd) (st : List OB) (last : Bool) (ind : Int) (l : Ln) (o : Ct) : (enterS nodes st last ind l o).2.1 = [] ∨ (enterS nodes st last ind l o).2.1 = nodes1 nodes last ind l o := by
  unfold enterS
  split
  · exact .inl rfl
  split
  · exact .inl rfl
  split
  · exact .inl rfl
  split
  · exact .inl rfl
  split
  · exact .inl rfl
  · exact .inr rfl
theorem goS_txt (file : Bs) (m : Nat) : ∀ (ls : List Ln) (nodes : List Nd) (st : List OB) (last : Bool) (ind : Int), (∀ l ∈ ls, l.text.length ≤ m) → (∀ x ∈ nodes.map Nd.text, x.length ≤ m) → ∀ x ∈ (goS file ls nodes st last ind).1.map Nd.text, x.length ≤ m
  | [], nodes, st, last, ind, _, h => by simpa only [goS] using h
  | l :: ls, nodes, st, last, ind, hl, h => by
    rw [goS]
    split
    · simp
    split
    · simp
    · refine goS_txt file m ls _ _ _ _ (fun x hx => hl x (List.mem_cons_of_mem _ hx)) (fun x hx => ?_)
      rw [List.map_append] at hx
      rcases List.mem_append.1 hx with hx | hx
      · rcases enterS_nodes nodes st last ind l (readC l.text).1 with e | e
        · rw [e] at hx; cases hx
        · rw [e, nodes1_tx] at hx; exact h x hx
      · simp only [List.map_cons, List.map_nil, List.mem_singleton] at hx
        rw [hx]
        have h1 := readC_v l.text
        have h2 := hl l (List.mem_cons_self ..)
        show (readC l.text).1.value.length ≤ m
        omega
theorem parseS_txt (file s : Bs) : ∀ n ∈ (parseS file s).1, n.text.length ≤ s.length := by
  unfold parseS
  split
  · simp
  · intro n hn
    exact goS_txt file s.length (linesS s).ls [nd0 file] [ob0] false 0 (linesS_le s) (by simp) n.text (List.mem_map_of_mem hn)
/-! ### a file's name decides nothing but the places -/
def Nd.fl (f : Bs) (n : Nd) : Nd := ⟨n.kind, n.depth, n.key, n.text, f, n.line, n.col, n.val⟩
theorem nodes1_fl (f : Bs) (nodes : List Nd) (last : Bool) (ind : Int) (l : Ln) (o : Ct) : nodes1 (nodes.map (Nd.fl f)) last ind l o = (nodes1 nodes last ind l o).map (Nd.fl f) := by
  unfold nodes1
  split
  · rw [List.map_set, List.length_map]
    cases hn : nodes with
    | nil => rfl
    | cons x r =>
      have hl : (x :: r).length - 1 < (x :: r).length := by simp
      congr 1
      rw [List.getD_eq_getElem?_getD, List.getD_eq_getElem?_getD, List.getElem?_map, List.getElem?_eq_getElem hl]
      rfl
  · rfl
theorem enterS_fl (f : Bs) (nodes : List Nd) (st : List OB) (last : Bool) (ind : Int) (l : Ln) (o : Ct) : enterS (nodes.map (Nd.fl f)) st last ind l o = ((enterS nodes st last ind l o).1, (enterS nodes st last ind l o).2.1.map (Nd.fl f), (enterS nodes st last ind l o).2.2) := by
  unfold enterS
  rw [nodes1_fl, List.length_map]
  split
  · rfl
  split
  · rfl
  split
  · rfl
  split
  · rfl
  split
  · rfl
  · rfl
theorem goS_fl (f g : Bs) : ∀ (ls : List Ln) (nodes : List Nd) (st : List OB) (last : Bool) (ind : Int), (goS g ls (nodes.map (Nd.fl g)) st last ind).1 = (goS f ls nodes st last ind).1.map (Nd.fl g) ∧ (goS g ls (nodes.map (Nd.fl g)) st last ind).2.code = (goS f ls nodes st last ind).2.code
  | [], nodes, st, last, ind => ⟨rfl, rfl⟩
  | l :: ls, nodes, st, last, ind => by
    rw [goS, goS, enterS_fl]
    by_cases h1 : (readC l.text).2.2 ≠ 0
    · rw [if_pos h1, if_pos h1]; exact ⟨rfl, rfl⟩
    rw [if_neg h1, if_neg h1]
    by_cases h2 : (enterS nodes st last ind l (readC l.text).1).1 ≠ 0
    · rw [if_pos h2, if_pos h2]; exact ⟨rfl, rfl⟩
    rw [if_neg h2, if_neg h2]
    have := goS_fl f g ls ((enterS nodes st last ind l (readC l.text).1).2.1 ++ [nodeS f (enterS nodes st last ind l (readC l.text).1).2.2.length l (readC l.text).1]) (enterS nodes st last ind l (readC l.text).1).2.2 (!(readC l.text).1.has) l.indent
    rw [List.map_append] at this
    exact this
theorem parseS_fl (f g s : Bs) : (parseS g s).1 = (parseS f s).1.map (Nd.fl g) ∧ (parseS g s).2.code = (parseS f s).2.code := by
  unfold parseS
  split
  · exact ⟨rfl, rfl⟩
  · exact goS_fl f g (linesS s).ls [nd0 f] [ob0] false 0
theorem parseS_file (f s : Bs) : ∀ n ∈ (parseS f s).1, n.file = f := by
  intro n hn
  rw [(parseS_fl f f s).1] at hn
  obtain ⟨x, _, rfl⟩ := List.mem_map.1 hn
  rfl
/-! ### what a set's lookups decide -/
theorem aput_len {k : Bs} (v : Fl) : ∀ l : List (Bs × Fl), (aput k v l).length = if (alook k l).isSome then l.length else l.length + 1
  | [] => rfl
  | (a, u) :: l => by
    have ih := aput_len (k := k) v l
    by_cases h : a = k
    · simp [aput, alook, h]
    · have e1 : alook k ((a, u) :: l) = alook k l := by simp [alook, h]
      have e2 : aput k v ((a, u) :: l) = (a, u) :: aput k v l := by simp [aput, h]
      rw [e1, e2, List.length_cons, ih]
      split <;> simp
abbrev foldF (fs : List Fl) (m : List (Bs × Fl)) : List (Bs × Fl) := fs.foldl (fun m f => aput f.name f m) m
theorem foldF_le : ∀ (fs : List Fl) (m : List (Bs × Fl)), (foldF fs m).length ≤ m.length + fs.length
  | [], m => by simp [foldF]
  | f :: fs, m => by
    have h := foldF_le fs (aput f.name f m)
    rw [aput_len] at h
    show (foldF fs (aput f.name f m)).length ≤ _
    simp only [List.length_cons]
    split at h <;> omega
theorem foldF_eq : ∀ (fs : List Fl) (m : List (Bs × Fl)), (foldF fs m).length = m.length + fs.length ↔ (fs.map Fl.name).Nodup ∧ ∀ f ∈ fs, alook f.name m = none
  | [], m => by simp [foldF]
  | f :: fs, m => by
    have hle := foldF_le fs (aput f.name f m)
    have ih := foldF_eq fs (aput f.name f m)
    show (foldF fs (aput f.name f m)).length = _ ↔ _
    rw [aput_len] at ih hle
    simp only [List.length_cons, List.map_cons, List.nodup_cons]
    by_cases h : (alook f.name m).isSome
    · rw [if_pos h] at hle
      constructor
      · intro q; omega
      · rintro ⟨_, q⟩
        rw [q f (List.mem_cons_self ..)] at h
        cases h
    · rw [if_neg h] at ih
      have hn : alook f.name m = none := by simpa using h
      rw [show m.length + (fs.length + 1) = m.length + 1 + fs.length by omega, ih]
      constructor
      · rintro ⟨q1, q2⟩
        have q3 : ∀ g ∈ fs, f.name ≠ g.name ∧ alook g.name m = none := by
          intro g hg
          have := q2 g hg
          rw [alook_aput] at this
          split at this
          · cases this
          · exact ⟨by assumption, this⟩
        refine ⟨⟨?_, q1⟩, ?_⟩
        · intro hm
          obtain ⟨g, hg, e⟩ := List.mem_map.1 hm
          exact (q3 g hg).1 e.symm
        · intro g hg
          rcases List.mem_cons.1 hg with rfl | hg
          · exact hn
          · exact (q3 g hg).2
      · rintro ⟨⟨q1, q2⟩, q3⟩
        refine ⟨q2, fun g hg => ?_⟩
        rw [alook_aput, if_neg]
        · exact q3 g (List.mem_cons_of_mem _ hg)
        · intro e
          exact q1 (e ▸ List.mem_map_of_mem hg)
theorem foldF_out {key : Bs} : ∀ (fs : List Fl) (m : List (Bs × Fl)), key ∉ fs.map Fl.name → alook key (foldF fs m) = alook key m
  | [], m, _ => rfl
  | f :: fs, m, h => by
    simp only [List.map_cons, List.mem_cons, not_or] at h
    have := foldF_out fs (aput f.name f m) h.2
    rw [alook_aput, if_neg (fun e => h.1 e.symm)] at this
    exact this
theorem foldF_in : ∀ (fs : List Fl) (m : List (Bs × Fl)), (fs.map Fl.name).Nodup → ∀ f ∈ fs, alook f.name (foldF fs m) = some f
  | [], m, _, f, h => by cases h
  | g :: fs, m, h, f, hf => by
    rw [List.map_cons, List.nodup_cons] at h
    show alook f.name (foldF fs (aput g.name g m)) = some f
    rcases List.mem_cons.1 hf with rfl | hf
    · rw [foldF_out fs _ h.1, alook_aput, if_pos rfl]
    · exact foldF_in fs _ h.2 f hf
theorem setS_nodup (files : List Fl) : ¬ (setS files).length < files.length ↔ (files.map Fl.name).Nodup := by
  have h1 := foldF_le files []
  have h2 := foldF_eq files []
  have e : setS files = foldF files [] := rfl
  rw [e]
  simp only [List.length_nil, Nat.zero_add] at h1 h2
  constructor
  · intro h; exact (h2.1 (by omega)).1
  · intro h
    have := h2.2 ⟨h, fun _ _ => rfl⟩
    omega
theorem setS_some {files : List Fl} {key : Bs} {f : Fl} (h : alook key (setS files) = some f) (hn : (files.map Fl.name).Nodup) : f ∈ files ∧ f.name = key := by
  by_cases hk : key ∈ files.map Fl.name
  · obtain ⟨g, hg, rfl⟩ := List.mem_map.1 hk
    have := foldF_in files [] hn g hg
    have e : setS files = foldF files [] := rfl
    rw [e, this] at h
    injection h with h
    subst h
    exact ⟨hg, rfl⟩
  · have := foldF_out files [] hk
    have e : setS files = foldF files [] := rfl
    rw [e, this] at h
    cases h
theorem setS_none {files : List Fl} {key : Bs} (h : key ∉ files.map Fl.name) : alook key (setS files) = none := foldF_out files [] h
theorem setS_in {files : List Fl} (hn : (files.map Fl.name).Nodup) {f : Fl} (h : f ∈ files) : alook f.name (setS files) = some f := foldF_in files [] hn f h
/-- two lists of files with the same files, but for one name -/
theorem setS_congr {fs gs : List Fl} (hf : (fs.map Fl.name).Nodup) (hg : (gs.map Fl.name).Nodup) {lone : Bs} (h : ∀ f : Fl, f.name ≠ lone → (f ∈ fs ↔ f ∈ gs)) {key : Bs} (hk : key ≠ lone) : alook key (setS fs) = alook key (setS gs) := by
  by_cases h1 : key ∈ fs.map Fl.name
  · obtain ⟨f, hm, rfl⟩ := List.mem_map.1 h1
    rw [setS_in hf hm, setS_in hg ((h f hk).1 hm)]
  · rw [setS_none h1, setS_none]
    intro h2
    obtain ⟨f, hm, rfl⟩ := List.mem_map.1 h2
    exact h1 (List.mem_map_of_mem ((h f hk).2 hm))
/-- the names that are met are a tree's texts -/
theorem namesS_mem (t : List Nd) : ∀ n ∈ (namesS t).1, n ∈ t := by
  unfold namesS
  split
  · simp
  rename_i h
  split
  · simp
  · intro n hn
    have h0 : 0 < t.length := by
      cases t with
      | nil => exact (h (by decide)).elim
      | cons a r => simp
    have hb := findS_bd h0 incl
    obtain ⟨m, hm⟩ : ∃ m : Nat, findS t 0 incl = m := ⟨(findS t 0 incl).toNat, by omega⟩
    rw [hm, Int.toNat_natCast] at hn
    rw [hm] at hb
    obtain ⟨x, hx, rfl⟩ := List.mem_map.1 hn
    have := (textsS_mem (by omega)).1 x hx
    rw [nth_nat, List.getD_eq_getElem?_getD, List.getElem?_eq_getElem this]
    exact List.getElem_mem this
theorem mayS_congr {set set' : List (Bs × Fl)} {n : Nd} (h : alook n.text set = alook n.text set') (s : LS) : mayS set s n = mayS set' s n := by
  unfold mayS
  rw [h]
theorem visL_congr {set set' : List (Bs × Fl)} {m : Nat} (h : ∀ key : Bs, key.length ≤ m → alook key set = alook key set') {rd rd' : LS → Bs → LS × Ft} (hr : ∀ s (key : Bs), key.length ≤ m → rd s key = rd' s key) : ∀ (ns : List Nd) (s : LS), (∀ n ∈ ns, n.text.length ≤ m) → visL rd set ns s = visL rd' set' ns s
  | [], s, _ => rfl
  | n :: r, s, hn => by
    have h1 := hn n (List.mem_cons_self ..)
    have ih := fun s => visL_congr h hr r s (fun x hx => hn x (List.mem_cons_of_mem _ hx))
    rw [visL, visL, mayS_congr (h _ h1), hr _ _ h1, ih, ih]
theorem loadF_congr {set set' : List (Bs × Fl)} {m : Nat} (h : ∀ key : Bs, key.length ≤ m → alook key set = alook key set') (ht : ∀ key f, alook key set' = some f → f.text.length ≤ m) : ∀ (f : Nat) (s : LS) (name : Bs), name.length ≤ m → loadF set f s name = loadF set' f s name
  | 0, _, _, _ => rfl
  | f + 1, s, name, hn => by
    have e : fileS set name = fileS set' name := by unfold fileS; rw [h _ hn]
    have hl : (fileS set' name).length ≤ m := by
      unfold fileS
      cases q : alook name set' with
      | none => simp
      | some g => exact ht name g q
    have hv : ∀ s, visL (loadF set f) set (namesS (parseS name (fileS set' name)).1).1 s = visL (loadF set' f) set' (namesS (parseS name (fileS set' name)).1).1 s := fun s =>
      visL_congr h (fun s key hk => loadF_congr h ht f s key hk) _ s (fun n hm => Nat.le_trans (parseS_txt _ _ n (namesS_mem _ n hm)) hl)
    rw [loadF, loadF, e, hv]
/-- what include.load's own refusals leave -/
theorem loadS_ok {files : List Fl} {root : Bs} (h : (loadS files root).2.code ≠ 70) : files.length ≤ 64 ∧ (files.map Fl.name).Nodup := by
  unfold loadS at h
  split at h
  · exact (h rfl).elim
  · rename_i q
    rw [not_or] at q
    exact ⟨by omega, (setS_nodup files).1 q.2⟩
/-! ### the order of files, and a file that nobody includes -/
def loneN (files : List Fl) (root : Bs) : Nat := files.foldl (fun n f => max (max n f.name.length) f.text.length) root.length
theorem loneN_le : ∀ (files : List Fl) (n : Nat), n ≤ files.foldl (fun n f => max (max n f.name.length) f.text.length) n ∧ ∀ f ∈ files, f.name.length ≤ files.foldl (fun n f => max (max n f.name.length) f.text.length) n ∧ f.text.length ≤ files.foldl (fun n f => max (max n f.name.length) f.text.length) n
  | [], n => by simp
  | g :: fs, n => by
    obtain ⟨h1, h2⟩ := loneN_le fs (max (max n g.name.length) g.text.length)
    simp only [List.foldl_cons]
    refine ⟨by omega, fun f hf => ?_⟩
    rcases List.mem_cons.1 hf with rfl | hf
    · omega
    · exact h2 f hf
def loneS (files : List Fl) (root : Bs) : Bs := List.replicate (loneN files root + 1) 120
theorem sets_law {files : List Fl} {root : Bs} (h : (loadS files root).2.code ≠ 70) : loadS files.reverse root = loadS files root := by
  obtain ⟨h1, h2⟩ := loadS_ok h
  have hr : (files.reverse.map Fl.name).Nodup := by rw [List.map_reverse]; exact (List.reverse_perm _).nodup_iff.2 h2
  have hk : ∀ key, alook key (setS files.reverse) = alook key (setS files) := fun key =>
    setS_congr (lone := 0 :: key) hr h2 (fun f _ => by rw [List.mem_reverse]) (fun e => by have := congrArg List.length e; simp at this)
  obtain ⟨g1, g2⟩ := loneN_le files root.length
  have hl := loadF_congr (m := loneN files root) (fun key _ => hk key) (fun key f hs => (g2 f (setS_some hs h2).1).2) 16 ls0 root g1
  have e1 : (setS files.reverse).length = (setS files).length := by
    have q1 := mt (setS_nodup files.reverse).2
    have q2 := (setS_nodup files.reverse).2 hr
    have q3 := (setS_nodup files).2 h2
    have q4 := foldF_le files []
    have q5 := foldF_le files.reverse []
    simp only [List.length_nil, Nat.zero_add, List.length_reverse] at q2 q4 q5
    have q6 : (setS files).length ≤ files.length := q4
    have q7 : (setS files.reverse).length ≤ files.length := q5
    omega
  unfold loadS
  rw [List.length_reverse, e1, hk, hl]
theorem lone_law {files : List Fl} {root : Bs} (more : Bs) (k : Nat) (h : (loadS files root).2.code ≠ 70) (hl : files.length < 64) :
    loadS (files.take k ++ ⟨loneS files root, more⟩ :: files.drop k) root = loadS files root := by
  obtain ⟨h1, h2⟩ := loadS_ok h
  obtain ⟨g1, g2⟩ := loneN_le files root.length
  have hp : (files.take k ++ ⟨loneS files root, more⟩ :: files.drop k).Perm (⟨loneS files root, more⟩ :: files) := by
    have := List.perm_middle (l₁ := files.take k) (l₂ := files.drop k) (a := (⟨loneS files root, more⟩ : Fl))
    rwa [List.take_append_drop] at this
  have hlen : ∀ key : Bs, key.length ≤ loneN files root → key ≠ loneS files root := by
    rintro key hk rfl
    unfold loneS at hk
    rw [List.length_replicate] at hk
    omega
  have hn : ((files.take k ++ ⟨loneS files root, more⟩ :: files.drop k).map Fl.name).Nodup := by
    rw [(hp.map Fl.name).nodup_iff, List.map_cons, List.nodup_cons]
    refine ⟨fun hm => ?_, h2⟩
    obtain ⟨g, hg, e⟩ := List.mem_map.1 hm
    exact hlen g.name (g2 g hg).1 e
  have hk : ∀ key : Bs, key.length ≤ loneN files root → alook key (setS (files.take k ++ ⟨loneS files root, more⟩ :: files.drop k)) = alook key (setS files) := fun key hl =>
    setS_congr (lone := loneS files root) hn h2 (fun f hf => by
      rw [hp.mem_iff, List.mem_cons]
      constructor
      · rintro (rfl | q)
        · exact (hf rfl).elim
        · exact q
      · exact .inr) (hlen key hl)
  have hlf := loadF_congr (m := loneN files root) hk (fun key f hs => (g2 f (setS_some hs h2).1).2) 16 ls0 root g1
  have q1 := (setS_nodup _).2 hn
  have q2 := (setS_nodup files).2 h2
  have e1 : (files.take k ++ (⟨loneS files root, more⟩ : Fl) :: files.drop k).length = files.length + 1 := by rw [hp.length_eq]; rfl
  have q3 : ¬ (64 < (files.take k ++ (⟨loneS files root, more⟩ : Fl) :: files.drop k).length ∨ (setS (files.take k ++ (⟨loneS files root, more⟩ : Fl) :: files.drop k)).length < (files.take k ++ (⟨loneS files root, more⟩ : Fl) :: files.drop k).length) := by
    rw [not_or]
    exact ⟨by rw [e1]; omega, q1⟩
  have q4 : ¬ (64 < files.length ∨ (setS files).length < files.length) := by
    rw [not_or]
    exact ⟨by omega, q2⟩
  unfold loadS
  rw [if_neg q3, if_neg q4, hk root g1, hlf]
end Go.Proofs.YtgjhbapbomdpbaaDoor.C
