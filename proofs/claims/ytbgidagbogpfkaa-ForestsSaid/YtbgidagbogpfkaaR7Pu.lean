import Derived.Test.YtbgidagbogpfkaaR7Aw
/- Plain laws: what may be stays what may be. -/
namespace Go.AM
open Go.Proofs
set_option linter.unusedVariables false
set_option linter.unusedSimpArgs false
set_option maxRecDepth 100000
attribute [-simp] ByteArray.size_eq_zero_iff
/-! ### looking a snapshot up by its name -/
def look (xs : List Inf) (p : ByteArray) : Option Inf := xs.find? fun y => decide (y.name = p)
theorem look_idx : ∀ (xs : List Inf) (p : ByteArray), look xs p = (idxN (xs.map Inf.name) p).bind fun k => xs[k]?
  | [], _ => rfl
  | x :: xs, p => by
    have ih := look_idx xs p
    unfold look at ih ⊢
    by_cases h : x.name = p
    · simp [List.find?, idxN, h]
    · simp only [List.find?, List.map_cons, idxN, h, decide_false, if_false]
      rw [ih]
      cases idxN (xs.map Inf.name) p <;> simp
theorem rootB_look (xs : List Inf) (f : Nat) (p : ByteArray) : rootB xs (f + 1) p = if p = ⟨#[]⟩ then true else match look xs p with | some y => decide (y.kind = 2) && rootB xs f y.parent | none => false := by
  rw [look_idx, rootB]
  cases h : idxN (xs.map Inf.name) p with
  | none => rfl
  | some k => rfl
theorem look_some {xs : List Inf} {p : ByteArray} {y : Inf} (h : look xs p = some y) : y ∈ xs ∧ y.name = p := by
  unfold look at h
  exact ⟨List.mem_of_find?_eq_some h, by simpa using List.find?_some h⟩
theorem look_of : ∀ {xs : List Inf}, Sorted (xs.map Inf.name) → ∀ {y : Inf}, y ∈ xs → look xs y.name = some y
  | x :: xs, h, y, hy => by
    obtain ⟨h1, h2⟩ := List.pairwise_cons.1 h
    rcases List.mem_cons.1 hy with rfl | hm
    · simp [look, List.find?]
    · have h3 : x.name ≠ y.name := (h1 _ (List.mem_map.2 ⟨y, hm, rfl⟩)).ne
      have h4 := look_of h2 hm
      unfold look at h4 ⊢
      simp only [List.find?, h3, decide_false]
      exact h4
theorem look_none {xs : List Inf} {p : ByteArray} (h : hasN (xs.map Inf.name) p = false) : look xs p = none := by
  cases hl : look xs p with
  | none => rfl
  | some y =>
    obtain ⟨h1, h2⟩ := look_some hl
    exact absurd (by rw [← h2]; exact List.mem_map.2 ⟨y, h1, rfl⟩) ((hasN_no _ _).1 h)
theorem name_inj {xs : List Inf} (hs : Sorted (xs.map Inf.name)) {x y : Inf} (hx : x ∈ xs) (hy : y ∈ xs) (h : x.name = y.name) : x = y := by
  have h1 := look_of hs hx
  have h2 := look_of hs hy
  rw [h, h2] at h1
  cases h1; rfl
/-! ### rooted -/
theorem root_mono {xs ys : List Inf} (Q : ByteArray → Prop) (h : ∀ p y, Q p → look xs p = some y → y.kind = 2 → Q y.parent ∧ ∃ y', look ys p = some y' ∧ y'.kind = 2 ∧ y'.parent = y.parent) : ∀ (f : Nat) (p : ByteArray), Q p → rootB xs f p = true → ∀ g, f ≤ g → rootB ys g p = true
  | 0, p, _, hr, g, _ => by cases hr
  | f + 1, p, hq, hr, g, hg => by
    obtain ⟨g', rfl⟩ : ∃ g', g = g' + 1 := ⟨g - 1, by omega⟩
    rw [rootB_look] at hr ⊢
    by_cases hp : p = ⟨#[]⟩
    · simp [hp]
    · rw [if_neg hp] at hr ⊢
      cases hl : look xs p with
      | none => rw [hl] at hr; cases hr
      | some y =>
        rw [hl] at hr
        simp only [Bool.and_eq_true, decide_eq_true_eq] at hr
        obtain ⟨h1, y', h2, h3, h4⟩ := h p y hq hl hr.1
        rw [h2]
        simp only [h3, h4, decide_true, Bool.true_and]
        exact root_mono Q h f _ h1 hr.2 g' (by omega)
theorem root_up {xs : List Inf} {f g : Nat} {p : ByteArray} (h : rootB xs f p = true) (hg : f ≤ g) : rootB xs g p = true :=
  root_mono (fun _ => True) (fun p y _ h1 h2 => ⟨trivial, y, h1, h2, rfl⟩) f p trivial h g hg
/-- How deep a text lies. -/
def Lev (xs : List Inf) (d : Nat) (p : ByteArray) : Prop := rootB xs d p = true ∧ ∀ e, e < d → rootB xs e p = false
theorem lev_ex {xs : List Inf} {p : ByteArray} : ∀ {f : Nat}, rootB xs f p = true → ∃ d, d ≤ f ∧ Lev xs d p
  | 0, h => by cases h
  | f + 1, h => by
    cases hf : rootB xs f p with
    | true =>
      obtain ⟨d, h1, h2⟩ := lev_ex hf
      exact ⟨d, by omega, h2⟩
    | false =>
      refine ⟨f + 1, Nat.le_refl _, h, fun e he => ?_⟩
      cases h2 : rootB xs e p with
      | false => rfl
      | true => rw [root_up h2 (by omega)] at hf; cases hf
theorem lev_inj {xs : List Inf} {a b : Nat} {p : ByteArray} (h : Lev xs a p) (k : Lev xs b p) : a = b := by
  rcases Nat.lt_trichotomy a b with h1 | h1 | h1
  · have h2 := k.2 a h1; rw [h.1] at h2; cases h2
  · exact h1
  · have h2 := h.2 b h1; rw [k.1] at h2; cases h2
theorem lev_pos {xs : List Inf} {d : Nat} {p : ByteArray} (h : Lev xs d p) : 0 < d := by
  cases d with
  | zero => cases h.1
  | succ d => omega
theorem lev_step {xs : List Inf} {d : Nat} {p : ByteArray} (h : Lev xs (d + 2) p) : ∃ y, look xs p = some y ∧ y.kind = 2 ∧ Lev xs (d + 1) y.parent := by
  have h1 := h.1
  have h2 := h.2 1 (by omega)
  rw [rootB_look] at h1 h2
  by_cases hp : p = ⟨#[]⟩
  · rw [if_pos hp] at h2; cases h2
  · rw [if_neg hp] at h1
    cases hl : look xs p with
    | none => rw [hl] at h1; cases h1
    | some y =>
      rw [hl] at h1
      simp only [Bool.and_eq_true, decide_eq_true_eq] at h1
      refine ⟨y, rfl, h1.1, h1.2, fun e he => ?_⟩
      have h3 := h.2 (e + 1) (by omega)
      rw [rootB_look, if_neg hp, hl] at h3
      simpa [h1.1] using h3
/-- The committed ones that lie behind a text. -/
theorem lev_chain {xs : List Inf} : ∀ (d : Nat) (p : ByteArray), Lev xs (d + 1) p → ∃ ns : List ByteArray, ns.length = d ∧ ns.Nodup ∧ ∀ s ∈ ns, (∃ y, look xs s = some y ∧ y.kind = 2) ∧ ∃ e, 1 ≤ e ∧ e ≤ d ∧ Lev xs (e + 1) s
  | 0, p, _ => ⟨[], rfl, List.nodup_nil, fun s h => by cases h⟩
  | d + 1, p, h => by
    obtain ⟨y, h1, h2, h3⟩ := lev_step h
    obtain ⟨ns, k1, k2, k3⟩ := lev_chain d y.parent h3
    refine ⟨p :: ns, by simp [k1], List.nodup_cons.2 ⟨fun hm => ?_, k2⟩, fun s hs => ?_⟩
    · obtain ⟨_, e, _, e2, e3⟩ := k3 p hm
      have := lev_inj h e3
      omega
    · rcases List.mem_cons.1 hs with rfl | hs
      · exact ⟨⟨y, h1, h2⟩, d + 1, by omega, by omega, h⟩
      · obtain ⟨q1, e, q2, q3, q4⟩ := k3 s hs
        exact ⟨q1, e, q2, by omega, q4⟩
instance : LawfulBEq ByteArray where
  eq_of_beq {a b} h := by
    have h2 : (a.data == b.data) = true := h
    have h3 := eq_of_beq h2
    cases a; cases b; simp only at h3; rw [h3]
  rfl {a} := by
    show (a.data == a.data) = true
    exact beq_self_eq_true _
theorem nodup_len : ∀ {xs ys : List ByteArray}, xs.Nodup → (∀ x ∈ xs, x ∈ ys) → xs.length ≤ ys.length
  | [], _, _, _ => by simp
  | x :: xs, ys, h, hs => by
    have hx := hs x (by simp)
    have h1 := List.nodup_cons.1 h
    have h2 := nodup_len (xs := xs) (ys := ys.erase x) h1.2 (fun z hz => (List.mem_erase_of_ne (by rintro rfl; exact h1.1 hz)).2 (hs z (by simp [hz])))
    rw [List.length_erase_of_mem hx] at h2
    have := List.length_pos_of_mem hx
    simp; omega
theorem root_any {xs : List Inf} {f : Nat} {p : ByteArray} (h : rootB xs f p = true) : rootB xs (xs.length + 1) p = true := by
  obtain ⟨d, _, hd⟩ := lev_ex h
  obtain ⟨k, rfl⟩ : ∃ k, d = k + 1 := ⟨d - 1, by have := lev_pos hd; omega⟩
  obtain ⟨ns, k1, k2, k3⟩ := lev_chain k p hd
  have := nodup_len (ys := xs.map Inf.name) k2 fun s hs => by
    obtain ⟨⟨y, h1, _⟩, _⟩ := k3 s hs
    obtain ⟨h2, h3⟩ := look_some h1
    exact List.mem_map.2 ⟨y, h2, h3⟩
  rw [List.length_map] at this
  exact root_up hd.1 (by omega)
theorem root_of {xs : List Inf} (hs : Sorted (xs.map Inf.name)) (hw : ∀ x ∈ xs, x.name ≠ ⟨#[]⟩) {x : Inf} (hx : x ∈ xs) {f : Nat} (h : rootB xs f x.parent = true) : rootB xs xs.length x.parent = true := by
  obtain ⟨d, _, hd⟩ := lev_ex h
  obtain ⟨k, rfl⟩ : ∃ k, d = k + 1 := ⟨d - 1, by have := lev_pos hd; omega⟩
  obtain ⟨ns, k1, k2, k3⟩ := lev_chain k x.parent hd
  have hn : ¬ x.name ∈ ns := by
    intro hm
    obtain ⟨_, e, e1, e2, e3⟩ := k3 _ hm
    obtain ⟨j, rfl⟩ : ∃ j, e = j + 1 := ⟨e - 1, by omega⟩
    obtain ⟨y, h1, _, h3⟩ := lev_step e3
    rw [look_of hs hx] at h1
    cases h1
    have := lev_inj hd h3
    omega
  have := nodup_len (xs := x.name :: ns) (ys := xs.map Inf.name) (List.nodup_cons.2 ⟨hn, k2⟩) fun s hs => by
    rcases List.mem_cons.1 hs with rfl | hs
    · exact List.mem_map.2 ⟨x, hx, rfl⟩
    · obtain ⟨⟨y, h1, _⟩, _⟩ := k3 s hs
      obtain ⟨h2, h3⟩ := look_some h1
      exact List.mem_map.2 ⟨y, h2, h3⟩
  rw [List.length_map, List.length_cons] at this
  exact root_up hd.1 (by omega)
theorem word_ne {s : ByteArray} {m : Nat} (h : wordB s m = true) : s ≠ ⟨#[]⟩ := by
  rintro rfl
  simp only [wordB, Bool.and_eq_true, decide_eq_true_eq] at h
  have := h.1.2
  exact absurd this (by decide)
theorem infB_name {x : Inf} (h : infB x = true) : wordB x.name 4 = true := by
  simp only [infB, Bool.and_eq_true] at h
  exact h.1.1.1
theorem mayB_of {xs : List Inf} (h1 : ∀ x ∈ xs, infB x = true) (h2 : Sorted (xs.map Inf.name)) (h3 : ∀ x ∈ xs, ∃ f, rootB xs f x.parent = true) (h4 : xs.length ≤ 6) : mayB xs = true := by
  simp only [mayB, Bool.and_eq_true, decide_eq_true_eq]
  refine ⟨⟨rowsB_of (List.all_eq_true.2 h1) h2, List.all_eq_true.2 fun x hx => ?_⟩, h4⟩
  obtain ⟨f, hf⟩ := h3 x hx
  exact root_of h2 (fun y hy => word_ne (infB_name (h1 y hy))) hx hf
theorem mayB_all {xs : List Inf} (h : mayB xs = true) : (∀ x ∈ xs, infB x = true) ∧ Sorted (xs.map Inf.name) ∧ (∀ x ∈ xs, rootB xs xs.length x.parent = true) ∧ xs.length ≤ 6 := by
  obtain ⟨h1, h2, h3, h4⟩ := mayB_inv h
  exact ⟨List.all_eq_true.1 h1, h2, List.all_eq_true.1 h3, h4⟩
/-! ### an element laid in, an element cut out -/
theorem mem_insAt {α : Type} {xs : List α} {i : Nat} {x z : α} : z ∈ insAt xs i x ↔ z = x ∨ z ∈ xs := by
  unfold insAt
  rw [List.mem_append, List.mem_cons]
  constructor
  · rintro (h | h | h)
    · exact .inr (List.mem_of_mem_take h)
    · exact .inl h
    · exact .inr (List.mem_of_mem_drop h)
  · rintro (h | h)
    · exact .inr (.inl h)
    · rw [← List.take_append_drop i xs] at h
      rcases List.mem_append.1 h with h | h
      · exact .inl h
      · exact .inr (.inr h)
theorem insAt_zero {α : Type} (xs : List α) (x : α) : insAt xs 0 x = x :: xs := rfl
theorem insAt_cons {α : Type} (y : α) (xs : List α) (i : Nat) (x : α) : insAt (y :: xs) (i + 1) x = y :: insAt xs i x := rfl
theorem insAt_len {α : Type} (xs : List α) (i : Nat) (x : α) (h : i ≤ xs.length) : (insAt xs i x).length = xs.length + 1 := by
  unfold insAt; rw [List.length_append, List.length_cons, List.length_take, List.length_drop]; omega
theorem insAt_map {α β : Type} (f : α → β) (xs : List α) (i : Nat) (x : α) : (insAt xs i x).map f = insAt (xs.map f) i (f x) := by
  simp [insAt, List.map_take, List.map_drop]
theorem posN_cons (n : ByteArray) (ns : List ByteArray) (s : ByteArray) : posN (n :: ns) s = if Ls n s then posN ns s + 1 else 0 := by
  unfold posN
  by_cases h : Ls n s <;> simp [List.takeWhile, h]
theorem sorted_insN : ∀ {ns : List ByteArray} {s : ByteArray}, Sorted ns → ¬ s ∈ ns → Sorted (insAt ns (posN ns s) s)
  | [], s, _, _ => List.pairwise_singleton _ _
  | n :: ns, s, h, hn => by
    obtain ⟨h1, h2⟩ := List.pairwise_cons.1 h
    rw [posN_cons]
    by_cases e : Ls n s
    · rw [if_pos e, insAt_cons]
      refine List.pairwise_cons.2 ⟨fun z hz => ?_, sorted_insN h2 fun hm => hn (by simp [hm])⟩
      rcases mem_insAt.1 hz with rfl | hz
      · exact e
      · exact h1 z hz
    · rw [if_neg e, insAt_zero]
      have e2 : Ls s n := Ls.total e fun he => hn (by simp [he])
      refine List.pairwise_cons.2 ⟨fun z hz => ?_, h⟩
      rcases List.mem_cons.1 hz with rfl | hz
      · exact e2
      · exact e2.trans (h1 z hz)
theorem sorted_ins {α : Type} (key : α → ByteArray) {xs : List α} {x : α} (h : Sorted (xs.map key)) (hn : hasN (xs.map key) (key x) = false) : Sorted ((insAt xs (posN (xs.map key) (key x)) x).map key) := by
  rw [insAt_map]
  exact sorted_insN h ((hasN_no _ _).1 hn)
theorem cutAt_cons {α : Type} (y : α) (xs : List α) (i : Nat) : cutAt (y :: xs) (i + 1) = y :: cutAt xs i := rfl
theorem cut_filter {α : Type} (key : α → ByteArray) : ∀ {xs : List α} {s : ByteArray}, Sorted (xs.map key) → hasN (xs.map key) s = true → cutAt xs (posN (xs.map key) s) = xs.filter fun x => decide (key x ≠ s)
  | [], s, _, h => by cases h
  | x :: xs, s, h, hn => by
    have h0 := h
    obtain ⟨h1, h2⟩ := List.pairwise_cons.1 h
    rw [List.map_cons, posN_cons]
    have hm : s = key x ∨ s ∈ xs.map key := by
      have := (hasN_iff _ _).1 hn
      rw [List.map_cons, List.mem_cons] at this; exact this
    by_cases e : Ls (key x) s
    · have hs : s ∈ xs.map key := by
        rcases hm with h | h
        · exact absurd h.symm e.ne
        · exact h
      rw [if_pos e, cutAt_cons, cut_filter key h2 ((hasN_iff _ _).2 hs), List.filter_cons, if_pos (by simpa using e.ne)]
    · have he : s = key x := by
        rcases hm with h | h
        · exact h
        · exact absurd (h1 s h) e
      subst he
      rw [if_neg e, List.filter_cons, if_neg (by simp)]
      show xs = _
      symm
      refine List.filter_eq_self.2 fun y hy => ?_
      have := (h1 (key y) (List.mem_map.2 ⟨y, hy, rfl⟩)).ne
      simpa using fun hh => this hh.symm
theorem cut_len {α : Type} (xs : List α) (i : Nat) (h : i < xs.length) : (cutAt xs i).length + 1 = xs.length := by
  unfold cutAt; rw [List.length_append, List.length_take, List.length_drop]; omega
theorem mem_cut {α : Type} {xs : List α} {i : Nat} {z : α} (h : z ∈ cutAt xs i) : z ∈ xs := by
  rcases List.mem_append.1 h with h | h
  · exact List.mem_of_mem_take h
  · exact List.mem_of_mem_drop h
theorem sorted_cutG {α : Type} (key : α → ByteArray) {xs : List α} (h : Sorted (xs.map key)) (i : Nat) : Sorted ((cutAt xs i).map key) := by
  refine List.Pairwise.sublist ?_ h
  refine List.Sublist.map _ ?_
  have h1 : (xs.drop (i + 1)).Sublist (xs.drop i) := by rw [← List.drop_drop]; exact List.drop_sublist _ _
  have := (List.Sublist.refl (xs.take i)).append h1
  rwa [List.take_append_drop] at this
/-! ### inserting, cutting, setting: what may be -/
/-- Another one beside those that may be. -/
theorem may_ins {xs : List Inf} {x : Inf} (h : mayB xs = true) (hx : infB x = true) (hn : hasN (xs.map Inf.name) x.name = false) (hp : x.parent = ⟨#[]⟩ ∨ ∃ y, look xs x.parent = some y ∧ y.kind = 2) (hl : xs.length < 6) : mayB (insAt xs (posN (xs.map Inf.name) x.name) x) = true := by
  obtain ⟨h1, h2, h3, h4⟩ := mayB_all h
  have hs := sorted_ins Inf.name h2 hn
  have hk : ∀ p y, look xs p = some y → look (insAt xs (posN (xs.map Inf.name) x.name) x) p = some y := fun p y hy => by
    obtain ⟨k1, k2⟩ := look_some hy
    have := look_of hs (mem_insAt.2 (.inr k1))
    rwa [k2] at this
  have hm : ∀ p, rootB xs xs.length p = true → rootB (insAt xs (posN (xs.map Inf.name) x.name) x) xs.length p = true := fun p hp =>
    root_mono (fun _ => True) (fun p y _ k1 k2 => ⟨trivial, y, hk p y k1, k2, rfl⟩) _ p trivial hp _ (Nat.le_refl _)
  refine mayB_of (fun z hz => ?_) hs (fun z hz => ?_) (by rw [insAt_len _ _ _ (by have := posN_le (xs.map Inf.name) x.name; simpa using this)]; omega)
  · rcases mem_insAt.1 hz with rfl | hz
    · exact hx
    · exact h1 z hz
  · rcases mem_insAt.1 hz with rfl | hz
    · rcases hp with hp | ⟨y, hy, hy2⟩
      · exact ⟨1, by rw [rootB_look, if_pos hp]⟩
      · refine ⟨xs.length + 1, ?_⟩
        rw [rootB_look, hk _ _ hy]
        split
        · rfl
        · simp only [hy2, decide_true, Bool.true_and]
          exact hm _ (h3 y (look_some hy).1)
    · exact ⟨_, hm _ (h3 z hz)⟩
/-- One without kids cut out. -/
theorem may_cut {xs : List Inf} {name : ByteArray} (h : mayB xs = true) (hn : hasN (xs.map Inf.name) name = true) (hk : ∀ x ∈ xs, x.parent ≠ name) : mayB (cutAt xs (posN (xs.map Inf.name) name)) = true := by
  obtain ⟨h1, h2, h3, h4⟩ := mayB_all h
  have hf := cut_filter Inf.name h2 hn
  have hs := sorted_cutG Inf.name h2 (posN (xs.map Inf.name) name)
  refine mayB_of (fun z hz => h1 z (mem_cut hz)) hs (fun z hz => ⟨xs.length, ?_⟩) ?_
  · refine root_mono (fun p => p ≠ name) (fun p y hp k1 k2 => ⟨hk y (look_some k1).1, y, ?_, k2, rfl⟩) _ _ (hk z (mem_cut hz)) (h3 z (mem_cut hz)) _ (Nat.le_refl _)
    obtain ⟨k3, k4⟩ := look_some k1
    rw [← k4]
    refine look_of hs ?_
    rw [hf]
    exact List.mem_filter.2 ⟨k3, by simpa [k4] using hp⟩
  · have := (idx_sorted h2 hn).1
    rw [List.length_map] at this
    have := cut_len xs _ this
    omega
theorem set_names {xs : List Inf} {i : Nat} (hi : i < xs.length) {x : Inf} (h : x.name = xs[i].name) : (xs.set i x).map Inf.name = xs.map Inf.name := by
  rw [List.map_set]
  refine List.ext_getElem (by simp) fun k h3 h4 => ?_
  rw [List.getElem_set]
  split
  · rename_i e; subst e; simp [h]
  · rfl
/-- One turned, but not its name, its kind or its parent. -/
theorem may_set {xs : List Inf} {i : Nat} (hi : i < xs.length) {x : Inf} (h : mayB xs = true) (hx : infB x = true) (e1 : x.name = xs[i].name) (e2 : x.kind = xs[i].kind) (e3 : x.parent = xs[i].parent) : mayB (xs.set i x) = true := by
  obtain ⟨h1, h2, h3, h4⟩ := mayB_all h
  have hn := set_names hi e1
  have hs : Sorted ((xs.set i x).map Inf.name) := by rw [hn]; exact h2
  have hm : ∀ p, rootB xs xs.length p = true → rootB (xs.set i x) xs.length p = true := fun p hp => by
    refine root_mono (fun _ => True) (fun p y _ k1 k2 => ⟨trivial, ?_⟩) _ p trivial hp _ (Nat.le_refl _)
    obtain ⟨k3, k4⟩ := look_some k1
    obtain ⟨j, hj, rfl⟩ := List.mem_iff_getElem.1 k3
    by_cases e : i = j
    · subst e
      refine ⟨x, ?_, by rw [e2]; exact k2, e3⟩
      rw [← k4, ← e1]
      exact look_of hs (List.mem_set hi _)
    · refine ⟨xs[j], ?_, k2, rfl⟩
      rw [← k4]
      refine look_of hs ?_
      have : (xs.set i x)[j]'(by simpa using hj) = xs[j] := by rw [List.getElem_set_ne e]
      rw [← this]; exact List.getElem_mem _
  refine mayB_of (fun z hz => ?_) hs (fun z hz => ⟨xs.length, hm _ ?_⟩) (by simpa using h4)
  · rcases List.mem_or_eq_of_mem_set hz with hz | rfl
    · exact h1 z hz
    · exact hx
  · rcases List.mem_or_eq_of_mem_set hz with hz | rfl
    · exact h3 z hz
    · rw [e3]; exact h3 _ (List.getElem_mem _)
end Go.AM
