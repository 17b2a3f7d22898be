import Derived.Test.YtbgidagbogpfkaaR7Pu
/- Plain laws: what writing and deleting leave. -/
namespace Go.AM
open Go.Proofs
set_option linter.unusedVariables false
set_option linter.unusedSimpArgs false
set_option maxRecDepth 100000
attribute [-simp] ByteArray.size_eq_zero_iff
theorem idx_name {xs : List Inf} {n : ByteArray} {i : Nat} (h : idxN (xs.map Inf.name) n = some i) (hi : i < xs.length) : xs[i].name = n := by
  obtain ⟨h1, h2, _⟩ := idx_inv h
  simpa using h2
theorem write_inv {xs : List Inf} {name path content : ByteArray} (h : (writeS xs name path content).2 = 0) : ∃ (i : Nat) (hi : i < xs.length), i = posN (xs.map Inf.name) name ∧ mayB xs = true ∧ xs[i].name = name ∧ xs[i].kind = 0 ∧ wordB path 3 = true ∧ content.size ≤ 6 ∧
    (hasN (xs[i].files.map Fil.path) path = true ∨ xs[i].files.length ≠ 4) ∧ (writeS xs name path content).1 = xs.set i { xs[i] with files := wroteF xs[i].files path content } := by
  unfold writeS at h ⊢
  split at h
  · rename_i h1; exact absurd h h1
  rename_i h1
  split at h
  · simp at h
  rename_i h2
  obtain ⟨hi, k1, k2, k3, k4, k5⟩ := fileE_zero (show fileE xs name path = 0 by simpa using h1)
  rw [if_neg h1, if_neg h2]
  rw [List.getElem?_eq_getElem hi] at h ⊢
  simp only at h ⊢
  split at h
  · simp at h
  rename_i h3
  rw [if_neg h3]
  refine ⟨_, hi, rfl, k1, idx_name k3 hi, k4, by simpa using k5, by omega, ?_, rfl⟩
  cases hh : hasN (xs[posN (xs.map Inf.name) name].files.map Fil.path) path with
  | true => exact .inl rfl
  | false => exact .inr fun h4 => h3 ⟨hh, h4⟩
theorem delete_inv {xs : List Inf} {name path : ByteArray} (h : (deleteS xs name path).2 = 0) : ∃ (i : Nat) (hi : i < xs.length), i = posN (xs.map Inf.name) name ∧ mayB xs = true ∧ xs[i].name = name ∧ xs[i].kind = 0 ∧ wordB path 3 = true ∧
    hasN (xs[i].files.map Fil.path) path = true ∧ (deleteS xs name path).1 = xs.set i { xs[i] with files := cutAt xs[i].files (posN (xs[i].files.map Fil.path) path) } := by
  unfold deleteS at h ⊢
  split at h
  · rename_i h1; exact absurd h h1
  rename_i h1
  obtain ⟨hi, k1, k2, k3, k4, k5⟩ := fileE_zero (show fileE xs name path = 0 by simpa using h1)
  rw [if_neg h1]
  rw [List.getElem?_eq_getElem hi] at h ⊢
  simp only at h ⊢
  split at h
  · simp at h
  rename_i h3
  rw [if_neg h3]
  exact ⟨_, hi, rfl, k1, idx_name k3 hi, k4, by simpa using k5, by simpa using h3, rfl⟩
/-- What another snapshot is stays. -/
def KeptS (xs ys : List Inf) (name : ByteArray) : Prop :=
  ys.length = xs.length ∧ ∀ (i : Nat) (x y : Inf), xs[i]? = some x → ys[i]? = some y → (x.name ≠ name → y = x) ∧ y.name = x.name ∧ y.kind = x.kind ∧ y.parent = x.parent ∧ (x.kind = 2 → y = x)
theorem kept_set {xs : List Inf} {name : ByteArray} {i : Nat} (hi : i < xs.length) (h1 : xs[i].name = name) (h2 : xs[i].kind = 0) (fs : List Fil) : KeptS xs (xs.set i { xs[i] with files := fs }) name := by
  refine ⟨by simp, fun j x y hx hy => ?_⟩
  obtain ⟨hj, rfl⟩ := List.getElem?_eq_some_iff.1 hx
  rw [List.getElem?_set] at hy
  by_cases e : i = j
  · subst e
    rw [if_pos rfl, if_pos hi] at hy
    cases hy
    exact ⟨fun h => absurd h1 h, rfl, rfl, rfl, fun h => by rw [h2] at h; cases h⟩
  · rw [if_neg e, hx] at hy
    cases hy
    exact ⟨fun _ => rfl, rfl, rfl, rfl, fun _ => rfl⟩
theorem write_kept {xs : List Inf} {name path content : ByteArray} (h : (writeS xs name path content).2 = 0) : KeptS xs (writeS xs name path content).1 name := by
  obtain ⟨i, hi, _, _, h1, h2, _, _, _, h3⟩ := write_inv h
  rw [h3]; exact kept_set hi h1 h2 _
theorem delete_kept {xs : List Inf} {name path : ByteArray} (h : (deleteS xs name path).2 = 0) : KeptS xs (deleteS xs name path).1 name := by
  obtain ⟨i, hi, _, _, h1, h2, _, _, h3⟩ := delete_inv h
  rw [h3]; exact kept_set hi h1 h2 _
/-! ### files -/
theorem filesB_inv {v : Bool} {fs : List Fil} (h : filesB v fs = true) : (∀ f ∈ fs, filB v f = true) ∧ Sorted (fs.map Fil.path) ∧ fs.length ≤ 4 := by
  simp only [filesB, Bool.and_eq_true, decide_eq_true_eq] at h
  obtain ⟨h1, h2⟩ := rowsB_ok h.1
  exact ⟨List.all_eq_true.1 h1, h2, h.2⟩
theorem filesB_of {v : Bool} {fs : List Fil} (h1 : ∀ f ∈ fs, filB v f = true) (h2 : Sorted (fs.map Fil.path)) (h3 : fs.length ≤ 4) : filesB v fs = true := by
  simp only [filesB, Bool.and_eq_true, decide_eq_true_eq]
  exact ⟨rowsB_of (List.all_eq_true.2 h1) h2, h3⟩
theorem infB_files {x : Inf} (h : infB x = true) : filesB (decide (x.kind = 1)) x.files = true := by
  simp only [infB, Bool.and_eq_true] at h
  exact h.2
theorem infB_with {x : Inf} (h : infB x = true) (fs : List Fil) (hf : filesB (decide (x.kind = 1)) fs = true) : infB { x with files := fs } = true := by
  simp only [infB, Bool.and_eq_true] at h ⊢
  exact ⟨h.1, hf⟩
theorem posN_path {fs : List Fil} {path : ByteArray} (hs : Sorted (fs.map Fil.path)) (h : hasN (fs.map Fil.path) path = true) : ∃ hp : posN (fs.map Fil.path) path < fs.length, fs[posN (fs.map Fil.path) path].path = path := by
  obtain ⟨h1, h2⟩ := idx_sorted hs h
  have h1' : posN (fs.map Fil.path) path < fs.length := by simpa using h1
  refine ⟨h1', ?_⟩
  obtain ⟨_, h3, _⟩ := idx_inv h2
  simpa using h3
theorem set_paths {fs : List Fil} {i : Nat} (hi : i < fs.length) {f : Fil} (h : f.path = fs[i].path) : (fs.set i f).map Fil.path = fs.map Fil.path := by
  rw [List.map_set]
  refine List.ext_getElem (by simp) fun k h3 h4 => ?_
  rw [List.getElem_set]
  split
  · rename_i e; subst e; simp [h]
  · rfl
/-- The files with one written. -/
theorem wrote_files {fs : List Fil} {path content : ByteArray} (h : filesB false fs = true) (h1 : wordB path 3 = true) (h2 : content.size ≤ 6) (h3 : hasN (fs.map Fil.path) path = true ∨ fs.length ≠ 4) :
    filesB false (wroteF fs path content) = true ∧ hasN ((wroteF fs path content).map Fil.path) path = true ∧ ∀ f ∈ wroteF fs path content, f.path = path → f = ⟨path, content, true⟩ := by
  obtain ⟨k1, k2, k3⟩ := filesB_inv h
  have hfb : filB false ⟨path, content, true⟩ = true := by simp [filB, h1, h2]
  have huniq : ∀ {gs : List Fil}, Sorted (gs.map Fil.path) → (⟨path, content, true⟩ : Fil) ∈ gs → ∀ f ∈ gs, f.path = path → f = ⟨path, content, true⟩ := by
    intro gs hs hm f hf hp
    obtain ⟨i, hi, rfl⟩ := List.mem_iff_getElem.1 hf
    obtain ⟨j, hj, e⟩ := List.mem_iff_getElem.1 hm
    rcases Nat.lt_trichotomy i j with hh | hh | hh
    · have := (sorted_map hs i j hi hj hh).ne
      rw [e] at this; exact absurd hp this
    · subst hh; exact e
    · have := (sorted_map hs j i hj hi hh).ne
      rw [e] at this; exact absurd hp.symm this
  unfold wroteF
  cases hh : hasN (fs.map Fil.path) path with
  | true =>
    rw [if_pos rfl]
    obtain ⟨hp, he⟩ := posN_path k2 hh
    have hpaths := set_paths hp (f := ⟨path, content, true⟩) he.symm
    have hs : Sorted ((fs.set (posN (fs.map Fil.path) path) ⟨path, content, true⟩).map Fil.path) := by rw [hpaths]; exact k2
    refine ⟨filesB_of (fun f hf => ?_) hs (by simpa using k3), by rw [hpaths]; exact hh, huniq hs (List.mem_set hp _)⟩
    rcases List.mem_or_eq_of_mem_set hf with hf | rfl
    · exact k1 f hf
    · exact hfb
  | false =>
    rw [if_neg (by simp)]
    have hs := sorted_ins Fil.path (x := ⟨path, content, true⟩) k2 hh
    have hple := posN_le (fs.map Fil.path) path
    rw [List.length_map] at hple
    have hmem : (⟨path, content, true⟩ : Fil) ∈ insAt fs (posN (fs.map Fil.path) path) ⟨path, content, true⟩ := mem_insAt.2 (.inl rfl)
    refine ⟨filesB_of (fun f hf => ?_) hs ?_, (hasN_iff _ _).2 (List.mem_map.2 ⟨_, hmem, rfl⟩), huniq hs hmem⟩
    · rcases mem_insAt.1 hf with rfl | hf
      · exact hfb
      · exact k1 f hf
    · rw [insAt_len _ _ _ hple]
      rcases h3 with h3 | h3
      · rw [hh] at h3; cases h3
      · omega
theorem write_may {xs : List Inf} {name path content : ByteArray} (h : (writeS xs name path content).2 = 0) : mayB (writeS xs name path content).1 = true := by
  obtain ⟨i, hi, _, hm, h1, h2, h3, h4, h5, h6⟩ := write_inv h
  have hib := (mayB_all hm).1 _ (List.getElem_mem hi)
  have hfb := infB_files hib
  rw [h2] at hfb
  rw [h6]
  refine may_set hi hm (infB_with hib _ ?_) rfl rfl rfl
  rw [h2]
  exact (wrote_files hfb h3 h4 h5).1
theorem delete_may {xs : List Inf} {name path : ByteArray} (h : (deleteS xs name path).2 = 0) : mayB (deleteS xs name path).1 = true := by
  obtain ⟨i, hi, _, hm, h1, h2, h3, h4, h6⟩ := delete_inv h
  have hib := (mayB_all hm).1 _ (List.getElem_mem hi)
  have hfb := infB_files hib
  obtain ⟨k1, k2, k3⟩ := filesB_inv hfb
  rw [h6]
  refine may_set hi hm (infB_with hib _ (filesB_of (fun f hf => k1 f (mem_cut hf)) (sorted_cutG Fil.path k2 _) ?_)) rfl rfl rfl
  have hp := (posN_path k2 h4).1
  have := cut_len _ _ hp
  omega
/-- What may be is small. -/
theorem wordB_size {s : ByteArray} {m : Nat} (h : wordB s m = true) : s.size ≤ m := by
  simp only [wordB, Bool.and_eq_true, decide_eq_true_eq] at h
  exact h.2
theorem may_z {rs : List (Inf × Value)} (h : mayB (infs rs) = true) : FoZ rs ∧ FoW rs := by
  obtain ⟨h1, _, _, h4⟩ := mayB_all h
  rw [infs_length] at h4
  have h2 : ∀ p ∈ rs, p.1.name.size ≤ 4 ∧ p.1.files.length ≤ 4 ∧ ∀ f ∈ p.1.files, f.path.size ≤ 3 := fun p hp => by
    have hb := h1 p.1 (List.mem_map.2 ⟨p, hp, rfl⟩)
    obtain ⟨k1, _, k3⟩ := filesB_inv (infB_files hb)
    refine ⟨wordB_size (infB_name hb), k3, fun f hf => ?_⟩
    have := k1 f hf
    simp only [filB, Bool.and_eq_true] at this
    exact wordB_size this.1.1
  refine ⟨⟨by omega, fun p hp => ?_⟩, ⟨by omega, fun p hp => ?_⟩⟩
  · obtain ⟨a, b, c⟩ := h2 p hp
    exact ⟨⟨by omega, fun f hf => by have := c f hf; unfold FilZ; omega⟩, by omega⟩
  · obtain ⟨a, b, c⟩ := h2 p hp
    omega
end Go.AM
