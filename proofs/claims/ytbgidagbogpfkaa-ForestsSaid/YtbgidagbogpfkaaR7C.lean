import Derived.Test.YtbgidagbogpfkaaR7B
/- Contracts: what may be. -/
namespace Go.AM
open Go.Proofs
set_option linter.unusedVariables false
set_option linter.unusedSimpArgs false
set_option maxRecDepth 100000
attribute [-simp] ByteArray.size_eq_zero_iff
/-! ### the first place of a key -/
def idxN : List ByteArray → ByteArray → Option Nat
  | [], _ => none
  | n :: ns, s => if n = s then some 0 else (idxN ns s).map (· + 1)
def atI (ns : List ByteArray) (s : ByteArray) : Int := match idxN ns s with | some k => (k : Int) | none => -1
theorem idx_some {s : ByteArray} : ∀ {ns : List ByteArray} {i : Nat} (hi : i < ns.length), (∀ k (hk : k < ns.length), k < i → ns[k] ≠ s) → ns[i] = s → idxN ns s = some i
  | [], i, h, _, _ => by simp at h
  | n :: ns, 0, _, _, h2 => by
    have : n = s := h2
    simp [idxN, this]
  | n :: ns, i + 1, h, h1, h2 => by
    have h0 : n ≠ s := h1 0 (by simp) (by omega)
    have := idx_some (s := s) (ns := ns) (i := i) (by simpa using h) (fun k hk hki => h1 (k + 1) (by simpa using hk) (by omega)) h2
    simp [idxN, h0, this]
theorem idx_none {s : ByteArray} : ∀ {ns : List ByteArray}, (∀ k (hk : k < ns.length), ns[k] ≠ s) → idxN ns s = none
  | [], _ => rfl
  | n :: ns, h => by
    have h0 : n ≠ s := h 0 (by simp)
    have := idx_none (s := s) (ns := ns) (fun k hk => h (k + 1) (by simpa using hk))
    simp [idxN, h0, this]
theorem idx_inv {s : ByteArray} : ∀ {ns : List ByteArray} {i : Nat}, idxN ns s = some i → ∃ hi : i < ns.length, ns[i] = s ∧ ∀ k (hk : k < ns.length), k < i → ns[k] ≠ s
  | [], i, h => by simp [idxN] at h
  | n :: ns, i, h => by
    simp only [idxN] at h
    split at h
    · rename_i e; cases h
      exact ⟨by simp, e, fun k hk h => by omega⟩
    · rename_i e
      cases hx : idxN ns s with
      | none => rw [hx] at h; cases h
      | some j =>
        rw [hx] at h; cases h
        obtain ⟨h1, h2, h3⟩ := idx_inv hx
        refine ⟨by simp; omega, h2, fun k hk hki => ?_⟩
        have hki' : k < j + 1 := hki
        cases k with
        | zero => exact e
        | succ k => exact h3 k (by simpa using hk) (by omega)
theorem idx_mem {s : ByteArray} {ns : List ByteArray} : (idxN ns s).isSome = hasN ns s := by
  cases h : idxN ns s with
  | some i =>
    obtain ⟨h1, h2, _⟩ := idx_inv h
    exact ((hasN_iff _ _).2 (by rw [← h2]; exact List.getElem_mem _)).symm
  | none =>
    refine ((hasN_no _ _).2 fun hm => ?_).symm
    obtain ⟨k, hk, e⟩ := List.mem_iff_getElem.1 hm
    -- the first one
    have : ∀ ns : List ByteArray, s ∈ ns → idxN ns s ≠ none := by
      intro ns
      induction ns with
      | nil => intro h; cases h
      | cons n ns ih =>
        intro h
        simp only [idxN]
        by_cases e : n = s
        · simp [e]
        · rcases List.mem_cons.1 h with h | h
          · exact absurd h.symm e
          · simp [e]; exact ih h
    exact this ns hm h
theorem idx_sorted {ns : List ByteArray} {s : ByteArray} (hs : Sorted ns) (h : hasN ns s = true) : posN ns s < ns.length ∧ idxN ns s = some (posN ns s) := by
  obtain ⟨k, hk, e⟩ := List.mem_iff_getElem.1 ((hasN_iff _ _).1 h)
  have hp : posN ns s = k := posN_eq (Nat.le_of_lt hk) (fun j hj hjk => by rw [← e]; exact sorted_get hs j k hj hk hjk) fun j hj hkj => by
    rcases Nat.lt_or_ge k j with h1 | h1
    · have := sorted_get hs k j hk hj h1
      rw [e] at this; exact this.asymm
    · obtain rfl : j = k := by omega
      rw [e]; exact Ls.irrefl _
  rw [hp]
  exact ⟨hk, idx_some hk (fun j hj hjk => (by have := sorted_get hs j k hj hk hjk; rw [e] at this; exact this.ne)) e⟩
/-! ### rows of elements, each of which may be, one behind the other -/
def rowB {α : Type} (ok : α → Bool) (key : α → ByteArray) (xs : List α) (i : Nat) : Bool :=
  match xs[i]? with
  | some x => ok x && (match i with | 0 => true | j + 1 => (match xs[j]? with | some y => decide (Ls (key y) (key x)) | none => false))
  | none => true
def rowsB {α : Type} (ok : α → Bool) (key : α → ByteArray) (xs : List α) (n : Nat) : Bool := (List.range n).all (rowB ok key xs)
theorem rowsB_succ {α : Type} (ok : α → Bool) (key : α → ByteArray) (xs : List α) (n : Nat) : rowsB ok key xs (n + 1) = (rowsB ok key xs n && rowB ok key xs n) := by
  unfold rowsB; rw [List.range_succ, List.all_append]; simp
theorem rowsB_no {α : Type} {ok : α → Bool} {key : α → ByteArray} {xs : List α} {n m : Nat} (h : rowsB ok key xs n = false) (hm : n ≤ m) : rowsB ok key xs m = false := by
  induction m with
  | zero => obtain rfl : n = 0 := by omega
            exact h
  | succ m ih =>
    by_cases e : n = m + 1
    · subst e; exact h
    · rw [rowsB_succ, ih (by omega)]; rfl
theorem rowsB_ok {α : Type} {ok : α → Bool} {key : α → ByteArray} {xs : List α} (h : rowsB ok key xs xs.length = true) : xs.all ok = true ∧ Sorted (xs.map key) := by
  have h1 : ∀ i, (hi : i < xs.length) → rowB ok key xs i = true := fun i hi => List.all_eq_true.1 h i (List.mem_range.2 hi)
  have step : ∀ i, (hi : i + 1 < xs.length) → Ls (key xs[i]) (key xs[i + 1]) := fun i hi => by
    have := h1 (i + 1) hi
    simp only [rowB, List.getElem?_eq_getElem hi, List.getElem?_eq_getElem (show i < xs.length by omega), Bool.and_eq_true, decide_eq_true_eq] at this
    exact this.2
  refine ⟨List.all_eq_true.2 fun x hx => ?_, List.pairwise_iff_getElem.2 fun i j hi hj hij => ?_⟩
  · obtain ⟨i, hi, rfl⟩ := List.mem_iff_getElem.1 hx
    have := h1 i hi
    simp only [rowB, List.getElem?_eq_getElem hi, Bool.and_eq_true] at this
    exact this.1
  · rw [List.getElem_map, List.getElem_map]
    simp only [List.length_map] at hi hj
    have : ∀ d, (hd : i + d + 1 < xs.length) → Ls (key xs[i]) (key xs[i + d + 1]) := by
      intro d
      induction d with
      | zero => intro hd; exact step i hd
      | succ d ih => intro hd; exact (ih (by omega)).trans (step (i + d + 1) hd)
    have := this (j - i - 1) (by omega)
    simpa [show i + (j - i - 1) + 1 = j by omega] using this
theorem rowsB_of {α : Type} {ok : α → Bool} {key : α → ByteArray} {xs : List α} (h1 : xs.all ok = true) (h2 : Sorted (xs.map key)) : rowsB ok key xs xs.length = true := by
  refine List.all_eq_true.2 fun i hi => ?_
  have hi := List.mem_range.1 hi
  simp only [rowB, List.getElem?_eq_getElem hi, Bool.and_eq_true]
  refine ⟨List.all_eq_true.1 h1 _ (List.getElem_mem _), ?_⟩
  cases i with
  | zero => rfl
  | succ j =>
    simp only [List.getElem?_eq_getElem (show j < xs.length by omega), decide_eq_true_eq]
    exact sorted_map h2 j (j + 1) (by omega) hi (by omega)
theorem rowB_zero {α : Type} (ok : α → Bool) (key : α → ByteArray) {xs : List α} (h : 0 < xs.length) : rowB ok key xs 0 = ok xs[0] := by
  simp [rowB, List.getElem?_eq_getElem h]
theorem rowB_succ {α : Type} (ok : α → Bool) (key : α → ByteArray) {xs : List α} {i : Nat} (h : i + 1 < xs.length) : rowB ok key xs (i + 1) = (ok xs[i + 1] && decide (Ls (key xs[i]) (key xs[i + 1]))) := by
  simp [rowB, List.getElem?_eq_getElem h, List.getElem?_eq_getElem (show i < xs.length by omega)]
/-! ### what may be -/
def filB (view : Bool) (x : Fil) : Bool := wordB x.path 3 && decide (x.content.size ≤ 6) && !(view && x.own)
def filesB (view : Bool) (fs : List Fil) : Bool := rowsB (filB view) Fil.path fs fs.length && decide (fs.length ≤ 4)
def infB (x : Inf) : Bool := wordB x.name 4 && decide (0 ≤ x.kind ∧ x.kind ≤ 2) && decide (x.label.size ≤ 3) && filesB (decide (x.kind = 1)) x.files
def rootB (xs : List Inf) : Nat → ByteArray → Bool
  | 0, _ => false
  | f + 1, p => if p = ⟨#[]⟩ then true else match idxN (xs.map Inf.name) p with
    | some k => (match xs[k]? with | some y => decide (y.kind = 2) && rootB xs f y.parent | none => false)
    | none => false
def mayB (xs : List Inf) : Bool := rowsB infB Inf.name xs xs.length && xs.all (fun x => rootB xs xs.length x.parent) && decide (xs.length ≤ 6)
/-- Texts that are no longer than a memory bears. -/
def FilZ (x : Fil) : Prop := x.path.size ≤ 140737488355328
def InfZ (x : Inf) : Prop := x.name.size ≤ 140737488355328 ∧ ∀ f ∈ x.files, FilZ f
abbrev Fils := Rows encF 3
theorem files_ok (v : Value) (fs : List Fil) (view : Bool) (H : Heap) (h : Fils H v fs) (hz : ∀ f ∈ fs, FilZ f) (hl : fs.length ≤ 140737488355328) : call K f_forest_files [v, .bool view] H = some (.bool (filesB view fs), H) := by
  obtain ⟨p, c, rfl⟩ := h.slice
  refine of_wpf (open_pure rfl fc_forest_files rfl (Nat.le_of_ble_eq_true rfl) ?_)
  simp
  refine wp_nxt (wp_for (fun d e G => ∃ i : Nat, d = fs.length - i ∧ i ≤ fs.length ∧ Ext H.roAll G ∧ e 0 = .slice p fs.length c ∧ e 1 = .bool view ∧ e 7 = .slice p fs.length c ∧ e 8 = .int .i64 (fs.length : Int) ∧ e 9 = .int .i64 (i : Int) ∧ rowsB (filB view) Fil.path fs i = true) fs.length ⟨0, by simp [rowsB, Ext.refl]⟩ ?_)
  rintro d e G ⟨i, rfl, hi, hE, e0, e1, e7, e8, e9, hc⟩
  by_cases hlt : i < fs.length
  · have hr := (h.roAll.ext hE)
    obtain ⟨b, o, rfl, hb, k0, k1, k2⟩ := hr.at3 hlt
    have hbn : b ≠ G.next := by omega
    have w1 := wrap_succ (i := i) (by omega)
    have hs := rowsB_succ (filB view) Fil.path fs i
    rw [hc, Bool.true_and] at hs
    have bad : rowB (filB view) Fil.path fs i = false → filesB view fs = false := fun hb => by
      unfold filesB
      rw [rowsB_no (n := i + 1) (by rw [hs, hb]) (by omega)]; rfl
    have good : rowB (filB view) Fil.path fs i = true → ∀ G' : Heap, Ext H.roAll G' → ∃ d', d' < fs.length - i ∧ ∃ j : Nat, d' = fs.length - j ∧ j ≤ fs.length ∧ Ext H.roAll G' ∧ IntKind.i64.wrap ((i : Int) + 1) = (j : Int) ∧ rowsB (filB view) Fil.path fs j = true :=
      fun hb G' hG => ⟨fs.length - (i + 1), by omega, i + 1, rfl, by omega, hG, w1, by rw [hs, hb]⟩
    have hp := fun G => isPath_ok fs[i].path G (hz _ (List.getElem_mem _))
    have hq : rowB (filB view) Fil.path fs i = (filB view fs[i] && (i == 0 || decide (Ls (fs[i - 1]'(by omega)).path fs[i].path))) := by
      cases i with
      | zero => rw [rowB_zero _ _ hlt]; simp
      | succ j => rw [rowB_succ _ _ hlt]; simp
    rw [hq] at bad good
    have hprev : ∀ j, i = j + 1 → G.cell b (o + j * 3) = some (.string (fs[i - 1]'(by omega)).path) := by
      rintro j rfl
      obtain ⟨b', o', e, _, m0, _⟩ := hr.at3 (i := j) (by omega)
      cases e
      exact m0
    generalize fs[i] = x at k0 k1 k2 hp bad good
    generalize fs[i - 1]'(by omega) = y at bad good hprev
    simp at k0 k1 k2
    by_cases c1 : wordB x.path 3 = true
    case neg =>
      have c1' : wordB x.path 3 = false := by simpa using c1
      have hf := bad (by simp [filB, c1'])
      simp [c_forest_files_l7, e0, e1, e7, e8, e9, hlt, k0, k1, k2, hp, c1', hf, hbn, cell_add_old hb]
    by_cases c2 : x.content.size ≤ 6
    case neg =>
      have hf := bad (by simp [filB, c2])
      simp [c_forest_files_l7, e0, e1, e7, e8, e9, hlt, k0, k1, k2, hp, c1, c2, hf, hbn, cell_add_old hb]
    by_cases c3 : view = true ∧ x.own = true
    case pos =>
      have hf := bad (by simp [filB, c3])
      obtain ⟨rfl, c4⟩ := c3
      simp [c_forest_files_l7, e0, e1, e7, e8, e9, hlt, k0, k1, k2, hp, c1, c2, c4, hf, hbn, cell_add_old hb]
    have hx : view = false ∨ (view = true ∧ x.own = false) := by cases view <;> cases hxo : x.own <;> simp_all
    rcases Nat.eq_zero_or_pos i with hi0 | hi0
    · subst hi0
      have hg := good (by rcases hx with rfl | ⟨rfl, h⟩ <;> simp [filB, c1, c2, *])
      simp at k0 k1 k2
      simp only [Nat.sub_zero, Nat.zero_add, Int.natCast_zero, Int.ofNat_zero, Int.zero_add] at hg
      rcases hx with rfl | ⟨rfl, hxo⟩
      · simp [c_forest_files_l7, e0, e1, e7, e8, e9, hlt, k0, k1, k2, hp, c1, c2, hbn, cell_add_old hb]
        exact hg _ ((hE.add _).set hE.next _)
      · simp [c_forest_files_l7, e0, e1, e7, e8, e9, hlt, k0, k1, k2, hp, c1, c2, hxo, hbn, cell_add_old hb]
        exact hg _ ((hE.add _).set hE.next _)
    · obtain ⟨j, hj⟩ : ∃ j, i = j + 1 := ⟨i - 1, by omega⟩
      have hpc := hprev j hj
      have w2 : IntKind.i64.wrap ((i : Int) - 1) = (j : Int) := by rw [wrap_i64] <;> omega
      have hjl : j < fs.length := by omega
      have hi1 : (0 : Int) < (i : Int) := by omega
      have hne0 : (i == 0) = false := by simp; omega
      by_cases c5 : Ls y.path x.path
      · have hg := good (by rcases hx with rfl | ⟨rfl, h⟩ <;> simp [filB, c1, c2, c5, *])
        rcases hx with rfl | ⟨rfl, hxo⟩
        · simp [c_forest_files_l7, e0, e1, e7, e8, e9, hlt, k0, k1, k2, hp, c1, c2, hbn, cell_add_old hb, w2, hjl, hi0, hi1, hpc, bLess_ls, c5]
          exact hg _ ((hE.add _).set hE.next _)
        · simp [c_forest_files_l7, e0, e1, e7, e8, e9, hlt, k0, k1, k2, hp, c1, c2, hxo, hbn, cell_add_old hb, w2, hjl, hi0, hi1, hpc, bLess_ls, c5]
          exact hg _ ((hE.add _).set hE.next _)
      · have hf := bad (by simp [filB, c5, hne0])
        rcases hx with rfl | ⟨rfl, hxo⟩
        · simp [c_forest_files_l7, e0, e1, e7, e8, e9, hlt, k0, k1, k2, hp, c1, c2, hbn, cell_add_old hb, w2, hjl, hi0, hi1, hpc, bLess_ls, c5, hf]
        · simp [c_forest_files_l7, e0, e1, e7, e8, e9, hlt, k0, k1, k2, hp, c1, c2, hxo, hbn, cell_add_old hb, w2, hjl, hi0, hi1, hpc, bLess_ls, c5, hf]
  · obtain rfl : i = fs.length := by omega
    simp [c_forest_files_l7, e0, e1, e7, e8, e9, filesB, hc]
    omega
end Go.AM
