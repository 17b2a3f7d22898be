import Derived.Test.YtbgidagbogpfkaaR7A
/- Contracts: searching in a forest, in files. -/
namespace Go.AM
open Go.Proofs
set_option linter.unusedVariables false
set_option linter.unusedSimpArgs false
set_option maxRecDepth 100000
attribute [-simp] ByteArray.size_eq_zero_iff
structure Fil where
  path : ByteArray
  content : ByteArray
  own : Bool
  deriving DecidableEq
structure Inf where
  name : ByteArray
  kind : Int
  parent : ByteArray
  label : ByteArray
  files : List Fil
  deriving DecidableEq
abbrev encF : Fil → List Value := fun x => [.string x.path, .string x.content, .bool x.own]
abbrev encP : Inf × Value → List Value := fun p => [.string p.1.name, .int .i64 p.1.kind, .string p.1.parent, .string p.1.label, p.2]
abbrev keyP : Inf × Value → ByteArray := fun p => p.1.name
theorem encF_len (x : Fil) : (encF x).length = 3 := rfl
theorem encP_len (x : Inf × Value) : (encP x).length = 5 := rfl
theorem Rows.row {α : Type} {enc : α → List Value} {sz : Nat} {H : Heap} {p : Option Addr} {n c : Nat} {xs : List α} (h : Rows enc sz H (.slice p n c) xs) (he : ∀ x, (enc x).length = sz) {i : Nat} (hi : i < xs.length) : ∃ b o, p = some ⟨b, o, none⟩ ∧ b < H.next ∧ H.row b (o + i * sz) sz = some (enc xs[i]) := by
  obtain ⟨_, b, o, h1, h2, h3⟩ := h.at_ hi
  exact ⟨b, o, h1, h2, row_of _ _ (he _) h3⟩
theorem Rows.at3 {α : Type} {enc : α → List Value} {H : Heap} {p : Option Addr} {n c : Nat} {xs : List α} (h : Rows enc 3 H (.slice p n c) xs) {i : Nat} (hi : i < xs.length) : ∃ b o, p = some ⟨b, o, none⟩ ∧ b < H.next ∧ H.cell b (o + i * 3) = (enc xs[i])[0]? ∧ H.cell b (o + i * 3 + 1) = (enc xs[i])[1]? ∧ H.cell b (o + i * 3 + 2) = (enc xs[i])[2]? := by
  obtain ⟨_, b, o, h1, h2, h3⟩ := h.at_ hi
  exact ⟨b, o, h1, h2, by simpa using h3 0 (by omega), h3 1 (by omega), h3 2 (by omega)⟩
theorem Rows.at5 {α : Type} {enc : α → List Value} {H : Heap} {p : Option Addr} {n c : Nat} {xs : List α} (h : Rows enc 5 H (.slice p n c) xs) {i : Nat} (hi : i < xs.length) : ∃ b o, p = some ⟨b, o, none⟩ ∧ b < H.next ∧ H.cell b (o + i * 5) = (enc xs[i])[0]? ∧ H.cell b (o + i * 5 + 1) = (enc xs[i])[1]? ∧ H.cell b (o + i * 5 + 2) = (enc xs[i])[2]? ∧ H.cell b (o + i * 5 + 3) = (enc xs[i])[3]? ∧ H.cell b (o + i * 5 + 4) = (enc xs[i])[4]? := by
  obtain ⟨_, b, o, h1, h2, h3⟩ := h.at_ hi
  exact ⟨b, o, h1, h2, by simpa using h3 0 (by omega), h3 1 (by omega), h3 2 (by omega), h3 3 (by omega), h3 4 (by omega)⟩
def Sorted (ns : List ByteArray) : Prop := ns.Pairwise Ls
instance (ns : List ByteArray) : Decidable (Sorted ns) := by unfold Sorted; infer_instance
def posN (ns : List ByteArray) (s : ByteArray) : Nat := (ns.takeWhile fun y => decide (Ls y s)).length
def hasN (ns : List ByteArray) (s : ByteArray) : Bool := ns.any fun y => decide (y = s)
theorem hasN_iff (ns : List ByteArray) (s : ByteArray) : hasN ns s = true ↔ s ∈ ns := by
  unfold hasN; rw [List.any_eq_true]
  exact ⟨fun ⟨x, h1, h2⟩ => by rw [← of_decide_eq_true h2]; exact h1, fun h => ⟨s, h, by simp⟩⟩
theorem hasN_no (ns : List ByteArray) (s : ByteArray) : hasN ns s = false ↔ ¬ s ∈ ns := by
  rw [← hasN_iff]; simp
theorem posN_eq {s : ByteArray} : ∀ {ns : List ByteArray} {i : Nat}, i ≤ ns.length → (∀ k (hk : k < ns.length), k < i → Ls ns[k] s) → (∀ k (hk : k < ns.length), i ≤ k → ¬ Ls ns[k] s) → posN ns s = i
  | [], i, h, _, _ => by simp at h; subst h; rfl
  | n :: ns, 0, _, _, h2 => by
    have := h2 0 (by simp) (Nat.le_refl _)
    simp at this
    simp [posN, this]
  | n :: ns, i + 1, h, h1, h2 => by
    have h0 := h1 0 (by simp) (by omega)
    simp at h0
    have := posN_eq (s := s) (ns := ns) (i := i) (by simpa using h) (fun k hk hki => h1 (k + 1) (by simpa using hk) (by omega)) (fun k hk hki => h2 (k + 1) (by simpa using hk) (by omega))
    simp only [posN] at this ⊢
    simp [h0, this]
theorem sorted_get {ns : List ByteArray} (h : Sorted ns) (i j : Nat) (hi : i < ns.length) (hj : j < ns.length) (hij : i < j) : Ls ns[i] ns[j] := List.pairwise_iff_getElem.1 h i j hi hj hij
theorem sorted_map {α : Type} {f : α → ByteArray} {xs : List α} (h : Sorted (xs.map f)) (i j : Nat) (hi : i < xs.length) (hj : j < xs.length) (hij : i < j) : Ls (f xs[i]) (f xs[j]) := by
  have := sorted_get h i j (by simpa using hi) (by simpa using hj) hij
  rw [List.getElem_map, List.getElem_map] at this
  exact this
theorem mem_pos {α : Type} {f : α → ByteArray} {xs : List α} {s : ByteArray} {i : Nat} (hs : Sorted (xs.map f)) (hi : i < xs.length) (hlo : ∀ k (hk : k < xs.length), k < i → Ls (f xs[k]) s) (hhi : ∀ k (hk : k < xs.length), i ≤ k → ¬ Ls (f xs[k]) s) : s ∈ xs.map f ↔ f xs[i] = s := by
  constructor
  · intro h
    obtain ⟨y, hy, e⟩ := List.mem_map.1 h
    obtain ⟨k, hk, rfl⟩ := List.mem_iff_getElem.1 hy
    rcases Nat.lt_trichotomy k i with h1 | h1 | h1
    · exact absurd (hlo k hk h1) (by rw [e]; exact Ls.irrefl _)
    · subst h1; exact e
    · have := sorted_map hs i k hi hk h1
      rw [e] at this
      exact absurd this (hhi i hi (Nat.le_refl _))
  · intro h; exact List.mem_map.2 ⟨xs[i], List.getElem_mem _, h⟩
/-! ### searching: Info -/
theorem clInfo_ok (x : Inf × Value) (s : ByteArray) (H : Heap) (h1 : x.2.oneCell' = true) : call K f_forest_At_1 [.agg (encP x).toArray, .string s] H = some (.int .i64 (cmpT (keyP x) s), H) := by
  refine of_wpf (open_pure rfl fc_forest_At_1 rfl (Nat.le_of_ble_eq_true rfl) ?_)
  simp [h1]
theorem bsInfo_ok (v : Value) (xs : List (Inf × Value)) (s : ByteArray) (H : Heap) (h : Rows encP 5 H v xs) (hs : Sorted (xs.map keyP)) (hn : xs.length ≤ 140737488355328) (h1 : ∀ x ∈ xs, x.2.oneCell' = true) :
    call K f_slices_BinarySearchFunc_Info_string [v, .string s, .func (.func f_forest_At_1) #[] #[]] H = some (.tuple #[.int .i64 (posN (xs.map keyP) s : Int), .bool (hasN (xs.map keyP) s)], H) := by
  obtain ⟨p, c, rfl⟩ := h.slice
  have hl := h.lim
  refine of_wpf (open_pure rfl fc_slices_BinarySearchFunc_Info_string rfl (Nat.le_of_ble_eq_true rfl) ?_)
  simp
  refine wp_nxt (wp_for (fun d e G => ∃ i j : Nat, d = j - i ∧ i ≤ j ∧ j ≤ xs.length ∧ G = H.roAll ∧ e 0 = .slice p xs.length c ∧ e 1 = .string s ∧ e 2 = .func (.func f_forest_At_1) #[] #[] ∧ e 8 = .int .i64 (xs.length : Int) ∧ e 9 = .int .i64 (i : Int) ∧ e 10 = .int .i64 (j : Int) ∧
    (∀ k (hk : k < xs.length), k < i → Ls (keyP xs[k]) s) ∧ (∀ k (hk : k < xs.length), j ≤ k → ¬ Ls (keyP xs[k]) s)) xs.length ⟨0, xs.length, by simp, by simp, by simp, by simp, by simp, by simp, by simp, by simp, by simp, by simp, by intro k hk h; omega, by intro k hk h; omega⟩ ?_)
  rintro d e G ⟨i, j, rfl, hij, hj, rfl, e0, e1, e2, e8, e9, e10, hlo, hhi⟩
  by_cases hlt : i < j
  · obtain ⟨m, hm⟩ : ∃ m, m = (i + j) / 2 := ⟨_, rfl⟩
    have hmi : i ≤ m ∧ m < j := by omega
    have hml : m < xs.length := by omega
    obtain ⟨b, o, rfl, hb, hrow⟩ := h.row (fun _ => rfl) hml
    have w1 : IntKind.i64.wrap ((i : Int) + (j : Int)) = (i : Int) + (j : Int) := by rw [wrap_i64] <;> omega
    have w2 : IntKind.u64.wrap ((i : Int) + (j : Int)) = (i : Int) + (j : Int) := by simp [IntKind.wrap, IntKind.bits, IntKind.signed]; omega
    have w3 : IntKind.i64.wrap (m : Int) = (m : Int) := by rw [wrap_i64] <;> omega
    have w4 := wrap_succ (i := m) (by omega)
    have hsh : binV K.P .shr 49 (.int .u64 ((i : Int) + (j : Int))) (.int .u64 1) = some (.int .u64 (m : Int)) := by
      have := binV_shr K.P 49 .u64 ((i : Int) + (j : Int)) .u64 1
      rw [show ((1 : Nat) : Int) = 1 from rfl] at this
      rw [this]
      congr 2
      rw [hm]
      simp [IntKind.bits, Int.fdiv_eq_ediv_of_nonneg]
    have hsort := sorted_map hs
    have hcl := fun G => clInfo_ok xs[m] s G (h1 xs[m] (List.getElem_mem _))
    generalize hx : xs[m] = x at hrow hcl
    by_cases hc : Ls (keyP x) s
    · have hc' : cmpT (keyP x) s < 0 := (cmpT_lt _ _).2 hc
      simp [-Heap.row, c_slices_BinarySearchFunc_Info_string_l8, e0, e1, e2, e8, e9, e10, hlt, w1, w2, hsh, w3, hml, hrow, hcl, hc']
      refine ⟨j - (m + 1), by omega, m + 1, j, rfl, by omega, hj, w4, rfl, fun k hk h => ?_, hhi⟩
      rcases Nat.lt_or_ge k m with h1 | h1
      · exact (hsort k m hk hml h1).trans (by rw [hx]; exact hc)
      · obtain rfl : k = m := by omega
        rw [hx]; exact hc
    · have hc' : ¬ cmpT (keyP x) s < 0 := fun h => hc ((cmpT_lt _ _).1 h)
      simp [-Heap.row, c_slices_BinarySearchFunc_Info_string_l8, e0, e1, e2, e8, e9, e10, hlt, w1, w2, hsh, w3, hml, hrow, hcl, hc']
      refine ⟨m - i, by omega, i, m, rfl, by omega, by omega, rfl, rfl, hlo, fun k hk h hk2 => ?_⟩
      rcases Nat.lt_or_ge m k with h1 | h1
      · exact hc (by have := (hsort m k hml hk h1).trans hk2; rw [hx] at this; exact this)
      · obtain rfl : k = m := by omega
        rw [hx] at hk2; exact hc hk2
  · obtain rfl : i = j := by omega
    have hpos : posN (xs.map keyP) s = i := posN_eq (by simpa using hj) (fun k hk h => by simpa using hlo k (by simpa using hk) h) (fun k hk h => by simpa using hhi k (by simpa using hk) h)
    by_cases hni : i < xs.length
    · obtain ⟨b, o, rfl, hb, hrow⟩ := h.row (fun _ => rfl) hni
      have hmem : (s ∈ xs.map keyP) ↔ keyP xs[i] = s := mem_pos hs hni hlo hhi
      have hcl := fun G => clInfo_ok xs[i] s G (h1 xs[i] (List.getElem_mem _))
      generalize hx : xs[i] = x at hrow hmem hcl
      by_cases hc : keyP x = s
      · have hc' : cmpT (keyP x) s = 0 := (cmpT_eq _ _).2 hc
        have hm := (hasN_iff _ _).2 (hmem.2 hc)
        simp [-Heap.row, c_slices_BinarySearchFunc_Info_string_l8, e0, e1, e2, e8, e9, e10, hni, hrow, hcl, hc', hpos, hm]
      · have hc' : ¬ cmpT (keyP x) s = 0 := fun h => hc ((cmpT_eq _ _).1 h)
        have hm : hasN (xs.map keyP) s = false := by rw [hasN_no]; exact fun h => hc (hmem.1 h)
        simp [-Heap.row, c_slices_BinarySearchFunc_Info_string_l8, e0, e1, e2, e8, e9, e10, hni, hrow, hcl, hc', hpos, hm]
    · have hm : hasN (xs.map keyP) s = false := by
        rw [hasN_no]
        intro h
        obtain ⟨y, hy, rfl⟩ := List.mem_map.1 h
        obtain ⟨k, hk, rfl⟩ := List.mem_iff_getElem.1 hy
        exact Ls.irrefl _ (hlo k hk (by omega))
      simp [-Heap.row, c_slices_BinarySearchFunc_Info_string_l8, e0, e1, e2, e8, e9, e10, hni, hpos, hm]
theorem atInfo_ok (v : Value) (xs : List (Inf × Value)) (s : ByteArray) (H : Heap) (h : Rows encP 5 H v xs) (hs : Sorted (xs.map keyP)) (hn : xs.length ≤ 140737488355328) (h1 : ∀ x ∈ xs, x.2.oneCell' = true) :
    call K f_forest_At [v, .string s] H = some (.tuple #[.int .i64 (posN (xs.map keyP) s : Int), .bool (hasN (xs.map keyP) s)], H) := by
  have h2 := bsInfo_ok v xs s H.roAll h.roAll hs hn h1
  refine of_wpf (open_pure rfl fc_forest_At rfl (Nat.le_of_ble_eq_true rfl) ?_)
  simp [h2]
/-! ### searching: File -/
theorem clFile_ok (x : Fil) (s : ByteArray) (H : Heap) (h1 : True) : call K f_forest_FileAt_1 [.agg (encF x).toArray, .string s] H = some (.int .i64 (cmpT (Fil.path x) s), H) := by
  refine of_wpf (open_pure rfl fc_forest_FileAt_1 rfl (Nat.le_of_ble_eq_true rfl) ?_)
  simp [h1]
theorem bsFile_ok (v : Value) (xs : List (Fil)) (s : ByteArray) (H : Heap) (h : Rows encF 3 H v xs) (hs : Sorted (xs.map Fil.path)) (hn : xs.length ≤ 140737488355328) (h1 : ∀ x ∈ xs, True) :
    call K f_slices_BinarySearchFunc_File_string [v, .string s, .func (.func f_forest_FileAt_1) #[] #[]] H = some (.tuple #[.int .i64 (posN (xs.map Fil.path) s : Int), .bool (hasN (xs.map Fil.path) s)], H) := by
  obtain ⟨p, c, rfl⟩ := h.slice
  have hl := h.lim
  refine of_wpf (open_pure rfl fc_slices_BinarySearchFunc_File_string rfl (Nat.le_of_ble_eq_true rfl) ?_)
  simp
  refine wp_nxt (wp_for (fun d e G => ∃ i j : Nat, d = j - i ∧ i ≤ j ∧ j ≤ xs.length ∧ G = H.roAll ∧ e 0 = .slice p xs.length c ∧ e 1 = .string s ∧ e 2 = .func (.func f_forest_FileAt_1) #[] #[] ∧ e 8 = .int .i64 (xs.length : Int) ∧ e 9 = .int .i64 (i : Int) ∧ e 10 = .int .i64 (j : Int) ∧
    (∀ k (hk : k < xs.length), k < i → Ls (Fil.path xs[k]) s) ∧ (∀ k (hk : k < xs.length), j ≤ k → ¬ Ls (Fil.path xs[k]) s)) xs.length ⟨0, xs.length, by simp, by simp, by simp, by simp, by simp, by simp, by simp, by simp, by simp, by simp, by intro k hk h; omega, by intro k hk h; omega⟩ ?_)
  rintro d e G ⟨i, j, rfl, hij, hj, rfl, e0, e1, e2, e8, e9, e10, hlo, hhi⟩
  by_cases hlt : i < j
  · obtain ⟨m, hm⟩ : ∃ m, m = (i + j) / 2 := ⟨_, rfl⟩
    have hmi : i ≤ m ∧ m < j := by omega
    have hml : m < xs.length := by omega
    obtain ⟨b, o, rfl, hb, hrow⟩ := h.row (fun _ => rfl) hml
    have w1 : IntKind.i64.wrap ((i : Int) + (j : Int)) = (i : Int) + (j : Int) := by rw [wrap_i64] <;> omega
    have w2 : IntKind.u64.wrap ((i : Int) + (j : Int)) = (i : Int) + (j : Int) := by simp [IntKind.wrap, IntKind.bits, IntKind.signed]; omega
    have w3 : IntKind.i64.wrap (m : Int) = (m : Int) := by rw [wrap_i64] <;> omega
    have w4 := wrap_succ (i := m) (by omega)
    have hsh : binV K.P .shr 49 (.int .u64 ((i : Int) + (j : Int))) (.int .u64 1) = some (.int .u64 (m : Int)) := by
      have := binV_shr K.P 49 .u64 ((i : Int) + (j : Int)) .u64 1
      rw [show ((1 : Nat) : Int) = 1 from rfl] at this
      rw [this]
      congr 2
      rw [hm]
      simp [IntKind.bits, Int.fdiv_eq_ediv_of_nonneg]
    have hsort := sorted_map hs
    have hcl := fun G => clFile_ok xs[m] s G (h1 xs[m] (List.getElem_mem _))
    generalize hx : xs[m] = x at hrow hcl
    by_cases hc : Ls (Fil.path x) s
    · have hc' : cmpT (Fil.path x) s < 0 := (cmpT_lt _ _).2 hc
      simp [-Heap.row, c_slices_BinarySearchFunc_File_string_l8, e0, e1, e2, e8, e9, e10, hlt, w1, w2, hsh, w3, hml, hrow, hcl, hc']
      refine ⟨j - (m + 1), by omega, m + 1, j, rfl, by omega, hj, w4, rfl, fun k hk h => ?_, hhi⟩
      rcases Nat.lt_or_ge k m with h1 | h1
      · exact (hsort k m hk hml h1).trans (by rw [hx]; exact hc)
      · obtain rfl : k = m := by omega
        rw [hx]; exact hc
    · have hc' : ¬ cmpT (Fil.path x) s < 0 := fun h => hc ((cmpT_lt _ _).1 h)
      simp [-Heap.row, c_slices_BinarySearchFunc_File_string_l8, e0, e1, e2, e8, e9, e10, hlt, w1, w2, hsh, w3, hml, hrow, hcl, hc']
      refine ⟨m - i, by omega, i, m, rfl, by omega, by omega, rfl, rfl, hlo, fun k hk h hk2 => ?_⟩
      rcases Nat.lt_or_ge m k with h1 | h1
      · exact hc (by have := (hsort m k hml hk h1).trans hk2; rw [hx] at this; exact this)
      · obtain rfl : k = m := by omega
        rw [hx] at hk2; exact hc hk2
  · obtain rfl : i = j := by omega
    have hpos : posN (xs.map Fil.path) s = i := posN_eq (by simpa using hj) (fun k hk h => by simpa using hlo k (by simpa using hk) h) (fun k hk h => by simpa using hhi k (by simpa using hk) h)
    by_cases hni : i < xs.length
    · obtain ⟨b, o, rfl, hb, hrow⟩ := h.row (fun _ => rfl) hni
      have hmem : (s ∈ xs.map Fil.path) ↔ Fil.path xs[i] = s := mem_pos hs hni hlo hhi
      have hcl := fun G => clFile_ok xs[i] s G (h1 xs[i] (List.getElem_mem _))
      generalize hx : xs[i] = x at hrow hmem hcl
      by_cases hc : Fil.path x = s
      · have hc' : cmpT (Fil.path x) s = 0 := (cmpT_eq _ _).2 hc
        have hm := (hasN_iff _ _).2 (hmem.2 hc)
        simp [-Heap.row, c_slices_BinarySearchFunc_File_string_l8, e0, e1, e2, e8, e9, e10, hni, hrow, hcl, hc', hpos, hm]
      · have hc' : ¬ cmpT (Fil.path x) s = 0 := fun h => hc ((cmpT_eq _ _).1 h)
        have hm : hasN (xs.map Fil.path) s = false := by rw [hasN_no]; exact fun h => hc (hmem.1 h)
        simp [-Heap.row, c_slices_BinarySearchFunc_File_string_l8, e0, e1, e2, e8, e9, e10, hni, hrow, hcl, hc', hpos, hm]
    · have hm : hasN (xs.map Fil.path) s = false := by
        rw [hasN_no]
        intro h
        obtain ⟨y, hy, rfl⟩ := List.mem_map.1 h
        obtain ⟨k, hk, rfl⟩ := List.mem_iff_getElem.1 hy
        exact Ls.irrefl _ (hlo k hk (by omega))
      simp [-Heap.row, c_slices_BinarySearchFunc_File_string_l8, e0, e1, e2, e8, e9, e10, hni, hpos, hm]
theorem atFile_ok (v : Value) (xs : List (Fil)) (s : ByteArray) (H : Heap) (h : Rows encF 3 H v xs) (hs : Sorted (xs.map Fil.path)) (hn : xs.length ≤ 140737488355328) (h1 : ∀ x ∈ xs, True) :
    call K f_forest_FileAt [v, .string s] H = some (.tuple #[.int .i64 (posN (xs.map Fil.path) s : Int), .bool (hasN (xs.map Fil.path) s)], H) := by
  have h2 := bsFile_ok v xs s H.roAll h.roAll hs hn h1
  refine of_wpf (open_pure rfl fc_forest_FileAt rfl (Nat.le_of_ble_eq_true rfl) ?_)
  simp [h2]
end Go.AM
