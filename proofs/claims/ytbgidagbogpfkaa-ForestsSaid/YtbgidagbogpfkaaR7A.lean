import Derived.Test.YtbgidagbogpfkaaR7K0
/- Contracts: words, kinds, searching. -/
namespace Go.AM
open Go.Proofs
set_option linter.unusedVariables false
set_option linter.unusedSimpArgs false
set_option maxRecDepth 100000
attribute [-simp] ByteArray.size_eq_zero_iff
def okc (c : Int) : Bool := decide ((97 ≤ c ∧ c ≤ 122) ∨ (48 ≤ c ∧ c ≤ 57))
def chars (s : ByteArray) (n : Nat) : Bool := (List.range n).all fun i => okc (bt s (i : Int))
def wordB (s : ByteArray) (m : Nat) : Bool := chars s s.size && decide (1 ≤ s.size) && decide (s.size ≤ m)
theorem chars_succ (s : ByteArray) (n : Nat) : chars s (n + 1) = (chars s n && okc (bt s (n : Int))) := by
  unfold chars; rw [List.range_succ, List.all_append]; simp
theorem chars_mono {s : ByteArray} {n m : Nat} (h : chars s n = false) (hm : n ≤ m) : chars s m = false := by
  induction m with
  | zero => obtain rfl : n = 0 := by omega
            exact h
  | succ m ih =>
    by_cases e : n = m + 1
    · subst e; exact h
    · rw [chars_succ, ih (by omega)]; rfl
theorem word_ok (s : ByteArray) (m : Nat) (H : Heap) (hs : s.size ≤ 140737488355328) (hm : m ≤ 100) : call K f_key_word [.string s, .int .i64 (m : Int)] H = some (.bool (wordB s m), H) := by
  refine of_wpf (open_pure rfl fc_key_word rfl (Nat.le_of_ble_eq_true rfl) ?_)
  simp
  refine wp_nxt (wp_for (fun d e G => ∃ i : Nat, d = s.size - i ∧ i ≤ s.size ∧ G = H.roAll ∧ e 0 = .string s ∧ e 1 = .int .i64 (m : Int) ∧ e 8 = .int .i64 (s.size : Int) ∧ e 9 = .int .i64 (i : Int) ∧ chars s i = true) s.size ⟨0, by simp [chars]⟩ ?_)
  rintro d e G ⟨i, rfl, hi, rfl, e0, e1, e8, e9, hc⟩
  by_cases hlt : i < s.size
  · have w1 := wrap_succ (i := i) (by omega)
    have hb := chars_succ s i
    rw [hc, Bool.true_and] at hb
    have good : okc (bt s (i : Int)) = true → chars s (i + 1) = true := fun h => hb.trans h
    have bad : okc (bt s (i : Int)) = false → wordB s m = false := fun h => by
      have : chars s s.size = false := chars_mono (n := i + 1) (by rw [hb, h]) (by omega)
      unfold wordB; rw [this]; rfl
    generalize hbt : bt s (i : Int) = b at *
    have next : ∀ (e1 : Env), okc b = true → ∃ d', d' < s.size - i ∧ ∃ j : Nat, d' = s.size - j ∧ j ≤ s.size ∧ IntKind.i64.wrap ((i : Int) + 1) = (j : Int) ∧ chars s j = true := fun e1 h => ⟨s.size - (i + 1), by omega, i + 1, rfl, by omega, w1, good h⟩
    by_cases c1 : b < 97
    · by_cases c2 : b < 48
      · have hf := bad (by unfold okc; simp; omega)
        simp [c_key_word_l8, e0, e1, e8, e9, hlt, hbt, c1, c2, hf]
      · by_cases c3 : 57 < b
        · have hf := bad (by unfold okc; simp; omega)
          simp [c_key_word_l8, e0, e1, e8, e9, hlt, hbt, c1, c2, c3, hf]
        · have ho : okc b = true := by unfold okc; simp; omega
          simp [c_key_word_l8, e0, e1, e8, e9, hlt, hbt, c1, c2, c3]
          exact next e ho
    · by_cases c4 : 122 < b
      · have c2 : ¬ b < 48 := by omega
        have c3 : 57 < b := by omega
        have hf := bad (by unfold okc; simp; omega)
        simp [c_key_word_l8, e0, e1, e8, e9, hlt, hbt, c1, c2, c3, c4, hf]
      · have ho : okc b = true := by unfold okc; simp; omega
        simp [c_key_word_l8, e0, e1, e8, e9, hlt, hbt, c1, c4]
        exact next e ho
  · obtain rfl : i = s.size := by omega
    by_cases h0 : s = ⟨#[]⟩
    · subst h0
      have z : (⟨#[]⟩ : ByteArray).size = 0 := rfl
      simp [c_key_word_l8, e0, e1, e8, e9, wordB, z]
    · have h1 : 1 ≤ s.size := by
        rcases Nat.eq_zero_or_pos s.size with h | h
        · exact absurd (L_inj (List.eq_nil_of_length_eq_zero (by rw [L_length]; exact h))) h0
        · exact h
      by_cases h2 : s.size ≤ m
      · simp [c_key_word_l8, e0, e1, e8, e9, h0, h1, h2, wordB, hc]
      · simp [c_key_word_l8, e0, e1, e8, e9, h0, h1, h2, wordB, hc]
theorem isName_ok (s : ByteArray) (H : Heap) (hs : s.size ≤ 140737488355328) : call K f_key_IsName [.string s] H = some (.bool (wordB s 4), H) := by
  have h1 : ∀ G, call K f_key_word [.string s, .int .i64 4] G = some (.bool (wordB s 4), G) := fun G => word_ok s 4 G hs (by omega)
  refine of_wpf (open_pure rfl fc_key_IsName rfl (Nat.le_of_ble_eq_true rfl) ?_)
  simp [h1]
theorem isPath_ok (s : ByteArray) (H : Heap) (hs : s.size ≤ 140737488355328) : call K f_key_IsPath [.string s] H = some (.bool (wordB s 3), H) := by
  have h1 : ∀ G, call K f_key_word [.string s, .int .i64 3] G = some (.bool (wordB s 3), G) := fun G => word_ok s 3 G hs (by omega)
  refine of_wpf (open_pure rfl fc_key_IsPath rfl (Nat.le_of_ble_eq_true rfl) ?_)
  simp [h1]
@[simp] theorem kind_ok (k : Int) (H : Heap) : call K f_snap_Kind [.int .i64 k] H = some (.bool (decide (0 ≤ k ∧ k ≤ 2)), H) := by
  refine of_wpf (open_pure rfl fc_snap_Kind rfl (Nat.le_of_ble_eq_true rfl) ?_)
  by_cases h : 0 ≤ k <;> simp [h]
@[simp] theorem label_ok (s : ByteArray) (H : Heap) : call K f_snap_Label [.string s] H = some (.bool (decide (s.size ≤ 3)), H) := by
  refine of_wpf (open_pure rfl fc_snap_Label rfl (Nat.le_of_ble_eq_true rfl) ?_)
  simp
  omega
@[simp] theorem content_ok (s : ByteArray) (H : Heap) : call K f_inode_Content [.string s] H = some (.bool (decide (s.size ≤ 6)), H) := by
  refine of_wpf (open_pure rfl fc_inode_Content rfl (Nat.le_of_ble_eq_true rfl) ?_)
  simp
  omega
@[simp] theorem num_ok (x : Int) (H : Heap) : call K f_law0_Num [.int .i64 x] H = some (.int .i64 x, H) := by
  refine of_wpf (open_pure rfl fc_law0_Num rfl (Nat.le_of_ble_eq_true rfl) ?_)
  simp
theorem rword_ok (s : ByteArray) (m : Nat) (H : Heap) (hs : s.size ≤ 140737488355328) (hm : m ≤ 100) : call K f_ref16_word [.string s, .int .i64 (m : Int)] H = some (.bool (wordB s m), H) := by
  refine of_wpf (open_pure rfl fc_ref16_word rfl (Nat.le_of_ble_eq_true rfl) ?_)
  simp
  refine wp_nxt (wp_for (fun d e G => ∃ i : Nat, d = s.size - i ∧ i ≤ s.size ∧ G = H.roAll ∧ e 0 = .string s ∧ e 1 = .int .i64 (m : Int) ∧ e 5 = .int .i64 (i : Int) ∧ chars s i = true) s.size ⟨0, by simp [chars]⟩ ?_)
  rintro d e G ⟨i, rfl, hi, rfl, e0, e1, e5, hc⟩
  by_cases hlt : i < s.size
  · have w1 := wrap_succ (i := i) (by omega)
    have hb := chars_succ s i
    rw [hc, Bool.true_and] at hb
    have good : okc (bt s (i : Int)) = true → chars s (i + 1) = true := fun h => hb.trans h
    have bad : okc (bt s (i : Int)) = false → wordB s m = false := fun h => by
      have : chars s s.size = false := chars_mono (n := i + 1) (by rw [hb, h]) (by omega)
      unfold wordB; rw [this]; rfl
    generalize hbt : bt s (i : Int) = b at *
    have next : ∀ (e1 : Env), okc b = true → ∃ d', d' < s.size - i ∧ ∃ j : Nat, d' = s.size - j ∧ j ≤ s.size ∧ IntKind.i64.wrap ((i : Int) + 1) = (j : Int) ∧ chars s j = true := fun e1 h => ⟨s.size - (i + 1), by omega, i + 1, rfl, by omega, w1, good h⟩
    by_cases c1 : 97 ≤ b
    · by_cases c2 : b ≤ 122
      · have ho : okc b = true := by unfold okc; simp; omega
        simp [c_ref16_word_l6, e0, e1, e5, hlt, hbt, c1, c2]
        exact next e ho
      · have c3 : 48 ≤ b := by omega
        have c4 : ¬ b ≤ 57 := by omega
        have hf := bad (by unfold okc; simp; omega)
        simp [c_ref16_word_l6, e0, e1, e5, hlt, hbt, c1, c2, c3, c4, hf]
    · by_cases c3 : 48 ≤ b
      · by_cases c4 : b ≤ 57
        · have ho : okc b = true := by unfold okc; simp; omega
          simp [c_ref16_word_l6, e0, e1, e5, hlt, hbt, c1, c3, c4]
          exact next e ho
        · have hf := bad (by unfold okc; simp; omega)
          simp [c_ref16_word_l6, e0, e1, e5, hlt, hbt, c1, c3, c4, hf]
      · have hf := bad (by unfold okc; simp; omega)
        simp [c_ref16_word_l6, e0, e1, e5, hlt, hbt, c1, c3, hf]
  · obtain rfl : i = s.size := by omega
    by_cases h1 : 1 ≤ s.size
    · have h1' : (1 : Int) ≤ (s.size : Int) := by omega
      by_cases h2 : s.size ≤ m
      · simp [c_ref16_word_l6, e0, e1, e5, h1, h1', h2, wordB, hc]
      · simp [c_ref16_word_l6, e0, e1, e5, h1, h1', h2, wordB, hc]
    · have h3 : s.size = 0 := by omega
      simp [c_ref16_word_l6, e0, e1, e5, h1, wordB, h3]
theorem nameMay_ok (s : ByteArray) (H : Heap) (hs : s.size ≤ 140737488355328) : call K f_ref16_NameMay [.string s] H = some (.bool (wordB s 4), H) := by
  have h1 : ∀ G, call K f_ref16_word [.string s, .int .i64 4] G = some (.bool (wordB s 4), G) := fun G => rword_ok s 4 G hs (by omega)
  refine of_wpf (open_pure rfl fc_ref16_NameMay rfl (Nat.le_of_ble_eq_true rfl) ?_)
  simp [h1]
theorem pathMay_ok (s : ByteArray) (H : Heap) (hs : s.size ≤ 140737488355328) : call K f_ref16_PathMay [.string s] H = some (.bool (wordB s 3), H) := by
  have h1 : ∀ G, call K f_ref16_word [.string s, .int .i64 3] G = some (.bool (wordB s 3), G) := fun G => rword_ok s 3 G hs (by omega)
  refine of_wpf (open_pure rfl fc_ref16_PathMay rfl (Nat.le_of_ble_eq_true rfl) ?_)
  simp [h1]
end Go.AM
