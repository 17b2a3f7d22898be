import Derived.Test.YtiiliffoclejlaaR6J1
import Derived.KernelRfl
/- Which disks may be: over the setting that has no contracts from elsewhere. -/
namespace Go.AM
open Go.Proofs
set_option linter.unusedVariables false
set_option linter.unusedSimpArgs false
set_option maxRecDepth 100000
attribute [-simp] ByteArray.size_eq_zero_iff
noncomputable def K0 : Cfg := { P := Try.prog, F := fnAt Try.prog, X := fun _ => none, pur := fun f => purL.contains f }
theorem k0Ok : KOk K0 where
  mixed := by kernel_rfl
  F := fun f F h => h
  X := fun f g h => by cases h
namespace Z0
@[simp] theorem has_ok (x : Int) (H : Heap) : call K0 f_disk_has [.int .i64 x] H = some (.bool (decide (0 ≤ x ∧ x < 394)), H) := by
  refine of_wpf (open_pure rfl fc_disk_has rfl (Nat.le_of_ble_eq_true rfl) ?_)
  by_cases h : 0 ≤ x <;> simp [h]
@[simp] theorem dmay_ok (x : Int) (s : ByteArray) (H : Heap) : call K0 f_disk_may [.agg #[.int .i64 x, .string s]] H = some (.bool (wOk (x, s)), H) := by
  refine of_wpf (open_pure rfl fc_disk_may rfl (Nat.le_of_ble_eq_true rfl) ?_)
  by_cases h : 0 ≤ x ∧ x < 394 <;> by_cases h2 : s.size = 64 <;> simp [h, h2, wOk] <;> omega
@[simp] theorem odd_ok (s : ByteArray) (H : Heap) : call K0 f_disk_May_1 [.string s] H = some (.bool (!decide (s.size = 64)), H) := by
  refine of_wpf (open_pure rfl fc_disk_May_1 rfl (Nat.le_of_ble_eq_true rfl) ?_)
  by_cases h : s.size = 64 <;> simp [h] <;> omega
@[simp] theorem badw_ok (x : Int) (s : ByteArray) (H : Heap) : call K0 f_disk_May_2 [.agg #[.int .i64 x, .string s]] H = some (.bool (!wOk (x, s)), H) := by
  refine of_wpf (open_pure rfl fc_disk_May_2 rfl (Nat.le_of_ble_eq_true rfl) ?_)
  simp
theorem all_take_succ {α : Type} (p : α → Bool) {xs : List α} {i : Nat} (h : i < xs.length) : (xs.take (i + 1)).all p = ((xs.take i).all p && p xs[i]) := by
  rw [List.take_succ_eq_append_getElem h, List.all_append]; simp
theorem all_no {α : Type} (p : α → Bool) {xs : List α} {i : Nat} (h : i < xs.length) (hp : p xs[i] = false) : xs.all p = false := by
  rw [List.all_eq_false]; exact ⟨xs[i], List.getElem_mem _, by simp [hp]⟩
theorem wpf_pure {r : Option (Value × Heap)} {H : Heap} {P : Value → Prop} (h : wpf r fun u G => P u ∧ G = H) : ∃ v, r = some (v, H) ∧ P v := by
  obtain ⟨u, G, h1, h2, rfl⟩ := h; exact ⟨u, h1, h2⟩
theorem indexS_ok (g : FuncId) (ok : ByteArray → Bool) (hg : ∀ x H, call K0 g [.string x] H = some (.bool (!ok x), H)) (v : Value) (xs : List ByteArray) (H : Heap) (h : Strs H v xs) :
    ∃ u, call K0 f_slices_IndexFunc_string_string [v, .func (.func g) #[] #[]] H = some (u, H) ∧ ∃ r : Int, u = .int .i64 r ∧ decide (0 ≤ r) = !xs.all ok := by
  obtain ⟨p, c, rfl⟩ := h.slice
  have hl := h.lim
  refine wpf_pure (open_pure rfl fc_slices_IndexFunc_string_string rfl (Nat.le_of_ble_eq_true rfl) ?_)
  simp
  refine wp_nxt (wp_for (fun d e G => ∃ i : Nat, d = xs.length - i ∧ i ≤ xs.length ∧ G = H.roAll ∧ e 0 = .slice p xs.length c ∧ e 1 = .func (.func g) #[] #[] ∧ e 7 = .int .i64 (xs.length : Int) ∧ e 8 = .int .i64 (i : Int) ∧ (xs.take i).all ok = true) xs.length ⟨0, by simp⟩ ?_)
  rintro d e G ⟨i, rfl, hi, rfl, h0, h1, h7, h8, hall⟩
  by_cases hlt : i < xs.length
  · obtain ⟨b, o, rfl, hb, k0⟩ := h.at1 hlt
    have hs := all_take_succ ok hlt
    have hn := all_no ok hlt
    generalize xs[i] = x at *
    simp at k0
    by_cases he : ok x = true
    · rw [hall, he] at hs
      simp [c_slices_IndexFunc_string_string_l7, h0, h1, h7, h8, hlt, k0, hg, he]
      exact ⟨xs.length - (i + 1), by omega, i + 1, rfl, hlt, wrap_succ (by omega), by simpa using hs⟩
    · have he' : ok x = false := by simpa using he
      simp [c_slices_IndexFunc_string_string_l7, h0, h1, h7, h8, hlt, k0, hg, he', hn he']
  · obtain rfl : i = xs.length := by omega
    rw [List.take_length] at hall
    simp [c_slices_IndexFunc_string_string_l7, h7, h8, hall]
theorem indexW_ok (g : FuncId) (ok : Img → Bool) (hg : ∀ x s H, call K0 g [.agg #[.int .i64 x, .string s]] H = some (.bool (!ok (x, s)), H)) (v : Value) (xs : List Img) (H : Heap) (h : Imgs H v xs) :
    ∃ u, call K0 f_slices_IndexFunc_Write [v, .func (.func g) #[] #[]] H = some (u, H) ∧ ∃ r : Int, u = .int .i64 r ∧ decide (0 ≤ r) = !xs.all ok := by
  obtain ⟨p, c, rfl⟩ := h.slice
  have hl := h.lim
  refine wpf_pure (open_pure rfl fc_slices_IndexFunc_Write rfl (Nat.le_of_ble_eq_true rfl) ?_)
  simp
  refine wp_nxt (wp_for (fun d e G => ∃ i : Nat, d = xs.length - i ∧ i ≤ xs.length ∧ G = H.roAll ∧ e 0 = .slice p xs.length c ∧ e 1 = .func (.func g) #[] #[] ∧ e 7 = .int .i64 (xs.length : Int) ∧ e 8 = .int .i64 (i : Int) ∧ (xs.take i).all ok = true) xs.length ⟨0, by simp⟩ ?_)
  rintro d e G ⟨i, rfl, hi, rfl, h0, h1, h7, h8, hall⟩
  by_cases hlt : i < xs.length
  · obtain ⟨b, o, rfl, hb, k0, k1⟩ := h.at2 hlt
    have hs := all_take_succ ok hlt
    have hn := all_no ok hlt
    generalize xs[i] = x at *
    obtain ⟨x, s⟩ := x
    simp at k0 k1
    by_cases he : ok (x, s) = true
    · rw [hall, he] at hs
      simp [c_slices_IndexFunc_Write_l7, h0, h1, h7, h8, hlt, k0, k1, hg, he]
      exact ⟨xs.length - (i + 1), by omega, i + 1, rfl, hlt, wrap_succ (by omega), by simpa using hs⟩
    · have he' : ok (x, s) = false := by simpa using he
      simp [c_slices_IndexFunc_Write_l7, h0, h1, h7, h8, hlt, k0, k1, hg, he', hn he']
  · obtain rfl : i = xs.length := by omega
    rw [List.take_length] at hall
    simp [c_slices_IndexFunc_Write_l7, h7, h8, hall]
theorem contS_ok (g : FuncId) (ok : ByteArray → Bool) (hg : ∀ x H, call K0 g [.string x] H = some (.bool (!ok x), H)) (v : Value) (xs : List ByteArray) (H : Heap) (h : Strs H v xs) :
    call K0 f_slices_ContainsFunc_string_string [v, .func (.func g) #[] #[]] H = some (.bool (!xs.all ok), H) := by
  refine of_wpf (open_pure rfl fc_slices_ContainsFunc_string_string rfl (Nat.le_of_ble_eq_true rfl) ?_)
  obtain ⟨_, c1, r, rfl, hr⟩ := indexS_ok g ok hg v xs _ h.roAll
  simp [c1, hr]
theorem contW_ok (g : FuncId) (ok : Img → Bool) (hg : ∀ x s H, call K0 g [.agg #[.int .i64 x, .string s]] H = some (.bool (!ok (x, s)), H)) (v : Value) (xs : List Img) (H : Heap) (h : Imgs H v xs) :
    call K0 f_slices_ContainsFunc_Write [v, .func (.func g) #[] #[]] H = some (.bool (!xs.all ok), H) := by
  refine of_wpf (open_pure rfl fc_slices_ContainsFunc_Write rfl (Nat.le_of_ble_eq_true rfl) ?_)
  obtain ⟨_, c1, r, rfl, hr⟩ := indexW_ok g ok hg v xs _ h.roAll
  simp [c1, hr]
theorem dskMay_ok (s c : Value) (d : Dk) (H : Heap) (hs : Strs H s d.1) (hc : Imgs H c d.2) : call K0 f_disk_May [.agg #[s, c]] H = some (.bool (dOk d), H) := by
  obtain ⟨S, C⟩ := d
  refine of_wpf (open_pure rfl fc_disk_May rfl (Nat.le_of_ble_eq_true rfl) ?_)
  have E := (Ext.refl H.roAll).add (rowBlk 2 [s, c])
  have a := contS_ok f_disk_May_1 (fun s => decide (s.size = 64)) (fun x H => odd_ok x H) s S (H.roAll.add (rowBlk 2 [s, c])) (hs.roAll.ext E)
  have b := contW_ok f_disk_May_2 wOk (fun x s H => badw_ok x s H) c C (H.roAll.add (rowBlk 2 [s, c])) (hc.roAll.ext E)
  obtain ⟨p, k, rfl⟩ := hs.slice
  obtain ⟨q, m, rfl⟩ := hc.slice
  simp only at a b ⊢
  by_cases h1 : S.length = 394 <;> by_cases h2 : C.length ≤ 512 <;> by_cases h3 : (S.all fun s => decide (s.size = 64)) = true
  all_goals
    have g1 : decide ((S.length : Int) = 394) = decide (S.length = 394) := by congr 1; apply propext; omega
    have g2 : decide ((C.length : Int) ≤ 512) = decide (C.length ≤ 512) := by congr 1; apply propext; omega
  all_goals first | (simp only [h1] at a b; simp [h1, h2, h3, a, b, dOk, g1, g2]) | simp [h1, h2, h3, a, b, dOk, g1, g2]
  all_goals omega
end Z0
end Go.AM
