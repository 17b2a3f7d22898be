/- Contracts: heads. -/
import Derived.Test.YtiiliffoclejlaaR6Pa
namespace Go.AM
open Go.Proofs
set_option linter.unusedVariables false
set_option linter.unusedSimpArgs false
set_option maxRecDepth 100000
attribute [-simp] ByteArray.size_eq_zero_iff
@[simp] theorem nn2 (n : Nat) : (n = n  + 1 + 1) = False := by simp only [eq_iff_iff, iff_false]; omega
@[simp] theorem nm2 (n : Nat) : (n  + 1 + 1 = n) = False := by simp only [eq_iff_iff, iff_false]; omega
@[simp] theorem nn3 (n : Nat) : (n = n  + 1 + 1 + 1) = False := by simp only [eq_iff_iff, iff_false]; omega
@[simp] theorem nm3 (n : Nat) : (n  + 1 + 1 + 1 = n) = False := by simp only [eq_iff_iff, iff_false]; omega
@[simp] theorem nn4 (n : Nat) : (n = n  + 1 + 1 + 1 + 1) = False := by simp only [eq_iff_iff, iff_false]; omega
@[simp] theorem nm4 (n : Nat) : (n  + 1 + 1 + 1 + 1 = n) = False := by simp only [eq_iff_iff, iff_false]; omega
@[simp] theorem nn5 (n : Nat) : (n = n  + 1 + 1 + 1 + 1 + 1) = False := by simp only [eq_iff_iff, iff_false]; omega
@[simp] theorem nm5 (n : Nat) : (n  + 1 + 1 + 1 + 1 + 1 = n) = False := by simp only [eq_iff_iff, iff_false]; omega
@[simp] theorem nn6 (n : Nat) : (n = n  + 1 + 1 + 1 + 1 + 1 + 1) = False := by simp only [eq_iff_iff, iff_false]; omega
@[simp] theorem nm6 (n : Nat) : (n  + 1 + 1 + 1 + 1 + 1 + 1 = n) = False := by simp only [eq_iff_iff, iff_false]; omega
@[simp] theorem nn7 (n : Nat) : (n = n  + 1 + 1 + 1 + 1 + 1 + 1 + 1) = False := by simp only [eq_iff_iff, iff_false]; omega
@[simp] theorem nm7 (n : Nat) : (n  + 1 + 1 + 1 + 1 + 1 + 1 + 1 = n) = False := by simp only [eq_iff_iff, iff_false]; omega
@[simp] theorem nn8 (n : Nat) : (n = n  + 1 + 1 + 1 + 1 + 1 + 1 + 1 + 1) = False := by simp only [eq_iff_iff, iff_false]; omega
@[simp] theorem nm8 (n : Nat) : (n  + 1 + 1 + 1 + 1 + 1 + 1 + 1 + 1 = n) = False := by simp only [eq_iff_iff, iff_false]; omega
def hdMay (n s : Int) : Prop := (0 ≤ n ∧ n ≤ 2147483647) ∧ 1 ≤ s ∧ s ≤ 2147483647
instance (n s : Int) : Decidable (hdMay n s) := by unfold hdMay; infer_instance
@[simp] theorem hmay_ok (n s : Int) (H : Heap) : call K f_head_May [.agg #[.int .i64 n, .int .i64 s]] H = some (.bool (decide (hdMay n s)), H) := by
  refine of_wpf (open_pure rfl fc_head_May rfl (Nat.le_of_ble_eq_true rfl) ?_)
  unfold hdMay
  by_cases h1 : 0 ≤ n <;> by_cases h2 : n ≤ 2147483647 <;> simp [h1, h2]
@[simp] theorem rhmay_ok (n s : Int) (H : Heap) : call K f_ref1_HeadMay [.agg #[.int .i64 n, .int .i64 s]] H = some (.bool (decide (hdMay n s)), H) := by
  refine of_wpf (open_pure rfl fc_ref1_HeadMay rfl (Nat.le_of_ble_eq_true rfl) ?_)
  unfold hdMay
  by_cases h1 : 0 ≤ n <;> by_cases h2 : n ≤ 2147483647 <;> simp [h1, h2]
def hd12 (n s : Int) : List Int := [99, 114, 121, 111, n / 16777216 % 256, n / 65536 % 256, n / 256 % 256, n % 256, s / 16777216 % 256, s / 65536 % 256, s / 256 % 256, s % 256]
def headOf (n s : Int) : ByteArray := strOfNums (hd12 n s) ++ zer 20
theorem headOf_size (n s : Int) : (headOf n s).size = 32 := by unfold headOf; rw [size_append, size_strOfNums, zer_size]; rfl
def putH (n s : Int) : ByteArray := if hdMay n s then headOf n s else ⟨#[]⟩
def putHE (n s : Int) : Int := if hdMay n s then 0 else 500
theorem cryo : (⟨#[99, 114, 121, 111]⟩ : ByteArray) = strOfNums [99, 114, 121, 111] := rfl
@[simp] theorem hput_ok (n s : Int) (H : Heap) : call K f_head_Put [.agg #[.int .i64 n, .int .i64 s]] H = some (.tuple #[.string (putH n s), .int .i64 (putHE n s)], H) := by
  refine of_wpf (open_pure rfl fc_head_Put rfl (Nat.le_of_ble_eq_true rfl) ?_)
  by_cases h : hdMay n s
  · rw [putH, putHE, if_pos h, if_pos h]
    have e1 : binV K.P .add tyStr (.string ⟨#[99, 114, 121, 111]⟩) (.string (four n)) = some (.string (strOfNums [99, 114, 121, 111] ++ four n)) := by
      rw [cryo]; exact binV_sadd _ _ _ _ (by unfold four; rw [size_strOfNums, size_strOfNums]; simp)
    have e2 : binV K.P .add tyStr (.string (strOfNums [99, 114, 121, 111] ++ four n)) (.string (four s)) = some (.string (strOfNums (hd12 n s))) := by
      rw [binV_sadd _ _ _ _ (by unfold four; rw [size_append, size_strOfNums, size_strOfNums, size_strOfNums]; simp)]; unfold four; rw [str_append, str_append]; rfl
    have z : (strOfNums (hd12 n s)).size = 12 := size_strOfNums _
    have e3 : ∀ H, call K f_record_Fill [.string (strOfNums (hd12 n s))] H = some (.string (headOf n s), H) := fun H => by
      rw [fill_ok _ _ (by rw [z]; omega), z]; rfl
    simp [h, run_regd_tr, finD_some, Chk, e1, e2, e3, wanted]
  · rw [putH, putHE, if_neg h, if_neg h]; simp [h]
@[simp] theorem rhput_ok (n s : Int) (H : Heap) : call K f_ref1_PutHead [.agg #[.int .i64 n, .int .i64 s]] H = some (.tuple #[.string (putH n s), .int .i64 (putHE n s)], H) := by
  refine of_wpf (open_pure rfl fc_ref1_PutHead rfl (Nat.le_of_ble_eq_true rfl) ?_)
  by_cases h : hdMay n s
  · rw [putH, putHE, if_pos h, if_pos h]
    have e1 : binV K.P .add tyStr (.string ⟨#[99, 114, 121, 111]⟩) (.string (four n)) = some (.string (strOfNums [99, 114, 121, 111] ++ four n)) := by
      rw [cryo]; exact binV_sadd _ _ _ _ (by unfold four; rw [size_strOfNums, size_strOfNums]; simp)
    have e2 : binV K.P .add tyStr (.string (strOfNums [99, 114, 121, 111] ++ four n)) (.string (four s)) = some (.string (strOfNums (hd12 n s))) := by
      rw [binV_sadd _ _ _ _ (by unfold four; rw [size_append, size_strOfNums, size_strOfNums, size_strOfNums]; simp)]; unfold four; rw [str_append, str_append]; rfl
    have z : (strOfNums (hd12 n s)).size = 12 := size_strOfNums _
    have e3 : ∀ H, call K f_ref1_zeros [.int .i64 20] H = some (.string (zer 20), H) := fun H => zeros_ok 20 H (by omega)
    have e4 : binV K.P .add tyStr (.string (strOfNums (hd12 n s))) (.string (zer 20)) = some (.string (headOf n s)) := binV_sadd _ _ _ _ (by rw [z, zer_size]; decide)
    simp [h, run_regd_tr, finD_some, Chk, e1, e2, e3, e4, wanted]
  · rw [putH, putHE, if_neg h, if_neg h]; simp [h]
def hN (s : ByteArray) : Int := bt s 4 * 16777216 + bt s 5 * 65536 + bt s 6 * 256 + bt s 7
def hS (s : ByteArray) : Int := bt s 8 * 16777216 + bt s 9 * 65536 + bt s 10 * 256 + bt s 11
theorem bt_extract (s : ByteArray) (i j : Nat) (k : Nat) (h : k < j - i) : bt (s.extract i j) (k : Int) = bt s ((i + k : Nat) : Int) := by
  rw [bt_L, bt_L, L_extract, Int.toNat_natCast, Int.toNat_natCast, List.getElem?_take_of_lt h, List.getElem?_drop]
theorem num4_extract (s : ByteArray) (i j : Nat) (h : i + 4 ≤ j) : num4 (s.extract i j) = bt s ((i : Nat) : Int) * 16777216 + bt s ((i + 1 : Nat) : Int) * 65536 + bt s ((i + 2 : Nat) : Int) * 256 + bt s ((i + 3 : Nat) : Int) := by
  have e0 := bt_extract s i j 0 (by omega)
  have e1 := bt_extract s i j 1 (by omega)
  have e2 := bt_extract s i j 2 (by omega)
  have e3 := bt_extract s i j 3 (by omega)
  simp only [Nat.add_zero] at e0
  unfold num4
  rw [← e0, ← e1, ← e2, ← e3]; rfl
theorem hN_eq (s : ByteArray) (j : Nat) (h : 8 ≤ j) : num4 (s.extract 4 j) = hN s := by rw [num4_extract _ _ _ (by omega)]; rfl
theorem hS_eq (s : ByteArray) (j : Nat) (h : 12 ≤ j) : num4 (s.extract 8 j) = hS s := by rw [num4_extract _ _ _ (by omega)]; rfl
abbrev HdX := Int × Int × Int
def getH (s : ByteArray) : HdX := if s.size = 32 ∧ putHE (hN s) (hS s) = 0 ∧ putH (hN s) (hS s) = s then (hN s, hS s, 0) else (0, 0, 500)
def valH (x : HdX) : Value := .tuple #[.agg #[.int .i64 x.1, .int .i64 x.2.1], .int .i64 x.2.2]
theorem hget_ok (s : ByteArray) (H : Heap) : call K f_head_Get [.string s] H = some (valH (getH s), H) := by
  refine of_wpf (open_pure rfl fc_head_Get rfl (Nat.le_of_ble_eq_true rfl) ?_)
  unfold getH valH
  by_cases h1 : s.size = 32
  · have a1 : slsV s (some (.int .i64 4)) none = some (.string (s.extract 4 32)) := by simp [slsV, bound, natOf_int, h1]
    have a2 : slsV s (some (.int .i64 8)) none = some (.string (s.extract 8 32)) := by simp [slsV, bound, natOf_int, h1]
    have b1 : ∀ H, call K f_record_Number [.string (s.extract 4 32)] H = some (.int .i64 (hN s), H) := fun H => by rw [number_ok _ _ (by rw [size_extract, h1]; decide), hN_eq _ _ (by omega)]
    have b2 : ∀ H, call K f_record_Number [.string (s.extract 8 32)] H = some (.int .i64 (hS s), H) := fun H => by rw [number_ok _ _ (by rw [size_extract, h1]; decide), hS_eq _ _ (by omega)]
    by_cases h2 : putHE (hN s) (hS s) = 0
    · by_cases h3 : putH (hN s) (hS s) = s
      · simp [h1, h2, h3, a1, a2, b1, b2]
      · simp [h1, h2, h3, a1, a2, b1, b2]
    · simp [h1, h2, a1, a2, b1, b2]
  · have h' : ¬ (s.size : Int) = 32 := by omega
    simp [h1, h']
theorem rhget_ok (s : ByteArray) (H : Heap) : call K f_ref1_GetHead [.string s] H = some (valH (getH s), H) := by
  refine of_wpf (open_pure rfl fc_ref1_GetHead rfl (Nat.le_of_ble_eq_true rfl) ?_)
  unfold getH valH
  by_cases h1 : s.size = 32
  · have a1 : slsV s (some (.int .i64 4)) (some (.int .i64 8)) = some (.string (s.extract 4 8)) := by simp [slsV, bound, natOf_int, h1]
    have a2 : slsV s (some (.int .i64 8)) (some (.int .i64 12)) = some (.string (s.extract 8 12)) := by simp [slsV, bound, natOf_int, h1]
    have b1 : ∀ H, call K f_ref1_Of [.string (s.extract 4 8)] H = some (.int .i64 (hN s), H) := fun H => by rw [of_ok _ _ (by rw [size_extract, h1]; decide), hN_eq _ _ (by omega)]
    have b2 : ∀ H, call K f_ref1_Of [.string (s.extract 8 12)] H = some (.int .i64 (hS s), H) := fun H => by rw [of_ok _ _ (by rw [size_extract, h1]; decide), hS_eq _ _ (by omega)]
    by_cases h2 : putHE (hN s) (hS s) = 0
    · by_cases h3 : putH (hN s) (hS s) = s
      · simp [h1, h2, h3, a1, a2, b1, b2]
      · simp [h1, h2, h3, a1, a2, b1, b2]
    · simp [h1, h2, a1, a2, b1, b2]
  · have h' : ¬ (s.size : Int) = 32 := by omega
    simp [h1, h']
def hdOf (s : ByteArray) : HdX := getH (getP s)
def valO (x : HdX) : Value := .tuple #[.agg #[.int .i64 x.1, .int .i64 x.2.1], .bool (decide (x.2.2 = 0))]
theorem hof_ok (s : ByteArray) (H : Heap) : call K f_head_of [.string s] H = some (valO (hdOf s), H) := by
  refine of_wpf (open_pure rfl fc_head_of rfl (Nat.le_of_ble_eq_true rfl) ?_)
  have c : ∀ H, call K f_head_Get [.string (getP s)] H = some (.tuple #[.agg #[.int .i64 (hdOf s).1, .int .i64 (hdOf s).2.1], .int .i64 (hdOf s).2.2], H) := fun H => hget_ok (getP s) H
  generalize hdOf s = x at c
  simp [c, valO]
theorem rhof_ok (s : ByteArray) (H : Heap) : call K f_ref1_sectorHead [.string s] H = some (valO (hdOf s), H) := by
  refine of_wpf (open_pure rfl fc_ref1_sectorHead rfl (Nat.le_of_ble_eq_true rfl) ?_)
  have c : ∀ H, call K f_ref1_GetHead [.string (getP s)] H = some (.tuple #[.agg #[.int .i64 (hdOf s).1, .int .i64 (hdOf s).2.1], .int .i64 (hdOf s).2.2], H) := fun H => rhget_ok (getP s) H
  generalize hdOf s = x at c
  simp [c, valO]
def bestX (x y : HdX) : HdX := if x.2.2 = 0 ∧ (y.2.2 = 0 → y.1 ≤ x.1) then (x.1, x.2.1, 0) else if y.2.2 = 0 then (y.1, y.2.1, 0) else (0, 0, 501)
def bestH (a b : ByteArray) : HdX := bestX (hdOf a) (hdOf b)
theorem hbest_ok (a b : ByteArray) (H : Heap) : call K f_head_Best [.string a, .string b] H = some (valH (bestH a b), H) := by
  refine of_wpf (open_pure rfl fc_head_Best rfl (Nat.le_of_ble_eq_true rfl) ?_)
  have c : ∀ s H, call K f_head_of [.string s] H = some (.tuple #[.agg #[.int .i64 (hdOf s).1, .int .i64 (hdOf s).2.1], .bool (decide ((hdOf s).2.2 = 0))], H) := fun s H => hof_ok s H
  have c1 := c a; have c2 := c b
  unfold bestH
  generalize hdOf a = x at c1
  generalize hdOf b = y at c2
  unfold bestX valH
  by_cases h1 : x.2.2 = 0
  · by_cases h2 : y.2.2 = 0
    · by_cases h3 : y.1 ≤ x.1 <;> simp [c1, c2, h1, h2, h3]
    · simp [c1, c2, h1, h2]
  · by_cases h2 : y.2.2 = 0 <;> simp [c1, c2, h1, h2]
theorem rhbest_ok (a b : ByteArray) (H : Heap) : call K f_ref1_Best [.string a, .string b] H = some (valH (bestH a b), H) := by
  refine of_wpf (open_pure rfl fc_ref1_Best rfl (Nat.le_of_ble_eq_true rfl) ?_)
  have c : ∀ s H, call K f_ref1_sectorHead [.string s] H = some (.tuple #[.agg #[.int .i64 (hdOf s).1, .int .i64 (hdOf s).2.1], .bool (decide ((hdOf s).2.2 = 0))], H) := fun s H => rhof_ok s H
  have c1 := c a; have c2 := c b
  unfold bestH
  generalize hdOf a = x at c1
  generalize hdOf b = y at c2
  unfold bestX valH
  by_cases h1 : x.2.2 = 0
  · by_cases h2 : y.2.2 = 0
    · by_cases h3 : y.1 ≤ x.1
      · have h4 : ¬ x.1 < y.1 := by omega
        simp [c1, c2, h1, h2, h3, h4]
      · have h4 : x.1 < y.1 := by omega
        simp [c1, c2, h1, h2, h3, h4]
    · simp [c1, c2, h1, h2]
  · by_cases h2 : y.2.2 = 0 <;> simp [c1, c2, h1, h2]
/-! plain laws -/
theorem L_headOf (n s : Int) : L (headOf n s) = (hd12 n s).map (fun n => UInt8.ofNat n.toNat) ++ List.replicate 20 0 := by unfold headOf; rw [L_append, L_strOfNums, L_zer]
theorem hNS_headOf {n s : Int} (h : hdMay n s) : hN (headOf n s) = n ∧ hS (headOf n s) = s := by
  have m : ∀ y : Int, 0 ≤ y % 256 ∧ y % 256 ≤ 255 := fun y => by omega
  have hL := L_headOf n s
  generalize headOf n s = x at hL
  have b4 : bt x 4 = n / 16777216 % 256 := by rw [bt_L, hL]; exact u8_mod (m _).1 (m _).2
  have b5 : bt x 5 = n / 65536 % 256 := by rw [bt_L, hL]; exact u8_mod (m _).1 (m _).2
  have b6 : bt x 6 = n / 256 % 256 := by rw [bt_L, hL]; exact u8_mod (m _).1 (m _).2
  have b7 : bt x 7 = n % 256 := by rw [bt_L, hL]; exact u8_mod (m _).1 (m _).2
  have b8 : bt x 8 = s / 16777216 % 256 := by rw [bt_L, hL]; exact u8_mod (m _).1 (m _).2
  have b9 : bt x 9 = s / 65536 % 256 := by rw [bt_L, hL]; exact u8_mod (m _).1 (m _).2
  have b10 : bt x 10 = s / 256 % 256 := by rw [bt_L, hL]; exact u8_mod (m _).1 (m _).2
  have b11 : bt x 11 = s % 256 := by rw [bt_L, hL]; exact u8_mod (m _).1 (m _).2
  obtain ⟨h1, h2⟩ := h
  constructor
  · unfold hN; rw [b4, b5, b6, b7]; omega
  · unfold hS; rw [b8, b9, b10, b11]; omega
theorem getH_headOf {n s : Int} (h : hdMay n s) : getH (headOf n s) = (n, s, 0) := by
  obtain ⟨e1, e2⟩ := hNS_headOf h
  unfold getH
  rw [e1, e2, if_pos ⟨headOf_size n s, by rw [putHE, if_pos h], by rw [putH, if_pos h]⟩]
theorem hdOf_put {n s : Int} (h : hdMay n s) : hdOf (putP (headOf n s)) = (n, s, 0) := by
  rw [hdOf, (getP_putP (headOf_size n s)).1, getH_headOf h]
theorem getH_two (s : ByteArray) : ((getH s).2.2 = 0 ∧ hdMay (getH s).1 (getH s).2.1 ∧ s = headOf (getH s).1 (getH s).2.1) ∨ getH s = (0, 0, 500) := by
  unfold getH
  by_cases h : s.size = 32 ∧ putHE (hN s) (hS s) = 0 ∧ putH (hN s) (hS s) = s
  · refine .inl ?_
    rw [if_pos h]
    have hm : hdMay (hN s) (hS s) := by
      by_cases hm : hdMay (hN s) (hS s)
      · exact hm
      · have := h.2.1; rw [putHE, if_neg hm] at this; cases this
    exact ⟨rfl, hm, by have := h.2.2; rw [putH, if_pos hm] at this; exact this.symm⟩
  · exact .inr (if_neg h)
end Go.AM
