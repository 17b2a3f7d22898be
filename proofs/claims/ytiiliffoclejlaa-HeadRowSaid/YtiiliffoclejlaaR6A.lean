/- Contracts: records. -/
import Derived.Test.YtiiliffoclejlaaR6K0
namespace Go.AM
open Go.Proofs
set_option linter.unusedVariables false
set_option linter.unusedSimpArgs false
set_option maxRecDepth 100000
attribute [-simp] ByteArray.size_eq_zero_iff
theorem repeat_ok (s : ByteArray) (n : Int) (H : Heap) (h : 0 ≤ n ∧ n ≤ 9223372036854775807 ∧ s.size * n.toNat ≤ 140737488355328) : call K f_strings_Repeat [.string s, .int .i64 n] H = some (.string (repeatB s n.toNat), H) := by
  rw [call_eq]
  show (match (some repeatX : Option (List Value → Heap → Option (Value × Heap))) with | some g => g [.string s, .int .i64 n] H | none => none) = _
  simp [repeatX, h]
@[simp] theorem seq_ok (x : Int) (H : Heap) : call K f_record_Seq [.int .i64 x] H = some (.bool (decide (1 ≤ x ∧ x ≤ 2147483647)), H) := by
  refine of_wpf (open_pure rfl fc_record_Seq rfl (Nat.le_of_ble_eq_true rfl) ?_)
  by_cases h : 1 ≤ x <;> simp [h]
@[simp] theorem page_ok (x : Int) (H : Heap) : call K f_record_Page [.int .i64 x] H = some (.bool (decide (0 ≤ x ∧ x < 48)), H) := by
  refine of_wpf (open_pure rfl fc_record_Page rfl (Nat.le_of_ble_eq_true rfl) ?_)
  by_cases h : 0 ≤ x <;> simp [h]
@[simp] theorem rseq_ok (x : Int) (H : Heap) : call K f_ref1_seqMay [.int .i64 x] H = some (.bool (decide (1 ≤ x ∧ x ≤ 2147483647)), H) := by
  refine of_wpf (open_pure rfl fc_ref1_seqMay rfl (Nat.le_of_ble_eq_true rfl) ?_)
  by_cases h : 1 ≤ x <;> simp [h]
@[simp] theorem count_ok (x : Int) (H : Heap) : call K f_log_Count [.int .i64 x] H = some (.int .i64 (IntKind.i64.wrap (IntKind.i64.wrap (x * 4) + 1)), H) := by
  refine of_wpf (open_pure rfl fc_log_Count rfl (Nat.le_of_ble_eq_true rfl) ?_)
  simp
@[simp] theorem num_ok (x : Int) (H : Heap) : call K f_law0_Num [.int .i64 x] H = some (.int .i64 x, H) := by
  refine of_wpf (open_pure rfl fc_law0_Num rfl (Nat.le_of_ble_eq_true rfl) ?_)
  simp
@[simp] theorem textMay_ok (s : ByteArray) (H : Heap) : call K f_ref1_textMay [.string s] H = some (.bool (decide (s.size ≤ 96)), H) := by
  refine of_wpf (open_pure rfl fc_ref1_textMay rfl (Nat.le_of_ble_eq_true rfl) ?_)
  simp
  omega
def four (q : Int) : ByteArray := strOfNums [q / 16777216 % 256, q / 65536 % 256, q / 256 % 256, q % 256]
@[simp] theorem four_ok (x : Int) (H : Heap) : call K f_record_Four [.int .i64 x] H = some (.string (four x), H) := by
  refine of_wpf (open_pure rfl fc_record_Four rfl (Nat.le_of_ble_eq_true rfl) ?_)
  simp [four]
def RMay (q p t : Int) (d : ByteArray) : Prop := (1 ≤ q ∧ q ≤ 2147483647) ∧ ((t = 4 ∧ p = 0 ∧ d.size = 0) ∨ (0 ≤ t ∧ t < 4 ∧ 0 ≤ p ∧ p < 48 ∧ d.size ≤ 24))
instance (q p t : Int) (d : ByteArray) : Decidable (RMay q p t d) := by unfold RMay; infer_instance
theorem RMay_size {q p t : Int} {d : ByteArray} (h : RMay q p t d) : d.size ≤ 24 := by
  rcases h.2 with h | h <;> omega
def head8 (q p t : Int) (d : ByteArray) : List Int := [q / 16777216 % 256, q / 65536 % 256, q / 256 % 256, q % 256, p % 256, t % 256, (d.size : Int) % 256, 0]
def recOf (q p t : Int) (d : ByteArray) : ByteArray := strOfNums (head8 q p t d) ++ d ++ zer (24 - d.size)
def putR (q p t : Int) (d : ByteArray) : ByteArray × Int := if RMay q p t d then (recOf q p t d, 0) else (⟨#[]⟩, 300)
theorem recOf_size (q p t : Int) (d : ByteArray) (h : d.size ≤ 24) : (recOf q p t d).size = 32 := by
  unfold recOf; rw [size_append, size_append, size_strOfNums, zer_size]; simp [head8]; omega
theorem L_recOf (q p t : Int) (d : ByteArray) : L (recOf q p t d) = (head8 q p t d).map (fun n => UInt8.ofNat n.toNat) ++ (L d ++ List.replicate (24 - d.size) 0) := by
  unfold recOf; rw [L_append, L_append, L_strOfNums, L_zer, List.append_assoc]
def num4 (s : ByteArray) : Int := bt s 0 * 16777216 + bt s 1 * 65536 + bt s 2 * 256 + bt s 3
/-- the record that some bytes would be -/
def recAt (s : ByteArray) : Int × Int × Int × ByteArray := (num4 s, bt s 4, bt s 5, s.extract 8 (8 + bt s 6).toNat)
def getR (s : ByteArray) : Int × Int × Int × ByteArray × Int :=
  if s.size = 32 ∧ bt s 6 ≤ 24 ∧ putR (recAt s).1 (recAt s).2.1 (recAt s).2.2.1 (recAt s).2.2.2 = (s, 0) then ((recAt s).1, (recAt s).2.1, (recAt s).2.2.1, (recAt s).2.2.2, 0) else (0, 0, 0, ⟨#[]⟩, 300)
theorem recAt_recOf {q p t : Int} {d : ByteArray} (h : RMay q p t d) : recAt (recOf q p t d) = (q, p, t, d) := by
  have hz := RMay_size h
  have hq := h.1
  have hp : 0 ≤ p ∧ p ≤ 255 ∧ 0 ≤ t ∧ t ≤ 255 := by rcases h.2 with h | h <;> omega
  have hL := L_recOf q p t d
  generalize hx : recOf q p t d = x at hL
  have m : ∀ y : Int, 0 ≤ y % 256 ∧ y % 256 ≤ 255 := fun y => by omega
  have b0 : bt x 0 = q / 16777216 % 256 := by rw [bt_L, hL]; exact u8_mod (m _).1 (m _).2
  have b1 : bt x 1 = q / 65536 % 256 := by rw [bt_L, hL]; exact u8_mod (m _).1 (m _).2
  have b2 : bt x 2 = q / 256 % 256 := by rw [bt_L, hL]; exact u8_mod (m _).1 (m _).2
  have b3 : bt x 3 = q % 256 := by rw [bt_L, hL]; exact u8_mod (m _).1 (m _).2
  have b4 : bt x 4 = p % 256 := by rw [bt_L, hL]; exact u8_mod (m _).1 (m _).2
  have b5 : bt x 5 = t % 256 := by rw [bt_L, hL]; exact u8_mod (m _).1 (m _).2
  have b6 : bt x 6 = (d.size : Int) % 256 := by rw [bt_L, hL]; exact u8_mod (m _).1 (m _).2
  have hd : (8 + bt x 6).toNat = 8 + d.size := by rw [b6]; omega
  have ex : x.extract 8 (8 + d.size) = d := by
    apply L_inj
    rw [L_extract, hL, List.drop_left' (by simp [head8]), ← L_length d]
    simp
  unfold recAt num4
  rw [hd, ex, b0, b1, b2, b3, b4, b5]
  have e1 : q / 16777216 % 256 * 16777216 + q / 65536 % 256 * 65536 + q / 256 % 256 * 256 + q % 256 = q := by omega
  have e2 : p % 256 = p := by omega
  have e3 : t % 256 = t := by omega
  rw [e1, e2, e3]
theorem get_recOf {q p t : Int} {d : ByteArray} (h : RMay q p t d) : getR (recOf q p t d) = (q, p, t, d, 0) := by
  have hz := RMay_size h
  have hb : bt (recOf q p t d) 6 = (d.size : Int) % 256 := by
    rw [bt_L, L_recOf]; exact u8_mod (by show 0 ≤ (d.size : Int) % 256; omega) (by show (d.size : Int) % 256 ≤ 255; omega)
  unfold getR
  rw [recAt_recOf h, if_pos ⟨recOf_size q p t d hz, by rw [hb]; omega, by simp [putR, h]⟩]
theorem recOf_inj {q p t q' p' t' : Int} {d d' : ByteArray} (h : RMay q p t d) (h' : RMay q' p' t' d') : recOf q p t d = recOf q' p' t' d' ↔ (q = q' ∧ p = p' ∧ t = t' ∧ d = d') := by
  constructor
  · intro e
    have a := get_recOf h
    rw [e, get_recOf h'] at a
    simp at a; simp [a]
  · rintro ⟨rfl, rfl, rfl, rfl⟩; rfl
theorem putR_ok (q p t : Int) (d : ByteArray) : (putR q p t d).2 = 0 ↔ RMay q p t d := by
  unfold putR; by_cases h : RMay q p t d <;> simp [h]
theorem putR_yes {q p t : Int} {d : ByteArray} (h : RMay q p t d) : putR q p t d = (recOf q p t d, 0) := by simp [putR, h]
theorem putR_no {q p t : Int} {d : ByteArray} (h : ¬ RMay q p t d) : putR q p t d = (⟨#[]⟩, 300) := by simp [putR, h]

@[simp] theorem nil_lit (d : ByteArray) : (d = ⟨#[]⟩) = (d.size = 0) := propext size_zero.symm
theorem nil_size (d : ByteArray) : (d = ByteArray.empty) ↔ d.size = 0 := size_zero.symm
@[simp] theorem fill_ok (s : ByteArray) (H : Heap) (h : s.size ≤ 32) : call K f_record_Fill [.string s] H = some (.string (s ++ zer (32 - s.size)), H) := by
  refine of_wpf (open_pure rfl fc_record_Fill rfl (Nat.le_of_ble_eq_true rfl) ?_)
  have h1 : IntKind.i64.wrap (32 - (s.size : Int)) = ((32 - s.size : Nat) : Int) := by rw [wrap_i64 (by omega) (by omega)]; omega
  have h2 : ∀ H, call K f_strings_Repeat [.string ⟨#[0]⟩, .int .i64 ((32 - s.size : Nat) : Int)] H = some (.string (zer (32 - s.size)), H) := fun H => by
    rw [repeat_ok _ _ _ ⟨by omega, by omega, by
      show 1 * _ ≤ _
      omega⟩, Int.toNat_natCast, repeat_zero]
  have h3 : binV K.P .add tyStr (.string s) (.string (zer (32 - s.size))) = some (.string (s ++ zer (32 - s.size))) := binV_sadd _ _ _ _ (by rw [zer_size]; omega)
  simp [h1, h2, h3]
@[simp] theorem may_ok (q p t : Int) (d : ByteArray) (H : Heap) : call K f_record_May [.agg #[.int .i64 q, .int .i64 p, .int .i64 t, .string d]] H = some (.bool (decide (RMay q p t d)), H) := by
  refine of_wpf (open_pure rfl fc_record_May rfl (Nat.le_of_ble_eq_true rfl) ?_)
  unfold RMay
  by_cases h1 : 1 ≤ q ∧ q ≤ 2147483647 <;> by_cases h2 : t = 4
  · subst h2
    by_cases h3 : p = 0
    · subst h3; by_cases h7 : d.size = 0 <;> simp [h1, h7]
    · simp [h1, h3]
  · by_cases h4 : 0 ≤ t <;> by_cases h5 : t < 4 <;> by_cases h6 : 0 ≤ p ∧ p < 48 <;> simp [h1, h2, h4, h5, h6] <;> omega
  · subst h2
    by_cases h3 : p = 0
    · subst h3; by_cases h7 : d.size = 0 <;> simp [h1, h7]
    · simp [h1, h3]
  · by_cases h4 : 0 ≤ t <;> by_cases h5 : t < 4 <;> by_cases h6 : 0 ≤ p ∧ p < 48 <;> simp [h1, h2, h4, h5, h6]
@[simp] theorem rmay_ok (q p t : Int) (d : ByteArray) (H : Heap) : call K f_ref1_RecordMay [.agg #[.int .i64 q, .int .i64 p, .int .i64 t, .string d]] H = some (.bool (decide (RMay q p t d)), H) := by
  refine of_wpf (open_pure rfl fc_ref1_RecordMay rfl (Nat.le_of_ble_eq_true rfl) ?_)
  unfold RMay
  by_cases h1 : 1 ≤ q ∧ q ≤ 2147483647
  · by_cases h2 : p < 0
    · simp [h1, h2]; omega
    · by_cases h3 : 48 ≤ p
      · simp [h1, h2, h3]; omega
      · by_cases h4 : t < 0
        · simp [h1, h2, h3, h4]; omega
        · by_cases h5 : 4 < t
          · simp [h1, h2, h3, h4, h5]; omega
          · by_cases h6 : 24 < (d.size : Int)
            · simp [h1, h2, h3, h4, h5, h6, nil_size]; omega
            · by_cases h7 : t < 4
              · simp [h1, h2, h3, h4, h5, h6, h7]; omega
              · by_cases h8 : p = 0 <;> simp [h1, h2, h3, h4, h5, h6, h7, h8, nil_size] <;> omega
  · simp [h1]
@[simp] theorem rnum_ok (x : Int) (H : Heap) : call K f_ref1_Num [.int .i64 x] H = some (.string (four x), H) := by
  refine of_wpf (open_pure rfl fc_ref1_Num rfl (Nat.le_of_ble_eq_true rfl) ?_)
  simp [four]
@[simp] theorem zeros_ok (n : Nat) (H : Heap) (h : n ≤ 1000) : call K f_ref1_zeros [.int .i64 (n : Int)] H = some (.string (zer n), H) := by
  refine of_wpf (open_pure rfl fc_ref1_zeros rfl (Nat.le_of_ble_eq_true rfl) ?_)
  have h1 : n ≤ 2 ^ 46 := Nat.le_trans h (by decide)
  have h2 := row_fill1 H.roAll H.next n n (.int .u8 0) rfl (Nat.le_refl _)
  simp [h1, h2, nums_rep, str_zero]
@[simp] theorem number_ok (s : ByteArray) (H : Heap) (h : 4 ≤ s.size) : call K f_record_Number [.string s] H = some (.int .i64 (num4 s), H) := by
  refine of_wpf (open_pure rfl fc_record_Number rfl (Nat.le_of_ble_eq_true rfl) ?_)
  have w : ∀ i, IntKind.i64.wrap (bt s i) = bt s i := fun i => wrap_i64 (by have := bt_range s i; omega) (by have := bt_range s i; omega)
  have h0 : 0 < s.size := by omega
  have h1 : 1 < s.size := by omega
  have h2 : 2 < s.size := by omega
  have h3 : 3 < s.size := by omega
  have e := or4 (bt s 0) (bt s 1) (bt s 2) (bt s 3) (bt_range s 0) (bt_range s 1) (bt_range s 2) (bt_range s 3)
  simp [w, h0, h1, h2, h3, natOf, e, num4]
@[simp] theorem of_ok (s : ByteArray) (H : Heap) (h : 4 ≤ s.size) : call K f_ref1_Of [.string s] H = some (.int .i64 (num4 s), H) := by
  refine of_wpf (open_pure rfl fc_ref1_Of rfl (Nat.le_of_ble_eq_true rfl) ?_)
  have w : ∀ i, IntKind.i64.wrap (bt s i) = bt s i := fun i => wrap_i64 (by have := bt_range s i; omega) (by have := bt_range s i; omega)
  have h0 : 0 < s.size := by omega
  have h1 : 1 < s.size := by omega
  have h2 : 2 < s.size := by omega
  have h3 : 3 < s.size := by omega
  have e := or4 (bt s 0) (bt s 1) (bt s 2) (bt s 3) (bt_range s 0) (bt_range s 1) (bt_range s 2) (bt_range s 3)
  simp [w, h0, h1, h2, h3, natOf, e, num4]
def encRec (q p t : Int) (d : ByteArray) : Value := .agg #[.int .i64 q, .int .i64 p, .int .i64 t, .string d]
@[simp] theorem put_ok (q p t : Int) (d : ByteArray) (H : Heap) : call K f_record_Put [.agg #[.int .i64 q, .int .i64 p, .int .i64 t, .string d]] H = some (.tuple #[.string (putR q p t d).1, .int .i64 (putR q p t d).2], H) := by
  refine of_wpf (open_pure rfl fc_record_Put rfl (Nat.le_of_ble_eq_true rfl) ?_)
  by_cases h : RMay q p t d
  · have hz := RMay_size h
    rw [putR_yes h]
    have e1 : binV K.P .add tyStr (.string (four q)) (.string (strOfNums [p % 256, t % 256, (d.size : Int) % 256, 0])) = some (.string (strOfNums (head8 q p t d))) := by
      rw [binV_sadd _ _ _ _ (by simp only [four, size_strOfNums]; simp)]; unfold four; rw [str_append]; rfl
    have e2 : binV K.P .add tyStr (.string (strOfNums (head8 q p t d))) (.string d) = some (.string (strOfNums (head8 q p t d) ++ d)) := binV_sadd _ _ _ _ (by rw [size_strOfNums]; simp [head8]; omega)
    have e3 : (strOfNums (head8 q p t d) ++ d).size = 8 + d.size := by rw [size_append, size_strOfNums]; rfl
    have e4 : ∀ H, call K f_record_Fill [.string (strOfNums (head8 q p t d) ++ d)] H = some (.string (recOf q p t d), H) := fun H => by
      rw [fill_ok _ _ (by omega), e3, show 32 - (8 + d.size) = 24 - d.size by omega]; rfl
    simp [h, run_regd_tr, finD_some, Chk, e1, e2, e4, wanted]
  · rw [putR_no h]; simp [h]
@[simp] theorem rput_ok (q p t : Int) (d : ByteArray) (H : Heap) : call K f_ref1_PutRecord [.agg #[.int .i64 q, .int .i64 p, .int .i64 t, .string d]] H = some (.tuple #[.string (putR q p t d).1, .int .i64 (putR q p t d).2], H) := by
  refine of_wpf (open_pure rfl fc_ref1_PutRecord rfl (Nat.le_of_ble_eq_true rfl) ?_)
  by_cases h : RMay q p t d
  · have hz := RMay_size h
    rw [putR_yes h]
    have e1 : binV K.P .add tyStr (.string (four q)) (.string (strOfNums [p % 256, t % 256, (d.size : Int) % 256, 0])) = some (.string (strOfNums (head8 q p t d))) := by
      rw [binV_sadd _ _ _ _ (by simp only [four, size_strOfNums]; simp)]; unfold four; rw [str_append]; rfl
    have e2 : binV K.P .add tyStr (.string (strOfNums (head8 q p t d))) (.string d) = some (.string (strOfNums (head8 q p t d) ++ d)) := binV_sadd _ _ _ _ (by rw [size_strOfNums]; simp [head8]; omega)
    have e3 : (strOfNums (head8 q p t d) ++ d).size = 8 + d.size := by rw [size_append, size_strOfNums]; rfl
    have e4 : binV K.P .add tyStr (.string (strOfNums (head8 q p t d) ++ d)) (.string (zer (24 - d.size))) = some (.string (recOf q p t d)) := binV_sadd _ _ _ _ (by rw [e3, zer_size]; omega)
    have e5 : IntKind.i64.wrap (24 - (d.size : Int)) = ((24 - d.size : Nat) : Int) := by rw [wrap_i64 (by omega) (by omega)]; omega
    have e6 : ∀ H, call K f_ref1_zeros [.int .i64 ((24 - d.size : Nat) : Int)] H = some (.string (zer (24 - d.size)), H) := fun H => zeros_ok _ H (by omega)
    simp [h, run_regd_tr, finD_some, Chk, e1, e2, e4, e5, e6, wanted]
  · rw [putR_no h]; simp [h]
def valR (x : Int × Int × Int × ByteArray × Int) : Value := .tuple #[.agg #[.int .i64 x.1, .int .i64 x.2.1, .int .i64 x.2.2.1, .string x.2.2.2.1], .int .i64 x.2.2.2.2]
@[simp] theorem get_ok (s : ByteArray) (H : Heap) : call K f_record_Get [.string s] H = some (valR (getR s), H) := by
  refine of_wpf (open_pure rfl fc_record_Get rfl (Nat.le_of_ble_eq_true rfl) ?_)
  have w : ∀ i, IntKind.i64.wrap (bt s i) = bt s i := fun i => wrap_i64 (by have := bt_range s i; omega) (by have := bt_range s i; omega)
  have hr := bt_range s 6
  unfold getR valR
  by_cases h1 : s.size = 32
  · by_cases h2 : bt s 6 ≤ 24
    · obtain ⟨k, hk⟩ := Int.eq_ofNat_of_zero_le (show 0 ≤ 8 + bt s 6 by omega)
      have e1 : IntKind.i64.wrap (8 + bt s 6) = (k : Int) := by rw [wrap_i64 (by omega) (by omega)]; exact hk
      have e0 : (8 + bt s 6).toNat = k := by omega
      have e2 : 8 ≤ k ∧ k ≤ 32 := by omega
      have e3 : slsV s (some (.int .i64 8)) (some (.int .i64 (k : Int))) = some (.string (s.extract 8 k)) := by simp [slsV, bound, natOf, h1, e2]
      have h2' : ¬ 24 < bt s 6 := by omega
      by_cases h3 : RMay (num4 s) (bt s 4) (bt s 5) (s.extract 8 k)
      · by_cases h4 : recOf (num4 s) (bt s 4) (bt s 5) (s.extract 8 k) = s
        · simp [h1, h2, h2', w, natOf, e0, e1, e3, recAt, putR, h3, h4]
        · simp [h1, h2, h2', w, natOf, e0, e1, e3, recAt, putR, h3, h4]
      · simp [h1, h2, h2', w, natOf, e0, e1, e3, recAt, putR, h3]
    · have h2' : 24 < bt s 6 := by omega
      simp [h1, h2, h2', w, natOf]
  · have h1' : ¬ ((s.size : Int) = 32) := by omega
    simp [h1, h1']
end Go.AM
