/- The pure side of KeyRows: for all numbers and texts the printed function of the law answers true. -/
import Derived.Test.YtekgaoakijbmaaaOKeyRowsx2
import Derived.Test.YtekgaoakijbmaaaGen
set_option linter.unusedSimpArgs false
namespace Go.Proofs.Ytekgaoakijbmaaa.Pure
open Go.RowKit Go.Proofs.Gen Go.Proofs.Ytekgaoakijbmaaa.PKeyRows Go.Proofs.YtekgaoakijbmaaaW.PrintWords Go.Proofs.YtekgaoakijbmaaaW.PrintLast
theorem key_word_l (s : ByteArray) (m : Int) (hs : s.size ≤ 140737488351232) : ∀ (d k i : Nat), s.size - i = d → i ≤ s.size → d < k →
    key_word.l0 k s m (s.size : Int) (i : Int) = some (decide (WordFrom s m i)) := by
  intro d
  induction d with
  | zero =>
    intro k i h1 h2 hk
    obtain ⟨k, rfl⟩ : ∃ m, k = m + 1 := ⟨k - 1, by omega⟩
    simp only [key_word.l0]
    rw [if_neg (by omega)]
    have e := wordFrom_end s m i (by omega)
    by_cases h0 : s.size = 0
    · rw [if_pos ((nil_L s).2 h0)]; simp [e, h0]
    · rw [if_neg (fun h => h0 ((nil_L s).1 h))]; simp [e, h0]
  | succ d ih =>
    intro k i h1 h2 hk
    obtain ⟨k, rfl⟩ : ∃ m, k = m + 1 := ⟨k - 1, by omega⟩
    have hi : i < s.size := by omega
    have hn : key_word.l0 k s m (s.size : Int) (wrap64 ((i : Int) + 1)) = some (decide (WordFrom s m (i + 1))) := by
      rw [wrap64_id (by omega) (by omega)]; exact ih k (i + 1) (by omega) (by omega) (by omega)
    simp only [key_word.l0]
    rw [if_pos (by omega), if_pos (by omega), if_pos (by omega), hn]
    by_cases hb : OkC (bt s i)
    · rw [decide_eq_decide.2 (wordFrom_ok s m i hb)]
      unfold OkC at hb
      repeat' split
      all_goals first | rfl | omega
    · rw [decide_eq_false (wordFrom_bad s m i hi hb)]
      unfold OkC at hb
      repeat' split
      all_goals first | rfl | omega
theorem key_word_eq (k : Nat) (s : ByteArray) (m : Int) (hs : s.size ≤ 140737488351232) (hk : s.size < k) : key_word.f k s m = some (decide (Word s m)) :=
  key_word_l s m hs s.size k 0 (by omega) (by omega) hk
theorem key_IsName_eq (k : Nat) (s : ByteArray) (hs : s.size ≤ 140737488351232) (hk : s.size < k) : key_IsName.f k s = some (decide (Word s 4)) := by
  simp [key_IsName.f, key_word_eq k s 4 hs hk]
theorem key_Id_eq (a : Int) : key_Id.f a = some (decide (1 ≤ a ∧ a ≤ 255)) := by
  unfold key_Id.f; split <;> simp <;> omega
theorem key_IsPath_eq (k : Nat) (s : ByteArray) (hs : s.size ≤ 140737488351232) (hk : s.size < k) : key_IsPath.f k s = some (decide (Word s 3)) := by
  simp [key_IsPath.f, key_word_eq k s 3 hs hk]
theorem s115 : strOfNums [115] = (⟨#[115]⟩ : ByteArray) := rfl
theorem z115 : (⟨#[115]⟩ : ByteArray).size = 1 := rfl
theorem key_Snap_eq (k : Nat) (s : ByteArray) (hs : s.size ≤ 140737488351232) (hk : s.size < k) : key_Snap.f k s = some (if Word s 4 then ((⟨#[115]⟩ : ByteArray) ++ s, 0) else (⟨#[]⟩, 1600)) := by
  have hb : 1 + s.size ≤ 9223372036854775807 := by omega
  unfold key_Snap.f
  rw [key_IsName_eq k s hs hk]
  by_cases h : Word s 4 <;> simp [h, size_strOfNums, hb, s115]
/-- what a file's key is. -/
def fileKey (a : Int) (s : ByteArray) : ByteArray × Int := if (1 ≤ a ∧ a ≤ 255) ∧ Word s 3 then (strOfNums [102, a % 256] ++ s, 0) else (⟨#[]⟩, 1600)
theorem key_File_eq (k : Nat) (a : Int) (s : ByteArray) (hs : s.size ≤ 140737488351232) (hk : s.size < k) : key_File.f k a s = some (fileKey a s) := by
  have hb : 2 + s.size ≤ 9223372036854775807 := by omega
  unfold key_File.f fileKey
  rw [key_Id_eq, key_IsPath_eq k s hs hk]
  by_cases h : 1 ≤ a ∧ a ≤ 255 <;> by_cases h' : Word s 3 <;> simp [h, h', hb, size_strOfNums]
def inodeKey (a : Int) : ByteArray × Int := if 1 ≤ a ∧ a ≤ 255 then (strOfNums [105, a % 256], 0) else (⟨#[]⟩, 1600)
theorem key_Inode_eq (a : Int) : key_Inode.f a = some (inodeKey a) := by
  unfold key_Inode.f inodeKey; rw [key_Id_eq]; simp only [Option.bind_some]
  by_cases h : 1 ≤ a ∧ a ≤ 255
  · rw [if_pos (by simpa using h), if_pos h]
  · rw [if_neg (by simpa using h), if_neg h]
def nameOf (s : ByteArray) : ByteArray × Bool := if 1 ≤ s.size ∧ bt s 0 = 115 ∧ Word (s.extract 1 s.size) 4 then (s.extract 1 s.size, true) else (⟨#[]⟩, false)
theorem key_Name_eq (k : Nat) (s : ByteArray) (hs : s.size ≤ 140737488351232) (hk : s.size < k) : key_Name.f k s = some (nameOf s) := by
  have hx : (s.extract 1 s.size).size ≤ s.size := by rw [size_extract]; omega
  unfold key_Name.f nameOf key_is.f
  rw [key_IsName_eq k _ (by omega) (by omega)]
  by_cases h1 : 1 ≤ s.size
  · rw [if_pos (by omega), if_pos (by omega)]
    simp only [Option.bind_some]
    by_cases h2 : bt s 0 = 115
    · rw [if_pos (by simpa using h2), if_pos (by omega)]
      by_cases h3 : Word (s.extract 1 s.size) 4
      · rw [if_pos (by simpa using h3), if_pos ⟨h1, h2, h3⟩]
      · rw [if_neg (by simpa using h3), if_neg (fun q => h3 q.2.2)]
    · rw [if_neg (by simpa using h2), if_neg (fun q => h2 q.2.1)]
  · rw [if_neg (by omega)]; simp [h1]
def pathOf (s : ByteArray) : Int × ByteArray × Bool := if 2 ≤ s.size ∧ bt s 0 = 102 ∧ bt s 1 ≠ 0 ∧ Word (s.extract 2 s.size) 3 then (bt s 1, s.extract 2 s.size, true) else (0, ⟨#[]⟩, false)
theorem wrap_bt (s : ByteArray) (i : Int) : wrap64 (bt s i) = bt s i := by
  have := bt_range s i; exact wrap64_id (by omega) (by omega)
theorem key_Path_eq (k : Nat) (s : ByteArray) (hs : s.size ≤ 140737488351232) (hk : s.size < k) : key_Path.f k s = some (pathOf s) := by
  have hx : (s.extract 2 s.size).size ≤ s.size := by rw [size_extract]; omega
  have hr := bt_range s 1
  unfold key_Path.f pathOf key_is.f
  rw [key_IsPath_eq k _ (by omega) (by omega), wrap_bt, key_Id_eq]
  by_cases h1 : 2 ≤ s.size
  · rw [if_pos (by omega), if_pos (by omega)]
    simp only [Option.bind_some]
    by_cases h2 : bt s 0 = 102
    · rw [if_pos (by simpa using h2), if_pos (by omega)]
      by_cases h4 : bt s 1 = 0
      · rw [if_neg (by simp; omega), if_neg (fun q => q.2.2.1 h4)]
      · rw [if_pos (by simp; omega), if_pos (by omega)]
        by_cases h3 : Word (s.extract 2 s.size) 3
        · rw [if_pos (by simpa using h3), if_pos ⟨h1, h2, h4, h3⟩]
        · rw [if_neg (by simpa using h3), if_neg (fun q => h3 q.2.2.2)]
    · rw [if_neg (by simpa using h2), if_neg (fun q => h2 q.2.1)]
  · rw [if_neg (by omega)]; simp [h1]
def numberOf (s : ByteArray) : Int × Bool := if s.size = 2 ∧ bt s 0 = 105 ∧ bt s 1 ≠ 0 then (bt s 1, true) else (0, false)
theorem key_Number_eq (s : ByteArray) : key_Number.f s = some (numberOf s) := by
  have hr := bt_range s 1
  unfold key_Number.f numberOf key_is.f
  rw [wrap_bt, key_Id_eq]
  by_cases h1 : s.size = 2
  · rw [if_pos (by omega), if_pos (by omega)]
    simp only [Option.bind_some]
    by_cases h2 : bt s 0 = 105
    · rw [if_pos (by simpa using h2), if_pos (by omega), if_pos (by omega)]
      by_cases h4 : bt s 1 = 0
      · rw [if_neg (by simp; omega), if_neg (fun q => q.2.2 h4)]
      · rw [if_pos (by simp; omega), if_pos ⟨h1, h2, h4⟩]
    · rw [if_neg (by simpa using h2), if_neg (fun q => h2 q.2.1)]
  · have h1' : ¬ ((s.size : Int) = 2) := by omega
    by_cases h3 : (s.size : Int) ≥ 2
    · have h4 : (0 : Int) < s.size := by omega
      simp only [if_pos h3, if_pos h4, Option.bind_some, h1, h1', false_and, if_false]
      split <;> rfl
    · simp only [if_neg h3, Option.bind_some, h1, false_and, if_false]; rfl
theorem awake_eq (k : Nat) (hk : 8 ≤ k) : cryostatlaw16_awake.f k = some true :=
  at_rounds (g := fun k => cryostatlaw16_awake.f k) (fun k => cryostatlaw16_awake.mono k) hk (by decide +kernel)
theorem u8_small {x : Int} (h0 : 0 ≤ x) (h1 : x ≤ 255) : (((UInt8.ofNat (x % 256).toNat).toNat : Nat) : Int) = x := by
  rw [UInt8.toNat_ofNat']; omega
theorem fileKey_ok (i : Int) (s : ByteArray) (hi : 1 ≤ i ∧ i ≤ 255) : (fileKey i s).2 = 0 ↔ Word s 3 := by
  unfold fileKey; by_cases h : Word s 3 <;> simp [h, hi]
theorem fileKey_no (i : Int) (s : ByteArray) (h : ¬ (fileKey i s).2 = 0) : (fileKey i s).1 = ⟨#[]⟩ := by
  unfold fileKey at h ⊢; split at h
  · exact absurd rfl h
  · next q => rw [if_neg q]
theorem fileKey_L (i : Int) (s : ByteArray) (hi : 1 ≤ i ∧ i ≤ 255) (h : Word s 3) : L (fileKey i s).1 = 102 :: UInt8.ofNat (i % 256).toNat :: L s := by
  simp [fileKey, h, hi, L_append, L_strOfNums]
theorem less_cons (a : UInt8) (x y : List UInt8) : Op.bytesLess (a :: x) (a :: y) = Op.bytesLess x y := by
  simp [Op.bytesLess]
theorem nil_iff (s : ByteArray) : (s.toList == ([] : List UInt8)) = decide (s.size = 0) := by
  rw [Bool.eq_iff_iff]; simp only [beq_iff_eq, decide_eq_true_eq]; exact nil_L s
theorem fileKey_size (i : Int) (s : ByteArray) (hi : 1 ≤ i ∧ i ≤ 255) : (fileKey i s).1.size = 0 ↔ ¬ Word s 3 := by
  constructor
  · intro h hw; have := fileKey_L i s hi hw; rw [← L_length, this] at h; simp at h
  · intro h; rw [fileKey_no i s (fun q => h ((fileKey_ok i s hi).1 q))]; rfl
theorem KeyRows (a0 : Int) (a b : ByteArray) (a3 : Int) (_ : (Lit.int .i64 a0).wf = true) (ha : a.size ≤ 140737488351232) (hb : b.size ≤ 140737488351232) (_ : (Lit.int .i64 a3).wf = true) : ∃ k, cryostatlaw16_KeyRows.f k a0 a b a3 = some true := by
  refine ⟨a.size + b.size + 20, ?_⟩
  unfold cryostatlaw16_KeyRows.f
  have hz : ∀ x : Int, 0 ≤ x % 128 ∧ x % 128 < 128 := fun x => ⟨Int.emod_nonneg _ (by decide), Int.emod_lt_of_pos _ (by decide)⟩
  have e : ∀ x : Int, wrap64 (1 + bits .and .i64 x 127) = 1 + x % 128 := fun x => by
    rw [and127]; have := hz x; exact wrap64_id (by omega) (by omega)
  rw [e, e, awake_eq _ (by omega)]
  have bi : 1 ≤ 1 + a0 % 128 ∧ 1 + a0 % 128 ≤ 128 := by have := hz a0; omega
  have bj : 1 ≤ 1 + a3 % 128 ∧ 1 + a3 % 128 ≤ 128 := by have := hz a3; omega
  generalize 1 + a0 % 128 = i at bi
  generalize 1 + a3 % 128 = j at bj
  have hi : 1 ≤ i ∧ i ≤ 255 := by omega
  have hj : 1 ≤ j ∧ j ≤ 255 := by omega
  rw [key_File_eq _ i a ha (by omega), key_File_eq _ i b hb (by omega), key_File_eq _ j a ha (by omega)]
  obtain ⟨k, hk⟩ : ∃ k, a.size + b.size + 20 = k + 1 := ⟨a.size + b.size + 19, rfl⟩
  rw [hk]
  have no : ∀ (s : ByteArray) (i : Int), 1 ≤ i ∧ i ≤ 255 → (((fileKey i s).2 != 0) == ((fileKey i s).1.toList == ([] : List UInt8))) = true := fun s i hi => by
    rw [nil_iff]
    by_cases h : Word s 3
    · simp [(fileKey_ok i s hi).2 h, fileKey_size i s hi, h]
    · simp [fileKey_ok i s hi, fileKey_size i s hi, h]
  have jt : cryostatlaw16_KeyRows.j0 (k + 1) a b i j (fileKey i a).1 (fileKey i a).2 (fileKey i b).1 (fileKey i b).2 (fileKey j a).1 true = some true := by
    simp only [cryostatlaw16_KeyRows.j0, cryostatlaw0_Num.f, Option.bind_some, if_true]
    rw [if_pos (no a i hi), no b i hi]
  have f1 := fileKey_ok i a hi
  have f2 := fileKey_ok i b hi
  have f3 := fileKey_ok j a hj
  simp only [Option.bind_some, if_true, cryostatlaw0_Num.f]
  by_cases wa : Word a 3
  · rw [if_pos (f1.2 wa)]
    by_cases wb : Word b 3
    · rw [if_pos (f2.2 wb)]
      have hne : ((fileKey j a).2 != 0) = false := by simp [f3.2 wa]
      rw [hne]
      simp only [cryostatlaw16_KeyRows.j0, cryostatlaw0_Num.f]
      rw [key_Inode_eq]
      have l1 := fileKey_L i a hi wa
      have l2 := fileKey_L i b hi wb
      have l3 := fileKey_L j a hj wa
      have li : L (inodeKey i).1 = [105, UInt8.ofNat (i % 256).toNat] := by simp [inodeKey, hi, L_strOfNums]
      have ii : (inodeKey i).2 = 0 := by simp [inodeKey, hi]
      have q1 : (Op.bytesLess (fileKey i a).1.toList (fileKey i b).1.toList == Op.bytesLess a.toList b.toList) = true := by
        simp only [toList_L, l1, l2, less_cons, beq_self_eq_true]
      have q2 : (((fileKey i a).1.toList == (fileKey i b).1.toList) == (a.toList == b.toList)) = true := by
        simp only [toList_L, l1, l2]; rw [beq_iff_eq, Bool.eq_iff_iff]; simp only [beq_iff_eq, List.cons.injEq, true_and]
      have q3 : Op.bytesLess (fileKey i a).1.toList (inodeKey i).1.toList = true := by
        simp only [toList_L, l1, li]; simp [Op.bytesLess]
      have q4 : ¬ i = j → (Op.bytesLess (fileKey i a).1.toList (fileKey j a).1.toList == decide (i < j)) = true := by
        intro hij
        simp only [toList_L, l1, l3, less_cons]
        have ci := u8_small (x := i) (by omega) (by omega)
        have cj := u8_small (x := j) (by omega) (by omega)
        rw [beq_iff_eq, Bool.eq_iff_iff]
        simp only [Op.bytesLess, beq_iff_eq, Bool.or_eq_true, Bool.and_eq_true, decide_eq_true_eq]
        rw [UInt8.lt_iff_toNat_lt]
        constructor
        · rintro (h | ⟨h, _⟩)
          · omega
          · rw [h] at ci; omega
        · intro h; left; omega
      simp only [Option.bind_some, ii, if_true, q1, q2, q3]
      by_cases hij : i = j
      · simp [hij]
      · simp [hij, q4 hij]
    · rw [if_neg (fun q => wb (f2.1 q))]; exact jt
  · rw [if_neg (fun q => wa (f1.1 q))]; exact jt
end Go.Proofs.Ytekgaoakijbmaaa.Pure
