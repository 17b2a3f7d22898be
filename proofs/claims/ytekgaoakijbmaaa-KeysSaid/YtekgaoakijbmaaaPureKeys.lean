/- The pure side of Keys: for all texts and numbers the printed function of the law answers true. -/
import Derived.Test.YtekgaoakijbmaaaPKeysx3
import Derived.Test.YtekgaoakijbmaaaGen
set_option linter.unusedSimpArgs false
namespace Go.Proofs.Ytekgaoakijbmaaa.Pure
open Go.RowKit Go.Proofs.Gen Go.Proofs.Ytekgaoakijbmaaa.PKeys Go.Proofs.YtekgaoakijbmaaaW.PrintWords Go.Proofs.YtekgaoakijbmaaaW.PrintLast
theorem key_word_l (s : ByteArray) (m : Int) (hs : s.size ≤ 140737488351232) : ∀ (d k i : Nat), s.size - i = d → i ≤ s.size → d < k →
    key_word.l0 k s m (s.size : Int) (i : Int) = some (decide (WordFrom s m i)) := by
  intro d
  induction d with
  | zero =>
    intro k i h1 h2 hk
    obtain ⟨k, rfl⟩ : ∃ m, k = m + 1 := ⟨k - 1, by omega⟩
    simp only [key_word.l0]
    rw [if_neg (by omega)]
    have e := wordFrom_end s m i (by omega)
    by_cases h0 : s.size = 0
    · rw [if_pos ((nil_L s).2 h0)]; simp [e, h0]
    · rw [if_neg (fun h => h0 ((nil_L s).1 h))]; simp [e, h0]
  | succ d ih =>
    intro k i h1 h2 hk
    obtain ⟨k, rfl⟩ : ∃ m, k = m + 1 := ⟨k - 1, by omega⟩
    have hi : i < s.size := by omega
    have hn : key_word.l0 k s m (s.size : Int) (wrap64 ((i : Int) + 1)) = some (decide (WordFrom s m (i + 1))) := by
      rw [wrap64_id (by omega) (by omega)]; exact ih k (i + 1) (by omega) (by omega) (by omega)
    simp only [key_word.l0]
    rw [if_pos (by omega), if_pos (by omega), if_pos (by omega), hn]
    by_cases hb : OkC (bt s i)
    · rw [decide_eq_decide.2 (wordFrom_ok s m i hb)]
      unfold OkC at hb
      repeat' split
      all_goals first | rfl | omega
    · rw [decide_eq_false (wordFrom_bad s m i hi hb)]
      unfold OkC at hb
      repeat' split
      all_goals first | rfl | omega
theorem key_word_eq (k : Nat) (s : ByteArray) (m : Int) (hs : s.size ≤ 140737488351232) (hk : s.size < k) : key_word.f k s m = some (decide (Word s m)) :=
  key_word_l s m hs s.size k 0 (by omega) (by omega) hk
theorem key_IsName_eq (k : Nat) (s : ByteArray) (hs : s.size ≤ 140737488351232) (hk : s.size < k) : key_IsName.f k s = some (decide (Word s 4)) := by
  simp [key_IsName.f, key_word_eq k s 4 hs hk]
theorem key_Id_eq (a : Int) : key_Id.f a = some (decide (1 ≤ a ∧ a ≤ 255)) := by
  unfold key_Id.f; split <;> simp <;> omega
theorem ref_word_l (s : ByteArray) (m : Int) (hs : s.size ≤ 140737488351232) : ∀ (d k i : Nat), s.size - i = d → i ≤ s.size → d < k →
    cryostatref16_word.l0 k s m (i : Int) = some (decide (WordFrom s m i)) := by
  intro d
  induction d with
  | zero =>
    intro k i h1 h2 hk
    obtain ⟨k, rfl⟩ : ∃ m, k = m + 1 := ⟨k - 1, by omega⟩
    simp only [cryostatref16_word.l0]
    rw [if_neg (by omega)]
    have e := wordFrom_end s m i (by omega)
    by_cases h0 : s.size = 0
    · rw [if_neg (by omega)]; simp [e, h0]
    · rw [if_pos (by omega)]; simp [e, h0]
  | succ d ih =>
    intro k i h1 h2 hk
    obtain ⟨k, rfl⟩ : ∃ m, k = m + 1 := ⟨k - 1, by omega⟩
    have hi : i < s.size := by omega
    have hn : cryostatref16_word.l0 k s m (wrap64 ((i : Int) + 1)) = some (decide (WordFrom s m (i + 1))) := by
      rw [wrap64_id (by omega) (by omega)]; exact ih k (i + 1) (by omega) (by omega) (by omega)
    simp only [cryostatref16_word.l0]
    rw [if_pos (by omega), if_pos (by omega), hn]
    by_cases hb : OkC (bt s i)
    · rw [decide_eq_decide.2 (wordFrom_ok s m i hb)]
      unfold OkC at hb
      repeat' split
      all_goals first | rfl | omega
    · rw [decide_eq_false (wordFrom_bad s m i hi hb)]
      unfold OkC at hb
      repeat' split
      all_goals first | rfl | omega
theorem ref_word_eq (k : Nat) (s : ByteArray) (m : Int) (hs : s.size ≤ 140737488351232) (hk : s.size < k) : cryostatref16_word.f k s m = some (decide (Word s m)) :=
  ref_word_l s m hs s.size k 0 (by omega) (by omega) hk
theorem ref_NameMay_eq (k : Nat) (s : ByteArray) (hs : s.size ≤ 140737488351232) (hk : s.size < k) : cryostatref16_NameMay.f k s = some (decide (Word s 4)) := by
  simp [cryostatref16_NameMay.f, ref_word_eq k s 4 hs hk]
theorem ref_idMay_eq (a : Int) : cryostatref16_idMay.f a = some (decide (1 ≤ a ∧ a ≤ 255)) := by
  unfold cryostatref16_idMay.f; split <;> simp <;> omega
theorem key_IsPath_eq (k : Nat) (s : ByteArray) (hs : s.size ≤ 140737488351232) (hk : s.size < k) : key_IsPath.f k s = some (decide (Word s 3)) := by
  simp [key_IsPath.f, key_word_eq k s 3 hs hk]
theorem s115 : strOfNums [115] = (⟨#[115]⟩ : ByteArray) := rfl
theorem z115 : (⟨#[115]⟩ : ByteArray).size = 1 := rfl
theorem key_Snap_eq (k : Nat) (s : ByteArray) (hs : s.size ≤ 140737488351232) (hk : s.size < k) : key_Snap.f k s = some (if Word s 4 then ((⟨#[115]⟩ : ByteArray) ++ s, 0) else (⟨#[]⟩, 1600)) := by
  have hb : 1 + s.size ≤ 9223372036854775807 := by omega
  unfold key_Snap.f
  rw [key_IsName_eq k s hs hk]
  by_cases h : Word s 4 <;> simp [h, size_strOfNums, hb, s115]
/-- what a file's key is. -/
def fileKey (a : Int) (s : ByteArray) : ByteArray × Int := if (1 ≤ a ∧ a ≤ 255) ∧ Word s 3 then (strOfNums [102, a % 256] ++ s, 0) else (⟨#[]⟩, 1600)
theorem key_File_eq (k : Nat) (a : Int) (s : ByteArray) (hs : s.size ≤ 140737488351232) (hk : s.size < k) : key_File.f k a s = some (fileKey a s) := by
  have hb : 2 + s.size ≤ 9223372036854775807 := by omega
  unfold key_File.f fileKey
  rw [key_Id_eq, key_IsPath_eq k s hs hk]
  by_cases h : 1 ≤ a ∧ a ≤ 255 <;> by_cases h' : Word s 3 <;> simp [h, h', hb, size_strOfNums]
def inodeKey (a : Int) : ByteArray × Int := if 1 ≤ a ∧ a ≤ 255 then (strOfNums [105, a % 256], 0) else (⟨#[]⟩, 1600)
theorem key_Inode_eq (a : Int) : key_Inode.f a = some (inodeKey a) := by
  unfold key_Inode.f inodeKey; rw [key_Id_eq]; simp only [Option.bind_some]
  by_cases h : 1 ≤ a ∧ a ≤ 255
  · rw [if_pos (by simpa using h), if_pos h]
  · rw [if_neg (by simpa using h), if_neg h]
def nameOf (s : ByteArray) : ByteArray × Bool := if 1 ≤ s.size ∧ bt s 0 = 115 ∧ Word (s.extract 1 s.size) 4 then (s.extract 1 s.size, true) else (⟨#[]⟩, false)
theorem key_Name_eq (k : Nat) (s : ByteArray) (hs : s.size ≤ 140737488351232) (hk : s.size < k) : key_Name.f k s = some (nameOf s) := by
  have hx : (s.extract 1 s.size).size ≤ s.size := by rw [size_extract]; omega
  unfold key_Name.f nameOf key_is.f
  rw [key_IsName_eq k _ (by omega) (by omega)]
  by_cases h1 : 1 ≤ s.size
  · rw [if_pos (by omega), if_pos (by omega)]
    simp only [Option.bind_some]
    by_cases h2 : bt s 0 = 115
    · rw [if_pos (by simpa using h2), if_pos (by omega)]
      by_cases h3 : Word (s.extract 1 s.size) 4
      · rw [if_pos (by simpa using h3), if_pos ⟨h1, h2, h3⟩]
      · rw [if_neg (by simpa using h3), if_neg (fun q => h3 q.2.2)]
    · rw [if_neg (by simpa using h2), if_neg (fun q => h2 q.2.1)]
  · rw [if_neg (by omega)]; simp [h1]
def pathOf (s : ByteArray) : Int × ByteArray × Bool := if 2 ≤ s.size ∧ bt s 0 = 102 ∧ bt s 1 ≠ 0 ∧ Word (s.extract 2 s.size) 3 then (bt s 1, s.extract 2 s.size, true) else (0, ⟨#[]⟩, false)
theorem wrap_bt (s : ByteArray) (i : Int) : wrap64 (bt s i) = bt s i := by
  have := bt_range s i; exact wrap64_id (by omega) (by omega)
theorem key_Path_eq (k : Nat) (s : ByteArray) (hs : s.size ≤ 140737488351232) (hk : s.size < k) : key_Path.f k s = some (pathOf s) := by
  have hx : (s.extract 2 s.size).size ≤ s.size := by rw [size_extract]; omega
  have hr := bt_range s 1
  unfold key_Path.f pathOf key_is.f
  rw [key_IsPath_eq k _ (by omega) (by omega), wrap_bt, key_Id_eq]
  by_cases h1 : 2 ≤ s.size
  · rw [if_pos (by omega), if_pos (by omega)]
    simp only [Option.bind_some]
    by_cases h2 : bt s 0 = 102
    · rw [if_pos (by simpa using h2), if_pos (by omega)]
      by_cases h4 : bt s 1 = 0
      · rw [if_neg (by simp; omega), if_neg (fun q => q.2.2.1 h4)]
      · rw [if_pos (by simp; omega), if_pos (by omega)]
        by_cases h3 : Word (s.extract 2 s.size) 3
        · rw [if_pos (by simpa using h3), if_pos ⟨h1, h2, h4, h3⟩]
        · rw [if_neg (by simpa using h3), if_neg (fun q => h3 q.2.2.2)]
    · rw [if_neg (by simpa using h2), if_neg (fun q => h2 q.2.1)]
  · rw [if_neg (by omega)]; simp [h1]
def numberOf (s : ByteArray) : Int × Bool := if s.size = 2 ∧ bt s 0 = 105 ∧ bt s 1 ≠ 0 then (bt s 1, true) else (0, false)
theorem key_Number_eq (s : ByteArray) : key_Number.f s = some (numberOf s) := by
  have hr := bt_range s 1
  unfold key_Number.f numberOf key_is.f
  rw [wrap_bt, key_Id_eq]
  by_cases h1 : s.size = 2
  · rw [if_pos (by omega), if_pos (by omega)]
    simp only [Option.bind_some]
    by_cases h2 : bt s 0 = 105
    · rw [if_pos (by simpa using h2), if_pos (by omega), if_pos (by omega)]
      by_cases h4 : bt s 1 = 0
      · rw [if_neg (by simp; omega), if_neg (fun q => q.2.2 h4)]
      · rw [if_pos (by simp; omega), if_pos ⟨h1, h2, h4⟩]
    · rw [if_neg (by simpa using h2), if_neg (fun q => h2 q.2.1)]
  · have h1' : ¬ ((s.size : Int) = 2) := by omega
    by_cases h3 : (s.size : Int) ≥ 2
    · have h4 : (0 : Int) < s.size := by omega
      simp only [if_pos h3, if_pos h4, Option.bind_some, h1, h1', false_and, if_false]
      split <;> rfl
    · simp only [if_neg h3, Option.bind_some, h1, false_and, if_false]; rfl
theorem ref_PathMay_eq (k : Nat) (s : ByteArray) (hs : s.size ≤ 140737488351232) (hk : s.size < k) : cryostatref16_PathMay.f k s = some (decide (Word s 3)) := by
  simp [cryostatref16_PathMay.f, ref_word_eq k s 3 hs hk]
theorem ref_Snap_eq (k : Nat) (s : ByteArray) (hs : s.size ≤ 140737488351232) (hk : s.size < k) : cryostatref16_SnapKey.f k s = some (if Word s 4 then ((⟨#[115]⟩ : ByteArray) ++ s, 0) else (⟨#[]⟩, 1600)) := by
  have hb : 1 + s.size ≤ 9223372036854775807 := by omega
  unfold cryostatref16_SnapKey.f
  rw [ref_NameMay_eq k s hs hk]
  by_cases h : Word s 4 <;> simp [h, hb]
theorem ref_File_eq (k : Nat) (a : Int) (s : ByteArray) (hs : s.size ≤ 140737488351232) (hk : s.size < k) : cryostatref16_FileKey.f k a s = some (fileKey a s) := by
  have hb : 2 + s.size ≤ 9223372036854775807 := by omega
  unfold cryostatref16_FileKey.f fileKey
  rw [ref_idMay_eq, ref_PathMay_eq k s hs hk]
  by_cases h : 1 ≤ a ∧ a ≤ 255 <;> by_cases h' : Word s 3 <;> simp [h, h', hb, size_strOfNums]
theorem ref_Inode_eq (a : Int) : cryostatref16_InodeKey.f a = some (inodeKey a) := by
  unfold cryostatref16_InodeKey.f inodeKey; rw [ref_idMay_eq]; simp only [Option.bind_some]
  by_cases h : 1 ≤ a ∧ a ≤ 255
  · rw [if_pos (by simpa using h), if_pos h]
  · rw [if_neg (by simpa using h), if_neg h]
theorem ref_Name_eq (k : Nat) (s : ByteArray) (hs : s.size ≤ 140737488351232) (hk : s.size < k) : cryostatref16_NameOf.f k s = some (nameOf s) := by
  have hx : (s.extract 1 s.size).size ≤ s.size := by rw [size_extract]; omega
  unfold cryostatref16_NameOf.f nameOf
  rw [ref_NameMay_eq k _ (by omega) (by omega)]
  by_cases h1 : 1 ≤ s.size
  · rw [if_neg (by omega), if_pos (by omega)]
    simp only [Option.bind_some]
    by_cases h2 : bt s 0 = 115
    · rw [if_pos h2, if_pos (by omega)]
      by_cases h3 : Word (s.extract 1 s.size) 4
      · rw [if_pos (by simpa using h3), if_pos ⟨h1, h2, h3⟩]
      · rw [if_neg (by simpa using h3), if_neg (fun q => h3 q.2.2)]
    · rw [if_neg h2, if_neg (fun q => h2 q.2.1)]
  · rw [if_pos (by omega), if_neg (fun q => h1 q.1)]
theorem ref_Path_eq (k : Nat) (s : ByteArray) (hs : s.size ≤ 140737488351232) (hk : s.size < k) : cryostatref16_PathOf.f k s = some (pathOf s) := by
  have hx : (s.extract 2 s.size).size ≤ s.size := by rw [size_extract]; omega
  unfold cryostatref16_PathOf.f pathOf
  rw [ref_PathMay_eq k _ (by omega) (by omega), wrap_bt]
  by_cases h1 : 2 ≤ s.size
  · rw [if_neg (by omega), if_pos (by omega)]
    simp only [Option.bind_some]
    by_cases h2 : bt s 0 = 102
    · rw [if_pos h2, if_pos (by omega)]
      by_cases h4 : bt s 1 = 0
      · rw [if_pos h4, if_neg (fun q => q.2.2.1 h4)]
      · rw [if_neg h4, if_pos (by omega)]
        by_cases h3 : Word (s.extract 2 s.size) 3
        · rw [if_pos (by simpa using h3), if_pos ⟨h1, h2, h4, h3⟩]
        · rw [if_neg (by simpa using h3), if_neg (fun q => h3 q.2.2.2)]
    · rw [if_neg h2, if_neg (fun q => h2 q.2.1)]
  · rw [if_pos (by omega), if_neg (fun q => h1 q.1)]
theorem ref_Number_eq (s : ByteArray) : cryostatref16_NumberOf.f s = some (numberOf s) := by
  unfold cryostatref16_NumberOf.f numberOf
  rw [wrap_bt]
  by_cases h1 : s.size = 2
  · rw [if_pos (by omega), if_pos (by omega)]
    by_cases h2 : bt s 0 = 105
    · rw [if_pos h2, if_pos (by omega)]
      by_cases h4 : bt s 1 = 0
      · rw [if_pos h4, if_neg (fun q => q.2.2 h4)]
      · rw [if_neg h4, if_pos ⟨h1, h2, h4⟩]
    · rw [if_neg h2, if_neg (fun q => h2 q.2.1)]
  · rw [if_neg (by omega), if_neg (fun q => h1 q.1)]
theorem awake_eq (k : Nat) (hk : 8 ≤ k) : cryostatlaw16_awake.f k = some true :=
  at_rounds (g := fun k => cryostatlaw16_awake.f k) (fun k => cryostatlaw16_awake.mono k) hk (by decide +kernel)
theorem Keys : cryostatlaw16_Keys.Pure := by
  intro a0 a1 a2 a3 h0 h1 h2 h3
  refine ⟨a0.size + a2.size + a3.size + 10, ?_⟩
  unfold cryostatlaw16_Keys.f
  rw [key_Snap_eq _ a0 h0 (by omega), ref_Snap_eq _ a0 h0 (by omega), key_File_eq _ a1 a2 h2 (by omega), ref_File_eq _ a1 a2 h2 (by omega), key_Inode_eq, ref_Inode_eq,
    key_Name_eq _ a3 h3 (by omega), ref_Name_eq _ a3 h3 (by omega), key_Path_eq _ a3 h3 (by omega), ref_Path_eq _ a3 h3 (by omega), key_Number_eq, ref_Number_eq, awake_eq _ (by omega)]
  simp [cryostatlaw0_Num.f]
end Go.Proofs.Ytekgaoakijbmaaa.Pure
