/- The pure side of KeyNumbers: for all numbers and texts the printed function of the law answers true. -/
import Derived.Test.YtekgaoakijbmaaaPKeyNumbersx2
import Derived.Test.YtekgaoakijbmaaaGen
set_option linter.unusedSimpArgs false
namespace Go.Proofs.Ytekgaoakijbmaaa.Pure
open Go.RowKit Go.Proofs.Gen Go.Proofs.Ytekgaoakijbmaaa.PKeyNumbers Go.Proofs.YtekgaoakijbmaaaW.PrintWords Go.Proofs.YtekgaoakijbmaaaW.PrintLast
theorem key_word_l (s : ByteArray) (m : Int) (hs : s.size ≤ 140737488351232) : ∀ (d k i : Nat), s.size - i = d → i ≤ s.size → d < k →
    key_word.l0 k s m (s.size : Int) (i : Int) = some (decide (WordFrom s m i)) := by
  intro d
  induction d with
  | zero =>
    intro k i h1 h2 hk
    obtain ⟨k, rfl⟩ : ∃ m, k = m + 1 := ⟨k - 1, by omega⟩
    simp only [key_word.l0]
    rw [if_neg (by omega)]
    have e := wordFrom_end s m i (by omega)
    by_cases h0 : s.size = 0
    · rw [if_pos ((nil_L s).2 h0)]; simp [e, h0]
    · rw [if_neg (fun h => h0 ((nil_L s).1 h))]; simp [e, h0]
  | succ d ih =>
    intro k i h1 h2 hk
    obtain ⟨k, rfl⟩ : ∃ m, k = m + 1 := ⟨k - 1, by omega⟩
    have hi : i < s.size := by omega
    have hn : key_word.l0 k s m (s.size : Int) (wrap64 ((i : Int) + 1)) = some (decide (WordFrom s m (i + 1))) := by
      rw [wrap64_id (by omega) (by omega)]; exact ih k (i + 1) (by omega) (by omega) (by omega)
    simp only [key_word.l0]
    rw [if_pos (by omega), if_pos (by omega), if_pos (by omega), hn]
    by_cases hb : OkC (bt s i)
    · rw [decide_eq_decide.2 (wordFrom_ok s m i hb)]
      unfold OkC at hb
      repeat' split
      all_goals first | rfl | omega
    · rw [decide_eq_false (wordFrom_bad s m i hi hb)]
      unfold OkC at hb
      repeat' split
      all_goals first | rfl | omega
theorem key_word_eq (k : Nat) (s : ByteArray) (m : Int) (hs : s.size ≤ 140737488351232) (hk : s.size < k) : key_word.f k s m = some (decide (Word s m)) :=
  key_word_l s m hs s.size k 0 (by omega) (by omega) hk
theorem key_IsName_eq (k : Nat) (s : ByteArray) (hs : s.size ≤ 140737488351232) (hk : s.size < k) : key_IsName.f k s = some (decide (Word s 4)) := by
  simp [key_IsName.f, key_word_eq k s 4 hs hk]
theorem key_Id_eq (a : Int) : key_Id.f a = some (decide (1 ≤ a ∧ a ≤ 255)) := by
  unfold key_Id.f; split <;> simp <;> omega
theorem key_IsPath_eq (k : Nat) (s : ByteArray) (hs : s.size ≤ 140737488351232) (hk : s.size < k) : key_IsPath.f k s = some (decide (Word s 3)) := by
  simp [key_IsPath.f, key_word_eq k s 3 hs hk]
theorem s115 : strOfNums [115] = (⟨#[115]⟩ : ByteArray) := rfl
theorem z115 : (⟨#[115]⟩ : ByteArray).size = 1 := rfl
theorem key_Snap_eq (k : Nat) (s : ByteArray) (hs : s.size ≤ 140737488351232) (hk : s.size < k) : key_Snap.f k s = some (if Word s 4 then ((⟨#[115]⟩ : ByteArray) ++ s, 0) else (⟨#[]⟩, 1600)) := by
  have hb : 1 + s.size ≤ 9223372036854775807 := by omega
  unfold key_Snap.f
  rw [key_IsName_eq k s hs hk]
  by_cases h : Word s 4 <;> simp [h, size_strOfNums, hb, s115]
/-- what a file's key is. -/
def fileKey (a : Int) (s : ByteArray) : ByteArray × Int := if (1 ≤ a ∧ a ≤ 255) ∧ Word s 3 then (strOfNums [102, a % 256] ++ s, 0) else (⟨#[]⟩, 1600)
theorem key_File_eq (k : Nat) (a : Int) (s : ByteArray) (hs : s.size ≤ 140737488351232) (hk : s.size < k) : key_File.f k a s = some (fileKey a s) := by
  have hb : 2 + s.size ≤ 9223372036854775807 := by omega
  unfold key_File.f fileKey
  rw [key_Id_eq, key_IsPath_eq k s hs hk]
  by_cases h : 1 ≤ a ∧ a ≤ 255 <;> by_cases h' : Word s 3 <;> simp [h, h', hb, size_strOfNums]
def inodeKey (a : Int) : ByteArray × Int := if 1 ≤ a ∧ a ≤ 255 then (strOfNums [105, a % 256], 0) else (⟨#[]⟩, 1600)
theorem key_Inode_eq (a : Int) : key_Inode.f a = some (inodeKey a) := by
  unfold key_Inode.f inodeKey; rw [key_Id_eq]; simp only [Option.bind_some]
  by_cases h : 1 ≤ a ∧ a ≤ 255
  · rw [if_pos (by simpa using h), if_pos h]
  · rw [if_neg (by simpa using h), if_neg h]
def nameOf (s : ByteArray) : ByteArray × Bool := if 1 ≤ s.size ∧ bt s 0 = 115 ∧ Word (s.extract 1 s.size) 4 then (s.extract 1 s.size, true) else (⟨#[]⟩, false)
theorem key_Name_eq (k : Nat) (s : ByteArray) (hs : s.size ≤ 140737488351232) (hk : s.size < k) : key_Name.f k s = some (nameOf s) := by
  have hx : (s.extract 1 s.size).size ≤ s.size := by rw [size_extract]; omega
  unfold key_Name.f nameOf key_is.f
  rw [key_IsName_eq k _ (by omega) (by omega)]
  by_cases h1 : 1 ≤ s.size
  · rw [if_pos (by omega), if_pos (by omega)]
    simp only [Option.bind_some]
    by_cases h2 : bt s 0 = 115
    · rw [if_pos (by simpa using h2), if_pos (by omega)]
      by_cases h3 : Word (s.extract 1 s.size) 4
      · rw [if_pos (by simpa using h3), if_pos ⟨h1, h2, h3⟩]
      · rw [if_neg (by simpa using h3), if_neg (fun q => h3 q.2.2)]
    · rw [if_neg (by simpa using h2), if_neg (fun q => h2 q.2.1)]
  · rw [if_neg (by omega)]; simp [h1]
def pathOf (s : ByteArray) : Int × ByteArray × Bool := if 2 ≤ s.size ∧ bt s 0 = 102 ∧ bt s 1 ≠ 0 ∧ Word (s.extract 2 s.size) 3 then (bt s 1, s.extract 2 s.size, true) else (0, ⟨#[]⟩, false)
theorem wrap_bt (s : ByteArray) (i : Int) : wrap64 (bt s i) = bt s i := by
  have := bt_range s i; exact wrap64_id (by omega) (by omega)
theorem key_Path_eq (k : Nat) (s : ByteArray) (hs : s.size ≤ 140737488351232) (hk : s.size < k) : key_Path.f k s = some (pathOf s) := by
  have hx : (s.extract 2 s.size).size ≤ s.size := by rw [size_extract]; omega
  have hr := bt_range s 1
  unfold key_Path.f pathOf key_is.f
  rw [key_IsPath_eq k _ (by omega) (by omega), wrap_bt, key_Id_eq]
  by_cases h1 : 2 ≤ s.size
  · rw [if_pos (by omega), if_pos (by omega)]
    simp only [Option.bind_some]
    by_cases h2 : bt s 0 = 102
    · rw [if_pos (by simpa using h2), if_pos (by omega)]
      by_cases h4 : bt s 1 = 0
      · rw [if_neg (by simp; omega), if_neg (fun q => q.2.2.1 h4)]
      · rw [if_pos (by simp; omega), if_pos (by omega)]
        by_cases h3 : Word (s.extract 2 s.size) 3
        · rw [if_pos (by simpa using h3), if_pos ⟨h1, h2, h4, h3⟩]
        · rw [if_neg (by simpa using h3), if_neg (fun q => h3 q.2.2.2)]
    · rw [if_neg (by simpa using h2), if_neg (fun q => h2 q.2.1)]
  · rw [if_neg (by omega)]; simp [h1]
def numberOf (s : ByteArray) : Int × Bool := if s.size = 2 ∧ bt s 0 = 105 ∧ bt s 1 ≠ 0 then (bt s 1, true) else (0, false)
theorem key_Number_eq (s : ByteArray) : key_Number.f s = some (numberOf s) := by
  have hr := bt_range s 1
  unfold key_Number.f numberOf key_is.f
  rw [wrap_bt, key_Id_eq]
  by_cases h1 : s.size = 2
  · rw [if_pos (by omega), if_pos (by omega)]
    simp only [Option.bind_some]
    by_cases h2 : bt s 0 = 105
    · rw [if_pos (by simpa using h2), if_pos (by omega), if_pos (by omega)]
      by_cases h4 : bt s 1 = 0
      · rw [if_neg (by simp; omega), if_neg (fun q => q.2.2 h4)]
      · rw [if_pos (by simp; omega), if_pos ⟨h1, h2, h4⟩]
    · rw [if_neg (by simpa using h2), if_neg (fun q => h2 q.2.1)]
  · have h1' : ¬ ((s.size : Int) = 2) := by omega
    by_cases h3 : (s.size : Int) ≥ 2
    · have h4 : (0 : Int) < s.size := by omega
      simp only [if_pos h3, if_pos h4, Option.bind_some, h1, h1', false_and, if_false]
      split <;> rfl
    · simp only [if_neg h3, Option.bind_some, h1, false_and, if_false]; rfl
theorem awake_eq (k : Nat) (hk : 8 ≤ k) : cryostatlaw16_awake.f k = some true :=
  at_rounds (g := fun k => cryostatlaw16_awake.f k) (fun k => cryostatlaw16_awake.mono k) hk (by decide +kernel)
theorem inodeKey_L {i : Int} (h : 1 ≤ i ∧ i ≤ 255) : inodeKey i = (strOfNums [105, i % 256], 0) := by simp [inodeKey, h]
theorem KeyNumbers : cryostatlaw16_KeyNumbers.Pure := by
  intro a b p ha hb hp
  have hz : ∀ x : Int, 0 ≤ x % 18446744073709551616 % 255 ∧ x % 18446744073709551616 % 255 < 255 := fun x => ⟨Int.emod_nonneg _ (by decide), Int.emod_lt_of_pos _ (by decide)⟩
  have e : ∀ x : Int, wrap64 (1 + wrap64 (Int.tmod (IntKind.u64.wrap x) 255)) = 1 + x % 18446744073709551616 % 255 := fun x => by
    rw [umod x 255 (by decide) (by decide)]; have := hz x; exact wrap64_id (by omega) (by omega)
  generalize hi : 1 + a % 18446744073709551616 % 255 = i at *
  generalize hj : 1 + b % 18446744073709551616 % 255 = j at *
  have bi : 1 ≤ i ∧ i ≤ 255 := by have := hz a; omega
  have bj : 1 ≤ j ∧ j ≤ 255 := by have := hz b; omega
  refine ⟨p.size + 20, ?_⟩
  unfold cryostatlaw16_KeyNumbers.f
  rw [e, e, hi, hj, awake_eq _ (by omega), key_Inode_eq, key_Inode_eq]
  simp only [Option.bind_some]
  have hs : (inodeKey i).1.size = 2 := by simp [inodeKey, bi, size_strOfNums]
  have hL : ∀ x : Int, 1 ≤ x ∧ x ≤ 255 → L (inodeKey x).1 = [105, UInt8.ofNat (x % 256).toNat] := fun x h => by rw [inodeKey_L h]; rfl
  have b0 : bt (inodeKey i).1 0 = 105 := by rw [bt_L, hL i bi]; rfl
  have b1 : bt (inodeKey i).1 1 = i := by
    rw [bt_L, hL i bi]
    show ((UInt8.ofNat (i % 256).toNat).toNat : Int) = i
    rw [UInt8.toNat_ofNat']; omega
  rw [key_Number_eq, key_File_eq _ i p hp (by omega), key_Name_eq _ (inodeKey i).1 (by omega) (by omega)]
  have hn : numberOf (inodeKey i).1 = (i, true) := by simp [numberOf, hs, b0, b1]; omega
  have hm : nameOf (inodeKey i).1 = (⟨#[]⟩, false) := by simp [nameOf, b0]
  have hq : (((inodeKey i).1.toList == (inodeKey j).1.toList) != (i == j)) = false := by
    rw [bne_eq_false_iff_eq, beq_L, Bool.eq_iff_iff]
    simp only [decide_eq_true_eq, beq_iff_eq]
    constructor
    · intro q
      have := hL i bi; rw [q, hL j bj] at this
      simp only [List.cons.injEq, and_true, true_and] at this
      have := congrArg UInt8.toNat this
      rw [UInt8.toNat_ofNat', UInt8.toNat_ofNat'] at this
      omega
    · rintro rfl; rfl
  have ii : (inodeKey i).2 = 0 := by simp [inodeKey, bi]
  have ij : (inodeKey j).2 = 0 := by simp [inodeKey, bj]
  have hne : ∀ x : Int, 1 ≤ x ∧ x ≤ 255 → (fileKey i p).2 = 0 → ¬ (fileKey i p).1 = (inodeKey x).1 := fun x hx h0 q => by
    have hf : (1 ≤ i ∧ i ≤ 255) ∧ Word p 3 := by
      by_cases h : (1 ≤ i ∧ i ≤ 255) ∧ Word p 3
      · exact h
      · simp [fileKey, h] at h0
    have := hL x hx
    rw [← q] at this
    simp [fileKey, hf, L_append, L_strOfNums] at this
  obtain ⟨k, hk⟩ : ∃ k, p.size + 20 = k + 1 := ⟨p.size + 19, rfl⟩
  have hj0 : cryostatlaw16_KeyNumbers.j0 (p.size + 20) (inodeKey i).1 (inodeKey j).1 (fileKey i p).1 (fileKey i p).2 false = some true := by
    rw [hk]
    simp only [cryostatlaw16_KeyNumbers.j0, cryostatlaw0_Num.f, Option.bind_some]
    by_cases h0 : (fileKey i p).2 = 0
    · have n1 := hne i bi h0
      have n2 := hne j bj h0
      simp [h0, eq_L, n1, n2]
    · have : (fileKey i p).1 = ⟨#[]⟩ := by
        unfold fileKey at h0 ⊢; split at h0
        · exact absurd rfl h0
        · next q => rw [if_neg q]
      simp [h0, this, toList_L]
  simp only [Option.bind_some, hn, hm, cryostatlaw0_Num.f, ii, ij, hq]
  simp [hj0]
end Go.Proofs.Ytekgaoakijbmaaa.Pure
