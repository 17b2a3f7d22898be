/- The pure side of KeyForms: for all numbers the printed function of the law answers true. -/
import Derived.Test.YtekgaoakijbmaaaOKeyFormsx2
import Derived.Test.YtekgaoakijbmaaaGen
set_option linter.unusedSimpArgs false
namespace Go.Proofs.Ytekgaoakijbmaaa.Pure
open Go.RowKit Go.Proofs.Gen Go.Proofs.Ytekgaoakijbmaaa.PKeyForms Go.Proofs.YtekgaoakijbmaaaW.PrintWords Go.Proofs.YtekgaoakijbmaaaW.PrintLast
theorem key_word_l (s : ByteArray) (m : Int) (hs : s.size ≤ 140737488351232) : ∀ (d k i : Nat), s.size - i = d → i ≤ s.size → d < k →
    key_word.l0 k s m (s.size : Int) (i : Int) = some (decide (WordFrom s m i)) := by
  intro d
  induction d with
  | zero =>
    intro k i h1 h2 hk
    obtain ⟨k, rfl⟩ : ∃ m, k = m + 1 := ⟨k - 1, by omega⟩
    simp only [key_word.l0]
    rw [if_neg (by omega)]
    have e := wordFrom_end s m i (by omega)
    by_cases h0 : s.size = 0
    · rw [if_pos ((nil_L s).2 h0)]; simp [e, h0]
    · rw [if_neg (fun h => h0 ((nil_L s).1 h))]; simp [e, h0]
  | succ d ih =>
    intro k i h1 h2 hk
    obtain ⟨k, rfl⟩ : ∃ m, k = m + 1 := ⟨k - 1, by omega⟩
    have hi : i < s.size := by omega
    have hn : key_word.l0 k s m (s.size : Int) (wrap64 ((i : Int) + 1)) = some (decide (WordFrom s m (i + 1))) := by
      rw [wrap64_id (by omega) (by omega)]; exact ih k (i + 1) (by omega) (by omega) (by omega)
    simp only [key_word.l0]
    rw [if_pos (by omega), if_pos (by omega), if_pos (by omega), hn]
    by_cases hb : OkC (bt s i)
    · rw [decide_eq_decide.2 (wordFrom_ok s m i hb)]
      unfold OkC at hb
      repeat' split
      all_goals first | rfl | omega
    · rw [decide_eq_false (wordFrom_bad s m i hi hb)]
      unfold OkC at hb
      repeat' split
      all_goals first | rfl | omega
theorem key_word_eq (k : Nat) (s : ByteArray) (m : Int) (hs : s.size ≤ 140737488351232) (hk : s.size < k) : key_word.f k s m = some (decide (Word s m)) :=
  key_word_l s m hs s.size k 0 (by omega) (by omega) hk
theorem key_IsName_eq (k : Nat) (s : ByteArray) (hs : s.size ≤ 140737488351232) (hk : s.size < k) : key_IsName.f k s = some (decide (Word s 4)) := by
  simp [key_IsName.f, key_word_eq k s 4 hs hk]
theorem key_Id_eq (a : Int) : key_Id.f a = some (decide (1 ≤ a ∧ a ≤ 255)) := by
  unfold key_Id.f; split <;> simp <;> omega
theorem key_IsPath_eq (k : Nat) (s : ByteArray) (hs : s.size ≤ 140737488351232) (hk : s.size < k) : key_IsPath.f k s = some (decide (Word s 3)) := by
  simp [key_IsPath.f, key_word_eq k s 3 hs hk]
theorem s115 : strOfNums [115] = (⟨#[115]⟩ : ByteArray) := rfl
theorem z115 : (⟨#[115]⟩ : ByteArray).size = 1 := rfl
theorem key_Snap_eq (k : Nat) (s : ByteArray) (hs : s.size ≤ 140737488351232) (hk : s.size < k) : key_Snap.f k s = some (if Word s 4 then ((⟨#[115]⟩ : ByteArray) ++ s, 0) else (⟨#[]⟩, 1600)) := by
  have hb : 1 + s.size ≤ 9223372036854775807 := by omega
  unfold key_Snap.f
  rw [key_IsName_eq k s hs hk]
  by_cases h : Word s 4 <;> simp [h, size_strOfNums, hb, s115]
/-- what a file's key is. -/
def fileKey (a : Int) (s : ByteArray) : ByteArray × Int := if (1 ≤ a ∧ a ≤ 255) ∧ Word s 3 then (strOfNums [102, a % 256] ++ s, 0) else (⟨#[]⟩, 1600)
theorem key_File_eq (k : Nat) (a : Int) (s : ByteArray) (hs : s.size ≤ 140737488351232) (hk : s.size < k) : key_File.f k a s = some (fileKey a s) := by
  have hb : 2 + s.size ≤ 9223372036854775807 := by omega
  unfold key_File.f fileKey
  rw [key_Id_eq, key_IsPath_eq k s hs hk]
  by_cases h : 1 ≤ a ∧ a ≤ 255 <;> by_cases h' : Word s 3 <;> simp [h, h', hb, size_strOfNums]
def inodeKey (a : Int) : ByteArray × Int := if 1 ≤ a ∧ a ≤ 255 then (strOfNums [105, a % 256], 0) else (⟨#[]⟩, 1600)
theorem key_Inode_eq (a : Int) : key_Inode.f a = some (inodeKey a) := by
  unfold key_Inode.f inodeKey; rw [key_Id_eq]; simp only [Option.bind_some]
  by_cases h : 1 ≤ a ∧ a ≤ 255
  · rw [if_pos (by simpa using h), if_pos h]
  · rw [if_neg (by simpa using h), if_neg h]
def nameOf (s : ByteArray) : ByteArray × Bool := if 1 ≤ s.size ∧ bt s 0 = 115 ∧ Word (s.extract 1 s.size) 4 then (s.extract 1 s.size, true) else (⟨#[]⟩, false)
theorem key_Name_eq (k : Nat) (s : ByteArray) (hs : s.size ≤ 140737488351232) (hk : s.size < k) : key_Name.f k s = some (nameOf s) := by
  have hx : (s.extract 1 s.size).size ≤ s.size := by rw [size_extract]; omega
  unfold key_Name.f nameOf key_is.f
  rw [key_IsName_eq k _ (by omega) (by omega)]
  by_cases h1 : 1 ≤ s.size
  · rw [if_pos (by omega), if_pos (by omega)]
    simp only [Option.bind_some]
    by_cases h2 : bt s 0 = 115
    · rw [if_pos (by simpa using h2), if_pos (by omega)]
      by_cases h3 : Word (s.extract 1 s.size) 4
      · rw [if_pos (by simpa using h3), if_pos ⟨h1, h2, h3⟩]
      · rw [if_neg (by simpa using h3), if_neg (fun q => h3 q.2.2)]
    · rw [if_neg (by simpa using h2), if_neg (fun q => h2 q.2.1)]
  · rw [if_neg (by omega)]; simp [h1]
def pathOf (s : ByteArray) : Int × ByteArray × Bool := if 2 ≤ s.size ∧ bt s 0 = 102 ∧ bt s 1 ≠ 0 ∧ Word (s.extract 2 s.size) 3 then (bt s 1, s.extract 2 s.size, true) else (0, ⟨#[]⟩, false)
theorem wrap_bt (s : ByteArray) (i : Int) : wrap64 (bt s i) = bt s i := by
  have := bt_range s i; exact wrap64_id (by omega) (by omega)
theorem key_Path_eq (k : Nat) (s : ByteArray) (hs : s.size ≤ 140737488351232) (hk : s.size < k) : key_Path.f k s = some (pathOf s) := by
  have hx : (s.extract 2 s.size).size ≤ s.size := by rw [size_extract]; omega
  have hr := bt_range s 1
  unfold key_Path.f pathOf key_is.f
  rw [key_IsPath_eq k _ (by omega) (by omega), wrap_bt, key_Id_eq]
  by_cases h1 : 2 ≤ s.size
  · rw [if_pos (by omega), if_pos (by omega)]
    simp only [Option.bind_some]
    by_cases h2 : bt s 0 = 102
    · rw [if_pos (by simpa using h2), if_pos (by omega)]
      by_cases h4 : bt s 1 = 0
      · rw [if_neg (by simp; omega), if_neg (fun q => q.2.2.1 h4)]
      · rw [if_pos (by simp; omega), if_pos (by omega)]
        by_cases h3 : Word (s.extract 2 s.size) 3
        · rw [if_pos (by simpa using h3), if_pos ⟨h1, h2, h4, h3⟩]
        · rw [if_neg (by simpa using h3), if_neg (fun q => h3 q.2.2.2)]
    · rw [if_neg (by simpa using h2), if_neg (fun q => h2 q.2.1)]
  · rw [if_neg (by omega)]; simp [h1]
def numberOf (s : ByteArray) : Int × Bool := if s.size = 2 ∧ bt s 0 = 105 ∧ bt s 1 ≠ 0 then (bt s 1, true) else (0, false)
theorem key_Number_eq (s : ByteArray) : key_Number.f s = some (numberOf s) := by
  have hr := bt_range s 1
  unfold key_Number.f numberOf key_is.f
  rw [wrap_bt, key_Id_eq]
  by_cases h1 : s.size = 2
  · rw [if_pos (by omega), if_pos (by omega)]
    simp only [Option.bind_some]
    by_cases h2 : bt s 0 = 105
    · rw [if_pos (by simpa using h2), if_pos (by omega), if_pos (by omega)]
      by_cases h4 : bt s 1 = 0
      · rw [if_neg (by simp; omega), if_neg (fun q => q.2.2 h4)]
      · rw [if_pos (by simp; omega), if_pos ⟨h1, h2, h4⟩]
    · rw [if_neg (by simpa using h2), if_neg (fun q => h2 q.2.1)]
  · have h1' : ¬ ((s.size : Int) = 2) := by omega
    by_cases h3 : (s.size : Int) ≥ 2
    · have h4 : (0 : Int) < s.size := by omega
      simp only [if_pos h3, if_pos h4, Option.bind_some, h1, h1', false_and, if_false]
      split <;> rfl
    · simp only [if_neg h3, Option.bind_some, h1, false_and, if_false]; rfl
theorem awake_eq (k : Nat) (hk : 8 ≤ k) : cryostatlaw16_awake.f k = some true :=
  at_rounds (g := fun k => cryostatlaw16_awake.f k) (fun k => cryostatlaw16_awake.mono k) hk (by decide +kernel)
theorem rd_mem {xs : List Int} {i : Int} (h0 : 0 ≤ i) (h : i < (xs.length : Int)) : rd xs i ∈ xs := by
  unfold rd; rw [List.getD_eq_getElem?_getD, List.getElem?_eq_getElem (show i.toNat < xs.length by omega)]; exact List.getElem_mem _
theorem rdOf_mem {xs : List ByteArray} {i : Int} (h0 : 0 ≤ i) (h : i < (xs.length : Int)) : rdOf ByteArray.empty xs i ∈ xs := by
  unfold rdOf; rw [List.getD_eq_getElem?_getD, List.getElem?_eq_getElem (show i.toNat < xs.length by omega)]; exact List.getElem_mem _
theorem KeyForms (a0 a1 : Int) (_ : (Lit.int .i64 a0).wf = true) (_ : (Lit.int .i64 a1).wf = true) : ∃ k, cryostatlaw16_KeyForms.f k a0 a1 = some true := by
  refine ⟨30, ?_⟩
  unfold cryostatlaw16_KeyForms.f
  rw [awake_eq _ (by omega), and1023]
  have hm : 0 ≤ a1 % 1024 ∧ a1 % 1024 < 1024 := ⟨Int.emod_nonneg _ (by decide), Int.emod_lt_of_pos _ (by decide)⟩
  have ed : wrap64 (1 + a1 % 1024) = 1 + a1 % 1024 := wrap64_id (by omega) (by omega)
  rw [ed]
  generalize hd : 1 + a1 % 1024 = d
  have bd : 1 ≤ d ∧ d ≤ 1024 := by omega
  have e2 : wrap64 (-d) = -d := wrap64_id (by omega) (by omega)
  have e3 : wrap64 (255 + d) = 255 + d := wrap64_id (by omega) (by omega)
  rw [umod a0 7 (by decide) (by decide), umod a0 10 (by decide) (by decide), e2, e3]
  have hi : 0 ≤ a0 % 18446744073709551616 % 7 ∧ a0 % 18446744073709551616 % 7 < 7 := ⟨Int.emod_nonneg _ (by decide), Int.emod_lt_of_pos _ (by decide)⟩
  have hj : 0 ≤ a0 % 18446744073709551616 % 10 ∧ a0 % 18446744073709551616 % 10 < 10 := ⟨Int.emod_nonneg _ (by decide), Int.emod_lt_of_pos _ (by decide)⟩
  generalize a0 % 18446744073709551616 % 7 = i at hi
  generalize a0 % 18446744073709551616 % 10 = j at hj
  have ht : 0 ≤ Int.tmod i 3 ∧ Int.tmod i 3 < 3 := by rw [Int.tmod_eq_emod_of_nonneg hi.1]; exact ⟨Int.emod_nonneg _ (by decide), Int.emod_lt_of_pos _ (by decide)⟩
  have N : ∀ s, s ∈ ([(⟨#[]⟩ : ByteArray), (⟨#[116, 111, 111, 108, 111]⟩ : ByteArray), (⟨#[65]⟩ : ByteArray), (⟨#[97, 45, 98]⟩ : ByteArray), (⟨#[32, 97]⟩ : ByteArray), (⟨#[97, 0]⟩ : ByteArray), (⟨#[195, 169]⟩ : ByteArray)] : List ByteArray) →
      ¬ Word s 4 ∧ s.size ≤ 5 ∧ (nameOf ((⟨#[115]⟩ : ByteArray) ++ s)).2 = false ∧ ((⟨#[115]⟩ : ByteArray) ++ s).size ≤ 6 := by decide +kernel
  have P : ∀ s, s ∈ ([(⟨#[]⟩ : ByteArray), (⟨#[102, 111, 117, 114]⟩ : ByteArray), (⟨#[65]⟩ : ByteArray), (⟨#[46]⟩ : ByteArray), (⟨#[97, 47]⟩ : ByteArray), (⟨#[95]⟩ : ByteArray), (⟨#[255]⟩ : ByteArray)] : List ByteArray) →
      ¬ Word s 3 ∧ s.size ≤ 5 ∧ (pathOf ((⟨#[102, 3]⟩ : ByteArray) ++ s)).2.2 = false ∧ ((⟨#[102, 3]⟩ : ByteArray) ++ s).size ≤ 7 := by decide +kernel
  have Z : ∀ s, s ∈ ([(⟨#[]⟩ : ByteArray), (⟨#[115]⟩ : ByteArray), (⟨#[102]⟩ : ByteArray), (⟨#[105]⟩ : ByteArray), (⟨#[102, 0, 97]⟩ : ByteArray), (⟨#[105, 0]⟩ : ByteArray), (⟨#[105, 1, 120]⟩ : ByteArray), (⟨#[120, 97]⟩ : ByteArray), (⟨#[102, 97]⟩ : ByteArray), (⟨#[83, 49]⟩ : ByteArray)] : List ByteArray) →
      (nameOf s).2 = false ∧ (pathOf s).2.2 = false ∧ (numberOf s).2 = false ∧ s.size ≤ 5 := by decide +kernel
  have X : ∀ x : Int, x ∈ ([0, -d, 255 + d] : List Int) → ¬ (1 ≤ x ∧ x ≤ 255) := by
    intro x hx; simp only [List.mem_cons, List.not_mem_nil, or_false] at hx; omega
  simp only [Option.bind_some, if_true]
  have l1 := N _ (rdOf_mem hi.1 (show i < _ by simpa using hi.2))
  have l2 := P _ (rdOf_mem hi.1 (show i < _ by simpa using hi.2))
  have l3 := X _ (rd_mem ht.1 (show Int.tmod i 3 < _ by simpa using ht.2))
  have l4 := Z _ (rdOf_mem hj.1 (show j < _ by simpa using hj.2))
  generalize rdOf ByteArray.empty [(⟨#[]⟩ : ByteArray), (⟨#[116, 111, 111, 108, 111]⟩ : ByteArray), (⟨#[65]⟩ : ByteArray), (⟨#[97, 45, 98]⟩ : ByteArray), (⟨#[32, 97]⟩ : ByteArray), (⟨#[97, 0]⟩ : ByteArray), (⟨#[195, 169]⟩ : ByteArray)] i = nm at *
  generalize rdOf ByteArray.empty _ i = pt at *
  generalize rdOf ByteArray.empty _ j = zs at *
  generalize rd _ _ = x at *
  have w1 : (⟨#[97]⟩ : ByteArray).size ≤ 5 := by decide
  rw [key_Snap_eq _ nm (by omega) (by omega), key_File_eq _ 3 pt (by omega) (by omega), key_File_eq _ x _ (by omega) (by omega), key_Inode_eq, key_Name_eq _ (⟨#[115]⟩ ++ nm) (by omega) (by omega), key_Path_eq _ (⟨#[102, 3]⟩ ++ pt) (by omega) (by omega),
    key_Name_eq _ zs (by omega) (by omega), key_Path_eq _ zs (by omega) (by omega), key_Number_eq]
  have f1 : (fileKey 3 pt).2 = 1600 := by simp [fileKey, l2.1]
  have f2 : ∀ s, (fileKey x s).2 = 1600 := fun s => by unfold fileKey; rw [if_neg (fun q => l3 q.1)]
  have f3 : (inodeKey x).2 = 1600 := by unfold inodeKey; rw [if_neg l3]
  have b1 : 1 + nm.size ≤ 9223372036854775807 := by omega
  have b2 : 2 + pt.size ≤ 9223372036854775807 := by omega
  simp [hi.1, ht.1, hj.1, hi.2, ht.2, hj.2, b1, b2, cryostatlaw0_Num.f, l1.1, f1, f2, f3, l1.2.2.1, l2.2.2.1, l4]
end Go.Proofs.Ytekgaoakijbmaaa.Pure
