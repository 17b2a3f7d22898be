/- The pure side of SnapForms: for all numbers the printed function of the law answers true. -/
import Derived.Test.YtekgaoakijbmaaaOSnapFormsx4
import Derived.Test.YtekgaoakijbmaaaGen
set_option linter.unusedSimpArgs false
namespace Go.Proofs.Ytekgaoakijbmaaa.Pure
open Go.RowKit Go.Proofs.Gen Go.Proofs.Ytekgaoakijbmaaa.PSnapForms Go.Proofs.YtekgaoakijbmaaaW.PrintWords Go.Proofs.YtekgaoakijbmaaaW.PrintLast
theorem key_word_l (s : ByteArray) (m : Int) (hs : s.size ≤ 140737488351232) : ∀ (d k i : Nat), s.size - i = d → i ≤ s.size → d < k →
    key_word.l0 k s m (s.size : Int) (i : Int) = some (decide (WordFrom s m i)) := by
  intro d
  induction d with
  | zero =>
    intro k i h1 h2 hk
    obtain ⟨k, rfl⟩ : ∃ m, k = m + 1 := ⟨k - 1, by omega⟩
    simp only [key_word.l0]
    rw [if_neg (by omega)]
    have e := wordFrom_end s m i (by omega)
    by_cases h0 : s.size = 0
    · rw [if_pos ((nil_L s).2 h0)]; simp [e, h0]
    · rw [if_neg (fun h => h0 ((nil_L s).1 h))]; simp [e, h0]
  | succ d ih =>
    intro k i h1 h2 hk
    obtain ⟨k, rfl⟩ : ∃ m, k = m + 1 := ⟨k - 1, by omega⟩
    have hi : i < s.size := by omega
    have hn : key_word.l0 k s m (s.size : Int) (wrap64 ((i : Int) + 1)) = some (decide (WordFrom s m (i + 1))) := by
      rw [wrap64_id (by omega) (by omega)]; exact ih k (i + 1) (by omega) (by omega) (by omega)
    simp only [key_word.l0]
    rw [if_pos (by omega), if_pos (by omega), if_pos (by omega), hn]
    by_cases hb : OkC (bt s i)
    · rw [decide_eq_decide.2 (wordFrom_ok s m i hb)]
      unfold OkC at hb
      repeat' split
      all_goals first | rfl | omega
    · rw [decide_eq_false (wordFrom_bad s m i hi hb)]
      unfold OkC at hb
      repeat' split
      all_goals first | rfl | omega
theorem key_word_eq (k : Nat) (s : ByteArray) (m : Int) (hs : s.size ≤ 140737488351232) (hk : s.size < k) : key_word.f k s m = some (decide (Word s m)) :=
  key_word_l s m hs s.size k 0 (by omega) (by omega) hk
theorem key_IsName_eq (k : Nat) (s : ByteArray) (hs : s.size ≤ 140737488351232) (hk : s.size < k) : key_IsName.f k s = some (decide (Word s 4)) := by
  simp [key_IsName.f, key_word_eq k s 4 hs hk]
theorem key_Id_eq (a : Int) : key_Id.f a = some (decide (1 ≤ a ∧ a ≤ 255)) := by
  unfold key_Id.f; split <;> simp <;> omega
theorem extract_le (s : ByteArray) (i j : Nat) : (s.extract i j).size ≤ s.size := by rw [size_extract]; omega
theorem wrap_bt (s : ByteArray) (i : Int) : wrap64 (bt s i) = bt s i := by
  have := bt_range s i; exact wrap64_id (by omega) (by omega)
def SMay (i d : Int) (p l : ByteArray) : Prop := (1 ≤ i ∧ i ≤ 255) ∧ (0 ≤ d ∧ d ≤ 2) ∧ (p.size = 0 ∨ Word p 4) ∧ l.size ≤ 3
instance (i d : Int) (p l : ByteArray) : Decidable (SMay i d p l) := by unfold SMay; infer_instance
theorem snap_May_eq (k : Nat) (i d : Int) (p l : ByteArray) (hp : p.size ≤ 140737488351232) (hk : p.size < k) : snap_May.f k i d p l = some (decide (SMay i d p l)) := by
  unfold snap_May.f snap_Kind.f snap_Label.f SMay
  rw [key_Id_eq, key_IsName_eq k p hp hk]
  by_cases h1 : 1 ≤ i ∧ i ≤ 255
  · by_cases h2 : 0 ≤ d
    · by_cases h3 : d ≤ 2
      · by_cases h4 : p.size = 0
        · simp [h1, h2, h3, h4, (nil_L p).2 h4] <;> omega
        · have h4' : ¬ p.toList = [] := fun q => h4 ((nil_L p).1 q)
          by_cases h5 : Word p 4 <;> simp [h1, h2, h3, h4, h4', h5] <;> omega
      · simp [h1, h2, h3]
    · simp [h1, h2]
  · simp [h1]
def putS (i d : Int) (p l : ByteArray) : ByteArray × Int := if SMay i d p l then (strOfNums [i % 256, d % 256, (p.size : Int) % 256] ++ p ++ l, 0) else (⟨#[]⟩, 1700)
theorem word_size {p : ByteArray} {m : Int} (h : Word p m) : (p.size : Int) ≤ m := h.2.2
theorem SMay_size {i d : Int} {p l : ByteArray} (h : SMay i d p l) : p.size ≤ 4 ∧ l.size ≤ 3 := by
  obtain ⟨_, _, hp, hl⟩ := h
  refine ⟨?_, hl⟩
  rcases hp with hp | hp
  · omega
  · have := word_size hp; omega
theorem snap_Put_eq (k : Nat) (i d : Int) (p l : ByteArray) (hp : p.size ≤ 140737488351232) (hk : p.size < k) : snap_Put.f k i d p l = some (putS i d p l) := by
  unfold snap_Put.f putS
  rw [snap_May_eq k i d p l hp hk]
  by_cases h : SMay i d p l
  · have hz := SMay_size h
    have h1 : 3 + p.size ≤ 9223372036854775807 := by omega
    have h2 : 3 + p.size + l.size ≤ 9223372036854775807 := by omega
    simp [h, size_strOfNums, h1, h2]
  · simp [h]
def getS (s : ByteArray) : Int × Int × ByteArray × ByteArray × Int :=
  if 3 ≤ s.size ∧ 3 + bt s 2 ≤ s.size ∧ SMay (bt s 0) (bt s 1) (s.extract 3 (3 + bt s 2).toNat) (s.extract (3 + bt s 2).toNat s.size)
  then (bt s 0, bt s 1, s.extract 3 (3 + bt s 2).toNat, s.extract (3 + bt s 2).toNat s.size, 0) else (0, 0, ⟨#[]⟩, ⟨#[]⟩, 1700)
theorem snap_Get_eq (k : Nat) (s : ByteArray) (hs : s.size ≤ 140737488351232) (hk : s.size + 1 < k) : snap_Get.f k s = some (getS s) := by
  obtain ⟨k, rfl⟩ : ∃ m, k = m + 1 := ⟨k - 1, by omega⟩
  have hb := bt_range s 2
  have hw : wrap64 (3 + bt s 2) = 3 + bt s 2 := wrap64_id (by omega) (by omega)
  unfold snap_Get.f getS
  simp only [snap_Get.j0, wrap_bt, hw]
  have e1 := extract_le s 3 (3 + bt s 2).toNat
  rw [snap_May_eq k _ _ (s.extract 3 (3 + bt s 2).toNat) _ (by omega) (by omega)]
  by_cases h1 : 3 ≤ s.size
  · have hw2 : wrap64 ((s.size : Int) - 3) = (s.size : Int) - 3 := wrap64_id (by omega) (by omega)
    rw [if_neg (by omega), if_pos (by omega), hw2]
    by_cases h2 : 3 + bt s 2 ≤ s.size
    · rw [if_neg (by simp; omega)]
      rw [if_pos (by omega), if_pos (by omega), if_pos (by omega), if_pos (by omega), if_pos (by omega), if_pos (by omega)]
      simp only [Option.bind_some, decide_eq_true_eq, h1, h2, true_and]
      split <;> rfl
    · rw [if_pos (by simp; omega), if_neg (fun q => h2 q.2.1)]
  · rw [if_pos (by omega)]; simp [h1]
theorem awake_eq (k : Nat) (hk : 12 ≤ k) : cryostatlaw17_awake.f k = some true :=
  at_rounds (g := fun k => cryostatlaw17_awake.f k) (fun k => cryostatlaw17_awake.mono k) hk (by decide +kernel)
theorem putS_no {i d : Int} {p l : ByteArray} (h : ¬ SMay i d p l) : putS i d p l = (⟨#[]⟩, 1700) := by simp [putS, h]
theorem SnapForms : cryostatlaw17_SnapForms.Pure := by
  intro a0 a1 h0 h1
  refine ⟨30, ?_⟩
  unfold cryostatlaw17_SnapForms.f
  rw [awake_eq _ (by omega), and1023]
  have hm : 0 ≤ a1 % 1024 ∧ a1 % 1024 < 1024 := ⟨Int.emod_nonneg _ (by decide), Int.emod_lt_of_pos _ (by decide)⟩
  have ed : wrap64 (1 + a1 % 1024) = 1 + a1 % 1024 := wrap64_id (by omega) (by omega)
  rw [ed]
  generalize hd : 1 + a1 % 1024 = d
  have bd : 1 ≤ d ∧ d ≤ 1024 := by omega
  have e1 : wrap64 (2 + d) = 2 + d := wrap64_id (by omega) (by omega)
  have e2 : wrap64 (-d) = -d := wrap64_id (by omega) (by omega)
  have e3 : wrap64 (255 + d) = 255 + d := wrap64_id (by omega) (by omega)
  rw [umod a0 8 (by decide) (by decide), umod a0 10 (by decide) (by decide), e1, e2, e3]
  have hi : 0 ≤ a0 % 18446744073709551616 % 8 ∧ a0 % 18446744073709551616 % 8 < 8 := ⟨Int.emod_nonneg _ (by decide), Int.emod_lt_of_pos _ (by decide)⟩
  have hj : 0 ≤ a0 % 18446744073709551616 % 10 ∧ a0 % 18446744073709551616 % 10 < 10 := ⟨Int.emod_nonneg _ (by decide), Int.emod_lt_of_pos _ (by decide)⟩
  generalize a0 % 18446744073709551616 % 8 = i at hi
  generalize a0 % 18446744073709551616 % 10 = j at hj
  simp only [Option.bind_some, if_true]
  rw [if_pos hi.1, if_pos (show i < _ by simpa using hi.2)]
  have B : ∀ x, (x = (⟨0, 1, (⟨#[]⟩ : ByteArray), (⟨#[]⟩ : ByteArray)⟩ : S44) ∨ x = ⟨-d, 0, ⟨#[]⟩, ⟨#[]⟩⟩ ∨ x = ⟨255 + d, 0, ⟨#[]⟩, ⟨#[]⟩⟩ ∨ x = ⟨1, -d, ⟨#[]⟩, ⟨#[]⟩⟩ ∨ x = ⟨1, 2 + d, ⟨#[]⟩, ⟨#[]⟩⟩ ∨ x = ⟨1, 0, ⟨#[65]⟩, ⟨#[]⟩⟩ ∨ x = ⟨1, 0, ⟨#[116, 111, 111, 108, 111]⟩, ⟨#[]⟩⟩ ∨ x = ⟨1, 0, ⟨#[]⟩, ⟨#[102, 111, 117, 114]⟩⟩) →
      ¬ SMay x.f0 x.f1 x.f2 x.f3 ∧ x.f2.size ≤ 5 := by
    rintro x (rfl | rfl | rfl | rfl | rfl | rfl | rfl | rfl)
    · exact ⟨by decide, by decide⟩
    · exact ⟨fun q => by have := q.1; simp only at this; omega, Nat.zero_le _⟩
    · exact ⟨fun q => by have := q.1; simp only at this; omega, Nat.zero_le _⟩
    · exact ⟨fun q => by have := q.2.1; simp only at this; omega, Nat.zero_le _⟩
    · exact ⟨fun q => by have := q.2.1; simp only at this; omega, Nat.zero_le _⟩
    · exact ⟨by decide +kernel, by decide⟩
    · exact ⟨by decide +kernel, by decide⟩
    · exact ⟨by decide +kernel, by decide⟩
  have G : ∀ s, s ∈ ([(⟨#[]⟩ : ByteArray), (⟨#[1]⟩ : ByteArray), (⟨#[1, 0]⟩ : ByteArray), (⟨#[0, 0, 0]⟩ : ByteArray), (⟨#[1, 3, 0]⟩ : ByteArray), (⟨#[1, 0, 1]⟩ : ByteArray), (⟨#[1, 0, 1, 65]⟩ : ByteArray), (⟨#[1, 0, 5, 97, 98, 99, 100, 101]⟩ : ByteArray), (⟨#[1, 0, 0, 102, 111, 117, 114]⟩ : ByteArray), (⟨#[1, 0, 2, 97, 98, 102, 111, 117, 114]⟩ : ByteArray)] : List ByteArray) →
      getS s = (0, 0, ⟨#[]⟩, ⟨#[]⟩, 1700) ∧ s.size ≤ 9 := by decide +kernel
  generalize hx : rd_T44 _ i = x
  have hB := B x (by
    have hi' : i = 0 ∨ i = 1 ∨ i = 2 ∨ i = 3 ∨ i = 4 ∨ i = 5 ∨ i = 6 ∨ i = 7 := by omega
    rw [← hx]
    rcases hi' with rfl | rfl | rfl | rfl | rfl | rfl | rfl | rfl <;> simp [rd_T44])
  rw [snap_Put_eq _ _ _ _ _ (by omega) (by omega)]
  simp only [Option.bind_some]
  rw [if_pos hj.1, if_pos (show j < _ by simpa using hj.2)]
  generalize hs : rdOf ByteArray.empty _ j = s
  have hG := G s (by
    have hj' : j = 0 ∨ j = 1 ∨ j = 2 ∨ j = 3 ∨ j = 4 ∨ j = 5 ∨ j = 6 ∨ j = 7 ∨ j = 8 ∨ j = 9 := by omega
    rw [← hs]
    rcases hj' with rfl | rfl | rfl | rfl | rfl | rfl | rfl | rfl | rfl | rfl <;> simp [rdOf])
  rw [snap_Get_eq _ s (by omega) (by omega), snap_May_eq _ _ _ _ _ (by omega) (by omega), putS_no hB.1, hG.1]
  simp [hB.1, cryostatlaw0_Num.f, toList_L]
end Go.Proofs.Ytekgaoakijbmaaa.Pure
