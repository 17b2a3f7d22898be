/- The pure side of InodeForms: for all numbers the printed function of the law answers true. -/
import Derived.Test.YtekgaoakijbmaaaOInodeFormsx3
import Derived.Test.YtekgaoakijbmaaaGen
set_option linter.unusedSimpArgs false
namespace Go.Proofs.Ytekgaoakijbmaaa.Pure
open Go.RowKit Go.Proofs.Gen Go.Proofs.Ytekgaoakijbmaaa.PInodeForms Go.Proofs.YtekgaoakijbmaaaW.PrintWords Go.Proofs.YtekgaoakijbmaaaW.PrintLast
theorem key_Id_eq (a : Int) : key_Id.f a = some (decide (1 ≤ a ∧ a ≤ 255)) := by
  unfold key_Id.f; split <;> simp <;> omega
theorem wrap_bt (s : ByteArray) (i : Int) : wrap64 (bt s i) = bt s i := by
  have := bt_range s i; exact wrap64_id (by omega) (by omega)
def IMay (i : Int) (c : ByteArray) : Prop := (1 ≤ i ∧ i ≤ 255) ∧ c.size ≤ 6
instance (i : Int) (c : ByteArray) : Decidable (IMay i c) := by unfold IMay; infer_instance
theorem inode_May_eq (i : Int) (c : ByteArray) : inode_May.f i c = some (decide (IMay i c)) := by
  unfold inode_May.f inode_Content.f IMay
  rw [key_Id_eq]
  by_cases h1 : 1 ≤ i ∧ i ≤ 255
  · simp [h1] <;> omega
  · simp [h1]
def putI (i : Int) (c : ByteArray) : ByteArray × Int := if IMay i c then (strOfNums [i % 256] ++ c, 0) else (⟨#[]⟩, 1800)
theorem inode_Put_eq (i : Int) (c : ByteArray) : inode_Put.f i c = some (putI i c) := by
  unfold inode_Put.f putI
  rw [inode_May_eq]
  by_cases h : IMay i c
  · have h1 : 1 + c.size ≤ 9223372036854775807 := by have := h.2; omega
    simp [h, size_strOfNums, h1]
  · simp [h]
def getI (s : ByteArray) : Int × ByteArray × Int :=
  if 1 ≤ s.size ∧ IMay (bt s 0) (s.extract 1 s.size) then (bt s 0, s.extract 1 s.size, 0) else (0, ⟨#[]⟩, 1800)
theorem inode_Get_eq (s : ByteArray) : inode_Get.f s = some (getI s) := by
  unfold inode_Get.f getI
  rw [wrap_bt, inode_May_eq]
  by_cases h1 : 1 ≤ s.size
  · have h0 : ¬ s.toList = [] := fun q => by have := (nil_L s).1 q; omega
    have h2 : (0 : Int) < s.size := by omega
    have h3 : (1 : Int) ≤ s.size := by omega
    rw [if_neg h0, if_pos h2, if_pos h3]
    by_cases h : IMay (bt s 0) (s.extract 1 s.size) <;> simp [h1, h]
  · have h0 : s.toList = [] := (nil_L s).2 (by omega)
    simp [h0, h1]
theorem u8_small {x : Int} (h0 : 0 ≤ x) (h1 : x ≤ 255) : (((UInt8.ofNat (x % 256).toNat).toNat : Nat) : Int) = x := by
  rw [UInt8.toNat_ofNat']; omega
theorem get_put {i : Int} {c : ByteArray} (h : IMay i c) : getI (putI i c).1 = (i, c, 0) := by
  obtain ⟨hi, hc⟩ := id h
  have e : (putI i c).1 = strOfNums [i % 256] ++ c := by simp [putI, h]
  generalize hx : (putI i c).1 = x at e
  have hs : x.size = 1 + c.size := by rw [e]; simp [size_strOfNums]
  have hL : L x = UInt8.ofNat (i % 256).toNat :: L c := by rw [e, L_append, L_strOfNums]; simp
  have b0 : bt x 0 = i := by rw [bt_L, hL]; exact u8_small (by omega) (by omega)
  have el : x.extract 1 x.size = c := by
    apply L_inj; rw [L_extract, hL, hs]; simp
    exact List.take_of_length_le (by rw [L_length]; exact Nat.le_refl _)
  unfold getI
  rw [b0, el, if_pos ⟨by omega, h⟩]
theorem put_get {s : ByteArray} (h : (getI s).2.2 = 0) : putI (getI s).1 (getI s).2.1 = (s, 0) ∧ IMay (getI s).1 (getI s).2.1 := by
  unfold getI at h ⊢
  by_cases hc : 1 ≤ s.size ∧ IMay (bt s 0) (s.extract 1 s.size)
  · rw [if_pos hc]
    obtain ⟨h1, hm⟩ := hc
    refine ⟨?_, hm⟩
    simp only [putI, if_pos hm]
    refine Prod.ext ?_ rfl
    apply L_inj
    have hl : 1 ≤ (L s).length := by rw [L_length]; exact h1
    have c0 : UInt8.ofNat (bt s 0 % 256).toNat = (L s)[0]?.getD 0 := by
      rw [bt_L]; apply UInt8.toNat_inj.1; rw [UInt8.toNat_ofNat']
      have := ((L s)[(0 : Int).toNat]?.getD 0).toNat_lt
      simp only [Int.toNat_zero] at *
      omega
    rw [L_append, L_strOfNums]
    simp only [List.map_cons, List.map_nil]
    rw [c0, L_extract]
    match hq : L s, hl with
    | a :: r, _ =>
      have hrs : r.length + 1 = s.size := by rw [← L_length, hq]; rfl
      simp
      exact List.take_of_length_le (by omega)
  · rw [if_neg hc] at h; simp at h
theorem putI_ok (i : Int) (c : ByteArray) : (putI i c).2 = 0 ↔ IMay i c := by
  unfold putI; by_cases h : IMay i c <;> simp [h]
theorem getI_no {s : ByteArray} (h : ¬ (getI s).2.2 = 0) : getI s = (0, ⟨#[]⟩, 1800) := by
  unfold getI at h ⊢; split at h
  · exact absurd rfl h
  · next q => rw [if_neg q]
theorem awake_eq : cryostatlaw18_awake.f = some true := by decide +kernel
theorem putI_no {i : Int} {c : ByteArray} (h : ¬ IMay i c) : putI i c = (⟨#[]⟩, 1800) := by simp [putI, h]
theorem get255 : getI (⟨#[255]⟩ : ByteArray) = (255, ⟨#[]⟩, 0) := by decide +kernel
theorem InodeForms : cryostatlaw18_InodeForms.Pure := by
  intro a0 a1 h0 h1
  unfold cryostatlaw18_InodeForms.f
  rw [awake_eq, and1023]
  have hm : 0 ≤ a1 % 1024 ∧ a1 % 1024 < 1024 := ⟨Int.emod_nonneg _ (by decide), Int.emod_lt_of_pos _ (by decide)⟩
  have ed : wrap64 (1 + a1 % 1024) = 1 + a1 % 1024 := wrap64_id (by omega) (by omega)
  rw [ed]
  generalize hd : 1 + a1 % 1024 = d
  have bd : 1 ≤ d ∧ d ≤ 1024 := by omega
  have e1 : wrap64 (6 + d) = 6 + d := wrap64_id (by omega) (by omega)
  have e2 : wrap64 (-d) = -d := wrap64_id (by omega) (by omega)
  have e3 : wrap64 (255 + d) = 255 + d := wrap64_id (by omega) (by omega)
  rw [umod a0 4 (by decide) (by decide), e1, e2, e3]
  have hi : 0 ≤ a0 % 18446744073709551616 % 4 ∧ a0 % 18446744073709551616 % 4 < 4 := ⟨Int.emod_nonneg _ (by decide), Int.emod_lt_of_pos _ (by decide)⟩
  generalize a0 % 18446744073709551616 % 4 = i at hi
  have hs : (strOfNums (List.replicate (6 + d).toNat 0)).size = (6 + d).toNat := by rw [size_strOfNums]; simp
  simp only [Option.bind_some, if_true]
  rw [if_pos (show (0 : Int) ≤ 6 + d by omega), if_pos (show (6 + d).toNat ≤ 281474976710656 by omega), if_pos hi.1]
  simp only [inode_Put_eq, inode_Get_eq, inode_May_eq, Option.bind_some, cryostatlaw0_Num.f, get255]
  have hi' : i = 0 ∨ i = 1 ∨ i = 2 ∨ i = 3 := by omega
  have m0 : ¬ IMay 0 ⟨#[]⟩ := by decide
  have m1 : ¬ IMay (-d) ⟨#[]⟩ := fun q => by have := q.1; omega
  have m2 : ¬ IMay (255 + d) ⟨#[]⟩ := fun q => by have := q.1; omega
  have m3 : ¬ IMay 1 (strOfNums (List.replicate (6 + d).toNat 0)) := fun q => by have := q.2; omega
  have g0 : getI (⟨#[]⟩ : ByteArray) = (0, ⟨#[]⟩, 1800) := by decide +kernel
  have g1 : getI (⟨#[0]⟩ : ByteArray) = (0, ⟨#[]⟩, 1800) := by decide +kernel
  have g2 : getI (⟨#[0, 97, 98, 99]⟩ : ByteArray) = (0, ⟨#[]⟩, 1800) := by decide +kernel
  have g3 : getI (⟨#[1, 115, 101, 118, 101, 110, 55, 55]⟩ : ByteArray) = (0, ⟨#[]⟩, 1800) := by decide +kernel
  rcases hi' with rfl | rfl | rfl | rfl
  · simp [rd_T24, rdOf, m0, putI_no m0, g0, toList_L]
  · simp [rd_T24, rdOf, m1, putI_no m1, g1, toList_L]
  · simp [rd_T24, rdOf, m2, putI_no m2, g2, toList_L]
  · simp [rd_T24, rdOf, m3, putI_no m3, g3, toList_L]
end Go.Proofs.Ytekgaoakijbmaaa.Pure
