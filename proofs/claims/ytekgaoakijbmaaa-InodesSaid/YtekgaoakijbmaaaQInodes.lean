/- The pure side of Inodes: for all inodes and texts the printed function of the law answers true. -/
import Derived.Test.YtekgaoakijbmaaaPInodesx4
import Derived.Test.YtekgaoakijbmaaaGen
set_option linter.unusedSimpArgs false
namespace Go.Proofs.Ytekgaoakijbmaaa.Pure
open Go.RowKit Go.Proofs.Gen Go.Proofs.Ytekgaoakijbmaaa.PInodes Go.Proofs.YtekgaoakijbmaaaW.PrintWords Go.Proofs.YtekgaoakijbmaaaW.PrintLast
theorem key_Id_eq (a : Int) : key_Id.f a = some (decide (1 ≤ a ∧ a ≤ 255)) := by
  unfold key_Id.f; split <;> simp <;> omega
theorem wrap_bt (s : ByteArray) (i : Int) : wrap64 (bt s i) = bt s i := by
  have := bt_range s i; exact wrap64_id (by omega) (by omega)
def IMay (i : Int) (c : ByteArray) : Prop := (1 ≤ i ∧ i ≤ 255) ∧ c.size ≤ 6
instance (i : Int) (c : ByteArray) : Decidable (IMay i c) := by unfold IMay; infer_instance
theorem inode_May_eq (i : Int) (c : ByteArray) : inode_May.f i c = some (decide (IMay i c)) := by
  unfold inode_May.f inode_Content.f IMay
  rw [key_Id_eq]
  by_cases h1 : 1 ≤ i ∧ i ≤ 255
  · simp [h1] <;> omega
  · simp [h1]
def putI (i : Int) (c : ByteArray) : ByteArray × Int := if IMay i c then (strOfNums [i % 256] ++ c, 0) else (⟨#[]⟩, 1800)
theorem inode_Put_eq (i : Int) (c : ByteArray) : inode_Put.f i c = some (putI i c) := by
  unfold inode_Put.f putI
  rw [inode_May_eq]
  by_cases h : IMay i c
  · have h1 : 1 + c.size ≤ 9223372036854775807 := by have := h.2; omega
    simp [h, size_strOfNums, h1]
  · simp [h]
def getI (s : ByteArray) : Int × ByteArray × Int :=
  if 1 ≤ s.size ∧ IMay (bt s 0) (s.extract 1 s.size) then (bt s 0, s.extract 1 s.size, 0) else (0, ⟨#[]⟩, 1800)
theorem inode_Get_eq (s : ByteArray) : inode_Get.f s = some (getI s) := by
  unfold inode_Get.f getI
  rw [wrap_bt, inode_May_eq]
  by_cases h1 : 1 ≤ s.size
  · have h0 : ¬ s.toList = [] := fun q => by have := (nil_L s).1 q; omega
    have h2 : (0 : Int) < s.size := by omega
    have h3 : (1 : Int) ≤ s.size := by omega
    rw [if_neg h0, if_pos h2, if_pos h3]
    by_cases h : IMay (bt s 0) (s.extract 1 s.size) <;> simp [h1, h]
  · have h0 : s.toList = [] := (nil_L s).2 (by omega)
    simp [h0, h1]
theorem u8_small {x : Int} (h0 : 0 ≤ x) (h1 : x ≤ 255) : (((UInt8.ofNat (x % 256).toNat).toNat : Nat) : Int) = x := by
  rw [UInt8.toNat_ofNat']; omega
theorem get_put {i : Int} {c : ByteArray} (h : IMay i c) : getI (putI i c).1 = (i, c, 0) := by
  obtain ⟨hi, hc⟩ := id h
  have e : (putI i c).1 = strOfNums [i % 256] ++ c := by simp [putI, h]
  generalize hx : (putI i c).1 = x at e
  have hs : x.size = 1 + c.size := by rw [e]; simp [size_strOfNums]
  have hL : L x = UInt8.ofNat (i % 256).toNat :: L c := by rw [e, L_append, L_strOfNums]; simp
  have b0 : bt x 0 = i := by rw [bt_L, hL]; exact u8_small (by omega) (by omega)
  have el : x.extract 1 x.size = c := by
    apply L_inj; rw [L_extract, hL, hs]; simp
    exact List.take_of_length_le (by rw [L_length]; exact Nat.le_refl _)
  unfold getI
  rw [b0, el, if_pos ⟨by omega, h⟩]
theorem put_get {s : ByteArray} (h : (getI s).2.2 = 0) : putI (getI s).1 (getI s).2.1 = (s, 0) ∧ IMay (getI s).1 (getI s).2.1 := by
  unfold getI at h ⊢
  by_cases hc : 1 ≤ s.size ∧ IMay (bt s 0) (s.extract 1 s.size)
  · rw [if_pos hc]
    obtain ⟨h1, hm⟩ := hc
    refine ⟨?_, hm⟩
    simp only [putI, if_pos hm]
    refine Prod.ext ?_ rfl
    apply L_inj
    have hl : 1 ≤ (L s).length := by rw [L_length]; exact h1
    have c0 : UInt8.ofNat (bt s 0 % 256).toNat = (L s)[0]?.getD 0 := by
      rw [bt_L]; apply UInt8.toNat_inj.1; rw [UInt8.toNat_ofNat']
      have := ((L s)[(0 : Int).toNat]?.getD 0).toNat_lt
      simp only [Int.toNat_zero] at *
      omega
    rw [L_append, L_strOfNums]
    simp only [List.map_cons, List.map_nil]
    rw [c0, L_extract]
    match hq : L s, hl with
    | a :: r, _ =>
      have hrs : r.length + 1 = s.size := by rw [← L_length, hq]; rfl
      simp
      exact List.take_of_length_le (by omega)
  · rw [if_neg hc] at h; simp at h
theorem putI_ok (i : Int) (c : ByteArray) : (putI i c).2 = 0 ↔ IMay i c := by
  unfold putI; by_cases h : IMay i c <;> simp [h]
theorem getI_no {s : ByteArray} (h : ¬ (getI s).2.2 = 0) : getI s = (0, ⟨#[]⟩, 1800) := by
  unfold getI at h ⊢; split at h
  · exact absurd rfl h
  · next q => rw [if_neg q]
theorem awake_eq : cryostatlaw18_awake.f = some true := by decide +kernel
theorem ref_idMay_eq (a : Int) : cryostatref16_idMay.f a = some (decide (1 ≤ a ∧ a ≤ 255)) := by
  unfold cryostatref16_idMay.f; split <;> simp <;> omega
theorem ref_May_eq (i : Int) (c : ByteArray) : cryostatref16_InodeMay.f i c = some (decide (IMay i c)) := by
  unfold cryostatref16_InodeMay.f IMay
  rw [ref_idMay_eq]
  by_cases h1 : 1 ≤ i ∧ i ≤ 255
  · simp [h1] <;> omega
  · simp [h1]
theorem ref_Put_eq (i : Int) (c : ByteArray) : cryostatref16_PutInode.f i c = some (putI i c) := by
  unfold cryostatref16_PutInode.f putI
  rw [ref_May_eq]
  by_cases h : IMay i c
  · have h1 : 1 + c.size ≤ 9223372036854775807 := by have := h.2; omega
    simp [h, size_strOfNums, h1]
  · simp [h]
theorem ref_Get_eq (s : ByteArray) : cryostatref16_GetInode.f s = some (getI s) := by
  unfold cryostatref16_GetInode.f getI
  rw [wrap_bt, ref_May_eq]
  by_cases h1 : 1 ≤ s.size
  · have h0 : ¬ s.toList = [] := fun q => by have := (nil_L s).1 q; omega
    have h2 : (0 : Int) < s.size := by omega
    have h3 : (1 : Int) ≤ s.size := by omega
    rw [if_neg h0, if_pos h2, if_pos h3]
    by_cases h : IMay (bt s 0) (s.extract 1 s.size) <;> simp [h1, h]
  · have h0 : s.toList = [] := (nil_L s).2 (by omega)
    simp [h0, h1]
theorem putI_inj {i i' : Int} {c c' : ByteArray} (h : IMay i c) (h' : IMay i' c') : (putI i c).1 = (putI i' c').1 ↔ (i = i' ∧ c = c') := by
  constructor
  · intro e
    have a := get_put h
    rw [e, get_put h'] at a
    simp at a; simp [a]
  · rintro ⟨rfl, rfl⟩; rfl
theorem putI_size {i : Int} {c : ByteArray} (h : IMay i c) : ((putI i c).1.size : Int) ≤ 10 := by
  have := h.2; simp [putI, h, size_strOfNums]; omega
theorem Inodes (i : Int) (c : ByteArray) (i' : Int) (c' s : ByteArray) (_ : (Lit.int .i64 i).wf = true) (_ : c.size ≤ 140737488351232) (_ : (Lit.int .i64 i').wf = true) (_ : c'.size ≤ 140737488351232) (_ : s.size ≤ 140737488351232) : ∃ k, cryostatlaw18_Inodes.f k i c i' c' s = some true := by
  refine ⟨1, ?_⟩
  have hj : cryostatlaw18_Inodes.j0 1 (putI i c).1 (putI i c).2 (putI i' c').1 (putI i' c').2 false i c i' c' = some true := by
    simp only [cryostatlaw18_Inodes.j0]
    rw [awake_eq]
    by_cases h : IMay i c
    · by_cases h' : IMay i' c'
      · have hb : ((((putI i c).1.toList == (putI i' c').1.toList) == (i == i' && (c.toList == c'.toList))) = true) := by
          rw [beq_L, beq_L]
          rw [beq_iff_eq, Bool.eq_iff_iff]
          simp only [beq_iff_eq, Bool.and_eq_true, decide_eq_true_eq]
          exact putI_inj h h'
        simp [cryostatlaw0_Num.f, (putI_ok i c).2 h, (putI_ok i' c').2 h']
        rw [if_pos (by simpa using hb), if_pos (putI_size h)]
      · have : ¬ (putI i' c').2 = 0 := fun q => h' ((putI_ok ..).1 q)
        simp [cryostatlaw0_Num.f, (putI_ok i c).2 h, this]
    · have : ¬ (putI i c).2 = 0 := fun q => h ((putI_ok ..).1 q)
      simp [cryostatlaw0_Num.f, this]
  unfold cryostatlaw18_Inodes.f
  rw [inode_Put_eq, ref_Put_eq, inode_Get_eq, ref_Get_eq, inode_Put_eq, inode_May_eq, ref_May_eq]
  simp [cryostatlaw0_Num.f, hj]
end Go.Proofs.Ytekgaoakijbmaaa.Pure
