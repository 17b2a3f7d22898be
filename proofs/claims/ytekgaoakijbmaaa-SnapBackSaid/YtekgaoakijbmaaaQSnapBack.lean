/- The pure side of SnapBack: for all records and texts the printed function of the law answers true. -/
import Derived.Test.YtekgaoakijbmaaaPSnapBackx4
import Derived.Test.YtekgaoakijbmaaaGen
set_option linter.unusedSimpArgs false
namespace Go.Proofs.Ytekgaoakijbmaaa.Pure
open Go.RowKit Go.Proofs.Gen Go.Proofs.Ytekgaoakijbmaaa.PSnapBack Go.Proofs.YtekgaoakijbmaaaW.PrintWords Go.Proofs.YtekgaoakijbmaaaW.PrintLast
theorem key_word_l (s : ByteArray) (m : Int) (hs : s.size ≤ 140737488351232) : ∀ (d k i : Nat), s.size - i = d → i ≤ s.size → d < k →
    key_word.l0 k s m (s.size : Int) (i : Int) = some (decide (WordFrom s m i)) := by
  intro d
  induction d with
  | zero =>
    intro k i h1 h2 hk
    obtain ⟨k, rfl⟩ : ∃ m, k = m + 1 := ⟨k - 1, by omega⟩
    simp only [key_word.l0]
    rw [if_neg (by omega)]
    have e := wordFrom_end s m i (by omega)
    by_cases h0 : s.size = 0
    · rw [if_pos ((nil_L s).2 h0)]; simp [e, h0]
    · rw [if_neg (fun h => h0 ((nil_L s).1 h))]; simp [e, h0]
  | succ d ih =>
    intro k i h1 h2 hk
    obtain ⟨k, rfl⟩ : ∃ m, k = m + 1 := ⟨k - 1, by omega⟩
    have hi : i < s.size := by omega
    have hn : key_word.l0 k s m (s.size : Int) (wrap64 ((i : Int) + 1)) = some (decide (WordFrom s m (i + 1))) := by
      rw [wrap64_id (by omega) (by omega)]; exact ih k (i + 1) (by omega) (by omega) (by omega)
    simp only [key_word.l0]
    rw [if_pos (by omega), if_pos (by omega), if_pos (by omega), hn]
    by_cases hb : OkC (bt s i)
    · rw [decide_eq_decide.2 (wordFrom_ok s m i hb)]
      unfold OkC at hb
      repeat' split
      all_goals first | rfl | omega
    · rw [decide_eq_false (wordFrom_bad s m i hi hb)]
      unfold OkC at hb
      repeat' split
      all_goals first | rfl | omega
theorem key_word_eq (k : Nat) (s : ByteArray) (m : Int) (hs : s.size ≤ 140737488351232) (hk : s.size < k) : key_word.f k s m = some (decide (Word s m)) :=
  key_word_l s m hs s.size k 0 (by omega) (by omega) hk
theorem key_IsName_eq (k : Nat) (s : ByteArray) (hs : s.size ≤ 140737488351232) (hk : s.size < k) : key_IsName.f k s = some (decide (Word s 4)) := by
  simp [key_IsName.f, key_word_eq k s 4 hs hk]
theorem key_Id_eq (a : Int) : key_Id.f a = some (decide (1 ≤ a ∧ a ≤ 255)) := by
  unfold key_Id.f; split <;> simp <;> omega
theorem extract_le (s : ByteArray) (i j : Nat) : (s.extract i j).size ≤ s.size := by rw [size_extract]; omega
theorem wrap_bt (s : ByteArray) (i : Int) : wrap64 (bt s i) = bt s i := by
  have := bt_range s i; exact wrap64_id (by omega) (by omega)
def SMay (i d : Int) (p l : ByteArray) : Prop := (1 ≤ i ∧ i ≤ 255) ∧ (0 ≤ d ∧ d ≤ 2) ∧ (p.size = 0 ∨ Word p 4) ∧ l.size ≤ 3
instance (i d : Int) (p l : ByteArray) : Decidable (SMay i d p l) := by unfold SMay; infer_instance
theorem snap_May_eq (k : Nat) (i d : Int) (p l : ByteArray) (hp : p.size ≤ 140737488351232) (hk : p.size < k) : snap_May.f k i d p l = some (decide (SMay i d p l)) := by
  unfold snap_May.f snap_Kind.f snap_Label.f SMay
  rw [key_Id_eq, key_IsName_eq k p hp hk]
  by_cases h1 : 1 ≤ i ∧ i ≤ 255
  · by_cases h2 : 0 ≤ d
    · by_cases h3 : d ≤ 2
      · by_cases h4 : p.size = 0
        · simp [h1, h2, h3, h4, (nil_L p).2 h4] <;> omega
        · have h4' : ¬ p.toList = [] := fun q => h4 ((nil_L p).1 q)
          by_cases h5 : Word p 4 <;> simp [h1, h2, h3, h4, h4', h5] <;> omega
      · simp [h1, h2, h3]
    · simp [h1, h2]
  · simp [h1]
def putS (i d : Int) (p l : ByteArray) : ByteArray × Int := if SMay i d p l then (strOfNums [i % 256, d % 256, (p.size : Int) % 256] ++ p ++ l, 0) else (⟨#[]⟩, 1700)
theorem word_size {p : ByteArray} {m : Int} (h : Word p m) : (p.size : Int) ≤ m := h.2.2
theorem SMay_size {i d : Int} {p l : ByteArray} (h : SMay i d p l) : p.size ≤ 4 ∧ l.size ≤ 3 := by
  obtain ⟨_, _, hp, hl⟩ := h
  refine ⟨?_, hl⟩
  rcases hp with hp | hp
  · omega
  · have := word_size hp; omega
theorem snap_Put_eq (k : Nat) (i d : Int) (p l : ByteArray) (hp : p.size ≤ 140737488351232) (hk : p.size < k) : snap_Put.f k i d p l = some (putS i d p l) := by
  unfold snap_Put.f putS
  rw [snap_May_eq k i d p l hp hk]
  by_cases h : SMay i d p l
  · have hz := SMay_size h
    have h1 : 3 + p.size ≤ 9223372036854775807 := by omega
    have h2 : 3 + p.size + l.size ≤ 9223372036854775807 := by omega
    simp [h, size_strOfNums, h1, h2]
  · simp [h]
def getS (s : ByteArray) : Int × Int × ByteArray × ByteArray × Int :=
  if 3 ≤ s.size ∧ 3 + bt s 2 ≤ s.size ∧ SMay (bt s 0) (bt s 1) (s.extract 3 (3 + bt s 2).toNat) (s.extract (3 + bt s 2).toNat s.size)
  then (bt s 0, bt s 1, s.extract 3 (3 + bt s 2).toNat, s.extract (3 + bt s 2).toNat s.size, 0) else (0, 0, ⟨#[]⟩, ⟨#[]⟩, 1700)
theorem snap_Get_eq (k : Nat) (s : ByteArray) (hs : s.size ≤ 140737488351232) (hk : s.size + 1 < k) : snap_Get.f k s = some (getS s) := by
  obtain ⟨k, rfl⟩ : ∃ m, k = m + 1 := ⟨k - 1, by omega⟩
  have hb := bt_range s 2
  have hw : wrap64 (3 + bt s 2) = 3 + bt s 2 := wrap64_id (by omega) (by omega)
  unfold snap_Get.f getS
  simp only [snap_Get.j0, wrap_bt, hw]
  have e1 := extract_le s 3 (3 + bt s 2).toNat
  rw [snap_May_eq k _ _ (s.extract 3 (3 + bt s 2).toNat) _ (by omega) (by omega)]
  by_cases h1 : 3 ≤ s.size
  · have hw2 : wrap64 ((s.size : Int) - 3) = (s.size : Int) - 3 := wrap64_id (by omega) (by omega)
    rw [if_neg (by omega), if_pos (by omega), hw2]
    by_cases h2 : 3 + bt s 2 ≤ s.size
    · rw [if_neg (by simp; omega)]
      rw [if_pos (by omega), if_pos (by omega), if_pos (by omega), if_pos (by omega), if_pos (by omega), if_pos (by omega)]
      simp only [Option.bind_some, decide_eq_true_eq, h1, h2, true_and]
      split <;> rfl
    · rw [if_pos (by simp; omega), if_neg (fun q => h2 q.2.1)]
  · rw [if_pos (by omega)]; simp [h1]
theorem u8_small {x : Int} (h0 : 0 ≤ x) (h1 : x ≤ 255) : (((UInt8.ofNat (x % 256).toNat).toNat : Nat) : Int) = x := by
  rw [UInt8.toNat_ofNat']; omega
theorem get_put {i d : Int} {p l : ByteArray} (h : SMay i d p l) : getS (putS i d p l).1 = (i, d, p, l, 0) := by
  have hz := SMay_size h
  obtain ⟨hi, hd, hp, hl⟩ := id h
  have e : (putS i d p l).1 = strOfNums [i % 256, d % 256, (p.size : Int) % 256] ++ p ++ l := by simp [putS, h]
  generalize hx : (putS i d p l).1 = x at e
  have hs : x.size = 3 + p.size + l.size := by rw [e]; simp [size_strOfNums]
  have hL : L x = UInt8.ofNat (i % 256).toNat :: UInt8.ofNat (d % 256).toNat :: UInt8.ofNat ((p.size : Int) % 256).toNat :: (L p ++ L l) := by rw [e, L_append, L_append, L_strOfNums]; simp
  have b0 : bt x 0 = i := by rw [bt_L, hL]; exact u8_small (by omega) (by omega)
  have b1 : bt x 1 = d := by rw [bt_L, hL]; exact u8_small (by omega) (by omega)
  have b2 : bt x 2 = p.size := by rw [bt_L, hL]; exact u8_small (by omega) (by omega)
  have hn : (3 + (p.size : Int)).toNat = 3 + p.size := by omega
  have ep : x.extract 3 (3 + p.size) = p := by
    apply L_inj; rw [L_extract, hL, ← L_length p]; simp
  have el : x.extract (3 + p.size) x.size = l := by
    apply L_inj; rw [L_extract, hL, hs, ← L_length p, ← L_length l, Nat.add_comm 3 (L p).length]; simp
    exact List.take_of_length_le (by rw [L_length]; exact Nat.le_refl _)
  unfold getS
  rw [b0, b1, b2, hn, ep, el, if_pos ⟨by omega, by omega, h⟩]
theorem put_get {s : ByteArray} (h : (getS s).2.2.2.2 = 0) : putS (getS s).1 (getS s).2.1 (getS s).2.2.1 (getS s).2.2.2.1 = (s, 0) ∧ SMay (getS s).1 (getS s).2.1 (getS s).2.2.1 (getS s).2.2.2.1 := by
  unfold getS at h ⊢
  by_cases hc : 3 ≤ s.size ∧ 3 + bt s 2 ≤ s.size ∧ SMay (bt s 0) (bt s 1) (s.extract 3 (3 + bt s 2).toNat) (s.extract (3 + bt s 2).toNat s.size)
  · rw [if_pos hc]
    obtain ⟨h3, hb, hm⟩ := hc
    have hr := bt_range s 2
    refine ⟨?_, hm⟩
    simp only [putS, if_pos hm]
    refine Prod.ext ?_ rfl
    apply L_inj
    have hl : 3 ≤ (L s).length := by rw [L_length]; exact h3
    have b : ∀ j : Nat, j < s.size → UInt8.ofNat (bt s (j : Int) % 256).toNat = (L s)[j]?.getD 0 := fun j hj => by
      rw [bt_L]; apply UInt8.toNat_inj.1; rw [UInt8.toNat_ofNat']
      have := ((L s)[(j : Int).toNat]?.getD 0).toNat_lt
      simp only [Int.toNat_natCast] at *
      omega
    have c0 := b 0 (by omega); have c1 := b 1 (by omega); have c2 := b 2 (by omega)
    have hsz : ((s.extract 3 (3 + bt s 2).toNat).size : Int) = bt s 2 := by rw [size_extract]; omega
    rw [L_append, L_append, L_strOfNums, hsz]
    simp only [List.map_cons, List.map_nil]
    have c0' : UInt8.ofNat (bt s 0 % 256).toNat = (L s)[0]?.getD 0 := c0
    have c1' : UInt8.ofNat (bt s 1 % 256).toNat = (L s)[1]?.getD 0 := c1
    have c2' : UInt8.ofNat (bt s 2 % 256).toNat = (L s)[2]?.getD 0 := c2
    rw [c0', c1', c2', L_extract, L_extract]
    match hq : L s, hl with
    | a :: b :: c :: r, _ =>
      have hrs : r.length + 3 = s.size := by rw [← L_length, hq]; rfl
      have hn : (3 + bt s 2).toNat = (bt s 2).toNat + 3 := by omega
      rw [hn]
      simp
      rw [List.take_of_length_le (l := List.drop _ _) (by simp; omega)]
      exact List.take_append_drop _ _
  · rw [if_neg hc] at h; simp at h
theorem awake_eq (k : Nat) (hk : 12 ≤ k) : cryostatlaw17_awake.f k = some true :=
  at_rounds (g := fun k => cryostatlaw17_awake.f k) (fun k => cryostatlaw17_awake.mono k) hk (by decide +kernel)
theorem putS_ok (i d : Int) (p l : ByteArray) : (putS i d p l).2 = 0 ↔ SMay i d p l := by
  unfold putS; by_cases h : SMay i d p l <;> simp [h]
theorem putS_le (i d : Int) (p l : ByteArray) : (putS i d p l).1.size ≤ 10 := by
  unfold putS; split
  · next h => have hz := SMay_size h; simp [size_strOfNums]; omega
  · show 0 ≤ _; omega
theorem getS_no {s : ByteArray} (h : ¬ (getS s).2.2.2.2 = 0) : getS s = (0, 0, ⟨#[]⟩, ⟨#[]⟩, 1700) := by
  unfold getS at h ⊢; split at h
  · exact absurd rfl h
  · next q => rw [if_neg q]
theorem getS_le (s : ByteArray) : (getS s).2.2.1.size ≤ s.size := by
  unfold getS; split
  · exact extract_le _ _ _
  · exact Nat.zero_le _
theorem SnapBack (i d : Int) (p l : ByteArray) (s : ByteArray) (_ : (Lit.int .i64 i).wf = true) (_ : (Lit.int .i64 d).wf = true) (hp : p.size ≤ 140737488351232) (_ : l.size ≤ 140737488351232) (hs : s.size ≤ 140737488351232) :
    ∃ k, cryostatlaw17_SnapBack.f k i d p l s = some true := by
  refine ⟨p.size + s.size + 30, ?_⟩
  have hj : cryostatlaw17_SnapBack.j0 (p.size + s.size + 30) s = some true := by
    simp only [cryostatlaw17_SnapBack.j0]
    have hle := getS_le s
    rw [snap_Get_eq _ s hs (by omega)]
    simp only [Option.bind_some]
    rw [snap_Put_eq _ _ _ _ _ (by omega) (by omega), snap_May_eq _ _ _ _ _ (by omega) (by omega)]
    by_cases h : (getS s).2.2.2.2 = 0
    · obtain ⟨e, hm⟩ := put_get h
      simp [cryostatlaw0_Num.f, h, e, hm]
    · rw [getS_no h]; simp [cryostatlaw0_Num.f, toList_L]
  unfold cryostatlaw17_SnapBack.f
  rw [awake_eq _ (by omega), snap_Put_eq _ i d p l hp (by omega)]
  have hle := putS_le i d p l
  simp only [Option.bind_some]
  rw [snap_Get_eq _ (putS i d p l).1 (by omega) (by omega)]
  by_cases h : SMay i d p l
  · simp [cryostatlaw0_Num.f, (putS_ok i d p l).2 h, get_put h, hj]
  · have : ¬ (putS i d p l).2 = 0 := fun q => h ((putS_ok ..).1 q)
    simp [cryostatlaw0_Num.f, this, hj]
end Go.Proofs.Ytekgaoakijbmaaa.Pure
