/- The pure side of RecordForms: for all arguments within the form's bounds the printed function of the law answers true. -/
import Derived.Test.YtpadejamelppfaaORecordFormsx6
import Derived.Test.YtpadejamelppfaaGen
set_option linter.unusedSimpArgs false
set_option linter.unusedVariables false
namespace Go.Proofs.Ytpadejamelppfaa.Pure
open Go.RowKit Go.Proofs.Gen Go.Proofs.Ytpadejamelppfaa.PRecordForms Go.Proofs.YtpadejamelppfaaW.PrintWords Go.Proofs.YtpadejamelppfaaW.PrintLast
theorem wrap_bt (s : ByteArray) (i : Int) : wrap64 (bt s i) = bt s i := by
  have := bt_range s i; exact wrap64_id (by omega) (by omega)
def RMay (q p t : Int) (d : ByteArray) : Prop := (1 ≤ q ∧ q ≤ 2147483647) ∧ ((t = 4 ∧ p = 0 ∧ d.size = 0) ∨ (0 ≤ t ∧ t < 4 ∧ 0 ≤ p ∧ p < 48 ∧ d.size ≤ 24))
instance (q p t : Int) (d : ByteArray) : Decidable (RMay q p t d) := by unfold RMay; infer_instance
theorem RMay_size {q p t : Int} {d : ByteArray} (h : RMay q p t d) : d.size ≤ 24 := by
  rcases h.2 with h | h <;> omega
theorem seq_eq (q : Int) : record_Seq.f q = some (decide (1 ≤ q ∧ q ≤ 2147483647)) := by
  unfold record_Seq.f; split <;> simp <;> omega
theorem page_eq (p : Int) : record_Page.f p = some (decide (0 ≤ p ∧ p < 48)) := by
  unfold record_Page.f; split <;> simp <;> omega
theorem record_May_eq (q p t : Int) (d : ByteArray) : record_May.f q p t d = some (decide (RMay q p t d)) := by
  unfold record_May.f RMay
  simp only [seq_eq, page_eq, Option.bind_some]
  have e : (d.toList = []) ↔ d.size = 0 := nil_L d
  by_cases h1 : 1 ≤ q ∧ q ≤ 2147483647 <;> by_cases h2 : t = 4 <;> by_cases h3 : p = 0 <;> by_cases h4 : t ≥ 0 <;> by_cases h5 : t < 4 <;> by_cases h6 : 0 ≤ p ∧ p < 48 <;> by_cases h7 : d.size = 0 <;>
    simp only [h1, h2, h3, h4, h5, h6, h7, e, if_true, if_false, decide_true, decide_false, Bool.false_eq_true, true_and, false_and, and_true, and_false, or_false, false_or] <;>
    first | rfl | (simp; omega) | omega | (exfalso; omega) | (simp_all; omega) | simp_all
def head8 (q p t : Int) (d : ByteArray) : List Int := [q / 16777216 % 256, q / 65536 % 256, q / 256 % 256, q % 256, p % 256, t % 256, (d.size : Int) % 256, 0]
def zer (n : Nat) : ByteArray := ⟨(List.replicate n (0 : UInt8)).toArray⟩
theorem zer_size (n : Nat) : (zer n).size = n := by simp [zer, ByteArray.size]
theorem L_zer (n : Nat) : L (zer n) = List.replicate n 0 := rfl
theorem repeat_zero (n : Nat) : (⟨(Lib.repeatL [0] n).toArray⟩ : ByteArray) = zer n := by
  have : ∀ n, Lib.repeatL ([0] : List UInt8) n = List.replicate n 0 := by
    intro n
    induction n with
    | zero => rfl
    | succ n ih => rw [Lib.repeatL, ih]; rfl
  rw [this]; rfl
def recOf (q p t : Int) (d : ByteArray) : ByteArray := strOfNums (head8 q p t d) ++ d ++ zer (24 - d.size)
theorem str_append (a b : List Int) : strOfNums a ++ strOfNums b = strOfNums (a ++ b) := by
  apply L_inj; simp [L_append, L_strOfNums]
def putR (q p t : Int) (d : ByteArray) : ByteArray × Int := if RMay q p t d then (recOf q p t d, 0) else (⟨#[]⟩, 300)
theorem record_Put_eq (q p t : Int) (d : ByteArray) : record_Put.f q p t d = some (putR q p t d) := by
  unfold record_Put.f putR
  rw [record_May_eq]
  by_cases h : RMay q p t d
  · have hz := RMay_size h
    have e1 : record_Four.f q = some (strOfNums [q / 16777216 % 256, q / 65536 % 256, q / 256 % 256, q % 256]) := rfl
    simp only [h, decide_true, if_true, Option.bind_some, e1]
    rw [str_append]
    have hs : (strOfNums [q / 16777216 % 256, q / 65536 % 256, q / 256 % 256, q % 256]).size = 4 := by rw [size_strOfNums]; rfl
    have hs2 : (strOfNums [p % 256, t % 256, (d.size : Int) % 256, 0]).size = 4 := by rw [size_strOfNums]; rfl
    have hs3 : (strOfNums ([q / 16777216 % 256, q / 65536 % 256, q / 256 % 256, q % 256] ++ [p % 256, t % 256, (d.size : Int) % 256, 0])).size = 8 := by rw [size_strOfNums]; rfl
    rw [if_pos (by omega), if_pos (by omega)]
    have e2 : record_Fill.f (strOfNums ([q / 16777216 % 256, q / 65536 % 256, q / 256 % 256, q % 256] ++ [p % 256, t % 256, (d.size : Int) % 256, 0]) ++ d) = some (recOf q p t d) := by
      unfold record_Fill.f recOf
      rw [if_pos (by rw [size_append]; omega), repeat_zero, size_append, hs3]
      have : 32 - (8 + d.size) = 24 - d.size := by omega
      rw [this]; rfl
    rw [e2]; rfl
  · simp [h]
theorem recOf_size (q p t : Int) (d : ByteArray) (h : d.size ≤ 24) : (recOf q p t d).size = 32 := by
  unfold recOf; rw [size_append, size_append, size_strOfNums, zer_size]; simp [head8]; omega
theorem L_recOf (q p t : Int) (d : ByteArray) : L (recOf q p t d) = (head8 q p t d).map (fun n => UInt8.ofNat n.toNat) ++ (L d ++ List.replicate (24 - d.size) 0) := by
  unfold recOf; rw [L_append, L_append, L_strOfNums, L_zer, List.append_assoc]
/-- a number of four bytes -/
def num4 (s : ByteArray) : Int := bt s 0 * 16777216 + bt s 1 * 65536 + bt s 2 * 256 + bt s 3
theorem wraps_i64 (n : Int) (h0 : 0 ≤ n) (h1 : n < 2 ^ 62) : IntKind.i64.wrap n = n := by rw [IntKind.wrap_i64]; omega
theorem or4 (a b c d : Int) (ha : 0 ≤ a ∧ a ≤ 255) (hb : 0 ≤ b ∧ b ≤ 255) (hc : 0 ≤ c ∧ c ≤ 255) (hd : 0 ≤ d ∧ d ≤ 255) :
    bits .or .i64 (bits .or .i64 (bits .or .i64 (wrap64 (a * 16777216)) (wrap64 (b * 65536))) (wrap64 (c * 256))) d = a * 16777216 + b * 65536 + c * 256 + d := by
  rw [wrap64_id (by omega) (by omega), wrap64_id (by omega) (by omega), wrap64_id (by omega) (by omega)]
  rw [bits_join .i64 62 (by decide) wraps_i64 24 (a * 16777216) (b * 65536) (by omega) (by omega) (by omega) (by omega) (by omega) (by omega)]
  rw [bits_join .i64 62 (by decide) wraps_i64 16 (a * 16777216 + b * 65536) (c * 256) (by omega) (by omega) (by omega) (by omega) (by omega) (by omega)]
  rw [bits_join .i64 62 (by decide) wraps_i64 8 (a * 16777216 + b * 65536 + c * 256) d (by omega) (by omega) (by omega) (by omega) (by omega) (by omega)]
theorem record_Number_eq (s : ByteArray) (h : 4 ≤ s.size) : record_Number.f s = some (num4 s) := by
  unfold record_Number.f num4
  simp only [wrap_bt]
  rw [if_pos (by omega), if_pos (by omega), if_pos (by omega), if_pos (by omega), or4 _ _ _ _ (bt_range s 0) (bt_range s 1) (bt_range s 2) (bt_range s 3)]
/-- the record that some bytes would be -/
def recAt (s : ByteArray) : Int × Int × Int × ByteArray := (num4 s, bt s 4, bt s 5, s.extract 8 (8 + bt s 6).toNat)
def getR (s : ByteArray) : Int × Int × Int × ByteArray × Int :=
  if s.size = 32 ∧ bt s 6 ≤ 24 ∧ putR (recAt s).1 (recAt s).2.1 (recAt s).2.2.1 (recAt s).2.2.2 = (s, 0) then ((recAt s).1, (recAt s).2.1, (recAt s).2.2.1, (recAt s).2.2.2, 0) else (0, 0, 0, ⟨#[]⟩, 300)
theorem record_Get_eq (k : Nat) (s : ByteArray) (hk : 1 ≤ k) : record_Get.f k s = some (getR s) := by
  obtain ⟨k, rfl⟩ : ∃ m, k = m + 1 := ⟨k - 1, by omega⟩
  have hr := bt_range s 6
  have hw : wrap64 (8 + bt s 6) = 8 + bt s 6 := wrap64_id (by omega) (by omega)
  unfold record_Get.f getR
  simp only [record_Get.j0, wrap_bt, hw]
  by_cases h1 : s.size = 32
  · rw [if_pos (by omega), if_pos (by omega)]
    by_cases h2 : bt s 6 ≤ 24
    · rw [if_neg (by simp; omega), record_Number_eq s (by omega)]
      simp only [Option.bind_some]
      rw [if_pos (by omega), if_pos (by omega), if_pos (by omega), if_pos (by omega), if_pos (by omega), record_Put_eq]
      simp only [Option.bind_some]
      by_cases h3 : putR (recAt s).1 (recAt s).2.1 (recAt s).2.2.1 (recAt s).2.2.2 = (s, 0)
      · have h3' : putR (num4 s) (bt s 4) (bt s 5) (s.extract 8 (8 + bt s 6).toNat) = (s, 0) := h3
        rw [h3', if_pos (show ((s, (0 : Int)) : ByteArray × Int).2 = 0 from rfl), if_pos (show ((s, (0 : Int)) : ByteArray × Int).1.toList = s.toList from rfl), if_pos ⟨h1, h2, h3⟩]; rfl
      · have h3' : ¬ putR (num4 s) (bt s 4) (bt s 5) (s.extract 8 (8 + bt s 6).toNat) = (s, 0) := h3
        by_cases h4 : (putR (num4 s) (bt s 4) (bt s 5) (s.extract 8 (8 + bt s 6).toNat)).2 = 0
        · rw [if_pos h4, if_neg (fun q => h3' (Prod.ext ((eq_L _ _).1 q) h4)), if_neg (fun q => h3 q.2.2)]
        · rw [if_neg h4, if_neg (fun q => h3 q.2.2)]
    · rw [if_pos (by simp; omega), if_neg (fun q => h2 q.2.1)]
  · rw [if_neg (by omega)]; simp [h1]
theorem u8_mod {x : Int} (h0 : 0 ≤ x) (h1 : x ≤ 255) : (((UInt8.ofNat x.toNat).toNat : Nat) : Int) = x := by
  rw [UInt8.toNat_ofNat']; omega
theorem recAt_recOf {q p t : Int} {d : ByteArray} (h : RMay q p t d) : recAt (recOf q p t d) = (q, p, t, d) := by
  have hz := RMay_size h
  have hq := h.1
  have hp : 0 ≤ p ∧ p ≤ 255 ∧ 0 ≤ t ∧ t ≤ 255 := by rcases h.2 with h | h <;> omega
  have hL := L_recOf q p t d
  generalize hx : recOf q p t d = x at hL
  have m : ∀ y : Int, 0 ≤ y % 256 ∧ y % 256 ≤ 255 := fun y => by omega
  have b0 : bt x 0 = q / 16777216 % 256 := by rw [bt_L, hL]; exact u8_mod (m _).1 (m _).2
  have b1 : bt x 1 = q / 65536 % 256 := by rw [bt_L, hL]; exact u8_mod (m _).1 (m _).2
  have b2 : bt x 2 = q / 256 % 256 := by rw [bt_L, hL]; exact u8_mod (m _).1 (m _).2
  have b3 : bt x 3 = q % 256 := by rw [bt_L, hL]; exact u8_mod (m _).1 (m _).2
  have b4 : bt x 4 = p % 256 := by rw [bt_L, hL]; exact u8_mod (m _).1 (m _).2
  have b5 : bt x 5 = t % 256 := by rw [bt_L, hL]; exact u8_mod (m _).1 (m _).2
  have b6 : bt x 6 = (d.size : Int) % 256 := by rw [bt_L, hL]; exact u8_mod (m _).1 (m _).2
  have hd : (8 + bt x 6).toNat = 8 + d.size := by rw [b6]; omega
  have ex : x.extract 8 (8 + d.size) = d := by
    apply L_inj
    rw [L_extract, hL, List.drop_left' (by simp [head8]), ← L_length d]
    simp
  unfold recAt num4
  rw [hd, ex, b0, b1, b2, b3, b4, b5]
  have e1 : q / 16777216 % 256 * 16777216 + q / 65536 % 256 * 65536 + q / 256 % 256 * 256 + q % 256 = q := by omega
  have e2 : p % 256 = p := by omega
  have e3 : t % 256 = t := by omega
  rw [e1, e2, e3]
theorem get_recOf {q p t : Int} {d : ByteArray} (h : RMay q p t d) : getR (recOf q p t d) = (q, p, t, d, 0) := by
  have hz := RMay_size h
  have hb : bt (recOf q p t d) 6 = (d.size : Int) % 256 := by
    rw [bt_L, L_recOf]; exact u8_mod (by show 0 ≤ (d.size : Int) % 256; omega) (by show (d.size : Int) % 256 ≤ 255; omega)
  unfold getR
  rw [recAt_recOf h, if_pos ⟨recOf_size q p t d hz, by rw [hb]; omega, by simp [putR, h]⟩]
theorem recOf_inj {q p t q' p' t' : Int} {d d' : ByteArray} (h : RMay q p t d) (h' : RMay q' p' t' d') : recOf q p t d = recOf q' p' t' d' ↔ (q = q' ∧ p = p' ∧ t = t' ∧ d = d') := by
  constructor
  · intro e
    have a := get_recOf h
    rw [e, get_recOf h'] at a
    simp at a; simp [a]
  · rintro ⟨rfl, rfl, rfl, rfl⟩; rfl
theorem putR_ok (q p t : Int) (d : ByteArray) : (putR q p t d).2 = 0 ↔ RMay q p t d := by
  unfold putR; by_cases h : RMay q p t d <;> simp [h]
theorem putR_yes {q p t : Int} {d : ByteArray} (h : RMay q p t d) : putR q p t d = (recOf q p t d, 0) := by simp [putR, h]
theorem putR_no {q p t : Int} {d : ByteArray} (h : ¬ RMay q p t d) : putR q p t d = (⟨#[]⟩, 300) := by simp [putR, h]
theorem awake_eq (k : Nat) (hk : 4 ≤ k) : cryostatlaw3_awake.f k = some true :=
  at_rounds (g := fun k => cryostatlaw3_awake.f k) (fun k => cryostatlaw3_awake.mono k) hk (by decide +kernel)
def TT : ByteArray := ⟨#[0, 0, 0, 1, 2, 3, 3, 0, 97, 98, 99, 0, 0, 0, 0, 0, 0, 0, 0, 0, 0, 0, 0, 0, 0, 0, 0, 0, 0, 0, 0, 0]⟩
def tts : List ByteArray := [(⟨#[]⟩ : ByteArray), TT.extract 0 31, TT ++ (⟨#[120]⟩ : ByteArray), (⟨#[128]⟩ : ByteArray) ++ (TT.extract 1 TT.size), (⟨#[0, 0, 0, 0]⟩ : ByteArray) ++ (TT.extract 4 TT.size), ((TT.extract 0 4) ++ (⟨#[48]⟩ : ByteArray)) ++ (TT.extract 5 TT.size), ((TT.extract 0 5) ++ (⟨#[5]⟩ : ByteArray)) ++ (TT.extract 6 TT.size), ((TT.extract 0 5) ++ (⟨#[4]⟩ : ByteArray)) ++ (TT.extract 6 TT.size), ((TT.extract 0 6) ++ (⟨#[25]⟩ : ByteArray)) ++ (TT.extract 7 TT.size), ((TT.extract 0 6) ++ (⟨#[2]⟩ : ByteArray)) ++ (TT.extract 7 TT.size), ((TT.extract 0 7) ++ (⟨#[1]⟩ : ByteArray)) ++ (TT.extract 8 TT.size), (TT.extract 0 31) ++ (⟨#[1]⟩ : ByteArray)]
theorem tts_bad : ∀ s, s ∈ tts → (getR s).2.2.2.2 = 300 := by decide +kernel
theorem put_TT : putR 1 2 3 (⟨#[97, 98, 99]⟩ : ByteArray) = (TT, 0) := by decide +kernel
theorem j0_eq (a0 : Int) (q p t : Int) (d : ByteArray) (h : ¬ RMay q p t d) : cryostatlaw3_RecordForms.j0 5 a0 ⟨#[]⟩ 300 TT false q p t d = some true := by
  have hi : 0 ≤ a0 % 18446744073709551616 % 12 ∧ a0 % 18446744073709551616 % 12 < 12 := ⟨Int.emod_nonneg _ (by decide), Int.emod_lt_of_pos _ (by decide)⟩
  have hm := umod a0 12 (by decide) (by decide)
  generalize a0 % 18446744073709551616 % 12 = i at hi hm
  simp only [cryostatlaw3_RecordForms.j0]
  rw [if_neg (by decide)]
  repeat rw [if_pos (by decide +kernel)]
  simp only [Option.bind_some]
  have hmem : rdOf ByteArray.empty tts i ∈ tts := by
    unfold rdOf; rw [List.getD_eq_getElem?_getD, List.getElem?_eq_getElem (show i.toNat < tts.length by show i.toNat < 12; omega)]; exact List.getElem_mem _
  have hg := tts_bad _ hmem
  rw [hm]
  rw [if_pos hi.1, if_pos (show i < _ by show i < 12; exact hi.2)]
  rw [record_Get_eq _ _ (by omega), record_May_eq]
  simp only [Option.bind_some, h, decide_false, Bool.false_eq_true, if_false, cryostatlaw0_Num.f]
  rw [if_pos (by rw [toList_L])]
  simp only [if_true]
  have hg' : (getR (rdOf ByteArray.empty tts i)).2.2.2.2 = 300 := hg
  unfold tts at hg'
  rw [hg']; rfl
theorem RecordForms : cryostatlaw3_RecordForms.Pure := by
  intro a0 a1 h0 h1
  refine ⟨5, ?_⟩
  unfold cryostatlaw3_RecordForms.f
  rw [awake_eq _ (by omega), and1023]
  have hm : 0 ≤ a1 % 1024 ∧ a1 % 1024 < 1024 := ⟨Int.emod_nonneg _ (by decide), Int.emod_lt_of_pos _ (by decide)⟩
  have ed : wrap64 (1 + a1 % 1024) = 1 + a1 % 1024 := wrap64_id (by omega) (by omega)
  rw [ed]
  generalize hd : 1 + a1 % 1024 = d
  have bd : 1 ≤ d ∧ d ≤ 1024 := by omega
  have e1 : wrap64 (24 + d) = 24 + d := wrap64_id (by omega) (by omega)
  have e2 : wrap64 (-d) = -d := wrap64_id (by omega) (by omega)
  have e3 : wrap64 (2147483647 + d) = 2147483647 + d := wrap64_id (by omega) (by omega)
  have e4 : wrap64 (47 + d) = 47 + d := wrap64_id (by omega) (by omega)
  have e5 : wrap64 (4 + d) = 4 + d := wrap64_id (by omega) (by omega)
  rw [umod a0 10 (by decide) (by decide), e1, e2, e3, e4, e5]
  have hi : 0 ≤ a0 % 18446744073709551616 % 10 ∧ a0 % 18446744073709551616 % 10 < 10 := ⟨Int.emod_nonneg _ (by decide), Int.emod_lt_of_pos _ (by decide)⟩
  generalize a0 % 18446744073709551616 % 10 = i at hi
  simp only [Option.bind_some, if_true]
  have hs : (strOfNums (List.replicate (24 + d).toNat 0)).size = (24 + d).toNat := by rw [size_strOfNums]; simp
  rw [if_pos (by omega), if_pos (by omega), if_pos hi.1, if_pos (show i < _ by simpa using hi.2)]
  have B : ∀ x, (x = (⟨0, 0, 0, (⟨#[]⟩ : ByteArray)⟩ : S40) ∨ x = ⟨-d, 0, 0, ⟨#[]⟩⟩ ∨ x = ⟨2147483647 + d, 0, 0, ⟨#[]⟩⟩ ∨ x = ⟨1, -d, 0, ⟨#[]⟩⟩ ∨ x = ⟨1, 47 + d, 0, ⟨#[]⟩⟩ ∨ x = ⟨1, 0, -d, ⟨#[]⟩⟩ ∨ x = ⟨1, 0, 4 + d, ⟨#[]⟩⟩ ∨ x = ⟨1, 0, 0, strOfNums (List.replicate (24 + d).toNat 0)⟩ ∨ x = ⟨1, 1, 4, ⟨#[]⟩⟩ ∨ x = ⟨1, 0, 4, ⟨#[120]⟩⟩) →
      ¬ RMay x.f0 x.f1 x.f2 x.f3 := by
    have z : (⟨#[120]⟩ : ByteArray).size = 1 := rfl
    rintro x (rfl | rfl | rfl | rfl | rfl | rfl | rfl | rfl | rfl | rfl) ⟨⟨q1, q2⟩, q3⟩ <;> simp only at q1 q2 q3 <;> omega
  generalize hx : rd_T40 _ i = x
  have hB := B x (by
    have hi' : i = 0 ∨ i = 1 ∨ i = 2 ∨ i = 3 ∨ i = 4 ∨ i = 5 ∨ i = 6 ∨ i = 7 ∨ i = 8 ∨ i = 9 := by omega
    rw [← hx]
    rcases hi' with rfl | rfl | rfl | rfl | rfl | rfl | rfl | rfl | rfl | rfl <;> simp [rd_T40])
  rw [record_Put_eq, putR_no hB, record_Put_eq, put_TT]
  simp only [Option.bind_some, cryostatlaw0_Num.f, if_true]
  exact j0_eq a0 _ _ _ _ hB
end Go.Proofs.Ytpadejamelppfaa.Pure
