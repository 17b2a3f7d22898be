/- The pure side of RecordHeads: for all arguments within the form's bounds the printed function of the law answers true. -/
import Derived.Test.YtpadejamelppfaaORecordHeadsx6
import Derived.Test.YtpadejamelppfaaGen
set_option linter.unusedSimpArgs false
set_option linter.unusedVariables false
namespace Go.Proofs.Ytpadejamelppfaa.Pure
open Go.RowKit Go.Proofs.Gen Go.Proofs.Ytpadejamelppfaa.PRecordHeads Go.Proofs.YtpadejamelppfaaW.PrintWords Go.Proofs.YtpadejamelppfaaW.PrintLast
theorem wrap_bt (s : ByteArray) (i : Int) : wrap64 (bt s i) = bt s i := by
  have := bt_range s i; exact wrap64_id (by omega) (by omega)
def RMay (q p t : Int) (d : ByteArray) : Prop := (1 ≤ q ∧ q ≤ 2147483647) ∧ ((t = 4 ∧ p = 0 ∧ d.size = 0) ∨ (0 ≤ t ∧ t < 4 ∧ 0 ≤ p ∧ p < 48 ∧ d.size ≤ 24))
instance (q p t : Int) (d : ByteArray) : Decidable (RMay q p t d) := by unfold RMay; infer_instance
theorem RMay_size {q p t : Int} {d : ByteArray} (h : RMay q p t d) : d.size ≤ 24 := by
  rcases h.2 with h | h <;> omega
theorem seq_eq (q : Int) : record_Seq.f q = some (decide (1 ≤ q ∧ q ≤ 2147483647)) := by
  unfold record_Seq.f; split <;> simp <;> omega
theorem page_eq (p : Int) : record_Page.f p = some (decide (0 ≤ p ∧ p < 48)) := by
  unfold record_Page.f; split <;> simp <;> omega
theorem record_May_eq (q p t : Int) (d : ByteArray) : record_May.f q p t d = some (decide (RMay q p t d)) := by
  unfold record_May.f RMay
  simp only [seq_eq, page_eq, Option.bind_some]
  have e : (d.toList = []) ↔ d.size = 0 := nil_L d
  by_cases h1 : 1 ≤ q ∧ q ≤ 2147483647 <;> by_cases h2 : t = 4 <;> by_cases h3 : p = 0 <;> by_cases h4 : t ≥ 0 <;> by_cases h5 : t < 4 <;> by_cases h6 : 0 ≤ p ∧ p < 48 <;> by_cases h7 : d.size = 0 <;>
    simp only [h1, h2, h3, h4, h5, h6, h7, e, if_true, if_false, decide_true, decide_false, Bool.false_eq_true, true_and, false_and, and_true, and_false, or_false, false_or] <;>
    first | rfl | (simp; omega) | omega | (exfalso; omega) | (simp_all; omega) | simp_all
def head8 (q p t : Int) (d : ByteArray) : List Int := [q / 16777216 % 256, q / 65536 % 256, q / 256 % 256, q % 256, p % 256, t % 256, (d.size : Int) % 256, 0]
def zer (n : Nat) : ByteArray := ⟨(List.replicate n (0 : UInt8)).toArray⟩
theorem zer_size (n : Nat) : (zer n).size = n := by simp [zer, ByteArray.size]
theorem L_zer (n : Nat) : L (zer n) = List.replicate n 0 := rfl
theorem repeat_zero (n : Nat) : (⟨(Lib.repeatL [0] n).toArray⟩ : ByteArray) = zer n := by
  have : ∀ n, Lib.repeatL ([0] : List UInt8) n = List.replicate n 0 := by
    intro n
    induction n with
    | zero => rfl
    | succ n ih => rw [Lib.repeatL, ih]; rfl
  rw [this]; rfl
def recOf (q p t : Int) (d : ByteArray) : ByteArray := strOfNums (head8 q p t d) ++ d ++ zer (24 - d.size)
theorem str_append (a b : List Int) : strOfNums a ++ strOfNums b = strOfNums (a ++ b) := by
  apply L_inj; simp [L_append, L_strOfNums]
def putR (q p t : Int) (d : ByteArray) : ByteArray × Int := if RMay q p t d then (recOf q p t d, 0) else (⟨#[]⟩, 300)
theorem record_Put_eq (q p t : Int) (d : ByteArray) : record_Put.f q p t d = some (putR q p t d) := by
  unfold record_Put.f putR
  rw [record_May_eq]
  by_cases h : RMay q p t d
  · have hz := RMay_size h
    have e1 : record_Four.f q = some (strOfNums [q / 16777216 % 256, q / 65536 % 256, q / 256 % 256, q % 256]) := rfl
    simp only [h, decide_true, if_true, Option.bind_some, e1]
    rw [str_append]
    have hs : (strOfNums [q / 16777216 % 256, q / 65536 % 256, q / 256 % 256, q % 256]).size = 4 := by rw [size_strOfNums]; rfl
    have hs2 : (strOfNums [p % 256, t % 256, (d.size : Int) % 256, 0]).size = 4 := by rw [size_strOfNums]; rfl
    have hs3 : (strOfNums ([q / 16777216 % 256, q / 65536 % 256, q / 256 % 256, q % 256] ++ [p % 256, t % 256, (d.size : Int) % 256, 0])).size = 8 := by rw [size_strOfNums]; rfl
    rw [if_pos (by omega), if_pos (by omega)]
    have e2 : record_Fill.f (strOfNums ([q / 16777216 % 256, q / 65536 % 256, q / 256 % 256, q % 256] ++ [p % 256, t % 256, (d.size : Int) % 256, 0]) ++ d) = some (recOf q p t d) := by
      unfold record_Fill.f recOf
      rw [if_pos (by rw [size_append]; omega), repeat_zero, size_append, hs3]
      have : 32 - (8 + d.size) = 24 - d.size := by omega
      rw [this]; rfl
    rw [e2]; rfl
  · simp [h]
theorem recOf_size (q p t : Int) (d : ByteArray) (h : d.size ≤ 24) : (recOf q p t d).size = 32 := by
  unfold recOf; rw [size_append, size_append, size_strOfNums, zer_size]; simp [head8]; omega
theorem L_recOf (q p t : Int) (d : ByteArray) : L (recOf q p t d) = (head8 q p t d).map (fun n => UInt8.ofNat n.toNat) ++ (L d ++ List.replicate (24 - d.size) 0) := by
  unfold recOf; rw [L_append, L_append, L_strOfNums, L_zer, List.append_assoc]
/-- a number of four bytes -/
def num4 (s : ByteArray) : Int := bt s 0 * 16777216 + bt s 1 * 65536 + bt s 2 * 256 + bt s 3
theorem wraps_i64 (n : Int) (h0 : 0 ≤ n) (h1 : n < 2 ^ 62) : IntKind.i64.wrap n = n := by rw [IntKind.wrap_i64]; omega
theorem or4 (a b c d : Int) (ha : 0 ≤ a ∧ a ≤ 255) (hb : 0 ≤ b ∧ b ≤ 255) (hc : 0 ≤ c ∧ c ≤ 255) (hd : 0 ≤ d ∧ d ≤ 255) :
    bits .or .i64 (bits .or .i64 (bits .or .i64 (wrap64 (a * 16777216)) (wrap64 (b * 65536))) (wrap64 (c * 256))) d = a * 16777216 + b * 65536 + c * 256 + d := by
  rw [wrap64_id (by omega) (by omega), wrap64_id (by omega) (by omega), wrap64_id (by omega) (by omega)]
  rw [bits_join .i64 62 (by decide) wraps_i64 24 (a * 16777216) (b * 65536) (by omega) (by omega) (by omega) (by omega) (by omega) (by omega)]
  rw [bits_join .i64 62 (by decide) wraps_i64 16 (a * 16777216 + b * 65536) (c * 256) (by omega) (by omega) (by omega) (by omega) (by omega) (by omega)]
  rw [bits_join .i64 62 (by decide) wraps_i64 8 (a * 16777216 + b * 65536 + c * 256) d (by omega) (by omega) (by omega) (by omega) (by omega) (by omega)]
theorem record_Number_eq (s : ByteArray) (h : 4 ≤ s.size) : record_Number.f s = some (num4 s) := by
  unfold record_Number.f num4
  simp only [wrap_bt]
  rw [if_pos (by omega), if_pos (by omega), if_pos (by omega), if_pos (by omega), or4 _ _ _ _ (bt_range s 0) (bt_range s 1) (bt_range s 2) (bt_range s 3)]
/-- the record that some bytes would be -/
def recAt (s : ByteArray) : Int × Int × Int × ByteArray := (num4 s, bt s 4, bt s 5, s.extract 8 (8 + bt s 6).toNat)
def getR (s : ByteArray) : Int × Int × Int × ByteArray × Int :=
  if s.size = 32 ∧ bt s 6 ≤ 24 ∧ putR (recAt s).1 (recAt s).2.1 (recAt s).2.2.1 (recAt s).2.2.2 = (s, 0) then ((recAt s).1, (recAt s).2.1, (recAt s).2.2.1, (recAt s).2.2.2, 0) else (0, 0, 0, ⟨#[]⟩, 300)
theorem record_Get_eq (k : Nat) (s : ByteArray) (hk : 1 ≤ k) : record_Get.f k s = some (getR s) := by
  obtain ⟨k, rfl⟩ : ∃ m, k = m + 1 := ⟨k - 1, by omega⟩
  have hr := bt_range s 6
  have hw : wrap64 (8 + bt s 6) = 8 + bt s 6 := wrap64_id (by omega) (by omega)
  unfold record_Get.f getR
  simp only [record_Get.j0, wrap_bt, hw]
  by_cases h1 : s.size = 32
  · rw [if_pos (by omega), if_pos (by omega)]
    by_cases h2 : bt s 6 ≤ 24
    · rw [if_neg (by simp; omega), record_Number_eq s (by omega)]
      simp only [Option.bind_some]
      rw [if_pos (by omega), if_pos (by omega), if_pos (by omega), if_pos (by omega), if_pos (by omega), record_Put_eq]
      simp only [Option.bind_some]
      by_cases h3 : putR (recAt s).1 (recAt s).2.1 (recAt s).2.2.1 (recAt s).2.2.2 = (s, 0)
      · have h3' : putR (num4 s) (bt s 4) (bt s 5) (s.extract 8 (8 + bt s 6).toNat) = (s, 0) := h3
        rw [h3', if_pos (show ((s, (0 : Int)) : ByteArray × Int).2 = 0 from rfl), if_pos (show ((s, (0 : Int)) : ByteArray × Int).1.toList = s.toList from rfl), if_pos ⟨h1, h2, h3⟩]; rfl
      · have h3' : ¬ putR (num4 s) (bt s 4) (bt s 5) (s.extract 8 (8 + bt s 6).toNat) = (s, 0) := h3
        by_cases h4 : (putR (num4 s) (bt s 4) (bt s 5) (s.extract 8 (8 + bt s 6).toNat)).2 = 0
        · rw [if_pos h4, if_neg (fun q => h3' (Prod.ext ((eq_L _ _).1 q) h4)), if_neg (fun q => h3 q.2.2)]
        · rw [if_neg h4, if_neg (fun q => h3 q.2.2)]
    · rw [if_pos (by simp; omega), if_neg (fun q => h2 q.2.1)]
  · rw [if_neg (by omega)]; simp [h1]
theorem u8_mod {x : Int} (h0 : 0 ≤ x) (h1 : x ≤ 255) : (((UInt8.ofNat x.toNat).toNat : Nat) : Int) = x := by
  rw [UInt8.toNat_ofNat']; omega
theorem recAt_recOf {q p t : Int} {d : ByteArray} (h : RMay q p t d) : recAt (recOf q p t d) = (q, p, t, d) := by
  have hz := RMay_size h
  have hq := h.1
  have hp : 0 ≤ p ∧ p ≤ 255 ∧ 0 ≤ t ∧ t ≤ 255 := by rcases h.2 with h | h <;> omega
  have hL := L_recOf q p t d
  generalize hx : recOf q p t d = x at hL
  have m : ∀ y : Int, 0 ≤ y % 256 ∧ y % 256 ≤ 255 := fun y => by omega
  have b0 : bt x 0 = q / 16777216 % 256 := by rw [bt_L, hL]; exact u8_mod (m _).1 (m _).2
  have b1 : bt x 1 = q / 65536 % 256 := by rw [bt_L, hL]; exact u8_mod (m _).1 (m _).2
  have b2 : bt x 2 = q / 256 % 256 := by rw [bt_L, hL]; exact u8_mod (m _).1 (m _).2
  have b3 : bt x 3 = q % 256 := by rw [bt_L, hL]; exact u8_mod (m _).1 (m _).2
  have b4 : bt x 4 = p % 256 := by rw [bt_L, hL]; exact u8_mod (m _).1 (m _).2
  have b5 : bt x 5 = t % 256 := by rw [bt_L, hL]; exact u8_mod (m _).1 (m _).2
  have b6 : bt x 6 = (d.size : Int) % 256 := by rw [bt_L, hL]; exact u8_mod (m _).1 (m _).2
  have hd : (8 + bt x 6).toNat = 8 + d.size := by rw [b6]; omega
  have ex : x.extract 8 (8 + d.size) = d := by
    apply L_inj
    rw [L_extract, hL, List.drop_left' (by simp [head8]), ← L_length d]
    simp
  unfold recAt num4
  rw [hd, ex, b0, b1, b2, b3, b4, b5]
  have e1 : q / 16777216 % 256 * 16777216 + q / 65536 % 256 * 65536 + q / 256 % 256 * 256 + q % 256 = q := by omega
  have e2 : p % 256 = p := by omega
  have e3 : t % 256 = t := by omega
  rw [e1, e2, e3]
theorem get_recOf {q p t : Int} {d : ByteArray} (h : RMay q p t d) : getR (recOf q p t d) = (q, p, t, d, 0) := by
  have hz := RMay_size h
  have hb : bt (recOf q p t d) 6 = (d.size : Int) % 256 := by
    rw [bt_L, L_recOf]; exact u8_mod (by show 0 ≤ (d.size : Int) % 256; omega) (by show (d.size : Int) % 256 ≤ 255; omega)
  unfold getR
  rw [recAt_recOf h, if_pos ⟨recOf_size q p t d hz, by rw [hb]; omega, by simp [putR, h]⟩]
theorem recOf_inj {q p t q' p' t' : Int} {d d' : ByteArray} (h : RMay q p t d) (h' : RMay q' p' t' d') : recOf q p t d = recOf q' p' t' d' ↔ (q = q' ∧ p = p' ∧ t = t' ∧ d = d') := by
  constructor
  · intro e
    have a := get_recOf h
    rw [e, get_recOf h'] at a
    simp at a; simp [a]
  · rintro ⟨rfl, rfl, rfl, rfl⟩; rfl
theorem putR_ok (q p t : Int) (d : ByteArray) : (putR q p t d).2 = 0 ↔ RMay q p t d := by
  unfold putR; by_cases h : RMay q p t d <;> simp [h]
theorem putR_yes {q p t : Int} {d : ByteArray} (h : RMay q p t d) : putR q p t d = (recOf q p t d, 0) := by simp [putR, h]
theorem putR_no {q p t : Int} {d : ByteArray} (h : ¬ RMay q p t d) : putR q p t d = (⟨#[]⟩, 300) := by simp [putR, h]
theorem awake_eq (k : Nat) (hk : 4 ≤ k) : cryostatlaw3_awake.f k = some true :=
  at_rounds (g := fun k => cryostatlaw3_awake.f k) (fun k => cryostatlaw3_awake.mono k) hk (by decide +kernel)
theorem bts_recOf {q p t : Int} {d : ByteArray} (h : RMay q p t d) : bt (recOf q p t d) 0 = q / 16777216 % 256 ∧ bt (recOf q p t d) 1 = q / 65536 % 256 ∧ bt (recOf q p t d) 2 = q / 256 % 256 ∧ bt (recOf q p t d) 3 = q % 256 ∧
    bt (recOf q p t d) 4 = p ∧ bt (recOf q p t d) 5 = t ∧ bt (recOf q p t d) 6 = d.size ∧ bt (recOf q p t d) 7 = 0 ∧ (recOf q p t d).extract 8 (8 + d.size) = d ∧ (recOf q p t d).extract (8 + d.size) (recOf q p t d).size = zer (24 - d.size) := by
  have hz := RMay_size h
  have hq := h.1
  have hp : 0 ≤ p ∧ p ≤ 255 ∧ 0 ≤ t ∧ t ≤ 255 := by rcases h.2 with h | h <;> omega
  have hL := L_recOf q p t d
  have hs := recOf_size q p t d hz
  generalize recOf q p t d = x at hL hs
  have m : ∀ y : Int, 0 ≤ y % 256 ∧ y % 256 ≤ 255 := fun y => by omega
  have b4 : bt x 4 = p % 256 := by rw [bt_L, hL]; exact u8_mod (m _).1 (m _).2
  have b5 : bt x 5 = t % 256 := by rw [bt_L, hL]; exact u8_mod (m _).1 (m _).2
  have b6 : bt x 6 = (d.size : Int) % 256 := by rw [bt_L, hL]; exact u8_mod (m _).1 (m _).2
  refine ⟨by rw [bt_L, hL]; exact u8_mod (m _).1 (m _).2, by rw [bt_L, hL]; exact u8_mod (m _).1 (m _).2, by rw [bt_L, hL]; exact u8_mod (m _).1 (m _).2, by rw [bt_L, hL]; exact u8_mod (m _).1 (m _).2, by omega, by omega, by omega, by rw [bt_L, hL]; rfl, ?_, ?_⟩
  · apply L_inj
    rw [L_extract, hL, List.drop_left' (by simp [head8]), ← L_length d]
    simp
  · apply L_inj
    rw [L_extract, hL, hs, L_zer, ← List.drop_drop, List.drop_left' (by simp [head8]), List.drop_left' (L_length d)]
    exact List.take_of_length_le (by simp; omega)
theorem RecordHeads (q p t : Int) (d : ByteArray) (_ : (Lit.int .i64 q).wf = true) (_ : (Lit.int .i64 p).wf = true) (_ : (Lit.int .i64 t).wf = true) (_ : d.size ≤ 140737488351232) : ∃ k, cryostatlaw3_RecordHeads.f k q p t d = some true := by
  refine ⟨4, ?_⟩
  unfold cryostatlaw3_RecordHeads.f
  rw [awake_eq _ (by omega), record_Put_eq]
  simp only [Option.bind_some, if_true, cryostatlaw0_Num.f, wrap_bt]
  by_cases h : RMay q p t d
  · have hz := RMay_size h
    have hq := h.1
    have w1 : wrap64 (8 + (d.size : Int)) = ((8 + d.size : Nat) : Int) := by rw [wrap64_id (by omega) (by omega)]; omega
    have w2 : wrap64 (24 - (d.size : Int)) = ((24 - d.size : Nat) : Int) := by rw [wrap64_id (by omega) (by omega)]; omega
    have l1 : (8 : Int) ≤ ((8 + d.size : Nat) : Int) := by omega
    have l2 : (0 : Int) ≤ ((8 + d.size : Nat) : Int) := by omega
    have l3 : (0 : Int) ≤ ((24 - d.size : Nat) : Int) := by omega
    have l4 : 24 - d.size ≤ 281474976710656 := by omega
    have hq4 : q / 16777216 % 256 * 16777216 + q / 65536 % 256 * 65536 + q / 256 % 256 * 256 + q % 256 = q := by omega
    obtain ⟨b0, b1, b2, b3, b4, b5, b6, b7, ex, ez⟩ := bts_recOf h
    have hs := recOf_size q p t d hz
    rw [putR_yes h]
    simp only [if_true]
    generalize recOf q p t d = x at *
    rw [or4 _ _ _ _ (bt_range x 0) (bt_range x 1) (bt_range x 2) (bt_range x 3)]
    rw [w1, w2, Int.toNat_natCast, Int.toNat_natCast]
    have ez2 : strOfNums (List.replicate (24 - d.size) 0) = zer (24 - d.size) := by apply L_inj; rw [L_strOfNums, L_zer]; simp
    rw [ex, ez, ez2]
    have e1 : bt x 0 * 16777216 + bt x 1 * 65536 + bt x 2 * 256 + bt x 3 = q := by rw [b0, b1, b2, b3]; exact hq4
    clear b0 b1 b2 b3 hq4
    have g0_ : (0 : Int) < (x.size : Int) := by rw [hs]; decide
    have g1_ : (1 : Int) < (x.size : Int) := by rw [hs]; decide
    have g2_ : (2 : Int) < (x.size : Int) := by rw [hs]; decide
    have g3_ : (3 : Int) < (x.size : Int) := by rw [hs]; decide
    have g4_ : (4 : Int) < (x.size : Int) := by rw [hs]; decide
    have g5_ : (5 : Int) < (x.size : Int) := by rw [hs]; decide
    have g6_ : (6 : Int) < (x.size : Int) := by rw [hs]; decide
    have g7_ : (7 : Int) < (x.size : Int) := by rw [hs]; decide
    have g8 : (((8 + d.size : Nat)) : Int) ≤ (x.size : Int) := by rw [hs]; omega
    rw [if_pos (show (x.size : Int) = 32 by rw [hs]; rfl), if_pos g0_, if_pos g1_, if_pos g2_, if_pos g3_, if_pos e1, if_pos g4_, if_pos b4, if_pos g5_, if_pos b5, if_pos g6_, if_pos b6, if_pos g7_, if_pos b7,
      if_pos l1, if_pos g8, if_pos rfl, if_pos l2, if_pos l3, if_pos l4]
    simp
  · rw [putR_no h]; simp [toList_L]
end Go.Proofs.Ytpadejamelppfaa.Pure
