import Derived.Test.YtpadejamelppfaaWWords
import Derived.Laws.Strings
import Derived.Laws.BitsLemmas
import Derived.OpenShut
/- Plain laws of byte strings and numbers, of no program: what the pure statements of this seat lean on. -/
namespace Go.Proofs.Gen
open Go.RowKit Go.Proofs.YtpadejamelppfaaW.PrintWords

/-! ### texts as lists -/
abbrev L (s : ByteArray) : List UInt8 := s.data.toList
theorem toList_L (s : ByteArray) : s.toList = L s := ByteArray.toList_eq s
theorem L_inj {s t : ByteArray} (h : L s = L t) : s = t := by
  cases s; cases t; simp [L] at h; simpa using h
theorem L_length (s : ByteArray) : (L s).length = s.size := by rw [L, Array.length_toList]; rfl
theorem L_append (a b : ByteArray) : L (a ++ b) = L a ++ L b := by simp [L, ByteArray.data_append]
theorem L_nil : L (⟨#[]⟩ : ByteArray) = [] := rfl
theorem L_extract (s : ByteArray) (i j : Nat) : L (s.extract i j) = ((L s).drop i).take (j - i) := by
  simp [L, ByteArray.data_extract, List.extract_eq_take_drop]
theorem L_strOfNums (xs : List Int) : L (strOfNums xs) = xs.map fun n => UInt8.ofNat n.toNat := rfl
theorem size_append (a b : ByteArray) : (a ++ b).size = a.size + b.size := by simp
theorem size_strOfNums (xs : List Int) : (strOfNums xs).size = xs.length := strOfNums_size xs
theorem size_extract (s : ByteArray) (i j : Nat) : (s.extract i j).size = min j s.size - i := by simp
theorem bt_L (s : ByteArray) (i : Int) : bt s i = (((L s)[i.toNat]?.getD 0).toNat : Int) := by
  unfold bt
  split
  · next h =>
    have : (L s)[i.toNat]? = some s[i.toNat] := by
      rw [List.getElem?_eq_getElem (by rw [L_length]; exact h)]; rfl
    rw [this]; rfl
  · next h =>
    rw [List.getElem?_eq_none (by rw [L_length]; omega)]; rfl
theorem beq_L (s t : ByteArray) : (s.toList == t.toList) = decide (s = t) := by
  rw [Bool.eq_iff_iff]; simp only [beq_iff_eq, decide_eq_true_eq, toList_L]
  exact ⟨L_inj, fun h => by rw [h]⟩
theorem eq_L (s t : ByteArray) : (s.toList = t.toList) ↔ s = t := by
  rw [toList_L, toList_L]; exact ⟨L_inj, fun h => by rw [h]⟩
theorem nil_L (s : ByteArray) : s.toList = [] ↔ s.size = 0 := by
  rw [toList_L, ← L_length]; exact List.length_eq_zero_iff.symm

/-! ### numbers -/
theorem wrap64_id {x : Int} (h0 : -9223372036854775808 ≤ x) (h1 : x ≤ 9223372036854775807) : wrap64 x = x := by unfold wrap64; omega
theorem wf64 {x : Int} (h : (Lit.int .i64 x).wf = true) : -9223372036854775808 ≤ x ∧ x ≤ 9223372036854775807 := by
  exact bounds_i64 h
theorem and_mask (x : Int) (j : Nat) (hj : j ≤ 62) : bits .and .i64 x (2 ^ j - 1) = x % 2 ^ j := by
  have hpos : 0 < 2 ^ j := Nat.two_pow_pos j
  have hlt : (2 : Nat) ^ j < 2 ^ 64 := Nat.pow_lt_pow_right (by decide) (by omega)
  have hle : (2 : Nat) ^ j ≤ 2 ^ 62 := Nat.pow_le_pow_right (by decide) hj
  have hc : ((2 : Int) ^ j - 1) = ((2 ^ j - 1 : Nat) : Int) := by rw [Int.natCast_sub hpos]; simp
  have e : (BitVec.ofInt 64 x &&& BitVec.ofInt 64 ((2 : Int) ^ j - 1)).toNat = (x % 2 ^ j).toNat := by
    rw [hc, BitVec.ofInt_natCast, BitVec.toNat_and, BitVec.toNat_ofNat, Nat.mod_eq_of_lt (show 2 ^ j - 1 < 2 ^ 64 by omega), Nat.and_two_pow_sub_one_eq_mod, BitVec.toNat_ofInt]
    have h1 : (x % ((2 ^ 64 : Nat) : Int)).toNat % 2 ^ j = (x % ((2 ^ 64 : Nat) : Int) % ((2 ^ j : Nat) : Int)).toNat := by
      have h0 : 0 ≤ x % ((2 ^ 64 : Nat) : Int) := Int.emod_nonneg _ (by decide)
      obtain ⟨n, hn⟩ := Int.eq_ofNat_of_zero_le h0
      rw [hn, ← Int.natCast_emod, Int.toNat_natCast, Int.toNat_natCast]
    rw [h1, Int.emod_emod_of_dvd]
    · simp
    · exact_mod_cast Nat.pow_dvd_pow 2 (by omega)
  have hb : 0 ≤ x % 2 ^ j ∧ x % 2 ^ j < 2 ^ j := ⟨Int.emod_nonneg _ (Int.ne_of_gt (by exact_mod_cast hpos)), Int.emod_lt_of_pos _ (by exact_mod_cast hpos)⟩
  have hle' : (2 : Int) ^ j ≤ 2 ^ 62 := by exact_mod_cast hle
  have hu : bits .and .i64 x (2 ^ j - 1) = IntKind.i64.wrap ((BitVec.ofInt 64 x &&& BitVec.ofInt 64 ((2 : Int) ^ j - 1)).toNat : Int) := rfl
  rw [hu, e, Int.toNat_of_nonneg hb.1, IntKind.wrap_i64]
  omega
theorem and1023 (x : Int) : bits .and .i64 x 1023 = x % 1024 := and_mask x 10 (by decide)
theorem and127 (x : Int) : bits .and .i64 x 127 = x % 128 := and_mask x 7 (by decide)
theorem u64_wrap (x : Int) : IntKind.u64.wrap x = x % 18446744073709551616 := by simp [IntKind.wrap, IntKind.bits, IntKind.signed]
/-- 'int(uint(x) % m)' for a small m. -/
theorem umod (x m : Int) (h0 : 0 < m) (h1 : m ≤ 9223372036854775807) : wrap64 (Int.tmod (IntKind.u64.wrap x) m) = (x % 18446744073709551616) % m := by
  rw [u64_wrap, Int.tmod_eq_emod_of_nonneg (by omega)]
  have := Int.emod_nonneg (x % 18446744073709551616) (Int.ne_of_gt h0)
  have := Int.emod_lt_of_pos (x % 18446744073709551616) h0
  exact wrap64_id (by omega) (by omega)

/-! ### words -/
def OkC (c : Int) : Prop := (97 ≤ c ∧ c ≤ 122) ∨ (48 ≤ c ∧ c ≤ 57)
instance (c : Int) : Decidable (OkC c) := by unfold OkC; infer_instance
def WordFrom (s : ByteArray) (m : Int) (i : Nat) : Prop := (∀ j : Nat, j < s.size → i ≤ j → OkC (bt s j)) ∧ s.size ≠ 0 ∧ (s.size : Int) ≤ m
instance (s : ByteArray) (m : Int) (i : Nat) : Decidable (WordFrom s m i) := by unfold WordFrom; infer_instance
def Word (s : ByteArray) (m : Int) : Prop := WordFrom s m 0
instance (s : ByteArray) (m : Int) : Decidable (Word s m) := by unfold Word; infer_instance
theorem wordFrom_end (s : ByteArray) (m : Int) (i : Nat) (h : s.size ≤ i) : WordFrom s m i ↔ s.size ≠ 0 ∧ (s.size : Int) ≤ m := by
  unfold WordFrom
  exact ⟨fun h => h.2, fun h' => ⟨fun j _ _ => by omega, h'⟩⟩
theorem wordFrom_bad (s : ByteArray) (m : Int) (i : Nat) (h : i < s.size) (hb : ¬ OkC (bt s i)) : ¬ WordFrom s m i := fun hw => hb (hw.1 i h (Nat.le_refl _))
theorem wordFrom_ok (s : ByteArray) (m : Int) (i : Nat) (hb : OkC (bt s i)) : WordFrom s m i ↔ WordFrom s m (i + 1) := by
  unfold WordFrom
  constructor
  · exact fun h => ⟨fun j hj hi => h.1 j hj (by omega), h.2⟩
  · refine fun h => ⟨fun j hj hi => ?_, h.2⟩
    rcases Nat.lt_or_ge i j with h' | h'
    · exact h.1 j hj (by omega)
    · obtain rfl : i = j := by omega
      exact hb
end Go.Proofs.Gen
