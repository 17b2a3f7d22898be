/- The law PairForms: true. -/
import Derived.Test.YtiiliffoclejlaaR6Pa
namespace Go.AM
open Go.Proofs
set_option linter.unusedVariables false
set_option linter.unusedSimpArgs false
set_option maxRecDepth 100000
attribute [-simp] ByteArray.size_eq_zero_iff
theorem zeros1_ok (n : Nat) (H : Heap) (h : n ≤ 1000) : call K f_law1_zeros [.int .i64 (n : Int)] H = some (.string (zer n), H) := by
  refine of_wpf (open_pure rfl fc_law1_zeros rfl (Nat.le_of_ble_eq_true rfl) ?_)
  have h1 : n ≤ 2 ^ 46 := Nat.le_trans h (by decide)
  have h2 := row_fill1 H.roAll H.next n n (.int .u8 0) rfl (Nat.le_refl _)
  simp [h1, h2, nums_rep, str_zero]
def half1 (s : ByteArray) : ByteArray := (s ++ zer 32).extract 0 32
theorem half1_size (s : ByteArray) : (half1 s).size = 32 := by rw [half1, size_extract, size_append, zer_size]; omega
theorem half1_ok (s : ByteArray) (H : Heap) (hs : s.size ≤ 140737488351232) : call K f_law1_half [.string s] H = some (.string (half1 s), H) := by
  refine of_wpf (open_pure rfl fc_law1_half rfl (Nat.le_of_ble_eq_true rfl) ?_)
  have c : ∀ H, call K f_law1_zeros [.int .i64 32] H = some (.string (zer 32), H) := fun H => zeros1_ok 32 H (by omega)
  have e1 : binV K.P .add tyStr (.string s) (.string (zer 32)) = some (.string (s ++ zer 32)) := binV_sadd _ _ _ _ (by rw [zer_size]; omega)
  have a1 : slsV (s ++ zer 32) none (some (.int .i64 32)) = some (.string (half1 s)) := by
    have : 32 ≤ s.size + 32 := by omega
    simp [slsV, bound, natOf, half1, zer_size, this]
  simp [c, e1, a1]
theorem bt_zer (n : Nat) (i : Int) : bt (zer n) i = 0 := by
  rw [bt_L, L_zer]
  by_cases h : i.toNat < n
  · rw [List.getElem?_eq_getElem (by simpa using h)]; simp
  · rw [List.getElem?_eq_none (by simp; omega)]; rfl
theorem nums_str {xs : List Int} (h : ∀ x ∈ xs, 0 ≤ x ∧ x ≤ 255) : nums (strOfNums xs) = xs := by
  rw [nums, L_strOfNums, List.map_map]
  conv => rhs; rw [← List.map_id xs]
  refine List.map_congr_left fun x hx => ?_
  exact u8_mod (h x hx).1 (h x hx).2
theorem nums_range {s : ByteArray} : ∀ x ∈ nums s, 0 ≤ x ∧ x ≤ 255 := by
  intro x hx
  obtain ⟨b, _, rfl⟩ := List.mem_map.1 hx
  have := b.toNat_lt
  omega
theorem nums_putP {t : ByteArray} (h : t.size = 32) : nums (putP t) = nums t ++ (nums t).map fun n => 255 - n := by
  rw [putP, if_pos h, show t ++ inv t = strOfNums (nums t ++ (nums t).map fun n => 255 - n) by rw [← str_append, str_nums]; rfl, nums_str]
  intro x hx
  rcases List.mem_append.1 hx with hx | hx
  · exact nums_range x hx
  · obtain ⟨y, hy, rfl⟩ := List.mem_map.1 hx
    have := nums_range y hy
    omega
theorem comp_at {t : ByteArray} (h : t.size = 32) {j : Nat} (hj : j < 32) : (nums (putP t))[j]?.map (fun n => 255 - n) = (nums (putP t))[j + 32]? := by
  have hl : (nums t).length = 32 := by rw [nums_len, h]
  rw [nums_putP h, List.getElem?_append_left (by omega), List.getElem?_append_right (by omega), hl, Nat.add_sub_cancel, List.getElem?_map]
theorem turned_no {t : ByteArray} (h : t.size = 32) {i : Nat} (hi : i < 64) {y : Int} (hy : 0 ≤ y ∧ y ≤ 255) (hne : y ≠ bt (putP t) i) : getPE (strOfNums ((nums (putP t)).set i y)) = 100 := by
  rcases getPE_two (strOfNums ((nums (putP t)).set i y)) with h0 | h0
  · exfalso
    obtain ⟨u, hu, e⟩ := (getPE_iff _).1 h0
    have e2 : (nums (putP t)).set i y = nums (putP u) := by
      rw [← e, nums_str]
      intro x hx
      rcases List.mem_or_eq_of_mem_set hx with hx | rfl
      · exact nums_range x hx
      · exact hy
    have hl : (nums (putP t)).length = 64 := by rw [nums_len, putP_size h]
    have hb : (nums (putP t))[i]? = some (bt (putP t) i) := by rw [List.getElem?_eq_getElem (by omega), nums_bt (by rw [putP_size h]; exact hi)]
    by_cases hlt : i < 32
    · have c1 := comp_at h hlt
      have c2 := comp_at hu hlt
      rw [← e2, List.getElem?_set_self (by omega), List.getElem?_set_ne (by omega), ← c1, hb] at c2
      simp at c2
      omega
    · obtain ⟨j, rfl⟩ : ∃ j, i = j + 32 := ⟨i - 32, by omega⟩
      have c1 := comp_at h (j := j) (by omega)
      have c2 := comp_at hu (j := j) (by omega)
      rw [← e2, List.getElem?_set_self (by omega), List.getElem?_set_ne (by omega), c1, hb] at c2
      simp at c2 hne
      omega
  · exact h0
theorem xor_ne (x y : Int) (hx : 0 ≤ x ∧ x ≤ 255) (hy : 1 ≤ y ∧ y ≤ 128) : (0 ≤ bits .xor .u8 x y ∧ bits .xor .u8 x y ≤ 255) ∧ bits .xor .u8 x y ≠ x := by
  obtain ⟨n, rfl⟩ := Int.eq_ofNat_of_zero_le hx.1
  obtain ⟨m, rfl⟩ := Int.eq_ofNat_of_zero_le (show 0 ≤ y by omega)
  have e : bits .xor .u8 (n : Int) (m : Int) = ((n ^^^ m : Nat) : Int) := by
    have hn : n < 256 := by omega
    have hm : m < 256 := by omega
    have h1 : n ^^^ m < 2 ^ 8 := Nat.xor_lt_two_pow (by omega) (by omega)
    show IntKind.u8.wrap (((BitVec.ofInt 8 n) ^^^ (BitVec.ofInt 8 m)).toNat : Int) = _
    rw [BitVec.toNat_xor, BitVec.toNat_ofInt, BitVec.toNat_ofInt]
    have e1 : ((n : Int) % ((2 ^ 8 : Nat) : Int)).toNat = n := by omega
    have e2 : ((m : Int) % ((2 ^ 8 : Nat) : Int)).toNat = m := by omega
    rw [e1, e2]
    exact wrap_u8 (by omega) (by omega)
  have h1 : n ^^^ m < 2 ^ 8 := Nat.xor_lt_two_pow (by omega) (by omega)
  rw [e]
  refine ⟨⟨by omega, by omega⟩, fun h => ?_⟩
  have h2 : n ^^^ m = n := by omega
  have h3 : m = 0 := by
    have : n ^^^ (n ^^^ m) = n ^^^ n := by rw [h2]
    rw [← Nat.xor_assoc, Nat.xor_self, Nat.zero_xor] at this
    exact this
  omega
theorem awake1_ok (H : Heap) : call K f_law1_awake [] H = some (.bool true, H) := by
  refine of_wpf (open_pure rfl fc_law1_awake rfl (Nat.le_of_ble_eq_true rfl) ?_)
  have z32 : ∀ H, call K f_law1_zeros [.int .i64 32] H = some (.string (zer 32), H) := fun H => zeros1_ok 32 H (by omega)
  have z64 : ∀ H, call K f_law1_zeros [.int .i64 64] H = some (.string (zer 64), H) := fun H => zeros1_ok 64 H (by omega)
  obtain ⟨a, ha⟩ : ∃ a, a = putP (zer 32) := ⟨_, rfl⟩
  have e1 : putPE (zer 32) = 0 := by rw [putPE, if_pos (zer_size _)]
  have e2 : a.size = 64 := by rw [ha, putP_size (zer_size _)]
  have e3 := (getP_putP (zer_size 32)).1
  have e4 := (getP_putP (zer_size 32)).2
  have e5 : putPE ⟨#[120]⟩ = 100 := rfl
  have e6 : getPE (zer 64) = 100 := by kernel_rfl
  have e7 : tornR (zer 64) a 40 = a.extract 0 40 ++ (zer 64).extract 40 64 := by rw [tornR, if_pos ⟨⟨zer_size _, e2⟩, by omega, by omega⟩]; rfl
  have e8 : tornE (zer 64) a 40 = 0 := by rw [tornE, if_pos ⟨⟨zer_size _, e2⟩, by omega, by omega⟩]
  have e9 : tornE a a 65 = 100 := by rw [tornE, if_neg (by omega)]
  have e10 : (a.extract 0 40 ++ (zer 64).extract 40 64).size = 64 := by rw [size_append, size_extract, size_extract, e2, zer_size]; decide
  have b1 : bt a 63 = 255 := by rw [ha]; kernel_rfl
  have b2 : bt (a.extract 0 40 ++ (zer 64).extract 40 64) 39 = 255 := by rw [ha]; kernel_rfl
  have b3 : bt (a.extract 0 40 ++ (zer 64).extract 40 64) 40 = 0 := by rw [ha]; kernel_rfl
  rw [← ha] at e3 e4
  rw [show (zer 64).extract 40 64 = zer 24 by kernel_rfl] at e7 e10 b2 b3
  generalize a.extract 0 40 ++ zer 24 = c at e7 e10 b2 b3
  simp [z32, z64, ← ha, e1, e2, e3, e4, e5, e6, e7, e8, e9, e10, torn_ok, b1, b2, b3, natOf_int]
theorem lens_at (k : Nat) (hk : k < 6) : ∃ n : Nat, (∀ h : k < ([.int .i64 0, .int .i64 1, .int .i64 32, .int .i64 63, .int .i64 65, .int .i64 128] : List Value).length, ([.int .i64 0, .int .i64 1, .int .i64 32, .int .i64 63, .int .i64 65, .int .i64 128] : List Value)[k]'h = .int .i64 (n : Int)) ∧ n ≤ 1000 ∧ n ≠ 64 := by
  rcases k with _ | _ | _ | _ | _ | _ | k
  · exact ⟨0, fun _ => rfl, by omega, by omega⟩
  · exact ⟨1, fun _ => rfl, by omega, by omega⟩
  · exact ⟨32, fun _ => rfl, by omega, by omega⟩
  · exact ⟨63, fun _ => rfl, by omega, by omega⟩
  · exact ⟨65, fun _ => rfl, by omega, by omega⟩
  · exact ⟨128, fun _ => rfl, by omega, by omega⟩
  · omega
theorem getPE_size {s : ByteArray} (h : s.size ≠ 64) : getPE s = 100 := by rw [getPE, if_neg (fun hh => h hh.1)]
theorem pairForms_law (which : Int) (s : ByteArray) (at_ by_ : Int) (H : Heap) (hs : s.size ≤ 140737488351232) : call K f_law1_PairForms [.int .i64 which, .string s, .int .i64 at_, .int .i64 by_] H = some (.bool true, H) := by
  refine of_wpf (open_pure rfl fc_law1_PairForms rfl (Nat.le_of_ble_eq_true rfl) ?_)
  obtain ⟨h, hh⟩ : ∃ h, h = half1 s := ⟨_, rfl⟩
  have hz : h.size = 32 := by rw [hh, half1_size]
  obtain ⟨a, ha⟩ : ∃ a, a = putP h := ⟨_, rfl⟩
  have az : a.size = 64 := by rw [ha, putP_size hz]
  have e0 : putPE h = 0 := by rw [putPE, if_pos hz]
  have ch := fun H => half1_ok s H hs
  obtain ⟨k, hk, hrem⟩ := umod at_ 64 (by omega) (by omega)
  have hrem1 : ∀ t, binV K.P .rem t (.int .u64 (IntKind.u64.wrap at_)) (.int .u64 64) = some (.int .u64 (k : Int)) := fun t => hrem
  obtain ⟨w, hw, hrem2⟩ := umod which 6 (by omega) (by omega)
  have hrem3 : ∀ t, binV K.P .rem t (.int .u64 (IntKind.u64.wrap which)) (.int .u64 6) = some (.int .u64 (w : Int)) := fun t => hrem2
  have wk : IntKind.i64.wrap (k : Int) = k := wrap_i64 (by omega) (by omega)
  have ww : IntKind.i64.wrap (w : Int) = w := wrap_i64 (by omega) (by omega)
  obtain ⟨y, hy, hy1⟩ : ∃ y : Int, IntKind.u8.wrap (IntKind.i64.wrap (1 + bits .and .i64 by_ 127)) = y ∧ (1 ≤ y ∧ y ≤ 128) := by
    refine ⟨_, rfl, ?_⟩
    rw [show bits .and .i64 by_ 127 = by_ % 128 from and_mask by_ 7 (by decide), wrap_i64 (by omega) (by omega), wrap_u8 (by omega) (by omega)]
    omega
  obtain ⟨v, hv, hv2⟩ : ∃ v : Int, IntKind.i64.wrap (-1 - bits .and .i64 by_ 1023) = v ∧ v < 0 := by
    refine ⟨_, rfl, ?_⟩
    rw [and1023, wrap_i64 (by omega) (by omega)]
    omega
  have hx := xor_ne (bt a k) y (bt_range a k) hy1
  have ht := turned_no hz hk hx.1 (by rw [← ha]; exact hx.2)
  rw [← ha] at ht
  obtain ⟨n, hn, hn1, hn2⟩ := lens_at w hw
  have zn := fun H => zeros1_ok n H hn1
  have kn : k < a.size := by omega
  obtain ⟨G0, hG0⟩ : ∃ G0, G0 = H.roAll := ⟨_, rfl⟩
  obtain ⟨vs, hvs⟩ : ∃ vs, vs = rowOfBytes a := ⟨_, rfl⟩
  have hl : (nums a).length = 64 := by rw [nums_len, az]
  have hvk : vs[k]? = some (.int .u8 (bt a k)) := by
    have := flat_get encB_len (nums a) k (by omega) 0 (by omega)
    rw [Nat.mul_one, Nat.add_zero, nums_bt kn] at this
    rw [hvs, rowOfBytes_eq, this]; rfl
  have hrow : Heap.row ((G0.add (rowBlk 1 vs)).set G0.next (some ((rowBlk 1 vs).put k (.int .u8 (bits .xor .u8 (bt a k) y))))) G0.next 0 a.size = some (((nums a).set k (bits .xor .u8 (bt a k) y)).flatMap encB) := by
    refine row_of _ 0 (by rw [flat_len encB_len, List.length_set, hl, az]) fun j hj => ?_
    have e := flat_get encB_len ((nums a).set k (bits .xor .u8 (bt a k) y)) j (by rw [List.length_set]; omega) 0 (by omega)
    rw [Nat.mul_one, Nat.add_zero] at e
    rw [e, List.getElem_set, Nat.zero_add]
    simp
    by_cases hjk : j = k
    · subst hjk; simp
    · have hjk' : ¬ k = j := fun h => hjk h.symm
      simp [hjk, hjk']
      have := flat_get encB_len (nums a) j (by omega) 0 (by omega)
      rw [Nat.mul_one, Nat.add_zero] at this
      rw [hvs, rowOfBytes_eq, this]; rfl
  have t1 : tornE (zer n) a 0 = 100 := by rw [tornE, if_neg (by rw [zer_size]; omega)]
  have t2 : tornE a (zer n) 0 = 100 := by rw [tornE, if_neg (by rw [zer_size]; omega)]
  have t3 : tornE a a v = 100 := by rw [tornE, if_neg (by omega)]
  have g1 : getPE (a.extract 0 63) = 100 := getPE_size (by rw [size_extract, az]; decide)
  have g2 : getPE (a ++ ⟨#[120]⟩) = 100 := getPE_size (by rw [size_append, az]; decide)
  have g3 : putPE (h ++ ⟨#[120]⟩) = 100 := by rw [putPE, if_neg (by rw [size_append, hz]; decide)]
  have g4 : putPE (h.extract 1 32) = 100 := by rw [putPE, if_neg (by rw [size_extract, hz]; decide)]
  have s1 : slsV a none (some (.int .i64 63)) = some (.string (a.extract 0 63)) := by simp [slsV, bound, natOf_int, az]
  have s2 : slsV h (some (.int .i64 1)) none = some (.string (h.extract 1 32)) := by simp [slsV, bound, natOf_int, hz]
  have p1 : binV K.P .add tyStr (.string a) (.string ⟨#[120]⟩) = some (.string (a ++ ⟨#[120]⟩)) := binV_sadd _ _ _ _ (by rw [az]; decide)
  have p2 : binV K.P .add tyStr (.string h) (.string ⟨#[120]⟩) = some (.string (h ++ ⟨#[120]⟩)) := binV_sadd _ _ _ _ (by rw [hz]; decide)
  have azi : (a.size : Int) = 64 := by omega
  simp [awake1_ok, ch, ← hh, ← ha, e0, azi, ← hG0, hrem1, hrem3, wk, ww, hy, hv, kn, ← hvs, hvk, hrow, nums_rows, ht, zn, torn_ok, t1, t2, t3, g1, g2, g3, g4, s1, s2, p1, p2, mkrowV, fillL, hn, hw]
end Go.AM
