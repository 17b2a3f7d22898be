import Derived.Test.YtiiliffoclejlaaR6J2
import Derived.KernelRfl
section TextR6Pa
/- Contracts: pairs. -/
namespace Go.AM
open Go.Proofs
set_option linter.unusedVariables false
set_option linter.unusedSimpArgs false
set_option maxRecDepth 100000
attribute [-simp] ByteArray.size_eq_zero_iff
theorem unV_xor8 (a : Int) : unV K.P .xor (.int .u8 a) = some (.int .u8 (bits .xor .u8 255 a)) := rfl
theorem xor255_all : ((List.range 256).all fun n => decide (bits .xor .u8 255 (n : Int) = 255 - (n : Int))) = true := by kernel_rfl
theorem xor255 (a : Int) (h : 0 ≤ a ∧ a ≤ 255) : bits .xor .u8 255 a = 255 - a := by
  obtain ⟨n, rfl⟩ := Int.eq_ofNat_of_zero_le h.1
  have := List.all_eq_true.1 xor255_all n (List.mem_range.2 (by omega))
  simpa using this
abbrev encB (n : Int) : List Value := [.int .u8 n]
theorem encB_len (x : Int) : (encB x).length = 1 := rfl
/-- the bytes of a text, as numbers -/
def nums (s : ByteArray) : List Int := (L s).map fun b => (b.toNat : Int)
theorem nums_len (s : ByteArray) : (nums s).length = s.size := by rw [nums, List.length_map, L_length]
theorem nums_bt {s : ByteArray} {i : Nat} (h : i < s.size) : (nums s)[i]'(by rw [nums_len]; exact h) = bt s (i : Int) := by
  have hl : i < (L s).length := by rw [L_length]; exact h
  simp only [nums, List.getElem_map]
  rw [bt_L, Int.toNat_natCast, List.getElem?_eq_getElem hl]; rfl
theorem str_nums (s : ByteArray) : strOfNums (nums s) = s := by
  apply L_inj
  rw [L_strOfNums, nums, List.map_map]
  conv => rhs; rw [← List.map_id (L s)]
  refine List.map_congr_left fun b _ => ?_
  simp
def inv (s : ByteArray) : ByteArray := strOfNums ((nums s).map fun n => 255 - n)
theorem inv_size (s : ByteArray) : (inv s).size = s.size := by rw [inv, size_strOfNums, List.length_map, nums_len]
def putP (s : ByteArray) : ByteArray := if s.size = 32 then s ++ inv s else ⟨#[]⟩
def putPE (s : ByteArray) : Int := if s.size = 32 then 0 else 100
theorem rowOfBytes_eq (s : ByteArray) : rowOfBytes s = (nums s).flatMap encB := by
  rw [rowOfBytes, nums, List.flatMap_map]
  show (L s).map _ = _
  induction L s with
  | nil => rfl
  | cons a l ih => rw [List.map_cons, ih]; rfl
theorem nums_rows : ∀ (vs : List Int), numsOfRow (vs.flatMap encB) = some vs
  | [] => rfl
  | v :: vs => by rw [List.flatMap_cons, encB]; show consN v (numsOfRow (vs.flatMap encB)) = _; rw [nums_rows vs]; rfl
theorem Own.str {n0 : Nat} {H : Heap} {v : Value} {xs : List Int} (h : Own encB 1 n0 H v xs) : b2sV v H = some (.string (strOfNums xs)) := by
  rcases h.is with ⟨rfl, rfl⟩ | ⟨b, B, rfl, h3, h4, h5, h6, h7, h8⟩
  · rfl
  · have hr : H.row b 0 (xs.length * 1) = some (xs.flatMap encB) := by
      refine row_of _ 0 (flat_len encB_len xs) fun j hj => ?_
      rw [Nat.zero_add, show H.cell b j = B.at_ j by simp only [Heap.cell, h5]]
      exact h8 j hj
    rw [Nat.mul_one] at hr
    simp [hr, nums_rows]
theorem s2b_own (s : ByteArray) (H : Heap) (hs : s.size ≤ 1000) : Own encB 1 H.next (H.add (rowBlk 1 (rowOfBytes s))) (.slice (some ⟨H.next, 0, none⟩) s.size (2 * s.size)) (nums s) := by
  have := Own.new (enc := encB) (sz := 1) (n0 := H.next) (H := H) (xs := nums s) (Nat.le_refl _) (by rw [nums_len]; omega) (rowOfBytes s) (rowOfBytes_eq s)
  rwa [nums_len] at this
theorem pput_loop (s : ByteArray) (i : Nat) (hi : i < s.size) : nums s ++ ((nums s).take i).map (fun n => 255 - n) ++ [255 - bt s i] = nums s ++ ((nums s).take (i + 1)).map (fun n => 255 - n) := by
  rw [List.append_assoc, List.take_succ_eq_append_getElem (by rw [nums_len]; exact hi), List.map_append, List.map_singleton, nums_bt hi]
theorem flat_snoc (xs : List Int) (y : Int) : xs.flatMap encB ++ [.int .u8 y] = (xs ++ [y]).flatMap encB := by simp [encB]
theorem pput_flat (s : ByteArray) (i : Nat) (hi : i < s.size) : ((nums s ++ ((nums s).take i).map (fun n => 255 - n)).flatMap encB) ++ [.int .u8 (255 - bt s i)] = (nums s ++ ((nums s).take (i + 1)).map (fun n => 255 - n)).flatMap encB := by rw [flat_snoc, pput_loop s i hi]
@[simp] theorem pput_ok (s : ByteArray) (H : Heap) : call K f_pair_Put [.string s] H = some (.tuple #[.string (putP s), .int .i64 (putPE s)], H) := by
  refine of_wpf (open_pure rfl fc_pair_Put rfl (Nat.le_of_ble_eq_true rfl) ?_)
  by_cases h : s.size = 32
  · rw [putP, putPE, if_pos h, if_pos h]
    obtain ⟨G0, hG0⟩ : ∃ G0, G0 = H.roAll := ⟨_, rfl⟩
    have o0 := s2b_own s G0 (by omega)
    have hn : G0.next = H.next := by rw [hG0]; rfl
    simp [h, ← hG0]
    rw [h] at o0
    refine wp_nxt (wp_for (fun d e G => ∃ i : Nat, d = 32 - i ∧ i ≤ 32 ∧ Own encB 1 G0.next G (e 4) (nums s ++ ((nums s).take i).map (fun n => 255 - n)) ∧ G0.next ≤ G.next ∧ e 0 = .string s ∧ e 12 = .int .i64 32 ∧ e 13 = .int .i64 (i : Int)) 32 ⟨0, by simp, by simp, by simpa [row0] using o0, by simp, by simp, by simp, by simp⟩ ?_)
    rintro d e G ⟨i, rfl, hi, o, hnx, h0, h12, h13⟩
    by_cases hlt : i < 32
    · have w1 : (i : Int) < 32 := by omega
      have hls : i < s.size := by omega
      have hb := bt_range s i
      have hx := xor255 (bt s i) hb
      have hl : (nums s ++ ((nums s).take i).map (fun n => 255 - n)).length = 32 + i := by rw [List.length_append, List.length_map, List.length_take, nums_len]; omega
      have ha := o.app encB_len (bytes := 1) (k := 1) [.int .u8 (255 - bt s i)] (by decide) rfl (by omega) (by omega)
      rw [hl] at ha
      have on := Own.new (enc := encB) (sz := 1) (n0 := G0.next) (H := killB (e 4) (G.add (rowBlk 1 [.int .u8 (255 - bt s i)]))) (xs := nums s ++ ((nums s).take (i + 1)).map (fun n => 255 - n)) (by simp; omega) (by rw [← pput_loop s i hls, List.length_append, hl]; simp; omega) (((nums s ++ ((nums s).take i).map (fun n => 255 - n)).flatMap encB) ++ [.int .u8 (255 - bt s i)]) (pput_flat s i hls)
      have o' := o.ext ((Ext.refl G).add (rowBlk 1 [.int .u8 (255 - bt s i)]))
      have ha' := o'.app encB_len (bytes := 1) (k := 1) [.int .u8 (255 - bt s i)] (by decide) rfl (by omega) (by omega)
      rw [hl] at ha'
      simp [c_pair_Put_l9, h0, h12, h13, w1, hls, unV_xor8, hx, ha', mkrowV, fillL]
      refine ⟨32 - (i + 1), by omega, i + 1, rfl, hlt, ?_, by omega, wrap_succ (by omega)⟩
      have hl2 : (nums s ++ ((nums s).take (i + 1)).map (fun n => 255 - n)).length = 32 + i + 1 := by rw [← pput_loop s i hls, List.length_append, hl]; rfl
      rw [hl2] at on
      simpa using on
    · obtain rfl : i = 32 := by omega
      have ht : (nums s).take 32 = nums s := List.take_of_length_le (by rw [nums_len]; omega)
      rw [ht] at o
      simp [c_pair_Put_l9, h12, h13, o.str, ← str_append, str_nums]
      rfl
  · rw [putP, putPE, if_neg h, if_neg h]
    have h' : ¬ (s.size : Int) = 32 := by omega
    simp [h']
theorem sub255 {a : Int} (h : 0 ≤ a ∧ a ≤ 255) : IntKind.u8.wrap (255 - a) = 255 - a := wrap_u8 (by omega) (by omega)
@[simp] theorem rpput_ok (s : ByteArray) (H : Heap) : call K f_ref1_PutPair [.string s] H = some (.tuple #[.string (putP s), .int .i64 (putPE s)], H) := by
  refine of_wpf (open_pure rfl fc_ref1_PutPair rfl (Nat.le_of_ble_eq_true rfl) ?_)
  by_cases h : s.size = 32
  · rw [putP, putPE, if_pos h, if_pos h]
    obtain ⟨G0, hG0⟩ : ∃ G0, G0 = H.roAll := ⟨_, rfl⟩
    have o0 := s2b_own s G0 (by omega)
    have hn : G0.next = H.next := by rw [hG0]; rfl
    simp [h, ← hG0]
    rw [h] at o0
    refine wp_nxt (wp_for (fun d e G => ∃ i : Nat, d = 32 - i ∧ i ≤ 32 ∧ Own encB 1 G0.next G (e 4) (nums s ++ ((nums s).take i).map (fun n => 255 - n)) ∧ G0.next ≤ G.next ∧ e 0 = .string s ∧ e 5 = .int .i64 (i : Int)) 32 ⟨0, by simp, by simp, by simpa [row0] using o0, by simp, by simp, by simp⟩ ?_)
    rintro d e G ⟨i, rfl, hi, o, hnx, h0, h13⟩
    by_cases hlt : i < 32
    · have w1 : (i : Int) < 32 := by omega
      have hls : i < s.size := by omega
      have hb := bt_range s i
      have hx := xor255 (bt s i) hb
      have hl : (nums s ++ ((nums s).take i).map (fun n => 255 - n)).length = 32 + i := by rw [List.length_append, List.length_map, List.length_take, nums_len]; omega
      have ha := o.app encB_len (bytes := 1) (k := 1) [.int .u8 (255 - bt s i)] (by decide) rfl (by omega) (by omega)
      rw [hl] at ha
      have on := Own.new (enc := encB) (sz := 1) (n0 := G0.next) (H := killB (e 4) (G.add (rowBlk 1 [.int .u8 (255 - bt s i)]))) (xs := nums s ++ ((nums s).take (i + 1)).map (fun n => 255 - n)) (by simp; omega) (by rw [← pput_loop s i hls, List.length_append, hl]; simp; omega) (((nums s ++ ((nums s).take i).map (fun n => 255 - n)).flatMap encB) ++ [.int .u8 (255 - bt s i)]) (pput_flat s i hls)
      have o' := o.ext ((Ext.refl G).add (rowBlk 1 [.int .u8 (255 - bt s i)]))
      have ha' := o'.app encB_len (bytes := 1) (k := 1) [.int .u8 (255 - bt s i)] (by decide) rfl (by omega) (by omega)
      rw [hl] at ha'
      simp [c_ref1_PutPair_l8, h0, h13, w1, hls, sub255 hb, ha', mkrowV, fillL]
      refine ⟨32 - (i + 1), by omega, i + 1, rfl, hlt, ?_, by omega, wrap_succ (by omega)⟩
      have hl2 : (nums s ++ ((nums s).take (i + 1)).map (fun n => 255 - n)).length = 32 + i + 1 := by rw [← pput_loop s i hls, List.length_append, hl]; rfl
      rw [hl2] at on
      simpa using on
    · obtain rfl : i = 32 := by omega
      have ht : (nums s).take 32 = nums s := List.take_of_length_le (by rw [nums_len]; omega)
      rw [ht] at o
      simp [c_ref1_PutPair_l8, h13, o.str, ← str_append, str_nums]
      rfl
  · rw [putP, putPE, if_neg h, if_neg h]
    have h' : ¬ (s.size : Int) = 32 := by omega
    simp [h']

def getP (s : ByteArray) : ByteArray := if s.size = 64 ∧ putP (s.extract 0 32) = s then s.extract 0 32 else ⟨#[]⟩
def getPE (s : ByteArray) : Int := if s.size = 64 ∧ putP (s.extract 0 32) = s then 0 else 100
@[simp] theorem pget_ok (s : ByteArray) (H : Heap) : call K f_pair_Get [.string s] H = some (.tuple #[.string (getP s), .int .i64 (getPE s)], H) := by
  refine of_wpf (open_pure rfl fc_pair_Get rfl (Nat.le_of_ble_eq_true rfl) ?_)
  by_cases h : s.size = 64
  · have a1 : slsV s none (some (.int .i64 32)) = some (.string (s.extract 0 32)) := by simp [slsV, bound, h, natOf]
    by_cases h2 : putP (s.extract 0 32) = s
    · simp only [getP, getPE, h, h2, and_self, if_true]
      simp [h, a1, h2]
    · simp only [getP, getPE, h, h2, and_false, if_false]
      simp [h, a1, h2]
  · simp only [getP, getPE, h, false_and, if_false]
    have h' : ¬ (s.size : Int) = 64 := by omega
    simp [h']
@[simp] theorem rpget_ok (s : ByteArray) (H : Heap) : call K f_ref1_GetPair [.string s] H = some (.tuple #[.string (getP s), .int .i64 (getPE s)], H) := by
  refine of_wpf (open_pure rfl fc_ref1_GetPair rfl (Nat.le_of_ble_eq_true rfl) ?_)
  by_cases h : s.size = 64
  · have a1 : slsV s none (some (.int .i64 32)) = some (.string (s.extract 0 32)) := by simp [slsV, bound, h, natOf]
    by_cases h2 : putP (s.extract 0 32) = s
    · simp only [getP, getPE, h, h2, and_self, if_true]
      simp [h, a1, h2]
    · simp only [getP, getPE, h, h2, and_false, if_false]
      simp [h, a1, h2]
  · simp only [getP, getPE, h, false_and, if_false]
    have h' : ¬ (s.size : Int) = 64 := by omega
    simp [h']
theorem putP_size {s : ByteArray} (h : s.size = 32) : (putP s).size = 64 := by rw [putP, if_pos h, size_append, inv_size, h]
theorem L_inv (s : ByteArray) : L (inv s) = (L s).map fun b => 255 - b := by
  rw [inv, L_strOfNums, nums, List.map_map, List.map_map]
  refine List.map_congr_left fun b _ => ?_
  have h := b.toNat_lt
  apply UInt8.toNat_inj.1
  show (UInt8.ofNat (255 - (b.toNat : Int)).toNat).toNat = _
  rw [UInt8.toNat_sub, UInt8.toNat_ofNat']
  simp
  omega
theorem ext_left {a b : ByteArray} {n : Nat} (h : a.size = n) : (a ++ b).extract 0 n = a := by
  apply L_inj; rw [L_extract, L_append, List.drop_zero, Nat.sub_zero]; exact List.take_left' (by rw [L_length, h])
theorem getP_putP {s : ByteArray} (h : s.size = 32) : getP (putP s) = s ∧ getPE (putP s) = 0 := by
  have e : (putP s).extract 0 32 = s := by rw [putP, if_pos h]; exact ext_left h
  rw [getP, getPE, e, if_pos ⟨putP_size h, rfl⟩, if_pos ⟨putP_size h, rfl⟩]
  exact ⟨rfl, rfl⟩
theorem getPE_iff (s : ByteArray) : getPE s = 0 ↔ ∃ t, t.size = 32 ∧ s = putP t := by
  constructor
  · intro h
    rw [getPE] at h
    by_cases hh : s.size = 64 ∧ putP (s.extract 0 32) = s
    · refine ⟨s.extract 0 32, ?_, hh.2.symm⟩; rw [size_extract]; omega
    · rw [if_neg hh] at h; cases h
  · rintro ⟨t, ht, rfl⟩; exact (getP_putP ht).2
theorem getPE_two (s : ByteArray) : getPE s = 0 ∨ getPE s = 100 := by rw [getPE]; split <;> simp
end Go.AM
end TextR6Pa
section TextR6Pb
/- Contracts: heads. -/
namespace Go.AM
open Go.Proofs
set_option linter.unusedVariables false
set_option linter.unusedSimpArgs false
set_option maxRecDepth 100000
attribute [-simp] ByteArray.size_eq_zero_iff
@[simp] theorem nn2 (n : Nat) : (n = n  + 1 + 1) = False := by simp only [eq_iff_iff, iff_false]; omega
@[simp] theorem nm2 (n : Nat) : (n  + 1 + 1 = n) = False := by simp only [eq_iff_iff, iff_false]; omega
@[simp] theorem nn3 (n : Nat) : (n = n  + 1 + 1 + 1) = False := by simp only [eq_iff_iff, iff_false]; omega
@[simp] theorem nm3 (n : Nat) : (n  + 1 + 1 + 1 = n) = False := by simp only [eq_iff_iff, iff_false]; omega
@[simp] theorem nn4 (n : Nat) : (n = n  + 1 + 1 + 1 + 1) = False := by simp only [eq_iff_iff, iff_false]; omega
@[simp] theorem nm4 (n : Nat) : (n  + 1 + 1 + 1 + 1 = n) = False := by simp only [eq_iff_iff, iff_false]; omega
@[simp] theorem nn5 (n : Nat) : (n = n  + 1 + 1 + 1 + 1 + 1) = False := by simp only [eq_iff_iff, iff_false]; omega
@[simp] theorem nm5 (n : Nat) : (n  + 1 + 1 + 1 + 1 + 1 = n) = False := by simp only [eq_iff_iff, iff_false]; omega
@[simp] theorem nn6 (n : Nat) : (n = n  + 1 + 1 + 1 + 1 + 1 + 1) = False := by simp only [eq_iff_iff, iff_false]; omega
@[simp] theorem nm6 (n : Nat) : (n  + 1 + 1 + 1 + 1 + 1 + 1 = n) = False := by simp only [eq_iff_iff, iff_false]; omega
@[simp] theorem nn7 (n : Nat) : (n = n  + 1 + 1 + 1 + 1 + 1 + 1 + 1) = False := by simp only [eq_iff_iff, iff_false]; omega
@[simp] theorem nm7 (n : Nat) : (n  + 1 + 1 + 1 + 1 + 1 + 1 + 1 = n) = False := by simp only [eq_iff_iff, iff_false]; omega
@[simp] theorem nn8 (n : Nat) : (n = n  + 1 + 1 + 1 + 1 + 1 + 1 + 1 + 1) = False := by simp only [eq_iff_iff, iff_false]; omega
@[simp] theorem nm8 (n : Nat) : (n  + 1 + 1 + 1 + 1 + 1 + 1 + 1 + 1 = n) = False := by simp only [eq_iff_iff, iff_false]; omega
def hdMay (n s : Int) : Prop := (0 ≤ n ∧ n ≤ 2147483647) ∧ 1 ≤ s ∧ s ≤ 2147483647
instance (n s : Int) : Decidable (hdMay n s) := by unfold hdMay; infer_instance
@[simp] theorem hmay_ok (n s : Int) (H : Heap) : call K f_head_May [.agg #[.int .i64 n, .int .i64 s]] H = some (.bool (decide (hdMay n s)), H) := by
  refine of_wpf (open_pure rfl fc_head_May rfl (Nat.le_of_ble_eq_true rfl) ?_)
  unfold hdMay
  by_cases h1 : 0 ≤ n <;> by_cases h2 : n ≤ 2147483647 <;> simp [h1, h2]
@[simp] theorem rhmay_ok (n s : Int) (H : Heap) : call K f_ref1_HeadMay [.agg #[.int .i64 n, .int .i64 s]] H = some (.bool (decide (hdMay n s)), H) := by
  refine of_wpf (open_pure rfl fc_ref1_HeadMay rfl (Nat.le_of_ble_eq_true rfl) ?_)
  unfold hdMay
  by_cases h1 : 0 ≤ n <;> by_cases h2 : n ≤ 2147483647 <;> simp [h1, h2]
def hd12 (n s : Int) : List Int := [99, 114, 121, 111, n / 16777216 % 256, n / 65536 % 256, n / 256 % 256, n % 256, s / 16777216 % 256, s / 65536 % 256, s / 256 % 256, s % 256]
def headOf (n s : Int) : ByteArray := strOfNums (hd12 n s) ++ zer 20
theorem headOf_size (n s : Int) : (headOf n s).size = 32 := by unfold headOf; rw [size_append, size_strOfNums, zer_size]; rfl
def putH (n s : Int) : ByteArray := if hdMay n s then headOf n s else ⟨#[]⟩
def putHE (n s : Int) : Int := if hdMay n s then 0 else 500
theorem cryo : (⟨#[99, 114, 121, 111]⟩ : ByteArray) = strOfNums [99, 114, 121, 111] := rfl
@[simp] theorem hput_ok (n s : Int) (H : Heap) : call K f_head_Put [.agg #[.int .i64 n, .int .i64 s]] H = some (.tuple #[.string (putH n s), .int .i64 (putHE n s)], H) := by
  refine of_wpf (open_pure rfl fc_head_Put rfl (Nat.le_of_ble_eq_true rfl) ?_)
  by_cases h : hdMay n s
  · rw [putH, putHE, if_pos h, if_pos h]
    have e1 : binV K.P .add tyStr (.string ⟨#[99, 114, 121, 111]⟩) (.string (four n)) = some (.string (strOfNums [99, 114, 121, 111] ++ four n)) := by
      rw [cryo]; exact binV_sadd _ _ _ _ (by unfold four; rw [size_strOfNums, size_strOfNums]; simp)
    have e2 : binV K.P .add tyStr (.string (strOfNums [99, 114, 121, 111] ++ four n)) (.string (four s)) = some (.string (strOfNums (hd12 n s))) := by
      rw [binV_sadd _ _ _ _ (by unfold four; rw [size_append, size_strOfNums, size_strOfNums, size_strOfNums]; simp)]; unfold four; rw [str_append, str_append]; rfl
    have z : (strOfNums (hd12 n s)).size = 12 := size_strOfNums _
    have e3 : ∀ H, call K f_record_Fill [.string (strOfNums (hd12 n s))] H = some (.string (headOf n s), H) := fun H => by
      rw [fill_ok _ _ (by rw [z]; omega), z]; rfl
    simp [h, run_regd_tr, finD_some, Chk, e1, e2, e3, wanted]
  · rw [putH, putHE, if_neg h, if_neg h]; simp [h]
@[simp] theorem rhput_ok (n s : Int) (H : Heap) : call K f_ref1_PutHead [.agg #[.int .i64 n, .int .i64 s]] H = some (.tuple #[.string (putH n s), .int .i64 (putHE n s)], H) := by
  refine of_wpf (open_pure rfl fc_ref1_PutHead rfl (Nat.le_of_ble_eq_true rfl) ?_)
  by_cases h : hdMay n s
  · rw [putH, putHE, if_pos h, if_pos h]
    have e1 : binV K.P .add tyStr (.string ⟨#[99, 114, 121, 111]⟩) (.string (four n)) = some (.string (strOfNums [99, 114, 121, 111] ++ four n)) := by
      rw [cryo]; exact binV_sadd _ _ _ _ (by unfold four; rw [size_strOfNums, size_strOfNums]; simp)
    have e2 : binV K.P .add tyStr (.string (strOfNums [99, 114, 121, 111] ++ four n)) (.string (four s)) = some (.string (strOfNums (hd12 n s))) := by
      rw [binV_sadd _ _ _ _ (by unfold four; rw [size_append, size_strOfNums, size_strOfNums, size_strOfNums]; simp)]; unfold four; rw [str_append, str_append]; rfl
    have z : (strOfNums (hd12 n s)).size = 12 := size_strOfNums _
    have e3 : ∀ H, call K f_ref1_zeros [.int .i64 20] H = some (.string (zer 20), H) := fun H => zeros_ok 20 H (by omega)
    have e4 : binV K.P .add tyStr (.string (strOfNums (hd12 n s))) (.string (zer 20)) = some (.string (headOf n s)) := binV_sadd _ _ _ _ (by rw [z, zer_size]; decide)
    simp [h, run_regd_tr, finD_some, Chk, e1, e2, e3, e4, wanted]
  · rw [putH, putHE, if_neg h, if_neg h]; simp [h]
def hN (s : ByteArray) : Int := bt s 4 * 16777216 + bt s 5 * 65536 + bt s 6 * 256 + bt s 7
def hS (s : ByteArray) : Int := bt s 8 * 16777216 + bt s 9 * 65536 + bt s 10 * 256 + bt s 11
theorem bt_extract (s : ByteArray) (i j : Nat) (k : Nat) (h : k < j - i) : bt (s.extract i j) (k : Int) = bt s ((i + k : Nat) : Int) := by
  rw [bt_L, bt_L, L_extract, Int.toNat_natCast, Int.toNat_natCast, List.getElem?_take_of_lt h, List.getElem?_drop]
theorem num4_extract (s : ByteArray) (i j : Nat) (h : i + 4 ≤ j) : num4 (s.extract i j) = bt s ((i : Nat) : Int) * 16777216 + bt s ((i + 1 : Nat) : Int) * 65536 + bt s ((i + 2 : Nat) : Int) * 256 + bt s ((i + 3 : Nat) : Int) := by
  have e0 := bt_extract s i j 0 (by omega)
  have e1 := bt_extract s i j 1 (by omega)
  have e2 := bt_extract s i j 2 (by omega)
  have e3 := bt_extract s i j 3 (by omega)
  simp only [Nat.add_zero] at e0
  unfold num4
  rw [← e0, ← e1, ← e2, ← e3]; rfl
theorem hN_eq (s : ByteArray) (j : Nat) (h : 8 ≤ j) : num4 (s.extract 4 j) = hN s := by rw [num4_extract _ _ _ (by omega)]; rfl
theorem hS_eq (s : ByteArray) (j : Nat) (h : 12 ≤ j) : num4 (s.extract 8 j) = hS s := by rw [num4_extract _ _ _ (by omega)]; rfl
abbrev HdX := Int × Int × Int
def getH (s : ByteArray) : HdX := if s.size = 32 ∧ putHE (hN s) (hS s) = 0 ∧ putH (hN s) (hS s) = s then (hN s, hS s, 0) else (0, 0, 500)
def valH (x : HdX) : Value := .tuple #[.agg #[.int .i64 x.1, .int .i64 x.2.1], .int .i64 x.2.2]
theorem hget_ok (s : ByteArray) (H : Heap) : call K f_head_Get [.string s] H = some (valH (getH s), H) := by
  refine of_wpf (open_pure rfl fc_head_Get rfl (Nat.le_of_ble_eq_true rfl) ?_)
  unfold getH valH
  by_cases h1 : s.size = 32
  · have a1 : slsV s (some (.int .i64 4)) none = some (.string (s.extract 4 32)) := by simp [slsV, bound, natOf_int, h1]
    have a2 : slsV s (some (.int .i64 8)) none = some (.string (s.extract 8 32)) := by simp [slsV, bound, natOf_int, h1]
    have b1 : ∀ H, call K f_record_Number [.string (s.extract 4 32)] H = some (.int .i64 (hN s), H) := fun H => by rw [number_ok _ _ (by rw [size_extract, h1]; decide), hN_eq _ _ (by omega)]
    have b2 : ∀ H, call K f_record_Number [.string (s.extract 8 32)] H = some (.int .i64 (hS s), H) := fun H => by rw [number_ok _ _ (by rw [size_extract, h1]; decide), hS_eq _ _ (by omega)]
    by_cases h2 : putHE (hN s) (hS s) = 0
    · by_cases h3 : putH (hN s) (hS s) = s
      · simp [h1, h2, h3, a1, a2, b1, b2]
      · simp [h1, h2, h3, a1, a2, b1, b2]
    · simp [h1, h2, a1, a2, b1, b2]
  · have h' : ¬ (s.size : Int) = 32 := by omega
    simp [h1, h']
theorem rhget_ok (s : ByteArray) (H : Heap) : call K f_ref1_GetHead [.string s] H = some (valH (getH s), H) := by
  refine of_wpf (open_pure rfl fc_ref1_GetHead rfl (Nat.le_of_ble_eq_true rfl) ?_)
  unfold getH valH
  by_cases h1 : s.size = 32
  · have a1 : slsV s (some (.int .i64 4)) (some (.int .i64 8)) = some (.string (s.extract 4 8)) := by simp [slsV, bound, natOf_int, h1]
    have a2 : slsV s (some (.int .i64 8)) (some (.int .i64 12)) = some (.string (s.extract 8 12)) := by simp [slsV, bound, natOf_int, h1]
    have b1 : ∀ H, call K f_ref1_Of [.string (s.extract 4 8)] H = some (.int .i64 (hN s), H) := fun H => by rw [of_ok _ _ (by rw [size_extract, h1]; decide), hN_eq _ _ (by omega)]
    have b2 : ∀ H, call K f_ref1_Of [.string (s.extract 8 12)] H = some (.int .i64 (hS s), H) := fun H => by rw [of_ok _ _ (by rw [size_extract, h1]; decide), hS_eq _ _ (by omega)]
    by_cases h2 : putHE (hN s) (hS s) = 0
    · by_cases h3 : putH (hN s) (hS s) = s
      · simp [h1, h2, h3, a1, a2, b1, b2]
      · simp [h1, h2, h3, a1, a2, b1, b2]
    · simp [h1, h2, a1, a2, b1, b2]
  · have h' : ¬ (s.size : Int) = 32 := by omega
    simp [h1, h']
def hdOf (s : ByteArray) : HdX := getH (getP s)
def valO (x : HdX) : Value := .tuple #[.agg #[.int .i64 x.1, .int .i64 x.2.1], .bool (decide (x.2.2 = 0))]
theorem hof_ok (s : ByteArray) (H : Heap) : call K f_head_of [.string s] H = some (valO (hdOf s), H) := by
  refine of_wpf (open_pure rfl fc_head_of rfl (Nat.le_of_ble_eq_true rfl) ?_)
  have c : ∀ H, call K f_head_Get [.string (getP s)] H = some (.tuple #[.agg #[.int .i64 (hdOf s).1, .int .i64 (hdOf s).2.1], .int .i64 (hdOf s).2.2], H) := fun H => hget_ok (getP s) H
  generalize hdOf s = x at c
  simp [c, valO]
theorem rhof_ok (s : ByteArray) (H : Heap) : call K f_ref1_sectorHead [.string s] H = some (valO (hdOf s), H) := by
  refine of_wpf (open_pure rfl fc_ref1_sectorHead rfl (Nat.le_of_ble_eq_true rfl) ?_)
  have c : ∀ H, call K f_ref1_GetHead [.string (getP s)] H = some (.tuple #[.agg #[.int .i64 (hdOf s).1, .int .i64 (hdOf s).2.1], .int .i64 (hdOf s).2.2], H) := fun H => rhget_ok (getP s) H
  generalize hdOf s = x at c
  simp [c, valO]
def bestX (x y : HdX) : HdX := if x.2.2 = 0 ∧ (y.2.2 = 0 → y.1 ≤ x.1) then (x.1, x.2.1, 0) else if y.2.2 = 0 then (y.1, y.2.1, 0) else (0, 0, 501)
def bestH (a b : ByteArray) : HdX := bestX (hdOf a) (hdOf b)
theorem hbest_ok (a b : ByteArray) (H : Heap) : call K f_head_Best [.string a, .string b] H = some (valH (bestH a b), H) := by
  refine of_wpf (open_pure rfl fc_head_Best rfl (Nat.le_of_ble_eq_true rfl) ?_)
  have c : ∀ s H, call K f_head_of [.string s] H = some (.tuple #[.agg #[.int .i64 (hdOf s).1, .int .i64 (hdOf s).2.1], .bool (decide ((hdOf s).2.2 = 0))], H) := fun s H => hof_ok s H
  have c1 := c a; have c2 := c b
  unfold bestH
  generalize hdOf a = x at c1
  generalize hdOf b = y at c2
  unfold bestX valH
  by_cases h1 : x.2.2 = 0
  · by_cases h2 : y.2.2 = 0
    · by_cases h3 : y.1 ≤ x.1 <;> simp [c1, c2, h1, h2, h3]
    · simp [c1, c2, h1, h2]
  · by_cases h2 : y.2.2 = 0 <;> simp [c1, c2, h1, h2]
theorem rhbest_ok (a b : ByteArray) (H : Heap) : call K f_ref1_Best [.string a, .string b] H = some (valH (bestH a b), H) := by
  refine of_wpf (open_pure rfl fc_ref1_Best rfl (Nat.le_of_ble_eq_true rfl) ?_)
  have c : ∀ s H, call K f_ref1_sectorHead [.string s] H = some (.tuple #[.agg #[.int .i64 (hdOf s).1, .int .i64 (hdOf s).2.1], .bool (decide ((hdOf s).2.2 = 0))], H) := fun s H => rhof_ok s H
  have c1 := c a; have c2 := c b
  unfold bestH
  generalize hdOf a = x at c1
  generalize hdOf b = y at c2
  unfold bestX valH
  by_cases h1 : x.2.2 = 0
  · by_cases h2 : y.2.2 = 0
    · by_cases h3 : y.1 ≤ x.1
      · have h4 : ¬ x.1 < y.1 := by omega
        simp [c1, c2, h1, h2, h3, h4]
      · have h4 : x.1 < y.1 := by omega
        simp [c1, c2, h1, h2, h3, h4]
    · simp [c1, c2, h1, h2]
  · by_cases h2 : y.2.2 = 0 <;> simp [c1, c2, h1, h2]
/-! plain laws -/
theorem L_headOf (n s : Int) : L (headOf n s) = (hd12 n s).map (fun n => UInt8.ofNat n.toNat) ++ List.replicate 20 0 := by unfold headOf; rw [L_append, L_strOfNums, L_zer]
theorem hNS_headOf {n s : Int} (h : hdMay n s) : hN (headOf n s) = n ∧ hS (headOf n s) = s := by
  have m : ∀ y : Int, 0 ≤ y % 256 ∧ y % 256 ≤ 255 := fun y => by omega
  have hL := L_headOf n s
  generalize headOf n s = x at hL
  have b4 : bt x 4 = n / 16777216 % 256 := by rw [bt_L, hL]; exact u8_mod (m _).1 (m _).2
  have b5 : bt x 5 = n / 65536 % 256 := by rw [bt_L, hL]; exact u8_mod (m _).1 (m _).2
  have b6 : bt x 6 = n / 256 % 256 := by rw [bt_L, hL]; exact u8_mod (m _).1 (m _).2
  have b7 : bt x 7 = n % 256 := by rw [bt_L, hL]; exact u8_mod (m _).1 (m _).2
  have b8 : bt x 8 = s / 16777216 % 256 := by rw [bt_L, hL]; exact u8_mod (m _).1 (m _).2
  have b9 : bt x 9 = s / 65536 % 256 := by rw [bt_L, hL]; exact u8_mod (m _).1 (m _).2
  have b10 : bt x 10 = s / 256 % 256 := by rw [bt_L, hL]; exact u8_mod (m _).1 (m _).2
  have b11 : bt x 11 = s % 256 := by rw [bt_L, hL]; exact u8_mod (m _).1 (m _).2
  obtain ⟨h1, h2⟩ := h
  constructor
  · unfold hN; rw [b4, b5, b6, b7]; omega
  · unfold hS; rw [b8, b9, b10, b11]; omega
theorem getH_headOf {n s : Int} (h : hdMay n s) : getH (headOf n s) = (n, s, 0) := by
  obtain ⟨e1, e2⟩ := hNS_headOf h
  unfold getH
  rw [e1, e2, if_pos ⟨headOf_size n s, by rw [putHE, if_pos h], by rw [putH, if_pos h]⟩]
theorem hdOf_put {n s : Int} (h : hdMay n s) : hdOf (putP (headOf n s)) = (n, s, 0) := by
  rw [hdOf, (getP_putP (headOf_size n s)).1, getH_headOf h]
theorem getH_two (s : ByteArray) : ((getH s).2.2 = 0 ∧ hdMay (getH s).1 (getH s).2.1 ∧ s = headOf (getH s).1 (getH s).2.1) ∨ getH s = (0, 0, 500) := by
  unfold getH
  by_cases h : s.size = 32 ∧ putHE (hN s) (hS s) = 0 ∧ putH (hN s) (hS s) = s
  · refine .inl ?_
    rw [if_pos h]
    have hm : hdMay (hN s) (hS s) := by
      by_cases hm : hdMay (hN s) (hS s)
      · exact hm
      · have := h.2.1; rw [putHE, if_neg hm] at this; cases this
    exact ⟨rfl, hm, by have := h.2.2; rw [putH, if_pos hm] at this; exact this.symm⟩
  · exact .inr (if_neg h)
end Go.AM
end TextR6Pb
section TextR6HeadRow
/- The law HeadRow: true. -/
namespace Go.AM
open Go.Proofs
set_option linter.unusedVariables false
set_option linter.unusedSimpArgs false
set_option maxRecDepth 100000
attribute [-simp] ByteArray.size_eq_zero_iff
theorem putP_inj {a b : ByteArray} (ha : a.size = 32) (hb : b.size = 32) (h : putP a = putP b) : a = b := by
  rw [← (getP_putP ha).1, h, (getP_putP hb).1]
theorem putP_back {b : ByteArray} (hb : b.size = 32) : (putP b).extract 32 64 = inv b := by
  rw [putP, if_pos hb]
  apply L_inj
  rw [L_extract, L_append, List.drop_left' (by rw [L_length, hb])]
  exact List.take_of_length_le (by rw [L_length, inv_size, hb]; decide)
theorem inv_inj {a b : ByteArray} (h : inv a = inv b) : a = b := by
  apply L_inj
  have := congrArg L h
  rw [L_inv, L_inv] at this
  have e := congrArg (List.map fun x : UInt8 => 255 - x) this
  rw [List.map_map, List.map_map] at e
  have f : ((fun x : UInt8 => 255 - x) ∘ fun b => 255 - b) = id := by
    funext x
    show 255 - (255 - x) = x
    have h := x.toNat_lt
    apply UInt8.toNat_inj.1
    rw [UInt8.toNat_sub, UInt8.toNat_sub]
    simp
    omega
  rwa [f, List.map_id, List.map_id] at e
/-- a sector half written: the new one, the old one, or none -/
theorem torn_pair {a b : ByteArray} (ha : a.size = 32) (hb : b.size = 32) {c : Nat} (hc : c ≤ 64) {t : ByteArray} (ht : t = (putP a).extract 0 c ++ (putP b).extract c 64) : t = putP a ∨ t = putP b ∨ getP t = ⟨#[]⟩ ∧ getPE t = 100 := by
  by_cases h0 : getPE t = 0
  · obtain ⟨u, hu, e⟩ := (getPE_iff t).1 h0
    have za := putP_size ha; have zb := putP_size hb; have zu := putP_size hu
    by_cases hc2 : c ≤ 32
    · refine .inr (.inl ?_)
      have e1 : t.extract 32 64 = (putP b).extract 32 64 := by
        apply L_inj
        rw [L_extract, L_extract, ht, L_append, L_extract, L_extract, List.drop_append, List.drop_of_length_le (by simp; omega), List.nil_append, List.drop_take, List.drop_drop, List.take_take]
        simp only [List.length_take, List.length_drop, L_length, za]
        rw [show min (c - 0) (64 - 0) = c by omega, show c + (32 - c) = 32 by omega, show min (64 - 32) (64 - c - (32 - c)) = 64 - 32 by omega]
      rw [e, putP_back hu, putP_back hb] at e1
      rw [e, inv_inj e1]
    · refine .inl ?_
      have e1 : t.extract 0 32 = (putP a).extract 0 32 := by
        apply L_inj
        rw [L_extract, L_extract, ht, L_append, L_extract, List.drop_zero, List.drop_zero, List.take_append_of_le_length (by simp [L_length, za]; omega), List.take_take]
        rw [show min (32 - 0) (c - 0) = 32 - 0 by omega]
      rw [e, putP, if_pos hu, putP, if_pos ha, ext_left hu, ext_left ha] at e1
      rw [e, e1]
  · refine .inr (.inr ⟨?_, (getPE_two t).resolve_left h0⟩)
    rw [getPE] at h0
    rw [getP]
    split at h0
    · exact absurd rfl h0
    · rename_i h; exact if_neg h
theorem hdOf_none {t : ByteArray} (h : getP t = ⟨#[]⟩) : hdOf t = (0, 0, 500) := by
  rw [hdOf, h]; kernel_rfl
theorem awake5_ok (H : Heap) : call K f_law5_awake [] H = some (.bool true, H) := by
  refine of_wpf (open_pure rfl fc_law5_awake rfl (Nat.le_of_ble_eq_true rfl) ?_)
  have m : hdMay 1 258 := by decide
  have e1 : putH 1 258 = headOf 1 258 := if_pos m
  have e2 : putHE 1 258 = 0 := if_pos m
  have e3 : getH (headOf 1 258) = (1, 258, 0) := getH_headOf m
  have e4 : putP (headOf 1 258) = putP (headOf 1 258) := rfl
  have g1 : ∀ H, call K f_head_Get [.string (headOf 1 258)] H = some (.tuple #[.agg #[.int .i64 1, .int .i64 258], .int .i64 0], H) := fun H => by rw [hget_ok, e3]; rfl
  have z : hdOf ⟨#[]⟩ = (0, 0, 500) := hdOf_none rfl
  have b1 : ∀ H, call K f_head_Best [.string ⟨#[]⟩, .string (putP (headOf 1 258))] H = some (.tuple #[.agg #[.int .i64 1, .int .i64 258], .int .i64 0], H) := fun H => by
    rw [hbest_ok, bestH, z, hdOf_put m]; rfl
  have b2 : ∀ H, call K f_head_Best [.string ⟨#[]⟩, .string ⟨#[]⟩] H = some (.tuple #[.agg #[.int .i64 0, .int .i64 0], .int .i64 501], H) := fun H => by
    rw [hbest_ok, bestH, z]; rfl
  have e5 : putHE 0 0 = 500 := by decide
  have sz := headOf_size 1 258
  have a1 : slsV (headOf 1 258) none (some (.int .i64 12)) = some (.string ((headOf 1 258).extract 0 12)) := by simp [slsV, bound, natOf_int, sz]
  have a2 : (headOf 1 258).extract 0 12 = ⟨#[99, 114, 121, 111, 0, 0, 0, 1, 0, 0, 1, 2]⟩ := by kernel_rfl
  simp [e1, e2, g1, b1, b2, e5, sz, a1, a2, cellsEq, m]
/-- the sector that a head is laid down as -/
def hsec (st : Int) (j : Nat) : ByteArray := putP (headOf (j : Int) (st + j))
def slotV (st : Int) (i p : Nat) : ByteArray := if i ≤ p then ⟨#[]⟩ else hsec st (if (i - 1) % 2 = p then i - 1 else i - 2)
theorem slotV_same (st : Int) (i p : Nat) (h : i % 2 = p) : slotV st (i + 1) p = hsec st i := by
  unfold slotV
  rw [if_neg (by omega), Nat.add_sub_cancel, if_pos h]
theorem slotV_other (st : Int) (i p : Nat) (h : i % 2 ≠ p) (hp : p < 2) : slotV st (i + 1) p = slotV st i p := by
  unfold slotV
  by_cases h0 : i ≤ p
  · rw [if_pos h0, if_pos (by omega)]
  · rw [if_neg h0, if_neg (by omega), Nat.add_sub_cancel, if_neg h, if_pos (by omega)]
    congr 1
theorem hsec_size (st : Int) (j : Nat) : (hsec st j).size = 64 := putP_size (headOf_size _ _)
theorem and1 (x : Int) : bits .and .i64 x 1 = x % 2 := and_mask x 1 (by decide)
theorem and15 (x : Int) : bits .and .i64 x 15 = x % 16 := and_mask x 4 (by decide)
/-- what the last round leaves: the last head, or the one ahead of it -/
def RowEnd (st : Int) (k : Nat) (x y : ByteArray) : Prop := ∃ n : Int, (n = k ∨ n = (k : Int) - 1) ∧ bestH x y = (n, st + n, 0)
theorem bestX_hi {n m s t : Int} (h : m ≤ n) : bestX (n, s, 0) (m, t, 0) = (n, s, 0) := by unfold bestX; simp [h]
theorem bestX_lo {n m s t : Int} (h : n < m) : bestX (n, s, 0) (m, t, 0) = (m, t, 0) := by
  have : ¬ m ≤ n := by omega
  unfold bestX; simp [this]
theorem bestX_l {n s : Int} : bestX (n, s, 0) (0, 0, 500) = (n, s, 0) := by unfold bestX; simp
theorem bestX_r {n s : Int} : bestX (0, 0, 500) (n, s, 0) = (n, s, 0) := by unfold bestX; simp
theorem last_best {st : Int} (hst : 1 ≤ st ∧ st ≤ 65536) {k : Nat} (hk : 1 ≤ k ∧ k ≤ 16) {x : ByteArray} (hx : hdOf x = ((k : Int), st + k, 0) ∨ 2 ≤ k ∧ (hdOf x = (((k - 2 : Nat) : Int), st + (k - 2 : Nat), 0) ∨ hdOf x = (0, 0, 500))) :
    RowEnd st k x (hsec st (k - 1)) ∧ RowEnd st k (hsec st (k - 1)) x := by
  have ho : hdOf (hsec st (k - 1)) = (((k - 1 : Nat) : Int), st + (k - 1 : Nat), 0) := hdOf_put ⟨by omega, by omega⟩
  have e : ((k - 1 : Nat) : Int) = (k : Int) - 1 := by omega
  unfold RowEnd bestH
  rw [ho]
  rcases hx with hx | ⟨h2, hx | hx⟩
  · rw [hx]
    exact ⟨⟨k, .inl rfl, bestX_hi (by omega)⟩, ⟨k, .inl rfl, bestX_lo (by omega)⟩⟩
  · rw [hx]
    exact ⟨⟨(k : Int) - 1, .inr rfl, by rw [bestX_lo (by omega), e]⟩, ⟨(k : Int) - 1, .inr rfl, by rw [bestX_hi (by omega), e]⟩⟩
  · rw [hx]
    exact ⟨⟨(k : Int) - 1, .inr rfl, by rw [bestX_r, e]⟩, ⟨(k : Int) - 1, .inr rfl, by rw [bestX_l, e]⟩⟩
theorem headRow_law (many at_ start : Int) (H : Heap) : call K f_law5_HeadRow [.int .i64 many, .int .i64 at_, .int .i64 start] H = some (.bool true, H) := by
  refine of_wpf (open_pure rfl fc_law5_HeadRow rfl (Nat.le_of_ble_eq_true rfl) ?_)
  obtain ⟨c, hc, hrem⟩ := umod at_ 65 (by omega) (by omega)
  have hrem' : ∀ t, binV K.P .rem t (.int .u64 (IntKind.u64.wrap at_)) (.int .u64 65) = some (.int .u64 (c : Int)) := fun t => hrem
  have wc : IntKind.i64.wrap (c : Int) = c := wrap_i64 (by omega) (by omega)
  obtain ⟨k, hk, hk1⟩ : ∃ k : Nat, IntKind.i64.wrap (1 + bits .and .i64 many 15) = (k : Int) ∧ 1 ≤ k ∧ k ≤ 16 := by
    refine ⟨(1 + many % 16).toNat, ?_, by omega, by omega⟩
    rw [and15, wrap_i64 (by omega) (by omega)]; omega
  obtain ⟨st, hst, hst1⟩ : ∃ st : Int, IntKind.i64.wrap (1 + bits .and .i64 start 65535) = st ∧ 1 ≤ st ∧ st ≤ 65536 := by
    refine ⟨_, rfl, ?_⟩
    rw [and65535, wrap_i64 (by omega) (by omega)]; omega
  simp [awake5_ok, hk]
  refine wp_nxt (wp_for (fun d e G => ∃ (i : Nat) (B : Blk) (x y : ByteArray), d = k + 1 - i ∧ i ≤ k + 1 ∧ G.next = H.next + 1 ∧ G.blk H.next = some B ∧ B.ro = false ∧ B.at_ 0 = some (.string x) ∧ B.at_ 1 = some (.string y) ∧
    (i ≤ k → x = slotV st i 0 ∧ y = slotV st i 1) ∧ (i = k + 1 → RowEnd st k x y) ∧ e 1 = .int .i64 at_ ∧ e 2 = .int .i64 start ∧ e 7 = .int .i64 (k : Int) ∧ e 8 = .pointer (some ⟨H.next, 0, none⟩) ∧ e 9 = .int .i64 (i : Int)) (k + 1)
    ⟨0, rowBlk 2 [.string ⟨#[]⟩, .string ⟨#[]⟩], ⟨#[]⟩, ⟨#[]⟩, by simp, by simp, by simp, by simp, by simp, by simp, by simp, fun _ => ⟨rfl, rfl⟩, by simp, by simp, by simp, by simp, by simp [ptr], by simp⟩ ?_)
  rintro d e G ⟨i, B, x, y, rfl, hi, hn, hB, hro, hx, hy, hs, hend, h1, h2, h7, h8, h9⟩
  have hcb : ∀ o, G.cell H.next o = B.at_ o := fun o => by simp only [Heap.cell, hB]
  by_cases hle : i ≤ k
  · have w1 : (i : Int) ≤ k := by omega
    have w2 : IntKind.i64.wrap (st + (i : Int)) = st + i := wrap_i64 (by omega) (by omega)
    have w3 : IntKind.i64.wrap ((i : Int) + 1) = (i : Int) + 1 := wrap_i64 (by omega) (by omega)
    have m : hdMay (i : Int) (st + i) := ⟨by omega, by omega⟩
    have e1 : putH (i : Int) (st + i) = headOf (i : Int) (st + i) := if_pos m
    have e2 : putHE (i : Int) (st + i) = 0 := if_pos m
    have e3 : putP (headOf (i : Int) (st + i)) = hsec st i := rfl
    have e4 : ((hsec st i).size : Int) = 64 := by rw [hsec_size]; rfl
    have ei : bits .and .i64 (i : Int) 1 = ((i % 2 : Nat) : Int) := by rw [and1]; omega
    obtain ⟨p, hp, hp2⟩ : ∃ p, i % 2 = p ∧ p < 2 := ⟨_, rfl, by omega⟩
    rw [hp] at ei
    obtain ⟨rfl, rfl⟩ := hs hle
    have hat : B.at_ p = some (.string (slotV st i p)) := by
      rcases p with _ | _ | p
      · exact hx
      · exact hy
      · omega
    by_cases hlt : i < k
    · have w4 : ¬ (i : Int) = k := by omega
      have w5 : i ≠ k := by omega
      simp [c_law5_HeadRow_l16, h1, h2, h7, h8, h9, w1, hle, hst, w2, w3, e1, e2, e3, e4, w4, w5, ei, hp2, hB, hro, hcb, hat]
      refine ⟨k + 1 - (i + 1), by omega, i + 1, rfl, by omega, hn, slotV st (i + 1) 0, ?_, slotV st (i + 1) 1, ?_, fun _ => ⟨rfl, rfl⟩, fun h => by omega, by omega⟩
      · by_cases h0 : 0 = p
        · rw [if_pos h0, slotV_same st i 0 (by omega)]
        · rw [if_neg h0, slotV_other st i 0 (by omega) (by omega), hx]
      · by_cases h0 : 1 = p
        · rw [if_pos h0, slotV_same st i 1 (by omega)]
        · rw [if_neg h0, slotV_other st i 1 (by omega) (by omega), hy]
    · obtain rfl : i = k := by omega
      have ho : ∀ q, q < 2 → q ≠ p → slotV st i q = hsec st (i - 1) := fun q hq hqp => by
        unfold slotV; rw [if_neg (by omega), if_pos (by omega)]
      have fin : ∀ X : ByteArray, (hdOf X = ((i : Int), st + i, 0) ∨ 2 ≤ i ∧ (hdOf X = (((i - 2 : Nat) : Int), st + (i - 2 : Nat), 0) ∨ hdOf X = (0, 0, 500))) → ∃ x0, (if 0 = p then some (Value.string X) else B.at_ 0) = some (.string x0) ∧ ∃ x1, (if 1 = p then some (Value.string X) else B.at_ 1) = some (.string x1) ∧ RowEnd st i x0 x1 := fun X hX => by
        obtain ⟨l1, l2⟩ := last_best hst1 hk1 hX
        by_cases h0 : p = 0
        · subst h0
          exact ⟨X, if_pos rfl, hsec st (i - 1), by rw [if_neg (by omega), hy, ho 1 (by omega) (by omega)], l1⟩
        · have h1 : p = 1 := by omega
          subst h1
          exact ⟨hsec st (i - 1), by rw [if_neg (by omega), hx, ho 0 (by omega) (by omega)], X, if_pos rfl, l2⟩
      have hself : hdOf (hsec st i) = ((i : Int), st + i, 0) := hdOf_put m
      by_cases h2k : 2 ≤ i
      · have es : slotV st i p = hsec st (i - 2) := by unfold slotV; rw [if_neg (by omega), if_neg (by omega)]
        rw [es] at hat
        have ez : (hsec st (i - 2)).size = 64 := hsec_size _ _
        have ez2 : (hsec st i).size = 64 := hsec_size _ _
        have a1 : slsV (hsec st i) none (some (.int .i64 (c : Int))) = some (.string ((hsec st i).extract 0 c)) := by
          have : c ≤ 64 := by omega
          simp [slsV, bound, ez2, this]
        have a2 : slsV (hsec st (i - 2)) (some (.int .i64 (c : Int))) none = some (.string ((hsec st (i - 2)).extract c 64)) := by
          have : c ≤ 64 := by omega
          simp [slsV, bound, ez, this]
        have a3 : binV K.P .add tyStr (.string ((hsec st i).extract 0 c)) (.string ((hsec st (i - 2)).extract c 64)) = some (.string ((hsec st i).extract 0 c ++ (hsec st (i - 2)).extract c 64)) := binV_sadd _ _ _ _ (by rw [size_extract, size_extract, ez, ez2]; omega)
        have ht := torn_pair (a := headOf (i : Int) (st + i)) (b := headOf ((i - 2 : Nat) : Int) (st + (i - 2 : Nat))) (headOf_size _ _) (headOf_size _ _) (c := c) (by omega) (t := (hsec st i).extract 0 c ++ (hsec st (i - 2)).extract c 64) rfl
        generalize (hsec st i).extract 0 c ++ (hsec st (i - 2)).extract c 64 = X at a3 ht
        have hX : hdOf X = ((i : Int), st + i, 0) ∨ 2 ≤ i ∧ (hdOf X = (((i - 2 : Nat) : Int), st + (i - 2 : Nat), 0) ∨ hdOf X = (0, 0, 500)) := by
          rcases ht with rfl | rfl | ht
          · exact .inl hself
          · exact .inr ⟨h2k, .inl (hdOf_put ⟨by omega, by omega⟩)⟩
          · exact .inr ⟨h2k, .inr (hdOf_none ht.1)⟩
        obtain ⟨x0, f0, x1, f1, hE⟩ := fin X hX
        simp [c_law5_HeadRow_l16, h1, h2, h7, h8, h9, hst, w2, w3, e1, e2, e3, e4, ei, hp2, hB, hro, hcb, hat, hrem', wc, a1, a2, a3, ez]
        exact ⟨i + 1, by omega, by omega, hn, x0, f0, x1, f1, fun h => by omega, fun _ => hE, by omega⟩
      · obtain rfl : i = 1 := by omega
        obtain rfl : p = 1 := by omega
        have es : slotV st 1 1 = ⟨#[]⟩ := rfl
        rw [es] at hat
        obtain ⟨x0, f0, x1, f1, hE⟩ := fin (hsec st 1) (.inl hself)
        have ei' : bits .and .i64 1 1 = 1 := by decide
        simp at w2 e1 e2 e3 e4 f0 f1 h9 h7
        simp [c_law5_HeadRow_l16, h1, h2, h7, h8, h9, hst, w2, w3, e1, e2, e3, e4, ei', hp2, hB, hro, hcb, hat]
        exact ⟨2, rfl, by omega, hn, slotV st 1 0, hx, fun h => by omega, fun _ => (last_best hst1 hk1 (.inl hself)).2, by decide⟩
  · obtain rfl : i = k + 1 := by omega
    obtain ⟨n, hn2, hb⟩ := hend rfl
    have c1 : ∀ H, call K f_head_Best [.string x, .string y] H = some (.tuple #[.agg #[.int .i64 n, .int .i64 (st + n)], .int .i64 0], H) := fun H => by rw [hbest_ok, hb]; rfl
    have w1 : ¬ ((k + 1 : Nat) : Int) ≤ k := by omega
    have w2 : IntKind.i64.wrap ((k : Int) - 1) = (k : Int) - 1 := wrap_i64 (by omega) (by omega)
    have w3 : IntKind.i64.wrap (st + n) = st + n := wrap_i64 (by omega) (by omega)
    have w4 : ¬ ((k : Int) + 1 ≤ k) := by omega
    rcases hn2 with rfl | rfl
    · simp [c_law5_HeadRow_l16, h7, h8, h9, w4, hcb, hx, hy, c1, hn, h2, hst, w3]
    · have w5 : ¬ ((k : Int) - 1 = k) := by omega
      simp [c_law5_HeadRow_l16, h7, h8, h9, w4, hcb, hx, hy, c1, hn, h2, hst, w2, w3, w5]
end Go.AM
end TextR6HeadRow
