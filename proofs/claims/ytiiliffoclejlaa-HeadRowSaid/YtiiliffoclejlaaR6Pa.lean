/- Contracts: pairs. -/
import Derived.Test.YtiiliffoclejlaaR6Zb
import Derived.KernelRfl
namespace Go.AM
open Go.Proofs
set_option linter.unusedVariables false
set_option linter.unusedSimpArgs false
set_option maxRecDepth 100000
attribute [-simp] ByteArray.size_eq_zero_iff
theorem unV_xor8 (a : Int) : unV K.P .xor (.int .u8 a) = some (.int .u8 (bits .xor .u8 255 a)) := rfl
theorem xor255_all : ((List.range 256).all fun n => decide (bits .xor .u8 255 (n : Int) = 255 - (n : Int))) = true := by kernel_rfl
theorem xor255 (a : Int) (h : 0 ≤ a ∧ a ≤ 255) : bits .xor .u8 255 a = 255 - a := by
  obtain ⟨n, rfl⟩ := Int.eq_ofNat_of_zero_le h.1
  have := List.all_eq_true.1 xor255_all n (List.mem_range.2 (by omega))
  simpa using this
abbrev encB (n : Int) : List Value := [.int .u8 n]
theorem encB_len (x : Int) : (encB x).length = 1 := rfl
/-- the bytes of a text, as numbers -/
def nums (s : ByteArray) : List Int := (L s).map fun b => (b.toNat : Int)
theorem nums_len (s : ByteArray) : (nums s).length = s.size := by rw [nums, List.length_map, L_length]
theorem nums_bt {s : ByteArray} {i : Nat} (h : i < s.size) : (nums s)[i]'(by rw [nums_len]; exact h) = bt s (i : Int) := by
  have hl : i < (L s).length := by rw [L_length]; exact h
  simp only [nums, List.getElem_map]
  rw [bt_L, Int.toNat_natCast, List.getElem?_eq_getElem hl]; rfl
theorem str_nums (s : ByteArray) : strOfNums (nums s) = s := by
  apply L_inj
  rw [L_strOfNums, nums, List.map_map]
  conv => rhs; rw [← List.map_id (L s)]
  refine List.map_congr_left fun b _ => ?_
  simp
def inv (s : ByteArray) : ByteArray := strOfNums ((nums s).map fun n => 255 - n)
theorem inv_size (s : ByteArray) : (inv s).size = s.size := by rw [inv, size_strOfNums, List.length_map, nums_len]
def putP (s : ByteArray) : ByteArray := if s.size = 32 then s ++ inv s else ⟨#[]⟩
def putPE (s : ByteArray) : Int := if s.size = 32 then 0 else 100
theorem rowOfBytes_eq (s : ByteArray) : rowOfBytes s = (nums s).flatMap encB := by
  rw [rowOfBytes, nums, List.flatMap_map]
  show (L s).map _ = _
  induction L s with
  | nil => rfl
  | cons a l ih => rw [List.map_cons, ih]; rfl
theorem nums_rows : ∀ (vs : List Int), numsOfRow (vs.flatMap encB) = some vs
  | [] => rfl
  | v :: vs => by rw [List.flatMap_cons, encB]; show consN v (numsOfRow (vs.flatMap encB)) = _; rw [nums_rows vs]; rfl
theorem Own.str {n0 : Nat} {H : Heap} {v : Value} {xs : List Int} (h : Own encB 1 n0 H v xs) : b2sV v H = some (.string (strOfNums xs)) := by
  rcases h.is with ⟨rfl, rfl⟩ | ⟨b, B, rfl, h3, h4, h5, h6, h7, h8⟩
  · rfl
  · have hr : H.row b 0 (xs.length * 1) = some (xs.flatMap encB) := by
      refine row_of _ 0 (flat_len encB_len xs) fun j hj => ?_
      rw [Nat.zero_add, show H.cell b j = B.at_ j by simp only [Heap.cell, h5]]
      exact h8 j hj
    rw [Nat.mul_one] at hr
    simp [hr, nums_rows]
theorem s2b_own (s : ByteArray) (H : Heap) (hs : s.size ≤ 1000) : Own encB 1 H.next (H.add (rowBlk 1 (rowOfBytes s))) (.slice (some ⟨H.next, 0, none⟩) s.size (2 * s.size)) (nums s) := by
  have := Own.new (enc := encB) (sz := 1) (n0 := H.next) (H := H) (xs := nums s) (Nat.le_refl _) (by rw [nums_len]; omega) (rowOfBytes s) (rowOfBytes_eq s)
  rwa [nums_len] at this
theorem pput_loop (s : ByteArray) (i : Nat) (hi : i < s.size) : nums s ++ ((nums s).take i).map (fun n => 255 - n) ++ [255 - bt s i] = nums s ++ ((nums s).take (i + 1)).map (fun n => 255 - n) := by
  rw [List.append_assoc, List.take_succ_eq_append_getElem (by rw [nums_len]; exact hi), List.map_append, List.map_singleton, nums_bt hi]
theorem flat_snoc (xs : List Int) (y : Int) : xs.flatMap encB ++ [.int .u8 y] = (xs ++ [y]).flatMap encB := by simp [encB]
theorem pput_flat (s : ByteArray) (i : Nat) (hi : i < s.size) : ((nums s ++ ((nums s).take i).map (fun n => 255 - n)).flatMap encB) ++ [.int .u8 (255 - bt s i)] = (nums s ++ ((nums s).take (i + 1)).map (fun n => 255 - n)).flatMap encB := by rw [flat_snoc, pput_loop s i hi]
@[simp] theorem pput_ok (s : ByteArray) (H : Heap) : call K f_pair_Put [.string s] H = some (.tuple #[.string (putP s), .int .i64 (putPE s)], H) := by
  refine of_wpf (open_pure rfl fc_pair_Put rfl (Nat.le_of_ble_eq_true rfl) ?_)
  by_cases h : s.size = 32
  · rw [putP, putPE, if_pos h, if_pos h]
    obtain ⟨G0, hG0⟩ : ∃ G0, G0 = H.roAll := ⟨_, rfl⟩
    have o0 := s2b_own s G0 (by omega)
    have hn : G0.next = H.next := by rw [hG0]; rfl
    simp [h, ← hG0]
    rw [h] at o0
    refine wp_nxt (wp_for (fun d e G => ∃ i : Nat, d = 32 - i ∧ i ≤ 32 ∧ Own encB 1 G0.next G (e 4) (nums s ++ ((nums s).take i).map (fun n => 255 - n)) ∧ G0.next ≤ G.next ∧ e 0 = .string s ∧ e 12 = .int .i64 32 ∧ e 13 = .int .i64 (i : Int)) 32 ⟨0, by simp, by simp, by simpa [row0] using o0, by simp, by simp, by simp, by simp⟩ ?_)
    rintro d e G ⟨i, rfl, hi, o, hnx, h0, h12, h13⟩
    by_cases hlt : i < 32
    · have w1 : (i : Int) < 32 := by omega
      have hls : i < s.size := by omega
      have hb := bt_range s i
      have hx := xor255 (bt s i) hb
      have hl : (nums s ++ ((nums s).take i).map (fun n => 255 - n)).length = 32 + i := by rw [List.length_append, List.length_map, List.length_take, nums_len]; omega
      have ha := o.app encB_len (bytes := 1) (k := 1) [.int .u8 (255 - bt s i)] (by decide) rfl (by omega) (by omega)
      rw [hl] at ha
      have on := Own.new (enc := encB) (sz := 1) (n0 := G0.next) (H := killB (e 4) (G.add (rowBlk 1 [.int .u8 (255 - bt s i)]))) (xs := nums s ++ ((nums s).take (i + 1)).map (fun n => 255 - n)) (by simp; omega) (by rw [← pput_loop s i hls, List.length_append, hl]; simp; omega) (((nums s ++ ((nums s).take i).map (fun n => 255 - n)).flatMap encB) ++ [.int .u8 (255 - bt s i)]) (pput_flat s i hls)
      have o' := o.ext ((Ext.refl G).add (rowBlk 1 [.int .u8 (255 - bt s i)]))
      have ha' := o'.app encB_len (bytes := 1) (k := 1) [.int .u8 (255 - bt s i)] (by decide) rfl (by omega) (by omega)
      rw [hl] at ha'
      simp [c_pair_Put_l9, h0, h12, h13, w1, hls, unV_xor8, hx, ha', mkrowV, fillL]
      refine ⟨32 - (i + 1), by omega, i + 1, rfl, hlt, ?_, by omega, wrap_succ (by omega)⟩
      have hl2 : (nums s ++ ((nums s).take (i + 1)).map (fun n => 255 - n)).length = 32 + i + 1 := by rw [← pput_loop s i hls, List.length_append, hl]; rfl
      rw [hl2] at on
      simpa using on
    · obtain rfl : i = 32 := by omega
      have ht : (nums s).take 32 = nums s := List.take_of_length_le (by rw [nums_len]; omega)
      rw [ht] at o
      simp [c_pair_Put_l9, h12, h13, o.str, ← str_append, str_nums]
      rfl
  · rw [putP, putPE, if_neg h, if_neg h]
    have h' : ¬ (s.size : Int) = 32 := by omega
    simp [h']
theorem sub255 {a : Int} (h : 0 ≤ a ∧ a ≤ 255) : IntKind.u8.wrap (255 - a) = 255 - a := wrap_u8 (by omega) (by omega)
@[simp] theorem rpput_ok (s : ByteArray) (H : Heap) : call K f_ref1_PutPair [.string s] H = some (.tuple #[.string (putP s), .int .i64 (putPE s)], H) := by
  refine of_wpf (open_pure rfl fc_ref1_PutPair rfl (Nat.le_of_ble_eq_true rfl) ?_)
  by_cases h : s.size = 32
  · rw [putP, putPE, if_pos h, if_pos h]
    obtain ⟨G0, hG0⟩ : ∃ G0, G0 = H.roAll := ⟨_, rfl⟩
    have o0 := s2b_own s G0 (by omega)
    have hn : G0.next = H.next := by rw [hG0]; rfl
    simp [h, ← hG0]
    rw [h] at o0
    refine wp_nxt (wp_for (fun d e G => ∃ i : Nat, d = 32 - i ∧ i ≤ 32 ∧ Own encB 1 G0.next G (e 4) (nums s ++ ((nums s).take i).map (fun n => 255 - n)) ∧ G0.next ≤ G.next ∧ e 0 = .string s ∧ e 5 = .int .i64 (i : Int)) 32 ⟨0, by simp, by simp, by simpa [row0] using o0, by simp, by simp, by simp⟩ ?_)
    rintro d e G ⟨i, rfl, hi, o, hnx, h0, h13⟩
    by_cases hlt : i < 32
    · have w1 : (i : Int) < 32 := by omega
      have hls : i < s.size := by omega
      have hb := bt_range s i
      have hx := xor255 (bt s i) hb
      have hl : (nums s ++ ((nums s).take i).map (fun n => 255 - n)).length = 32 + i := by rw [List.length_append, List.length_map, List.length_take, nums_len]; omega
      have ha := o.app encB_len (bytes := 1) (k := 1) [.int .u8 (255 - bt s i)] (by decide) rfl (by omega) (by omega)
      rw [hl] at ha
      have on := Own.new (enc := encB) (sz := 1) (n0 := G0.next) (H := killB (e 4) (G.add (rowBlk 1 [.int .u8 (255 - bt s i)]))) (xs := nums s ++ ((nums s).take (i + 1)).map (fun n => 255 - n)) (by simp; omega) (by rw [← pput_loop s i hls, List.length_append, hl]; simp; omega) (((nums s ++ ((nums s).take i).map (fun n => 255 - n)).flatMap encB) ++ [.int .u8 (255 - bt s i)]) (pput_flat s i hls)
      have o' := o.ext ((Ext.refl G).add (rowBlk 1 [.int .u8 (255 - bt s i)]))
      have ha' := o'.app encB_len (bytes := 1) (k := 1) [.int .u8 (255 - bt s i)] (by decide) rfl (by omega) (by omega)
      rw [hl] at ha'
      simp [c_ref1_PutPair_l8, h0, h13, w1, hls, sub255 hb, ha', mkrowV, fillL]
      refine ⟨32 - (i + 1), by omega, i + 1, rfl, hlt, ?_, by omega, wrap_succ (by omega)⟩
      have hl2 : (nums s ++ ((nums s).take (i + 1)).map (fun n => 255 - n)).length = 32 + i + 1 := by rw [← pput_loop s i hls, List.length_append, hl]; rfl
      rw [hl2] at on
      simpa using on
    · obtain rfl : i = 32 := by omega
      have ht : (nums s).take 32 = nums s := List.take_of_length_le (by rw [nums_len]; omega)
      rw [ht] at o
      simp [c_ref1_PutPair_l8, h13, o.str, ← str_append, str_nums]
      rfl
  · rw [putP, putPE, if_neg h, if_neg h]
    have h' : ¬ (s.size : Int) = 32 := by omega
    simp [h']

def getP (s : ByteArray) : ByteArray := if s.size = 64 ∧ putP (s.extract 0 32) = s then s.extract 0 32 else ⟨#[]⟩
def getPE (s : ByteArray) : Int := if s.size = 64 ∧ putP (s.extract 0 32) = s then 0 else 100
@[simp] theorem pget_ok (s : ByteArray) (H : Heap) : call K f_pair_Get [.string s] H = some (.tuple #[.string (getP s), .int .i64 (getPE s)], H) := by
  refine of_wpf (open_pure rfl fc_pair_Get rfl (Nat.le_of_ble_eq_true rfl) ?_)
  by_cases h : s.size = 64
  · have a1 : slsV s none (some (.int .i64 32)) = some (.string (s.extract 0 32)) := by simp [slsV, bound, h, natOf]
    by_cases h2 : putP (s.extract 0 32) = s
    · simp only [getP, getPE, h, h2, and_self, if_true]
      simp [h, a1, h2]
    · simp only [getP, getPE, h, h2, and_false, if_false]
      simp [h, a1, h2]
  · simp only [getP, getPE, h, false_and, if_false]
    have h' : ¬ (s.size : Int) = 64 := by omega
    simp [h']
@[simp] theorem rpget_ok (s : ByteArray) (H : Heap) : call K f_ref1_GetPair [.string s] H = some (.tuple #[.string (getP s), .int .i64 (getPE s)], H) := by
  refine of_wpf (open_pure rfl fc_ref1_GetPair rfl (Nat.le_of_ble_eq_true rfl) ?_)
  by_cases h : s.size = 64
  · have a1 : slsV s none (some (.int .i64 32)) = some (.string (s.extract 0 32)) := by simp [slsV, bound, h, natOf]
    by_cases h2 : putP (s.extract 0 32) = s
    · simp only [getP, getPE, h, h2, and_self, if_true]
      simp [h, a1, h2]
    · simp only [getP, getPE, h, h2, and_false, if_false]
      simp [h, a1, h2]
  · simp only [getP, getPE, h, false_and, if_false]
    have h' : ¬ (s.size : Int) = 64 := by omega
    simp [h']
theorem putP_size {s : ByteArray} (h : s.size = 32) : (putP s).size = 64 := by rw [putP, if_pos h, size_append, inv_size, h]
theorem L_inv (s : ByteArray) : L (inv s) = (L s).map fun b => 255 - b := by
  rw [inv, L_strOfNums, nums, List.map_map, List.map_map]
  refine List.map_congr_left fun b _ => ?_
  have h := b.toNat_lt
  apply UInt8.toNat_inj.1
  show (UInt8.ofNat (255 - (b.toNat : Int)).toNat).toNat = _
  rw [UInt8.toNat_sub, UInt8.toNat_ofNat']
  simp
  omega
theorem ext_left {a b : ByteArray} {n : Nat} (h : a.size = n) : (a ++ b).extract 0 n = a := by
  apply L_inj; rw [L_extract, L_append, List.drop_zero, Nat.sub_zero]; exact List.take_left' (by rw [L_length, h])
theorem getP_putP {s : ByteArray} (h : s.size = 32) : getP (putP s) = s ∧ getPE (putP s) = 0 := by
  have e : (putP s).extract 0 32 = s := by rw [putP, if_pos h]; exact ext_left h
  rw [getP, getPE, e, if_pos ⟨putP_size h, rfl⟩, if_pos ⟨putP_size h, rfl⟩]
  exact ⟨rfl, rfl⟩
theorem getPE_iff (s : ByteArray) : getPE s = 0 ↔ ∃ t, t.size = 32 ∧ s = putP t := by
  constructor
  · intro h
    rw [getPE] at h
    by_cases hh : s.size = 64 ∧ putP (s.extract 0 32) = s
    · refine ⟨s.extract 0 32, ?_, hh.2.symm⟩; rw [size_extract]; omega
    · rw [if_neg hh] at h; cases h
  · rintro ⟨t, ht, rfl⟩; exact (getP_putP ht).2
theorem getPE_two (s : ByteArray) : getPE s = 0 ∨ getPE s = 100 := by rw [getPE]; split <;> simp
end Go.AM
