import Derived.Test.YtbgidagbogpfkaaDoorR8K
/- Contracts: sameness, cutting, numbers and texts taken. -/
namespace Go.AM
open Go.Proofs
set_option linter.unusedVariables false
set_option linter.unusedSimpArgs false
set_option maxRecDepth 100000
attribute [-simp] ByteArray.size_eq_zero_iff Heap.store Heap.row
@[simp] theorem num_id (x : Int) (H : Heap) : call K f_law0_Num [.int .i64 x] H = some (.int .i64 x, H) := by
  refine of_wpf (open_pure rfl fc_law0_Num rfl (Nat.le_of_ble_eq_true rfl) ?_)
  simp
theorem sameActs_ok (va vb : Value) (xs ys : List Ac) (H : Heap) (ha : Rows encA 10 H va xs) (hb : Rows encA 10 H vb ys) (hl : xs.length ≤ 140737488355328) : call K f_law0_SameActs [va, vb] H = some (.bool (decide (xs = ys)), H) := by
  obtain ⟨p, c, rfl⟩ := ha.slice
  obtain ⟨q, d, rfl⟩ := hb.slice
  refine of_wpf (open_pure rfl fc_law0_SameActs rfl (Nat.le_of_ble_eq_true rfl) ?_)
  by_cases hlen : xs.length = ys.length
  · simp [hlen]
    refine wp_nxt (wp_for (fun k e H' => ∃ i, k = ys.length - i ∧ i ≤ ys.length ∧ H' = H.roAll ∧ e 5 = .int .i64 (i : Int) ∧ e 0 = .slice p ys.length c ∧ e 1 = .slice q ys.length d ∧ xs.take i = ys.take i) ys.length ⟨0, by simp⟩ ?_)
    rintro k e H' ⟨i, rfl, hi, rfl, h5, h0, h1, heq⟩
    by_cases hlt2 : i < ys.length
    · have hlt : i < xs.length := by omega
      have w1 := wrap_succ (i := i) (by omega)
      obtain ⟨b, o, rfl, hb1, k0⟩ := rows_act ha.roAll hlt
      obtain ⟨b2, o2, rfl, hb2, j0⟩ := rows_act hb.roAll hlt2
      have hst : xs[i] = ys[i] → xs.take (i + 1) = ys.take (i + 1) := fun h => by
        rw [List.take_succ_eq_append_getElem hlt, List.take_succ_eq_append_getElem hlt2, heq, h]
      have hne : xs[i] ≠ ys[i] → xs ≠ ys := fun hn he => hn (by subst he; rfl)
      generalize xs[i] = x at *
      generalize ys[i] = y at *
      have hce := cellsEq_act x y
      by_cases he : x = y
      · have hst' := hst he
        subst he
        simp [c_law0_SameActs_l8, h5, h0, h1, hlt2, k0, j0, hce]
        exact ⟨ys.length - (i + 1), by omega, i + 1, rfl, by omega, w1, hst'⟩
      · simp [c_law0_SameActs_l8, h5, h0, h1, hlt2, k0, j0, hce, he, hne he]
    · obtain rfl : i = ys.length := by omega
      have heq' : xs = ys := by
        rw [List.take_length, List.take_of_length_le (by omega)] at heq; exact heq
      simp [c_law0_SameActs_l8, h5, h0, h1, heq']
  · have : ¬ ((xs.length : Int) = (ys.length : Int)) := by omega
    have hne : xs ≠ ys := fun h => hlen (by rw [h])
    simp [hlen, this, hne]
/-! ### cutting -/
def cutL (l : List UInt8) (c : UInt8) : List UInt8 × List UInt8 × Bool := if 0 ≤ Lib.indexByte l c then (l.take (Lib.indexByte l c).toNat, l.drop ((Lib.indexByte l c).toNat + 1), true) else (l, [], false)
theorem indexByte_lt (l : List UInt8) (c : UInt8) (h : 0 ≤ Lib.indexByte l c) : (Lib.indexByte l c).toNat < l.length := by
  induction l with
  | nil => simp [Lib.indexByte] at h
  | cons b l ih =>
    unfold Lib.indexByte at h ⊢
    split
    · simp
    · rename_i hb
      rw [if_neg hb] at h
      split
      · rename_i h1; rw [if_pos h1] at h; omega
      · rename_i h1; rw [if_neg h1] at h
        have hg := Lib.indexByte_ge l c
        have h2 : Lib.indexByte l c ≠ -1 := by simpa using h1
        have := ih (by omega)
        simp only [List.length_cons]; omega
theorem cut_lite (l : List UInt8) (c : UInt8) (hl : l.length ≤ 140737488355328) (H : Heap) : call K f_internal_stringslite_Cut [.string (S l), .string ⟨#[c]⟩] H = some (.tuple #[.string (S (cutL l c).1), .string (S (cutL l c).2.1), .bool (cutL l c).2.2], H) := by
  refine of_wpf (open_plain rfl fc_internal_stringslite_Cut rfl (Nat.le_of_ble_eq_true rfl) ?_)
  have hi := fun G => index_ok (S l) c G
  simp only [show (S l).data.toList = l from rfl] at hi
  have hsz : (S l).size = l.length := S_size l
  by_cases h0 : 0 ≤ Lib.indexByte l c
  · obtain ⟨i, hi2⟩ := Int.eq_ofNat_of_zero_le h0
    have hlt := indexByte_lt l c h0
    have hcut : cutL l c = (l.take i, l.drop (i + 1), true) := by unfold cutL; rw [if_pos h0, hi2]; rfl
    rw [hi2] at hi hlt
    have hlt' : i < l.length := hlt
    rw [hcut]
    have w1 := wrap_succ (i := i) (by omega)
    have e1 : slsV (S l) none (some (.int .i64 (i : Int))) = some (.string (S (l.take i))) := by
      simp only [slsV, bound, natOf]
      rw [if_pos (by omega), Int.toNat_natCast]
      simp only
      rw [if_pos ⟨by omega, by omega⟩]
      congr 2
      apply L_inj; rw [L_extract, L_S, L_S]; simp
    have e2 : slsV (S l) (some (.int .i64 ((i + 1 : Nat) : Int))) none = some (.string (S (l.drop (i + 1)))) := by
      simp only [slsV, bound, natOf]
      rw [if_pos (by omega), Int.toNat_natCast]
      simp only
      rw [if_pos ⟨by omega, by omega⟩]
      congr 2
      apply L_inj; rw [L_extract, L_S, L_S, hsz]
      rw [List.take_of_length_le (by rw [List.length_drop]; omega)]
    have e2' : slsV (S l) (some (.int .i64 ((i : Int) + 1))) none = some (.string (S (l.drop (i + 1)))) := by simpa using e2
    have s1 : (⟨#[c]⟩ : ByteArray).size = 1 := rfl
    simp [hi, e1, e2', w1, s1]
  · have hcut : cutL l c = (l, [], false) := by unfold cutL; rw [if_neg h0]
    rw [hcut]
    simp [hi, h0]
    rfl
end Go.AM
