/- Contracts: comparisons. -/
import Derived.Test.YtiiliffoclejlaaR6D
namespace Go.AM
open Go.Proofs
set_option linter.unusedVariables false
set_option linter.unusedSimpArgs false
set_option maxRecDepth 100000
attribute [-simp] ByteArray.size_eq_zero_iff
theorem sameTexts_ok (va vb : Value) (xs ys : List ByteArray) (H : Heap) (ha : Strs H va xs) (hb : Strs H vb ys) : call K f_law0_SameTexts [va, vb] H = some (.bool (decide (xs = ys)), H) := by
  obtain ⟨p, c, rfl⟩ := ha.slice
  obtain ⟨q, d, rfl⟩ := hb.slice
  have hl := ha.lim
  refine of_wpf (open_pure rfl fc_law0_SameTexts rfl (Nat.le_of_ble_eq_true rfl) ?_)
  by_cases hlen : xs.length = ys.length
  · simp [hlen]
    refine wp_nxt (wp_for (fun k e H' => ∃ i, k = ys.length - i ∧ i ≤ ys.length ∧ H' = H.roAll ∧ e 5 = .int .i64 (i : Int) ∧ e 0 = .slice p ys.length c ∧ e 1 = .slice q ys.length d ∧ xs.take i = ys.take i) ys.length ⟨0, by simp⟩ ?_)
    rintro k e H' ⟨i, rfl, hi, rfl, h5, h0, h1, heq⟩
    by_cases hlt2 : i < ys.length
    · have hlt : i < xs.length := by omega
      obtain ⟨b, o, rfl, hb1, k0⟩ := ha.at1 hlt
      obtain ⟨b2, o2, rfl, hb2, j0⟩ := hb.at1 hlt2
      have hst := take_succ_eq hlt hlt2
      have hne : xs[i] ≠ ys[i] → xs ≠ ys := fun hn he => hn (by subst he; rfl)
      generalize xs[i] = x at *
      generalize ys[i] = y at *
      simp at k0 j0
      by_cases he : x = y
      · subst he
        simp [c_law0_SameTexts_l8, h5, h0, h1, hlt, hlt2, k0, j0]
        exact ⟨ys.length - (i + 1), by omega, i + 1, rfl, hlt2, wrap_succ (by omega), hst.2 ⟨heq, rfl⟩⟩
      · have hd : ¬ (x = y) := fun hh => he (hh)
        have hf := hne he
        simp [c_law0_SameTexts_l8, h5, h0, h1, hlt, hlt2, k0, j0, hd, hf]
        
    · have : i = ys.length := by omega
      subst this
      simp [c_law0_SameTexts_l8, h5, h0]
      rw [List.take_length, ← hlen, List.take_length] at heq
      exact heq
  · simp [hlen]
    intro h
    subst h
    exact hlen rfl
theorem sameImages_ok (va vb : Value) (xs ys : List Img) (H : Heap) (ha : Imgs H va xs) (hb : Imgs H vb ys) : call K f_law0_SameImages [va, vb] H = some (.bool (decide (xs = ys)), H) := by
  obtain ⟨p, c, rfl⟩ := ha.slice
  obtain ⟨q, d, rfl⟩ := hb.slice
  have hl := ha.lim
  refine of_wpf (open_pure rfl fc_law0_SameImages rfl (Nat.le_of_ble_eq_true rfl) ?_)
  by_cases hlen : xs.length = ys.length
  · simp [hlen]
    refine wp_nxt (wp_for (fun k e H' => ∃ i, k = ys.length - i ∧ i ≤ ys.length ∧ H' = H.roAll ∧ e 5 = .int .i64 (i : Int) ∧ e 0 = .slice p ys.length c ∧ e 1 = .slice q ys.length d ∧ xs.take i = ys.take i) ys.length ⟨0, by simp⟩ ?_)
    rintro k e H' ⟨i, rfl, hi, rfl, h5, h0, h1, heq⟩
    by_cases hlt2 : i < ys.length
    · have hlt : i < xs.length := by omega
      obtain ⟨b, o, rfl, hb1, k0, k1⟩ := ha.at2 hlt
      obtain ⟨b2, o2, rfl, hb2, j0, j1⟩ := hb.at2 hlt2
      have hst := take_succ_eq hlt hlt2
      have hne : xs[i] ≠ ys[i] → xs ≠ ys := fun hn he => hn (by subst he; rfl)
      generalize xs[i] = x at *
      generalize ys[i] = y at *
      simp at k0 k1 j0 j1
      by_cases he : x = y
      · subst he
        simp [c_law0_SameImages_l8, h5, h0, h1, hlt, hlt2, k0, k1, j0, j1]
        exact ⟨ys.length - (i + 1), by omega, i + 1, rfl, hlt2, wrap_succ (by omega), hst.2 ⟨heq, rfl⟩⟩
      · have hd0 : ¬ (x.1 = y.1 ∧ x.2 = y.2) := fun hh => he (Prod.ext hh.1 hh.2)
        have hd : ¬ x.1 = y.1 ∨ ¬ x.2 = y.2 := by simpa only [Classical.not_and_iff_not_or_not] using hd0
        have hf := hne he
        simp [c_law0_SameImages_l8, h5, h0, h1, hlt, hlt2, k0, k1, j0, j1, hd, hf]
        
    · have : i = ys.length := by omega
      subst this
      simp [c_law0_SameImages_l8, h5, h0]
      rw [List.take_length, ← hlen, List.take_length] at heq
      exact heq
  · simp [hlen]
    intro h
    subst h
    exact hlen rfl
/-- A slice of slices of images. -/
def Txns (H : Heap) (v : Value) (xss : List (List Img)) : Prop := ∃ vs : List Value, Rows (fun v : Value => [v]) 1 H v vs ∧ All2 (fun v xs => Imgs H v xs) vs xss
theorem All2.at_ {α β : Type} {R : α → β → Prop} {us : List α} {ws : List β} (h : All2 R us ws) {i : Nat} (ha : i < us.length) (hb : i < ws.length) : R us[i] ws[i] := by
  obtain ⟨b, h1, h2⟩ := h.get (List.getElem?_eq_getElem ha)
  rw [List.getElem?_eq_getElem hb] at h1; cases h1; exact h2
theorem Txns.ext {H H' : Heap} {v : Value} {xss : List (List Img)} (h : Txns H v xss) (he : Ext H H') : Txns H' v xss := by
  obtain ⟨vs, h1, h2⟩ := h
  exact ⟨vs, h1.ext he, h2.mono fun v xs hx => hx.ext he⟩
end Go.AM
