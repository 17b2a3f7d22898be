/- Contracts: images, texts. -/
import Derived.Test.YtiiliffoclejlaaR6A
namespace Go.AM
open Go.Proofs
set_option linter.unusedVariables false
set_option linter.unusedSimpArgs false
set_option maxRecDepth 100000
attribute [-simp] ByteArray.size_eq_zero_iff
/-- May images be, behind a page? -/
def imOk : Int → List Img → Bool
  | _, [] => true
  | last, x :: xs => decide (last < x.1 ∧ (0 ≤ x.1 ∧ x.1 < 48) ∧ x.2.size ≤ 96) && imOk x.1 xs
theorem imOk_len : ∀ (xs : List Img) (last : Int), -1 ≤ last → imOk last xs = true → (xs.length : Int) ≤ 47 - last ∨ xs = []
  | [], _, _, _ => .inr rfl
  | x :: xs, last, h0, h => by
    simp [imOk] at h
    obtain ⟨⟨h1, ⟨h2, h3⟩, h4⟩, h5⟩ := h
    left
    rcases imOk_len xs x.1 (by omega) h5 with h6 | rfl
    · simp; omega
    · simp; omega
theorem imOk_48 {xs : List Img} (h : imOk (-1) xs = true) : xs.length ≤ 48 := by
  rcases imOk_len xs (-1) (by omega) h with h | rfl
  · omega
  · simp
theorem images_ok (v : Value) (xs : List Img) (H : Heap) (h : Imgs H v xs) : call K f_log_Images [v] H = some (.bool (imOk (-1) xs), H) := by
  obtain ⟨p, c, rfl⟩ := h.slice
  have hl := h.lim
  refine of_wpf (open_pure rfl fc_log_Images rfl (Nat.le_of_ble_eq_true rfl) ?_)
  simp
  refine wp_nxt (wp_for (fun k e G => ∃ (i : Nat) (last : Int), k = xs.length - i ∧ i ≤ xs.length ∧ Ext H.roAll G ∧ e 6 = .slice p xs.length c ∧ e 7 = .int .i64 xs.length ∧ e 8 = .int .i64 (i : Int) ∧ e 3 = .int .i64 last ∧ imOk last (xs.drop i) = imOk (-1) xs) xs.length ⟨0, -1, by simp [Ext.refl]⟩ ?_)
  rintro k e G ⟨i, last, rfl, hi, hE, h6, h7, h8, h3, hok⟩
  by_cases hlt : i < xs.length
  · obtain ⟨b, o, rfl, hb, k0, k1⟩ := h.roAll.at2 hlt
    have hn := hE.next
    have hb' : b ≠ G.next := by simp at hb hn; omega
    rw [← hE.cell (o := _) hb] at k0 k1
    simp [-cell_roAll] at k0 k1
    rw [List.drop_eq_getElem_cons hlt] at hok
    generalize hx : xs[i] = x at *
    obtain ⟨pg, tx⟩ := x
    simp only [imOk] at hok
    by_cases c1 : pg ≤ last
    · have c1' : ¬ last < pg := by omega
      simp [c_log_Images_l9, h6, h7, h8, h3, hlt, k0, k1, hb', c1] at hok ⊢
      simp [c1'] at hok; exact hok
    · by_cases c2 : 0 ≤ pg ∧ pg < 48
      · by_cases c3 : tx.size ≤ 96
        · have c3' : ¬ (96 < (tx.size : Int)) := by omega
          have c1' : last < pg := by omega
          simp [c_log_Images_l9, h6, h7, h8, h3, hlt, k0, k1, hb', c1, c2, c3, c3', c1'] at hok ⊢
          exact ⟨xs.length - (i + 1), by omega, i + 1, rfl, hlt, (hE.add _).set hn _, wrap_succ (by omega), hok⟩
        · have c3' : (96 < (tx.size : Int)) := by omega
          simp [c_log_Images_l9, h6, h7, h8, h3, hlt, k0, k1, hb', c1, c2, c3, c3'] at hok ⊢
          exact hok
      · simp [c_log_Images_l9, h6, h7, h8, h3, hlt, k0, k1, hb', c1, c2] at hok ⊢
        exact hok
  · have : i = xs.length := by omega
    subst this
    simp [c_log_Images_l9, h6, h7, h8] at hok ⊢
    simpa [imOk] using hok
theorem rimages_ok (v : Value) (xs : List Img) (H : Heap) (h : Imgs H v xs) : call K f_ref1_ImagesMay [v] H = some (.bool (imOk (-1) xs), H) := by
  obtain ⟨p, c, rfl⟩ := h.slice
  have hl := h.lim
  refine of_wpf (open_pure rfl fc_ref1_ImagesMay rfl (Nat.le_of_ble_eq_true rfl) ?_)
  simp
  refine wp_nxt (wp_for (fun k e G => ∃ (i : Nat) (last : Int), k = xs.length - i ∧ i ≤ xs.length ∧ G = H.roAll ∧ e 0 = .slice p xs.length c ∧ e 3 = .int .i64 (i : Int) ∧ (i = 0 → last = -1) ∧ (∀ j (hj : j < xs.length), j + 1 = i → last = xs[j].1) ∧ imOk last (xs.drop i) = imOk (-1) xs) xs.length ⟨0, -1, by simp⟩ ?_)
  rintro k e G ⟨i, last, rfl, hi, rfl, h6, h8, hL0, hL1, hok⟩
  by_cases hlt : i < xs.length
  · obtain ⟨b, o, rfl, hb, k0, k1⟩ := h.at2 hlt
    simp at k0 k1
    rw [List.drop_eq_getElem_cons hlt] at hok
    generalize hx : xs[i] = x at *
    obtain ⟨pg, tx⟩ := x
    simp only [imOk] at hok
    by_cases c1 : pg < 0
    · have c1' : ¬ 0 ≤ pg := by omega
      simp [c_ref1_ImagesMay_l6, h6, h8, hlt, k0, k1, c1, c1'] at hok ⊢
      exact hok
    · by_cases c2 : 48 ≤ pg
      · have c2' : ¬ pg < 48 := by omega
        simp [c_ref1_ImagesMay_l6, h6, h8, hlt, k0, k1, c1, c2, c2'] at hok ⊢
        exact hok
      · have c1' : 0 ≤ pg := by omega
        have c2' : pg < 48 := by omega
        by_cases c3 : tx.size ≤ 96
        · by_cases c4 : i = 0
          · obtain rfl := hL0 c4
            have c5 : -1 < pg := by omega
            have c6 : ¬ 0 < i := by omega
            simp [c_ref1_ImagesMay_l6, h6, h8, hlt, k0, k1, c1, c2, c3, c1', c2', c5, c6] at hok ⊢
            refine ⟨xs.length - (i + 1), by omega, i + 1, rfl, hlt, wrap_succ (by omega), pg, fun h => by omega, fun j hj hj0 => ?_, hok⟩
            obtain rfl : j = i := by omega
            rw [hx]
          · obtain ⟨j, hij⟩ : ∃ j, i = j + 1 := ⟨i - 1, by omega⟩
            have hj : j < xs.length := by omega
            obtain ⟨b2, o2, hp2, _, k2, _⟩ := h.at2 hj
            cases hp2
            have hw : IntKind.i64.wrap ((i : Int) - 1) = (j : Int) := by rw [wrap_i64 (by omega) (by omega)]; omega
            simp at k2
            rw [← hL1 j hj hij.symm] at k2
            have c6 : 0 < i := by omega
            by_cases c5 : last < pg
            · have c5' : ¬ pg ≤ last := by omega
              simp [c_ref1_ImagesMay_l6, h6, h8, hlt, hj, hw, k0, k1, k2, c1, c2, c3, c1', c2', c5, c5', c6] at hok ⊢
              refine ⟨xs.length - (i + 1), by omega, i + 1, rfl, hlt, wrap_succ (by omega), pg, fun h => by omega, fun j hj hj0 => ?_, hok⟩
              obtain rfl : j = i := by omega
              rw [hx]
            · have c5' : pg ≤ last := by omega
              simp [c_ref1_ImagesMay_l6, h6, h8, hlt, hj, hw, k0, k1, k2, c1, c2, c3, c1', c2', c5, c5', c6] at hok ⊢
              exact hok
        · simp [c_ref1_ImagesMay_l6, h6, h8, hlt, k0, k1, c1, c2, c3, c1', c2'] at hok ⊢
          exact hok
  · have : i = xs.length := by omega
    subst this
    simp [c_ref1_ImagesMay_l6, h6, h8] at hok ⊢
    have hy : imOk (-1) xs = true := by rw [← hok]; rfl
    have := imOk_48 hy
    rw [hy]; simp; omega
end Go.AM
