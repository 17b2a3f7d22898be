/- Contracts: what is spoilt. -/
import Derived.Test.YteamlnogjjgdoaaR3L
namespace Go.AM
open Go.Proofs
set_option linter.unusedVariables false
set_option linter.unusedSimpArgs false
set_option maxRecDepth 100000
attribute [-simp] ByteArray.size_eq_zero_iff
/-- A slice whose elements have a number in a cell; nobody may be harmed by a write there. -/
def NumC (n0 esz off : Nat) (H : Heap) (v : Value) : Prop :=
  v = .slice none 0 0 ∨ ∃ b n c B, v = .slice (some ⟨b, 0, none⟩) n c ∧ n0 ≤ b ∧ b < H.next ∧ n ≤ 140737488355328 ∧ H.blk b = some B ∧ B.ro = false ∧ ∀ i, i < n → ∃ x : Int, B.at_ (i * esz + off) = some (.int .i64 x)
theorem NumC.put {n0 esz off : Nat} {H : Heap} {u : Value} (h : NumC n0 esz off H u) {b : Nat} {B : Blk} (hB : H.blk b = some B) (hro : B.ro = false) (k : Nat) (y : Int) : NumC n0 esz off (H.set b (some (B.put k (.int .i64 y)))) u := by
  rcases h with rfl | ⟨b2, n, c, B2, rfl, h1, h2, h3, h4, h5, h6⟩
  · exact .inl rfl
  · by_cases hb : b2 = b
    · subst hb
      rw [hB] at h4; cases h4
      refine .inr ⟨b2, n, c, _, rfl, h1, h2, h3, blk_set_self _ _ _, hro, fun i hi => ?_⟩
      rw [at_put]
      split
      · exact ⟨y, rfl⟩
      · exact h6 i hi
    · exact .inr ⟨b2, n, c, B2, rfl, h1, h2, h3, by rw [blk_set_ne hb]; exact h4, h5, h6⟩
theorem Own.numI {n0 : Nat} {H : Heap} {v : Value} {xs : List Img} (h : Own encI 2 n0 H v xs) : NumC n0 2 0 H v := by
  rcases h.is with ⟨rfl, _⟩ | ⟨b, B, rfl, h2, h3, h4, h5, _⟩
  · exact .inl rfl
  · by_cases hne : xs = []
    · subst hne; exact .inr ⟨b, 0, _, B, rfl, h2, h3, by omega, h4, h5, fun i hi => by omega⟩
    · obtain ⟨b', B', e, _, _, hB, _, hat, _⟩ := h.blkOf encI_len hne
      cases e
      rw [h4] at hB; cases hB
      exact .inr ⟨b, _, _, B, rfl, h2, h3, h.lim, h4, h5, fun i hi => ⟨xs[i].1, by rw [hat i hi 0 (by omega)]; rfl⟩⟩
theorem Own.numR {n0 : Nat} {H : Heap} {v : Value} {xs : List Rec} (h : Own encR 4 n0 H v xs) : NumC n0 4 1 H v := by
  rcases h.is with ⟨rfl, _⟩ | ⟨b, B, rfl, h2, h3, h4, h5, _⟩
  · exact .inl rfl
  · by_cases hne : xs = []
    · subst hne; exact .inr ⟨b, 0, _, B, rfl, h2, h3, by omega, h4, h5, fun i hi => by omega⟩
    · obtain ⟨b', B', e, _, _, hB, _, hat, _⟩ := h.blkOf encR_len hne
      cases e
      rw [h4] at hB; cases hB
      exact .inr ⟨b, _, _, B, rfl, h2, h3, h.lim, h4, h5, fun i hi => ⟨xs[i].2.1, by rw [hat i hi 1 (by omega)]; rfl⟩⟩
theorem spoilI_ok {n0 : Nat} {H : Heap} {v : Value} (h : NumC n0 2 0 H v) : wpf (call K f_law0_SpoilImages [v] H) fun r H' => H'.next = H.next ∧ (∀ b, NotIn v b → H'.blk b = H.blk b) ∧ ∀ u, NumC n0 2 0 H u → NumC n0 2 0 H' u := by
  refine open_plain rfl fc_law0_SpoilImages rfl (Nat.le_of_ble_eq_true rfl) ?_
  rcases h with rfl | ⟨b, n, c, B, rfl, h1, h2, h3, h4, h5, h6⟩
  · simp
    refine wp_for (fun d e G => G = H ∧ e 0 = .slice none 0 0 ∧ e 2 = .int .i64 0) 0 ⟨rfl, by simp, by simp⟩ ?_
    rintro d e G ⟨rfl, h0, h2⟩
    simp [c_law0_SpoilImages_l4, h0, h2]
  · simp
    refine wp_for (fun d e G => ∃ i : Nat, d = n - i ∧ i ≤ n ∧ e 0 = .slice (some ⟨b, 0, none⟩) n c ∧ e 2 = .int .i64 (i : Int) ∧ G.next = H.next ∧ (∀ k, k ≠ b → G.blk k = H.blk k) ∧ NumC n0 2 0 G (.slice (some ⟨b, 0, none⟩) n c) ∧ ∀ u, NumC n0 2 0 H u → NumC n0 2 0 G u) n ⟨0, by simp, by simp, by simp, by simp, rfl, fun _ _ => rfl, .inr ⟨b, n, c, B, rfl, h1, h2, h3, h4, h5, h6⟩, fun _ h => h⟩ ?_
    rintro d e G ⟨i, rfl, hi, h0, h2', hnx, hfr, hN, hall⟩
    by_cases hlt : i < n
    · rcases id hN with hh | ⟨b', n', c', B', e', g1, g2, g3, g4, g5, g6⟩
      · cases hh
      · cases e'
        obtain ⟨x, hx⟩ := g6 i hlt
        simp at hx
        have hcb : ∀ o, G.cell b o = B'.at_ o := fun o => by simp only [Heap.cell, g4]
        simp [c_law0_SpoilImages_l4, h0, h2', hlt, hcb, hx, g4, g5]
        exact ⟨n - (i + 1), by omega, i + 1, rfl, hlt, wrap_succ (by omega), hnx, fun k hk => by simp only [hk, if_false]; exact hfr k hk, hN.put g4 g5 _ _, fun u hu => (hall u hu).put g4 g5 _ _⟩
    · obtain rfl : i = n := by omega
      simp [c_law0_SpoilImages_l4, h0, h2']
      exact ⟨hnx, fun k hk => hfr k (hk _ _ _ rfl), hall⟩
theorem spoilR_ok {n0 : Nat} {H : Heap} {v : Value} (h : NumC n0 4 1 H v) : wpf (call K f_law0_SpoilRecords [v] H) fun r H' => H'.next = H.next ∧ (∀ b, NotIn v b → H'.blk b = H.blk b) ∧ ∀ u, NumC n0 4 1 H u → NumC n0 4 1 H' u := by
  refine open_plain rfl fc_law0_SpoilRecords rfl (Nat.le_of_ble_eq_true rfl) ?_
  rcases h with rfl | ⟨b, n, c, B, rfl, h1, h2, h3, h4, h5, h6⟩
  · simp
    refine wp_for (fun d e G => G = H ∧ e 0 = .slice none 0 0 ∧ e 2 = .int .i64 0) 0 ⟨rfl, by simp, by simp⟩ ?_
    rintro d e G ⟨rfl, h0, h2⟩
    simp [c_law0_SpoilRecords_l4, h0, h2]
  · simp
    refine wp_for (fun d e G => ∃ i : Nat, d = n - i ∧ i ≤ n ∧ e 0 = .slice (some ⟨b, 0, none⟩) n c ∧ e 2 = .int .i64 (i : Int) ∧ G.next = H.next ∧ (∀ k, k ≠ b → G.blk k = H.blk k) ∧ NumC n0 4 1 G (.slice (some ⟨b, 0, none⟩) n c) ∧ ∀ u, NumC n0 4 1 H u → NumC n0 4 1 G u) n ⟨0, by simp, by simp, by simp, by simp, rfl, fun _ _ => rfl, .inr ⟨b, n, c, B, rfl, h1, h2, h3, h4, h5, h6⟩, fun _ h => h⟩ ?_
    rintro d e G ⟨i, rfl, hi, h0, h2', hnx, hfr, hN, hall⟩
    by_cases hlt : i < n
    · rcases id hN with hh | ⟨b', n', c', B', e', g1, g2, g3, g4, g5, g6⟩
      · cases hh
      · cases e'
        obtain ⟨x, hx⟩ := g6 i hlt
        have hcb : ∀ o, G.cell b o = B'.at_ o := fun o => by simp only [Heap.cell, g4]
        simp [c_law0_SpoilRecords_l4, h0, h2', hlt, hcb, hx, g4, g5]
        exact ⟨n - (i + 1), by omega, i + 1, rfl, hlt, wrap_succ (by omega), hnx, fun k hk => by simp only [hk, if_false]; exact hfr k hk, hN.put g4 g5 _ _, fun u hu => (hall u hu).put g4 g5 _ _⟩
    · obtain rfl : i = n := by omega
      simp [c_law0_SpoilRecords_l4, h0, h2']
      exact ⟨hnx, fun k hk => hfr k (hk _ _ _ rfl), hall⟩
end Go.AM
