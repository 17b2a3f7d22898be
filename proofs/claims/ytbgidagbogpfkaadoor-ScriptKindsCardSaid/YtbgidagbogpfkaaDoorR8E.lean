import Derived.Test.YtbgidagbogpfkaaDoorR8D
/- What may be of an act: both texts say the same. -/
namespace Go.AM
set_option linter.unusedVariables false
set_option linter.unusedSimpArgs false
set_option maxRecDepth 100000
attribute [-simp] ByteArray.size_eq_zero_iff Heap.store Heap.row
theorem wordB_iff (k : Int) (i : Nat) (w : ByteArray) : wordB k i w = true ↔ w.size ≤ 8 ∧ (w = ⟨#[]⟩ ∨ digB k i = true) := by
  simp [wordB]
theorem empty_le : (⟨#[]⟩ : ByteArray).size ≤ 8 := by decide
def digs (k : Int) : List Bool := (List.range 5).map (digB k)
theorem digs_at {k : Int} {a b c d e : Bool} (h : digs k = [a, b, c, d, e]) : digB k 0 = a ∧ digB k 1 = b ∧ digB k 2 = c ∧ digB k 3 = d ∧ digB k 4 = e := by
  simp [digs, List.range_succ] at h
  exact h
theorem words_iff (a : Ac) {x y z u v : Bool} (h : digs a.kind = [x, y, z, u, v]) : ((List.range 5).all fun i => wordB a.kind i ((ws a).getD i ⟨#[]⟩)) = true ↔
    (a.name.size ≤ 8 ∧ a.parent.size ≤ 8 ∧ a.to.size ≤ 8 ∧ a.path.size ≤ 8 ∧ a.text.size ≤ 8) ∧ ((a.name = ⟨#[]⟩ ∨ x = true) ∧ (a.parent = ⟨#[]⟩ ∨ y = true) ∧ (a.to = ⟨#[]⟩ ∨ z = true) ∧ (a.path = ⟨#[]⟩ ∨ u = true) ∧ (a.text = ⟨#[]⟩ ∨ v = true)) := by
  obtain ⟨h0, h1, h2, h3, h4⟩ := digs_at h
  have e : ((List.range 5).all fun i => wordB a.kind i ((ws a).getD i ⟨#[]⟩)) = (wordB a.kind 0 a.name && (wordB a.kind 1 a.parent && (wordB a.kind 2 a.to && (wordB a.kind 3 a.path && (wordB a.kind 4 a.text && true))))) := rfl
  rw [e]
  simp only [Bool.and_eq_true, wordB_iff, h0, h1, h2, h3, h4]
  constructor
  · rintro ⟨⟨a1, a2⟩, ⟨b1, b2⟩, ⟨c1, c2⟩, ⟨d1, d2⟩, ⟨e1, e2⟩, _⟩; exact ⟨⟨a1, b1, c1, d1, e1⟩, a2, b2, c2, d2, e2⟩
  · rintro ⟨⟨a1, b1, c1, d1, e1⟩, a2, b2, c2, d2, e2⟩; exact ⟨⟨a1, a2⟩, ⟨b1, b2⟩, ⟨c1, c2⟩, ⟨d1, d2⟩, ⟨e1, e2⟩, trivial⟩
theorem named_iff (a : Ac) : a = namedA a ↔ (¬(0 < a.cut ∨ a.kind = 12) → a.keep = ⟨#[]⟩ ∧ a.torn = 0 ∧ a.at_ = 0) ∧ (¬(a.kind ≠ 9 ∧ a.kind ≠ 11 ∧ a.kind ≠ 12) → a.name = ⟨#[]⟩) ∧ (¬(a.kind = 0 ∨ a.kind = 1) → a.parent = ⟨#[]⟩) ∧ (¬ a.kind = 2 → a.to = ⟨#[]⟩) ∧
    (¬(a.kind = 5 ∨ a.kind = 6 ∨ a.kind = 7) → a.path = ⟨#[]⟩) ∧ (¬(a.kind = 4 ∨ a.kind = 5) → a.text = ⟨#[]⟩) := by
  obtain ⟨k, n, p, t, pa, tx, c, ke, to, at_⟩ := a
  simp only [namedA, Ac.mk.injEq, true_and]
  grind
theorem stops_iff (a : Ac) (hc : 0 ≤ a.cut) : stopsB a = true ↔ (¬(0 < a.cut ∨ a.kind = 12) → a.keep = ⟨#[]⟩ ∧ a.torn = 0 ∧ a.at_ = 0) ∧ (a.kind = 12 → a.cut = 0) ∧ a.keep.size ≤ 512 ∧ -1 ≤ a.torn ∧ a.torn ≤ 512 ∧ 0 ≤ a.at_ ∧ a.at_ ≤ 64 := by
  have h0 : a.keep = ⟨#[]⟩ → a.keep.size ≤ 512 := fun h => by rw [h]; decide
  unfold stopsB fromB
  by_cases h : a.kind ≠ 12 ∧ a.cut = 0
  · rw [if_pos h]
    simp only [Bool.and_eq_true, decide_eq_true_eq]
    grind
  · rw [if_neg h]
    simp only [Bool.and_eq_true, Bool.or_eq_true, decide_eq_true_eq]
    grind
set_option maxHeartbeats 1000000 in
theorem may_eq (a : Ac) : mayB a = mayR a := by
  rw [Bool.eq_iff_iff]
  unfold mayB
  by_cases hk : 0 ≤ a.kind ∧ a.kind ≤ 12
  · by_cases hc : 0 ≤ a.cut ∧ a.cut ≤ 1000
    · have cases : a.kind = 0 ∨ a.kind = 1 ∨ a.kind = 2 ∨ a.kind = 3 ∨ a.kind = 4 ∨ a.kind = 5 ∨ a.kind = 6 ∨ a.kind = 7 ∨ a.kind = 8 ∨ a.kind = 9 ∨ a.kind = 10 ∨ a.kind = 11 ∨ a.kind = 12 := by omega
      have key : ∀ (x y z u v : Bool), digs a.kind = [x, y, z, u, v] → (x = true ↔ (a.kind ≠ 9 ∧ a.kind ≠ 11 ∧ a.kind ≠ 12)) → (y = true ↔ a.kind = 0 ∨ a.kind = 1) → (z = true ↔ a.kind = 2) → (u = true ↔ (a.kind = 5 ∨ a.kind = 6 ∨ a.kind = 7)) → (v = true ↔ (a.kind = 4 ∨ a.kind = 5)) →
          ((fromB a.kind 12 && fromB a.cut 1000 && stopsB a && (List.range 5).all fun i => wordB a.kind i ((ws a).getD i ⟨#[]⟩)) = true ↔ mayR a = true) := by
        intro x y z u v hd hx hy hz hu hv
        unfold mayR
        rw [Bool.and_eq_true, Bool.and_eq_true, words_iff a hd, stops_iff a hc.1, hx, hy, hz, hu, hv]
        simp only [fromB, Bool.and_eq_true, Bool.or_eq_true, decide_eq_true_eq, named_iff]
        grind
      rcases cases with h | h | h | h | h | h | h | h | h | h | h | h | h
      · exact key true true false false false (by rw [h]; decide) (by simp [h]) (by simp [h]) (by simp [h]) (by simp [h]) (by simp [h])
      · exact key true true false false false (by rw [h]; decide) (by simp [h]) (by simp [h]) (by simp [h]) (by simp [h]) (by simp [h])
      · exact key true false true false false (by rw [h]; decide) (by simp [h]) (by simp [h]) (by simp [h]) (by simp [h]) (by simp [h])
      · exact key true false false false false (by rw [h]; decide) (by simp [h]) (by simp [h]) (by simp [h]) (by simp [h]) (by simp [h])
      · exact key true false false false true (by rw [h]; decide) (by simp [h]) (by simp [h]) (by simp [h]) (by simp [h]) (by simp [h])
      · exact key true false false true true (by rw [h]; decide) (by simp [h]) (by simp [h]) (by simp [h]) (by simp [h]) (by simp [h])
      · exact key true false false true false (by rw [h]; decide) (by simp [h]) (by simp [h]) (by simp [h]) (by simp [h]) (by simp [h])
      · exact key true false false true false (by rw [h]; decide) (by simp [h]) (by simp [h]) (by simp [h]) (by simp [h]) (by simp [h])
      · exact key true false false false false (by rw [h]; decide) (by simp [h]) (by simp [h]) (by simp [h]) (by simp [h]) (by simp [h])
      · exact key false false false false false (by rw [h]; decide) (by simp [h]) (by simp [h]) (by simp [h]) (by simp [h]) (by simp [h])
      · exact key true false false false false (by rw [h]; decide) (by simp [h]) (by simp [h]) (by simp [h]) (by simp [h]) (by simp [h])
      · exact key false false false false false (by rw [h]; decide) (by simp [h]) (by simp [h]) (by simp [h]) (by simp [h]) (by simp [h])
      · exact key false false false false false (by rw [h]; decide) (by simp [h]) (by simp [h]) (by simp [h]) (by simp [h]) (by simp [h])
    · unfold mayR
      simp only [fromB, Bool.and_eq_true, decide_eq_true_eq]
      grind
  · unfold mayR
    simp only [fromB, Bool.and_eq_true, decide_eq_true_eq]
    grind
end Go.AM
