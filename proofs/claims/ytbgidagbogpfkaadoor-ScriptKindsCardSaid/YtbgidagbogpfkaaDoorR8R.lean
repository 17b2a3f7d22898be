import Derived.Test.YtbgidagbogpfkaaDoorR8CodeL
import Derived.Test.YtbgidagbogpfkaaDoorR8Q
/- The statement ScriptRows. -/
namespace Go.AM
open Go.Proofs
set_option linter.unusedVariables false
set_option linter.unusedSimpArgs false
set_option maxRecDepth 100000
attribute [-simp] ByteArray.size_eq_zero_iff Heap.store Heap.row
theorem showL_app (a b : List Ac) : showL (a ++ b) = showL a ++ showL b := by simp [showL]
theorem showS_good {xs : List Ac} (h1 : xs.length ≤ 256) (h2 : xs.all mayB = true) : showS xs = (S (showL xs), 0) := by unfold showS; rw [if_pos ⟨h1, h2⟩]
theorem showS_not {xs : List Ac} (h : (showS xs).2 ≠ 0) : showS xs = (⟨#[]⟩, 2400) := by
  unfold showS at h ⊢
  split
  · rename_i hc; rw [if_pos hc] at h; exact absurd rfl h
  · rfl
theorem show_split {xs : List Ac} (hl : xs.length ≤ 200) (k : Nat) : (((showS (xs.take k)).2 ≠ 0 ∨ (showS (xs.drop k)).2 ≠ 0) → showS xs = (⟨#[]⟩, 2400)) ∧
    ((showS (xs.take k)).2 = 0 → (showS (xs.drop k)).2 = 0 → showS xs = ((showS (xs.take k)).1 ++ (showS (xs.drop k)).1, 0) ∧ (showS (xs.take k)).1.size ≤ 1000000 ∧ (showS (xs.drop k)).1.size ≤ 1000000) := by
  have h1 : (xs.take k).length ≤ 200 := by rw [List.length_take]; omega
  have h2 : (xs.drop k).length ≤ 200 := by rw [List.length_drop]; omega
  have hall : xs.all mayB = ((xs.take k).all mayB && (xs.drop k).all mayB) := by rw [← List.all_append, List.take_append_drop]
  constructor
  · intro h
    unfold showS
    rw [if_neg]
    rintro ⟨_, h3⟩
    rw [hall, Bool.and_eq_true] at h3
    rcases h with h | h
    · rw [showS_good (by omega) h3.1] at h; exact h rfl
    · rw [showS_good (by omega) h3.2] at h; exact h rfl
  · intro e1 e2
    obtain ⟨a1, a2, a3⟩ := showS_ok (show showS (xs.take k) = ((showS (xs.take k)).1, 0) from Prod.ext rfl e1)
    obtain ⟨b1, b2, b3⟩ := showS_ok (show showS (xs.drop k) = ((showS (xs.drop k)).1, 0) from Prod.ext rfl e2)
    have l1 := showL_len _ fun a ha => MayP.of (List.all_eq_true.1 a2 a ha)
    have l2 := showL_len _ fun a ha => MayP.of (List.all_eq_true.1 b2 a ha)
    refine ⟨?_, by rw [a3, S_size]; omega, by rw [b3, S_size]; omega⟩
    rw [a3, b3, S_app, ← showL_app, List.take_append_drop]
    exact showS_good (by omega) (by rw [hall, a2, b2]; rfl)
theorem rows_take {H : Heap} {p : Option Addr} {n c : Nat} {xs : List Ac} (h : Rows encA 10 H (.slice p n c) xs) {k : Nat} (hk : k ≤ xs.length) : ∃ u, slvV H 10 (.slice p n c) none (some (.int .i64 (k : Int))) none = some u ∧ Rows encA 10 H u (xs.take k) := by
  obtain ⟨l, q, d, e, hp⟩ := h
  cases e
  rcases hp with ⟨rfl, rfl, rfl⟩ | ⟨b, o, rfl, h2, h3, h4⟩
  · obtain rfl : k = 0 := by simpa using hk
    exact ⟨.slice none 0 0, rfl, by simpa using Rows.nil⟩
  · refine ⟨.slice (some ⟨b, o, none⟩) k c, ?_, by rw [List.length_take]; omega, some ⟨b, o, none⟩, c, by rw [List.length_take, Nat.min_eq_left hk], .inr ⟨b, o, rfl, h2, by rw [List.length_take]; omega, fun i hi j hj => ?_⟩⟩
    · have hm : 2 * (c / 2) + c % 2 = c := by omega
      simp only [slvV, bound, natOf]
      rw [if_pos (by omega), Int.toNat_natCast]
      simp only
      rw [if_pos ⟨by omega, by omega, by omega, by simp⟩]
      simp [hm]
    · rw [List.length_take] at hi
      rw [h4 i (by omega) j hj]
      congr 2
      rw [List.getElem_take]
theorem rows_drop {H : Heap} {p : Option Addr} {n c : Nat} {xs : List Ac} (h : Rows encA 10 H (.slice p n c) xs) (hz : ∀ b o n' c', Value.slice p n c = .slice (some ⟨b, o, none⟩) n' c' → n' = 0 ∨ H.eszIs b 10 = true) {k : Nat} (hk : k ≤ xs.length) : ∃ u, slvV H 10 (.slice p n c) (some (.int .i64 (k : Int))) none none = some u ∧ Rows encA 10 H u (xs.drop k) := by
  obtain ⟨l, q, d, e, hp⟩ := h
  cases e
  rcases hp with ⟨rfl, rfl, rfl⟩ | ⟨b, o, rfl, h2, h3, h4⟩
  · obtain rfl : k = 0 := by simpa using hk
    exact ⟨.slice none 0 0, rfl, by simpa using Rows.nil⟩
  · refine ⟨.slice (some ⟨b, o + k * 10, none⟩) (xs.length - k) (2 * (c / 2 - k) + c % 2), ?_, by rw [List.length_drop]; omega, some ⟨b, o + k * 10, none⟩, _, by rw [List.length_drop], .inr ⟨b, o + k * 10, rfl, h2, by rw [List.length_drop]; omega, fun i hi j hj => ?_⟩⟩
    · simp only [slvV, bound, natOf]
      rw [if_pos (by omega), Int.toNat_natCast]
      simp only
      rw [if_pos ⟨by omega, by omega, by omega, by simp⟩]
      have hcond : (k == 0 || H.eszIs b 10) = true := by
        rcases hz b o _ _ rfl with h | h
        · have : k = 0 := by omega
          subst this; rfl
        · rw [h, Bool.or_true]
      rw [if_pos hcond]
      simp
    · rw [List.length_drop] at hi
      have := h4 (k + i) (by omega) j hj
      rw [show o + k * 10 + i * 10 + j = o + (k + i) * 10 + j by omega, this]
      congr 2
      rw [List.getElem_drop]
theorem rows_law (v : Value) (xs : List Ac) (cut : Int) (H : Heap) (hr : Rows encA 10 H v xs) (hz : ∀ b o n' c', v = .slice (some ⟨b, o, none⟩) n' c' → n' = 0 ∨ H.eszIs b 10 = true) : call K f_law24_ScriptRows [v, .int .i64 cut] H = some (.bool true, H) := by
  refine of_wpf (open_pure rfl fc_law24_ScriptRows rfl (Nat.le_of_ble_eq_true rfl) ?_)
  have ha := awake_ok H.roAll
  have hr := hr.roAll
  have hz : ∀ b o n' c', v = .slice (some ⟨b, o, none⟩) n' c' → n' = 0 ∨ H.roAll.eszIs b 10 = true := fun b o n' c' h => (hz b o n' c' h).imp id fun h => by
    simp only [Heap.eszIs, blk_roAll] at h ⊢
    cases hb : H.blk b with
    | none => rw [hb] at h; cases h
    | some B => rw [hb] at h; simpa using h
  generalize H.roAll = G at *
  obtain ⟨p, c, rfl⟩ := hr.slice
  by_cases hl : xs.length ≤ 200
  rotate_left
  · have hl2 : (200 : Int) < (xs.length : Int) := by omega
    simp [ha, hl2]
  have hl2 : ¬ (200 : Int) < (xs.length : Int) := by omega
  have w1 := wrap_succ (i := xs.length) (by omega)
  obtain ⟨m, hm⟩ : ∃ m : Nat, IntKind.u64.wrap cut = (m : Int) := Int.eq_ofNat_of_zero_le (by unfold IntKind.wrap; simp [IntKind.bits, IntKind.signed]; omega)
  have w2 : IntKind.u64.wrap ((xs.length + 1 : Nat) : Int) = ((xs.length + 1 : Nat) : Int) := by unfold IntKind.wrap; simp [IntKind.bits, IntKind.signed]; omega
  have hrem : binV K.P .rem 40 (.int .u64 (m : Int)) (.int .u64 ((xs.length + 1 : Nat) : Int)) = some (.int .u64 ((m % (xs.length + 1) : Nat) : Int)) := by
    rw [binV_rem _ _ _ _ _ (by omega)]; simp [Int.tmod_eq_emod_of_nonneg]
  have hklt : m % (xs.length + 1) < xs.length + 1 := Nat.mod_lt _ (by omega)
  have w3 : IntKind.i64.wrap ((m % (xs.length + 1) : Nat) : Int) = ((m % (xs.length + 1) : Nat) : Int) := wrap_i64 (by omega) (by omega)
  generalize m % (xs.length + 1) = k at *
  generalize hN : xs.length + 1 = N at *
  obtain ⟨u1, s1, r1⟩ := rows_take hr (k := k) (by omega)
  obtain ⟨u2, s2, r2⟩ := rows_drop hr hz (k := k) (by omega)
  have h1 := show_ok _ _ _ r1
  have h2 := show_ok _ _ _ r2
  have h3 := show_ok _ _ _ hr
  rw [showV_eq] at h1 h2 h3
  obtain ⟨bad, good⟩ := show_split hl k
  by_cases e1 : (showS (xs.take k)).2 = 0
  · by_cases e2 : (showS (xs.drop k)).2 = 0
    · obtain ⟨g1, g2, g3⟩ := good e1 e2
      obtain ⟨w, Gw, p1, p2, E1⟩ := parse_ok' ((showS (xs.take k)).1 ++ (showS (xs.drop k)).1) (by rw [size_append]; omega) G
      rw [parseS_shown g1] at p1 p2
      have hsame := sameActs_ok w (.slice p xs.length c) xs xs Gw p2 (hr.ext E1) (by omega)
      have hadd := binV_sadd K.P 9 (showS (xs.take k)).1 (showS (xs.drop k)).1 (by omega)
      rw [g1] at h3
      simp [ha, hl2, w1, hm, w2, hrem, w3, s1, s2, h1, h2, h3, e1, e2, hadd, p1, hsame]
    · have g1 := bad (.inr e2)
      rw [g1] at h3
      simp [ha, hl2, w1, hm, w2, hrem, w3, s1, s2, h1, h2, h3, e1, e2]
  · have g1 := bad (.inl e1)
    rw [g1] at h3
    simp [ha, hl2, w1, hm, w2, hrem, w3, s1, s2, h1, h2, h3, e1]
end Go.AM
