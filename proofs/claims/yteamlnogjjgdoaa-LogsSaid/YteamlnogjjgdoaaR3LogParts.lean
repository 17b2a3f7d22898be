/- The law LogParts: true. -/
import Derived.Test.YteamlnogjjgdoaaR3LogLater
namespace Go.AM
open Go.Proofs
set_option linter.unusedVariables false
set_option linter.unusedSimpArgs false
set_option maxRecDepth 100000
attribute [-simp] ByteArray.size_eq_zero_iff
theorem recsAll_get : ∀ (xs : List Img) (s : Int) (i : Nat) (h : i < xs.length) (j : Nat), j < 4 → (recsAll xs s)[4 * i + j]? = some (recAtI xs[i] (s + 4 * i) j)
  | x :: xs, s, 0, _, j, hj => by
    rw [recsAll, List.getElem?_append_left (by rw [recsOf_len]; omega)]
    simp [recsOf, hj]
  | x :: xs, s, i + 1, h, j, hj => by
    rw [recsAll, List.getElem?_append_right (by rw [recsOf_len]; omega), recsOf_len, show 4 * (i + 1) + j - 4 = 4 * i + j by omega, recsAll_get xs (s + 4) i (by simpa using h) j hj]
    simp only [List.getElem_cons_succ]
    rw [show s + 4 + 4 * (i : Int) = s + 4 * ((i + 1 : Nat) : Int) by omega]
theorem mkRecs_get {xs : List Img} {s : Int} (hk : MkOk xs s) {i : Nat} (h : i < xs.length) {j : Nat} (hj : j < 4) : (mkRecs xs s)[4 * i + j]? = some (recAtI xs[i] (s + 4 * i) j) := by
  rw [mkRecs, if_pos hk, List.getElem?_append_left (by rw [recsAll_len]; omega), recsAll_get xs s i h j hj]
theorem mkRecs_last {xs : List Img} {s : Int} (hk : MkOk xs s) : (mkRecs xs s)[4 * xs.length]? = some (s + 4 * xs.length, 0, 4, ⟨#[]⟩) := by
  rw [mkRecs, if_pos hk, List.getElem?_append_right (by rw [recsAll_len]; omega), recsAll_len]; simp
theorem mkRecs_seq {xs : List Img} {s : Int} (hk : MkOk xs s) {k : Nat} (h : k < (mkRecs xs s).length) : (mkRecs xs s)[k].1 = s + k := by
  rw [mkRecs_len hk] at h
  have e : (mkRecs xs s)[k]? = some ((mkRecs xs s)[k]'(by rw [mkRecs_len hk]; exact h)) := List.getElem?_eq_getElem _
  by_cases hk4 : k < 4 * xs.length
  · have := mkRecs_get hk (i := k / 4) (by omega) (j := k % 4) (by omega)
    rw [show 4 * (k / 4) + k % 4 = k by omega, e] at this
    rw [Option.some.inj this]
    simp only [recAtI]; omega
  · have hkk : k = 4 * xs.length := by omega
    subst hkk
    have := mkRecs_last hk
    rw [e] at this
    rw [Option.some.inj this]; simp
def accD (s : ByteArray) : Nat → ByteArray
  | 0 => ⟨#[]⟩
  | j + 1 => accD s j ++ partD s j
theorem accD_size (s : ByteArray) : ∀ j, (accD s j).size ≤ 24 * j
  | 0 => Nat.le_refl _
  | j + 1 => by rw [accD, size_append]; have := accD_size s j; have := partD_le s j; omega
theorem accD_4 {s : ByteArray} (h : s.size ≤ 96) : accD s 4 = s := partD_join h
theorem logParts_ok (va : Value) (xs : List Img) (seq : Int) (H : Heap) (ha : Imgs H va xs) : call K f_law4_LogParts [va, .int .i64 seq] H = some (.bool true, H) := by
  obtain ⟨p, c, rfl⟩ := ha.slice
  refine of_wpf (open_pure rfl fc_law4_LogParts rfl (Nat.le_of_ble_eq_true rfl) ?_)
  obtain ⟨q, hq, q1, q2⟩ := q_ok seq
  obtain ⟨_, G1, c1, E1, v1, rfl, o1⟩ := make_ok _ xs q H.roAll ha.roAll
  by_cases k1 : MkOk xs q
  · have m1 : mkErr xs q = 0 := by rw [mkErr, if_pos k1]
    have hx := mkOk_len k1
    obtain ⟨m, hm⟩ : ∃ m : Nat, m = 4 * xs.length + 1 := ⟨_, rfl⟩
    have r1 := o1.rows encR_len
    obtain ⟨p1, d1, hv1⟩ := r1.slice
    subst hv1
    have hl1 := mkRecs_len k1
    rw [hl1, ← hm] at r1 c1
    have w1 : IntKind.i64.wrap (IntKind.i64.wrap (4 * (xs.length : Int)) + 1) = (m : Int) := by rw [wrap_i64 (x := 4 * (xs.length : Int)) (by omega) (by omega), wrap_i64 (by omega) (by omega)]; omega
    have ha1 := ha.roAll.ext E1
    simp [awake_ok, hq, c1, m1, w1]
    refine wp_nxt (wp_for (fun k e G => ∃ i : Nat, k = m - i ∧ i ≤ m ∧ G = G1 ∧ e 0 = .slice p xs.length c ∧ e 5 = .int .i64 q ∧ e 6 = .slice p1 m d1 ∧ e 8 = .int .i64 (i : Int)) m ⟨0, by simp⟩ ?_)
    rintro k e G ⟨i, rfl, hi, rfl, h0, h5, h6, h8⟩
    by_cases hlt : i < m
    · have hlt' : i < (mkRecs xs q).length := by omega
      obtain ⟨b, o, hp, hb, e0, _⟩ := r1.at4 hlt'
      cases hp
      rw [show (encR (mkRecs xs q)[i])[0]? = some (.int .i64 (mkRecs xs q)[i].1) from rfl, mkRecs_seq k1 hlt'] at e0
      have w2 : IntKind.i64.wrap (q + (i : Int)) = q + (i : Int) := wrap_i64 (by omega) (by omega)
      simp [c_law4_LogParts_l14, h0, h5, h6, h8, hlt, e0, w2]
      exact ⟨m - (i + 1), by omega, i + 1, rfl, hlt, wrap_succ (by omega)⟩
    · simp [c_law4_LogParts_l14, h0, h5, h6, h8, hlt]
      refine wp_nxt (wp_for (fun k e G2 => ∃ i : Nat, k = xs.length - i ∧ i ≤ xs.length ∧ Ext G G2 ∧ e 0 = .slice p xs.length c ∧ e 6 = .slice p1 m d1 ∧ e 9 = .int .i64 (i : Int)) xs.length ⟨0, by simp [h0, h6, Ext.refl]⟩ ?_)
      rintro k e G2 ⟨i, rfl, hi, hE, h0, h6, h9⟩
      by_cases hlt : i < xs.length
      · obtain ⟨b, o, rfl, hb, e0, e1⟩ := ha1.at2 hlt
        have hxi := imOk_drop xs i (-1) hlt k1.1
        have hgt := fun j (hj : j < 4) => mkRecs_get k1 hlt hj
        generalize xs[i] = x at *
        obtain ⟨pg, tx⟩ := x
        simp at e0 e1 hxi
        simp [c_law4_LogParts_l29, h0, h6, h9, hlt]
        refine wp_nxt (wp_unblock (wp_nxt (wp_for (fun k e G3 => ∃ j : Nat, k = 4 - j ∧ j ≤ 4 ∧ Ext G G3 ∧ e 0 = .slice (some ⟨b, o, none⟩) xs.length c ∧ e 6 = .slice p1 m d1 ∧ e 9 = .int .i64 (i : Int) ∧ e 11 = .int .i64 (j : Int) ∧ e 10 = .string (accD tx j)) 4 ⟨0, by simp [hE, h0, h6, h9, accD]⟩ ?_)))
        rintro k e G3 ⟨j, rfl, hj, hE, h0, h6, h9, h11, h10⟩
        have hnx := hE.next
        have nb : b ≠ G3.next := by omega
        rw [← hE.cell (o := _) hb] at e0 e1
        by_cases hjl : j < 4
        · have w0 : (j : Int) < 4 := by omega
          obtain ⟨t, ht⟩ : ∃ t : Nat, t = 4 * i + j := ⟨_, rfl⟩
          have w2 : IntKind.i64.wrap (IntKind.i64.wrap (4 * (i : Int)) + (j : Int)) = (t : Int) := by rw [wrap_i64 (x := 4 * (i : Int)) (by omega) (by omega), wrap_i64 (by omega) (by omega)]; omega
          have htm : t < m := by omega
          have htl : t < (mkRecs xs q).length := by omega
          obtain ⟨b2, o2, rfl, hb2, f0, f1, f2, f3⟩ := r1.at4 htl
          have hg := hgt j hjl
          rw [← ht, List.getElem?_eq_getElem htl] at hg
          rw [Option.some.inj hg] at f0 f1 f2 f3
          have nb2 : b2 ≠ G3.next := by omega
          rw [← hE.cell (o := _) hb2] at f0 f1 f2 f3
          simp [recAtI] at f0 f1 f2 f3
          have w3 : binV K.P .add 9 (.string (accD tx j)) (.string (partD tx j)) = some (.string (accD tx j ++ partD tx j)) := binV_sadd _ _ _ _ (by have := accD_size tx j; have := partD_le tx j; omega)
          simp [c_law4_LogParts_l25, h0, h6, h9, h11, h10, w0, w2, htm, f0, f1, f2, f3, e0, e1, nb, nb2, hlt, w3]
          exact ⟨4 - (j + 1), by omega, j + 1, rfl, hjl, (hE.add _).set hnx _, wrap_succ (by omega), rfl⟩
        · obtain rfl : j = 4 := by omega
          rw [accD_4 hxi.2] at h10
          simp [c_law4_LogParts_l25, h0, h6, h9, h11, h10, hlt, e0, e1]
          exact ⟨xs.length - (i + 1), by omega, i + 1, rfl, hlt, hE, wrap_succ (by omega)⟩
      · have hie : i = xs.length := by omega
        have w2 : IntKind.i64.wrap ((m : Int) - 1) = ((4 * xs.length : Nat) : Int) := by rw [wrap_i64 (by omega) (by omega)]; omega
        obtain ⟨t, ht⟩ : ∃ t : Nat, t = 4 * xs.length := ⟨_, rfl⟩
        rw [← ht] at w2
        have htl : t < (mkRecs xs q).length := by omega
        have htm : t < m := by omega
        obtain ⟨b2, o2, rfl, hb2, f0, f1, f2, f3⟩ := r1.at4 htl
        have hg := mkRecs_last k1
        rw [← ht, List.getElem?_eq_getElem htl] at hg
        rw [Option.some.inj hg] at f2
        rw [← hE.cell (o := _) hb2] at f2
        simp at f2
        simp [c_law4_LogParts_l29, h0, h6, h9, hlt, w2, htm, f2]
  · have m1 : mkErr xs q = 400 := by rw [mkErr, if_neg k1]
    have l1 := o1.len
    rw [mkRecs, if_neg k1] at l1
    simp [awake_ok, hq, c1, m1, l1]
end Go.AM
