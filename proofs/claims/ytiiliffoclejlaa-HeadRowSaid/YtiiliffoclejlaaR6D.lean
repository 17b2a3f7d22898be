/- Contracts: the document's transactions made; texts of records; comparisons. -/
import Derived.Test.YtiiliffoclejlaaR6C
namespace Go.AM
open Go.Proofs
set_option linter.unusedVariables false
set_option linter.unusedSimpArgs false
set_option maxRecDepth 100000
attribute [-simp] ByteArray.size_eq_zero_iff
theorem rpart_ok (s : ByteArray) (j : Nat) (H : Heap) (hs : s.size ≤ 96) (hj : j < 4) : call K f_ref1_part [.string s, .int .i64 (j : Int)] H = some (.string (partD s j), H) := by
  refine of_wpf (open_pure rfl fc_ref1_part rfl (Nat.le_of_ble_eq_true rfl) ?_)
  obtain ⟨m, hm⟩ : ∃ m : Nat, m = j * 24 := ⟨_, rfl⟩
  obtain ⟨g, hg⟩ : ∃ g : Nat, g = j * 24 + 24 := ⟨_, rfl⟩
  have w1 : IntKind.i64.wrap ((j : Int) * 24) = (m : Int) := by rw [wrap_i64 (by omega) (by omega)]; omega
  have w2 : IntKind.i64.wrap (IntKind.i64.wrap ((j : Int) + 1) * 24) = (g : Int) := by rw [wrap_i64 (x := (j : Int) + 1) (by omega) (by omega), wrap_i64 (by omega) (by omega)]; omega
  obtain ⟨f, hf⟩ : ∃ f : Nat, f = min (j * 24) s.size := ⟨_, rfl⟩
  obtain ⟨t, ht⟩ : ∃ t : Nat, t = min (j * 24 + 24) s.size := ⟨_, rfl⟩
  have w3 : (if m < s.size then (m : Int) else (s.size : Int)) = (f : Int) := by split <;> omega
  have w4 : (if g < s.size then (g : Int) else (s.size : Int)) = (t : Int) := by split <;> omega
  have w5 : slsV s (some (.int .i64 (f : Int))) (some (.int .i64 (t : Int))) = some (.string (partD s j)) := by
    have a1 : f ≤ t := by omega
    have a2 : t ≤ s.size := by omega
    simp [slsV, bound, a1, a2]; subst hf ht; rfl
  simp [w1, w2, w3, w4, w5]
theorem rmake_ok (v : Value) (xs : List Img) (seq : Int) (H : Heap) (h : Imgs H v xs) :
    wpf (call K f_ref1_Make [v, .int .i64 seq] H) fun r H' => Ext H H' ∧ ∃ v', r = .tuple #[v', .int .i64 (mkErr xs seq)] ∧ Own encR 4 H.next H' v' (mkRecs xs seq) := by
  obtain ⟨p, c, rfl⟩ := h.slice
  have hl := h.lim
  refine open_plain rfl fc_ref1_Make rfl (Nat.le_of_ble_eq_true rfl) ?_
  have hI0 : call K f_ref1_ImagesMay [.slice p xs.length c] H = some (.bool (imOk (-1) xs), H) := rimages_ok _ xs H h
  by_cases k1 : imOk (-1) xs = true
  · have h48 := imOk_48 k1
    by_cases k2 : 1 ≤ seq ∧ seq ≤ 2147483647
    · have w1 : IntKind.i64.wrap (seq + IntKind.i64.wrap (4 * (xs.length : Int))) = seq + 4 * (xs.length : Int) := by
        rw [wrap_i64 (x := 4 * (xs.length : Int)) (by omega) (by omega), wrap_i64 (by omega) (by omega)]
      have w2 : (1 : Int) ≤ seq + 4 * (xs.length : Int) := by omega
      by_cases k3 : seq + 4 * (xs.length : Int) ≤ 2147483647
      · have hok : MkOk xs seq := ⟨k1, k2, k3⟩
        simp [hI0, k1, k2, w1, w2, k3]
        refine wp_nxt (wp_for (fun d e G => ∃ (i : Nat), d = xs.length - i ∧ i ≤ xs.length ∧ Ext H G ∧ e 0 = .slice p xs.length c ∧ e 7 = .int .i64 (i : Int) ∧ e 1 = .int .i64 seq ∧ e 5 = .int .i64 0 ∧ Own encR 4 H.next G (e 6) (recsAll (xs.take i) seq)) xs.length ⟨0, by simp [Ext.refl, recsAll, Own.nil]⟩ ?_)
        rintro d e G ⟨i, rfl, hi, hE, h0, h7, h1, h5, ho⟩
        by_cases hlt : i < xs.length
        · obtain ⟨b, o, rfl, hb, e0, e1⟩ := h.at2 hlt
          have hx := imOk_drop xs i (-1) hlt k1
          have ht := recsAll_take xs seq hlt
          generalize xs[i] = x at *
          obtain ⟨pg, tx⟩ := x
          simp at e0 e1 hx
          obtain ⟨s', hs'⟩ : ∃ s', s' = seq + 4 * (i : Int) := ⟨_, rfl⟩
          rw [← hs'] at ht
          have hln : (recsAll (xs.take i) seq).length = 4 * i := by rw [recsAll_len, List.length_take]; omega
          simp [c_ref1_Make_l12, h0, h7, hlt]
          refine wp_nxt (wp_unblock (wp_for (fun d e G => ∃ (j : Nat), d = 4 - j ∧ j ≤ 4 ∧ Ext H G ∧ e 0 = .slice (some ⟨b, o, none⟩) xs.length c ∧ e 7 = .int .i64 (i : Int) ∧ e 1 = .int .i64 seq ∧ e 5 = .int .i64 0 ∧ e 8 = .int .i64 (j : Int) ∧ Own encR 4 H.next G (e 6) (recsAll (xs.take i) seq ++ (List.range j).map (recAtI (pg, tx) s'))) 4 ⟨0, by simp [hE, h0, h7, h1, h5, ho]⟩ ?_))
          rintro d e G ⟨j, rfl, hj, hE, h0, h7, h1, h5, h8, ho⟩
          by_cases hjlt : j < 4
          · have w0 : (j : Int) < 4 := by omega
            have hn := hE.next
            have hb' : b ≠ G.next := by omega
            rw [← hE.cell (o := _) hb] at e0 e1
            have hln2 : (recsAll (xs.take i) seq ++ (List.range j).map (recAtI (pg, tx) s')).length = 4 * i + j := by rw [List.length_append, hln]; simp
            have hL := ho.len
            rw [hln2] at hL
            simp at hL
            have w3 : IntKind.i64.wrap (seq + (4 * (i : Int) + (j : Int))) = s' + (j : Int) := by rw [wrap_i64 (by omega) (by omega)]; omega
            have hA : ∀ B, appV (G.add B) 4 40 1 (e 6) [.int .i64 (s' + (j : Int)), .int .i64 pg, .int .i64 (j : Int), .string (partD tx j)] = some (.slice (some ⟨G.next + 1, 0, none⟩) (4 * i + j + 1) (2 * (4 * i + j + 1)), (killB (e 6) (G.add B)).add (rowBlk 4 ((recsAll (xs.take i) seq ++ (List.range (j + 1)).map (recAtI (pg, tx) s')).flatMap encR))) := fun B => by
              rw [(ho.ext ((Ext.refl G).add B)).app encR_len _ (by omega) rfl (by omega) (by omega), hln2]
              simp [List.range_succ, recAtI]
            have hP : ∀ G, call K f_ref1_part [.string tx, .int .i64 (j : Int)] G = some (.string (partD tx j), G) := fun G => rpart_ok tx j G hx.2 hjlt
            simp [c_ref1_Make_l10, h0, h7, h1, h5, h8, w0, hlt, hL, w3, e0, e1, hP, hb', run_regd_tr, finD_some, Chk, wanted, hA]
            refine ⟨4 - (j + 1), by omega, j + 1, rfl, hjlt, (ho.ext_kill (Nat.le_refl _) (hE.add _)).add _, wrap_succ (by omega), ?_⟩
            have hz := Own.new' (enc := encR) (sz := 4) (n0 := H.next) (b := G.next + 1) (H := killB (e 6) (G.add (rowBlk 4 [.int .i64 (s' + (j : Int)), .int .i64 pg, .int .i64 (j : Int), .string (partD tx j)]))) (xs := recsAll (xs.take i) seq ++ (List.range (j + 1)).map (recAtI (pg, tx) s')) (by simp) (by omega) (by rw [List.length_append, hln]; simp; omega) rfl
            simpa [hln, Nat.add_assoc] using hz
          · obtain rfl : j = 4 := by omega
            simp [c_ref1_Make_l10, h0, h7, h1, h5, h8]
            refine ⟨xs.length - (i + 1), by omega, i + 1, rfl, hlt, hE, wrap_succ (by omega), ?_⟩
            rw [ht]; exact ho
        · obtain rfl : i = xs.length := by omega
          rw [List.take_length] at ho
          have hL := ho.len
          rw [recsAll_len] at hL
          simp at hL
          have w3 : IntKind.i64.wrap (seq + 4 * (xs.length : Int)) = seq + 4 * (xs.length : Int) := wrap_i64 (by omega) (by omega)
          have hA : ∀ B, appV (G.add B) 4 40 1 (e 6) [.int .i64 (seq + 4 * (xs.length : Int)), .int .i64 0, .int .i64 4, .string ⟨#[]⟩] = some (.slice (some ⟨G.next + 1, 0, none⟩) (mkRecs xs seq).length (2 * (mkRecs xs seq).length), (killB (e 6) (G.add B)).add (rowBlk 4 ((mkRecs xs seq).flatMap encR))) := fun B => by
            rw [(ho.ext ((Ext.refl G).add B)).app encR_len _ (by omega) rfl (by rw [recsAll_len]; omega) (by rw [recsAll_len]; omega)]
            simp [mkRecs, hok]
          simp [c_ref1_Make_l12, h0, h7, h1, h5, hL, w3, hA, mkErr, hok]
          have hn := hE.next
          exact ⟨(ho.ext_kill (Nat.le_refl _) (hE.add _)).add _, Own.new' (by simp) (by omega) (by simp [mkRecs, hok, recsAll_len]; omega) rfl⟩
      · have hok : ¬ MkOk xs seq := fun hk => k3 hk.2.2
        simp [hI0, k1, k2, w1, w2, k3, hok, mkErr, mkRecs, Own.nil, Ext.refl]
    · have hok : ¬ MkOk xs seq := fun hk => k2 hk.2.1
      simp [hI0, k1, k2, hok, mkErr, mkRecs, Own.nil, Ext.refl]
  · have hok : ¬ MkOk xs seq := fun hk => k1 hk.1
    simp [hI0, k1, hok, mkErr, mkRecs, Own.nil, Ext.refl]
/-- The bytes of a record. -/
def txtR (r : Rec) : ByteArray := (putR r.1 r.2.1 r.2.2.1 r.2.2.2).1
end Go.AM
