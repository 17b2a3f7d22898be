import Derived.Test.YtbgidagbogpfkaaR7X
/- Contracts: sameness of snapshots. -/
namespace Go.AM
open Go.Proofs
set_option linter.unusedVariables false
set_option linter.unusedSimpArgs false
set_option maxRecDepth 100000
attribute [-simp] ByteArray.size_eq_zero_iff
theorem sameInfo_ok (p q : Inf × Value) (H : Heap) (hp : Fils H p.2 p.1.files) (hq : Fils H q.2 q.1.files) (hl : p.1.files.length ≤ 140737488355328) : call K f_law0_SameInfo [.agg (encP p).toArray, .agg (encP q).toArray] H = some (.bool (decide (p.1 = q.1)), H) := by
  obtain ⟨⟨n1, k1, p1, l1, f1⟩, v1⟩ := p
  obtain ⟨⟨n2, k2, p2, l2, f2⟩, v2⟩ := q
  simp only at hp hq hl
  have hsf : ∀ X Y, call K f_law0_SameFiles [v1, v2] ((H.roAll.add X).add Y) = some (.bool (decide (f1 = f2)), (H.roAll.add X).add Y) := fun X Y =>
    sameFiles_ok _ _ _ _ _ (hp.roAll.ext (((Ext.refl _).add X).add Y)) (hq.roAll.ext (((Ext.refl _).add X).add Y)) hl
  have hv1 := hp.one
  have hv2 := hq.one
  refine of_wpf (open_pure rfl fc_law0_SameInfo rfl (Nat.le_of_ble_eq_true rfl) ?_)
  by_cases e1 : n1 = n2
  case neg => simp [hv1, hv2, e1]
  by_cases e2 : k1 = k2
  case neg => simp [hv1, hv2, e1, e2]
  by_cases e3 : p1 = p2
  case neg => simp [hv1, hv2, e1, e2, e3]
  by_cases e4 : l1 = l2
  case neg => simp [hv1, hv2, e1, e2, e3, e4]
  simp [hv1, hv2, e1, e2, e3, e4, hsf]
theorem sameInfos_ok (va vb : Value) (rs ss : List (Inf × Value)) (H : Heap) (ha : Fo H va rs) (hb : Fo H vb ss) (hz : ∀ p ∈ rs, p.1.files.length ≤ 140737488355328) (hl : rs.length ≤ 140737488355328) : call K f_law0_SameInfos [va, vb] H = some (.bool (decide (infs rs = infs ss)), H) := by
  obtain ⟨p, c, rfl⟩ := ha.rows.slice
  obtain ⟨q, d, rfl⟩ := hb.rows.slice
  refine of_wpf (open_pure rfl fc_law0_SameInfos rfl (Nat.le_of_ble_eq_true rfl) ?_)
  by_cases hlen : rs.length = ss.length
  · simp [hlen]
    refine wp_nxt (wp_for (fun k e H' => ∃ i, k = ss.length - i ∧ i ≤ ss.length ∧ H' = H.roAll ∧ e 5 = .int .i64 (i : Int) ∧ e 0 = .slice p ss.length c ∧ e 1 = .slice q ss.length d ∧ (infs rs).take i = (infs ss).take i) ss.length ⟨0, by simp⟩ ?_)
    rintro k e H' ⟨i, rfl, hi, rfl, h5, h0, h1, heq⟩
    by_cases hlt2 : i < ss.length
    · have hlt : i < rs.length := by omega
      obtain ⟨b, o, rfl, hb1, hr1⟩ := ha.rows.roAll.row encP_len hlt
      obtain ⟨b2, o2, rfl, hb2, hr2⟩ := hb.rows.roAll.row encP_len hlt2
      have m1 := List.getElem_mem hlt
      have m2 := List.getElem_mem hlt2
      have hsi := sameInfo_ok rs[i] ss[i] H.roAll (ha.fils _ m1).roAll (hb.fils _ m2).roAll (hz _ m1)
      have hst := take_succ_eq (xs := infs rs) (ys := infs ss) (i := i) (by simpa using hlt) (by simpa using hlt2)
      have g1 : (infs rs)[i]'(by simpa using hlt) = rs[i].1 := by simp [infs]
      have g2 : (infs ss)[i]'(by simpa using hlt2) = ss[i].1 := by simp [infs]
      rw [g1, g2] at hst
      have hne : rs[i].1 ≠ ss[i].1 → infs rs ≠ infs ss := fun hn he => hn (by rw [← g1, ← g2]; simp [he])
      generalize rs[i] = x at *
      generalize ss[i] = y at *
      by_cases he : x.1 = y.1
      · rw [decide_eq_true he] at hsi
        simp [-Heap.row, c_law0_SameInfos_l8, h5, h0, h1, hlt, hlt2, hr1, hr2, hsi]
        exact ⟨ss.length - (i + 1), by omega, i + 1, rfl, hlt2, wrap_succ (by omega), hst.2 ⟨heq, he⟩⟩
      · rw [decide_eq_false he] at hsi
        have hf := hne he
        simp [-Heap.row, c_law0_SameInfos_l8, h5, h0, h1, hlt, hlt2, hr1, hr2, hsi, hf]
    · have : i = ss.length := by omega
      subst this
      simp [c_law0_SameInfos_l8, h5, h0]
      rw [List.take_of_length_le (by simp; omega), List.take_of_length_le (by simp)] at heq
      exact heq
  · have hne : ¬ infs rs = infs ss := fun h => hlen (by rw [← infs_length rs, h, infs_length])
    simp [hlen, hne]
end Go.AM
