import Derived.Test.YtbgidagbogpfkaaR7Rb
/- Contracts: copies of the forest. -/
namespace Go.AM
open Go.Proofs
set_option linter.unusedVariables false
set_option linter.unusedSimpArgs false
set_option maxRecDepth 100000
attribute [-simp] ByteArray.size_eq_zero_iff Heap.store
theorem rcopy_ok (v : Value) (rs : List (Inf × Value)) (H : Heap) (h : Fo H v rs) (hw : FoW rs) : wpf (call K f_ref16_Copy [v] H) fun r H' => Ext H H' ∧ ∃ rs', infs rs' = infs rs ∧ OwF H.next H' r rs' := by
  have hwl := hw.len
  obtain ⟨p, c, rfl⟩ := h.rows.slice
  refine open_plain rfl fc_ref16_Copy rfl (Nat.le_of_ble_eq_true rfl) ?_
  simp
  refine wp_nxt (wp_for (fun d e G => ∃ (i : Nat) (cur : List (Inf × Value)) (u : Value), d = rs.length - i ∧ i ≤ rs.length ∧ CpInv H G u cur ∧ infs cur = (infs rs).take i ∧ e 0 = .slice p rs.length c ∧ e 3 = u ∧ e 4 = .int .i64 (i : Int)) rs.length ⟨0, [], .slice none 0 0, by simp, by simp, ⟨Ext.refl H, Own.nil, fun _ => rfl, fun q h => (by cases h), fun q h => (by cases h), List.Pairwise.nil⟩, rfl, by simp⟩ ?_)
  rintro d e G ⟨i, cur, u, rfl, hi, hI, hinf, e0, e3, e4⟩
  have hcl : cur.length = i := by rw [← infs_length cur, hinf]; simp; omega
  by_cases hil : i < rs.length
  · have hfo := h.ext hI.ext
    obtain ⟨b, o, rfl, hb, m0⟩ := hfo.rows.row encP_len hil
    have wi := wrap_succ (i := i) (by omega)
    have hmem := List.getElem_mem hil
    obtain ⟨X, Y, Z, W, r, x1, xn, x4, x5, y1, z1, z2, r1, w1, hI2⟩ := hI.step rs[i] (hfo.fils _ hmem) (hw.fil _ hmem) (by omega)
    have hfil := (hfo.fils _ hmem).slice
    have hrs : ∃ p2 c2, r = .slice p2 rs[i].1.files.length c2 := ((hI2.fils (rs[i].1, r) (by simp)).rows encF_len).slice
    have hone := hfo.one _ hmem
    have hinf2 : infs (cur ++ [(rs[i].1, r)]) = (infs rs).take (i + 1) := by
      rw [List.take_succ_eq_append_getElem (by simpa using hil), ← hinf]
      simp [infs]
    generalize rs[i] = x at *
    obtain ⟨⟨nm, kd, pa, lb, fs⟩, xv⟩ := x
    simp only at hrs
    obtain ⟨p2, c2, rfl⟩ := hrs
    simp only at hfil x4 x5 y1
    obtain ⟨pf, cf, rfl⟩ := hfil
    rw [appE_slice] at y1
    have z2' : Z.row G.next 0 5 = some [.string nm, .int .i64 kd, .string pa, .string lb, .slice p2 fs.length c2] := z2
    have w1' : appV (Z.add (rowBlk 5 [.string nm, .int .i64 kd, .string pa, .string lb, .slice p2 fs.length c2])) 5 80 1 u [.string nm, .int .i64 kd, .string pa, .string lb, .slice p2 fs.length c2] = some (.slice (some ⟨Z.next + 1, 0, none⟩) (cur.length + 1) (2 * (cur.length + 1)), W) := w1
    have hr5 := row_new Z 5 [.string nm, .int .i64 kd, .string pa, .string lb, .slice p2 fs.length c2] (n := 5) rfl
    simp [-Heap.row, c_ref16_Copy_l8, e0, e3, e4, hil, m0, x1, xn, x4, x5, y1, z1, z2', hr5, w1']
    exact ⟨rs.length - (i + 1), by omega, i + 1, rfl, by omega, _, _, hI2, hinf2, rfl, wi⟩
  · obtain rfl : i = rs.length := by omega
    simp [c_ref16_Copy_l8, e0, e3, e4]
    exact ⟨hI.ext, cur, by rw [hinf, ← infs_length rs, List.take_length], hI.owf⟩
theorem lcopy_ok (v : Value) (rs : List (Inf × Value)) (H : Heap) (h : Fo H v rs) (hw : FoW rs) : wpf (call K f_law0_CopyInfos [v] H) fun r H' => Ext H H' ∧ ∃ rs', infs rs' = infs rs ∧ OwF H.next H' r rs' := by
  have hwl := hw.len
  obtain ⟨p, c, rfl⟩ := h.rows.slice
  refine open_plain rfl fc_law0_CopyInfos rfl (Nat.le_of_ble_eq_true rfl) ?_
  simp
  refine wp_nxt (wp_for (fun d e G => ∃ (i : Nat) (cur : List (Inf × Value)) (u : Value), d = rs.length - i ∧ i ≤ rs.length ∧ CpInv H G u cur ∧ infs cur = (infs rs).take i ∧ e 0 = .slice p rs.length c ∧ e 3 = u ∧ e 4 = .int .i64 (i : Int)) rs.length ⟨0, [], .slice none 0 0, by simp, by simp, ⟨Ext.refl H, Own.nil, fun _ => rfl, fun q h => (by cases h), fun q h => (by cases h), List.Pairwise.nil⟩, rfl, by simp⟩ ?_)
  rintro d e G ⟨i, cur, u, rfl, hi, hI, hinf, e0, e3, e4⟩
  have hcl : cur.length = i := by rw [← infs_length cur, hinf]; simp; omega
  by_cases hil : i < rs.length
  · have hfo := h.ext hI.ext
    obtain ⟨b, o, rfl, hb, m0⟩ := hfo.rows.row encP_len hil
    have wi := wrap_succ (i := i) (by omega)
    have hmem := List.getElem_mem hil
    obtain ⟨X, Y, Z, W, r, x1, xn, x4, x5, y1, z1, z2, r1, w1, hI2⟩ := hI.step rs[i] (hfo.fils _ hmem) (hw.fil _ hmem) (by omega)
    have hfil := (hfo.fils _ hmem).slice
    have hrs : ∃ p2 c2, r = .slice p2 rs[i].1.files.length c2 := ((hI2.fils (rs[i].1, r) (by simp)).rows encF_len).slice
    have hone := hfo.one _ hmem
    have hinf2 : infs (cur ++ [(rs[i].1, r)]) = (infs rs).take (i + 1) := by
      rw [List.take_succ_eq_append_getElem (by simpa using hil), ← hinf]
      simp [infs]
    generalize rs[i] = x at *
    obtain ⟨⟨nm, kd, pa, lb, fs⟩, xv⟩ := x
    simp only at hrs
    obtain ⟨p2, c2, rfl⟩ := hrs
    simp only at hfil x4 x5 y1
    obtain ⟨pf, cf, rfl⟩ := hfil
    rw [appE_slice] at y1
    have z2' : Z.row G.next 0 5 = some [.string nm, .int .i64 kd, .string pa, .string lb, .slice p2 fs.length c2] := z2
    have w1' : appV (Z.add (rowBlk 5 [.string nm, .int .i64 kd, .string pa, .string lb, .slice p2 fs.length c2])) 5 80 1 u [.string nm, .int .i64 kd, .string pa, .string lb, .slice p2 fs.length c2] = some (.slice (some ⟨Z.next + 1, 0, none⟩) (cur.length + 1) (2 * (cur.length + 1)), W) := w1
    have hr5 := row_new Z 5 [.string nm, .int .i64 kd, .string pa, .string lb, .slice p2 fs.length c2] (n := 5) rfl
    simp [-Heap.row, c_law0_CopyInfos_l8, e0, e3, e4, hil, m0, x1, xn, x4, x5, y1, z1, z2', hr5, w1']
    exact ⟨rs.length - (i + 1), by omega, i + 1, rfl, by omega, _, _, hI2, hinf2, rfl, wi⟩
  · obtain rfl : i = rs.length := by omega
    simp [c_law0_CopyInfos_l8, e0, e3, e4]
    exact ⟨hI.ext, cur, by rw [hinf, ← infs_length rs, List.take_length], hI.owf⟩
end Go.AM
