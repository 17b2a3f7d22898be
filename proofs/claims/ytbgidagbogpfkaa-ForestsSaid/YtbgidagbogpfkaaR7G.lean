import Derived.Test.YtbgidagbogpfkaaR7F
/- A forest begun: named, a file's snapshot. -/
namespace Go.AM
open Go.Proofs
set_option linter.unusedVariables false
set_option linter.unusedSimpArgs false
set_option maxRecDepth 100000
attribute [-simp] ByteArray.size_eq_zero_iff
theorem mayB_inv {xs : List Inf} (h : mayB xs = true) : xs.all infB = true ∧ Sorted (xs.map Inf.name) ∧ xs.all (fun x => rootB xs xs.length x.parent) = true ∧ xs.length ≤ 6 := by
  simp only [mayB, Bool.and_eq_true, decide_eq_true_eq] at h
  obtain ⟨⟨h1, h2⟩, h3⟩ := h
  obtain ⟨h4, h5⟩ := rowsB_ok h1
  exact ⟨h4, h5, h2, h3⟩
def beginE (xs : List Inf) (ns : List ByteArray) : Int := if mayB xs = false then 1900 else if ns.all (fun s => wordB s 4) = false then 1901 else 0
theorem begin_ok (v nv : Value) (rs : List (Inf × Value)) (ns : List ByteArray) (H : Heap) (h : Fo H v rs) (hz : FoZ rs) (hw : FoW rs) (hn : Strs H nv ns) (hs : ∀ s ∈ ns, s.size ≤ 140737488355328) (hl : ns.length ≤ 100) :
    wpf (call K f_forest_begin [v, nv] H) fun r H' => Ext H H' ∧ ∃ u, r = .tuple #[u, .int .i64 (beginE (infs rs) ns)] ∧ (beginE (infs rs) ns ≠ 0 → u = .slice none 0 0) ∧ (beginE (infs rs) ns = 0 → ∃ rs', infs rs' = infs rs ∧ OwF H.next H' u rs') := by
  have hm := may_ok v rs H h hz
  obtain ⟨p, c, rfl⟩ := hn.slice
  refine open_plain rfl fc_forest_begin rfl (Nat.le_of_ble_eq_true rfl) ?_
  cases hmb : mayB (infs rs) with
  | false =>
    rw [hmb] at hm
    have he : beginE (infs rs) ns = 1900 := by simp [beginE, hmb]
    simp [hm, he, Ext.refl]
  | true =>
    rw [hmb] at hm
    simp [hm]
    refine wp_nxt (wp_for (fun d e G => ∃ i : Nat, d = ns.length - i ∧ i ≤ ns.length ∧ G = H ∧ e 0 = v ∧ e 11 = .slice p ns.length c ∧ e 12 = .int .i64 (ns.length : Int) ∧ e 13 = .int .i64 (i : Int) ∧ (ns.take i).all (fun s => wordB s 4) = true) ns.length ⟨0, by simp⟩ ?_)
    rintro d e G ⟨i, rfl, hi, rfl, e0, e11, e12, e13, hall⟩
    by_cases hlt : i < ns.length
    · obtain ⟨b, o, rfl, hb, k0⟩ := hn.at1 hlt
      have hp := isName_ok ns[i] G (hs _ (List.getElem_mem _))
      have hst := all_take_succ (fun s => wordB s 4) hlt
      have hno := all_no (fun s => wordB s 4) hlt
      have w1 := wrap_succ (i := i) (by omega)
      simp at k0
      cases hb4 : wordB ns[i] 4 with
      | true =>
        rw [hb4] at hp
        rw [hall, hb4] at hst
        simp [c_forest_begin_l9, e0, e11, e12, e13, hlt, k0, hp]
        exact ⟨ns.length - (i + 1), by omega, i + 1, rfl, by omega, w1, by simpa using hst⟩
      | false =>
        rw [hb4] at hp
        have he : beginE (infs rs) ns = 1901 := by simp only [beginE, hmb, hno hb4]; rfl
        simp [c_forest_begin_l9, e0, e11, e12, e13, hlt, k0, hp, he, Ext.refl]
    · obtain rfl : i = ns.length := by omega
      rw [List.take_length] at hall
      have he : beginE (infs rs) ns = 0 := by simp only [beginE, hmb, hall]; rfl
      obtain ⟨r, G2, hc, E2, rs', hin, ho⟩ := copy_ok v rs G h hw
      obtain ⟨pr, cr, rfl⟩ := ho.fo.rows.slice
      simp [c_forest_begin_l9, e0, e11, e12, e13, hc, he]
      exact ⟨E2, rs', hin, ho⟩
def namedE (xs : List Inf) (n : ByteArray) (ns : List ByteArray) : Int := if beginE xs (n :: ns) ≠ 0 then beginE xs (n :: ns) else if hasN (xs.map Inf.name) n = false then 1903 else 0
theorem beginE_zero {xs : List Inf} {ns : List ByteArray} (h : beginE xs ns = 0) : mayB xs = true ∧ ns.all (fun s => wordB s 4) = true := by
  unfold beginE at h
  split at h
  · simp at h
  · rename_i h1
    split at h
    · simp at h
    · rename_i h2
      exact ⟨by simpa using h1, by simpa using h2⟩
theorem named_ok (v nv : Value) (rs : List (Inf × Value)) (n : ByteArray) (ns : List ByteArray) (H : Heap) (h : Fo H v rs) (hz : FoZ rs) (hw : FoW rs) (hn : Strs H nv (n :: ns)) (hs : ∀ s ∈ n :: ns, s.size ≤ 140737488355328) (hl : ns.length ≤ 90) :
    wpf (call K f_forest_named [v, nv] H) fun r H' => Ext H H' ∧ ∃ u, r = .tuple #[u, .int .i64 (if namedE (infs rs) n ns = 0 then (posN ((infs rs).map Inf.name) n : Int) else 0), .int .i64 (namedE (infs rs) n ns)] ∧ (namedE (infs rs) n ns ≠ 0 → u = .slice none 0 0) ∧
      (namedE (infs rs) n ns = 0 → ∃ rs', infs rs' = infs rs ∧ OwF H.next H' u rs') := by
  obtain ⟨r, G, hc, hE, u, rfl, hu1, hu2⟩ := begin_ok v nv rs (n :: ns) H h hz hw hn hs (by simp; omega)
  obtain ⟨p, c, rfl⟩ := hn.slice
  simp only [List.length_cons] at hc
  refine open_plain rfl fc_forest_named rfl (Nat.le_of_ble_eq_true rfl) ?_
  by_cases he : beginE (infs rs) (n :: ns) = 0
  · obtain ⟨rs', hin, ho⟩ := hu2 he
    obtain ⟨hmay, _⟩ := beginE_zero he
    obtain ⟨_, hsort, _, hlen⟩ := mayB_inv hmay
    obtain ⟨b, o, rfl, hb, k0⟩ := hn.at1 (i := 0) (by simp)
    have hll : rs'.length ≤ 140737488355328 := by
      have : (infs rs').length ≤ 6 := by rw [hin]; exact hlen
      rw [infs_length] at this; omega
    have hat := atInfo_ok u rs' n G ho.fo.rows (by rw [← infs_names, hin]; exact hsort) hll ho.fo.one
    rw [← infs_names, hin] at hat
    have k0' : G.cell b o = some (.string n) := by rw [hE.cell hb]; simpa using k0
    by_cases hh : hasN ((infs rs).map Inf.name) n = true
    · have hne : namedE (infs rs) n ns = 0 := by simp [namedE, he, hh]
      rw [hh] at hat
      obtain ⟨pr, cr, rfl⟩ := ho.fo.rows.slice
      simp [hc, he, k0', hat, hne]
      exact ⟨hE, rs', hin, ho⟩
    · have hh' : hasN ((infs rs).map Inf.name) n = false := by simpa using hh
      have hne : namedE (infs rs) n ns = 1903 := by simp [namedE, he, hh']
      rw [hh'] at hat
      simp [hc, he, k0', hat, hne]
      exact hE
  · have hne : namedE (infs rs) n ns = beginE (infs rs) (n :: ns) := by simp [namedE, he]
    simp [hc, he, hne, hu1 he]
    exact hE
end Go.AM
