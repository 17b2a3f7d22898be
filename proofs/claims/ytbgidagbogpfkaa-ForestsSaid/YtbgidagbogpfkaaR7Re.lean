import Derived.Test.YtbgidagbogpfkaaR7Rd
/- The document's answer: removing, labels, committing: what the program's specs say. -/
namespace Go.AM
open Go.Proofs
set_option linter.unusedVariables false
set_option linter.unusedSimpArgs false
set_option maxRecDepth 100000
attribute [-simp] ByteArray.size_eq_zero_iff Heap.store
/-- What an act of the document's answers. -/
def RRet (H : Heap) (q : List Inf × Int) (r : Value) (H' : Heap) : Prop :=
  Ext H H' ∧ ∃ u rs', r = .tuple #[u, .int .i64 q.2] ∧ infs rs' = q.1 ∧ Fo H' u rs'
theorem RRet.err (H : Heap) (e : Int) : RRet H ([], e) (.tuple #[.slice none 0 0, .int .i64 e]) H := ⟨Ext.refl H, _, [], rfl, rfl, Rows.nil, fun p hp => by cases hp⟩
/-- The conditions of an act that names a snapshot. -/
theorem named_case (xs : List Inf) (n : ByteArray) (ns : List ByteArray) : (mayB xs = false ∧ namedE xs n ns = 1900) ∨ (mayB xs = true ∧ (n :: ns).all (fun s => wordB s 4) = false ∧ namedE xs n ns = 1901) ∨
    (mayB xs = true ∧ (n :: ns).all (fun s => wordB s 4) = true ∧ idxN (xs.map Inf.name) n = none ∧ namedE xs n ns = 1903) ∨
    ∃ k, ∃ hk : k < xs.length, mayB xs = true ∧ (n :: ns).all (fun s => wordB s 4) = true ∧ idxN (xs.map Inf.name) n = some k ∧ posN (xs.map Inf.name) n = k ∧ xs[k].name = n ∧ namedE xs n ns = 0 := by
  cases hm : mayB xs with
  | false => exact .inl ⟨rfl, by simp [namedE, beginE, hm]⟩
  | true =>
    cases hw : (n :: ns).all (fun s => wordB s 4) with
    | false => exact .inr (.inl ⟨rfl, rfl, by simp only [namedE, beginE, hm, hw]; rfl⟩)
    | true =>
      have hb : beginE xs (n :: ns) = 0 := by simp only [beginE, hm, hw]; rfl
      have hmem := idx_mem (s := n) (ns := xs.map Inf.name)
      cases hi : idxN (xs.map Inf.name) n with
      | none =>
        rw [hi] at hmem
        exact .inr (.inr (.inl ⟨rfl, rfl, rfl, by simp only [namedE, hb, ← hmem]; rfl⟩))
      | some k =>
        rw [hi] at hmem
        have hh : hasN (xs.map Inf.name) n = true := hmem.symm
        obtain ⟨h1, h2⟩ := idx_sorted (mayB_all hm).2.1 hh
        rw [hi] at h2
        have hp : posN (xs.map Inf.name) n = k := (Option.some.inj h2).symm
        rw [hp] at h1
        have hk : k < xs.length := by simpa using h1
        exact .inr (.inr (.inr ⟨k, hk, rfl, rfl, rfl, hp, idx_name hi hk, by simp only [namedE, hb, hh]; rfl⟩))
theorem atI_none {ns : List ByteArray} {s : ByteArray} (h : idxN ns s = none) : atI ns s = -1 := by rw [atI, h]
theorem atI_some {ns : List ByteArray} {s : ByteArray} {k : Nat} (h : idxN ns s = some k) : atI ns s = (k : Int) := by rw [atI, h]
theorem fow2 {rs : List (Inf × Value)} (hm : mayB (infs rs) = true) : (rs.length + 2) * 80 ≤ 2 ^ 47 := by
  have := (mayB_all hm).2.2.2
  rw [infs_length] at this
  omega
theorem rremove_ok (v : Value) (rs : List (Inf × Value)) (name : ByteArray) (H : Heap) (h : Fo H v rs) (hz : FoZ rs) (hw : FoW rs) (hs : name.size ≤ 140737488355328) :
    wpf (call K f_ref16_Remove [v, .string name] H) (RRet H (removeS (infs rs) name)) := by
  have hl := hz.len
  have ha := rAt_ok v rs name H h hl
  have hm := rmay_ok v rs H h hz
  have hn := nameMay_ok name H hs
  refine open_plain rfl fc_ref16_Remove rfl (Nat.le_of_ble_eq_true rfl) ?_
  rcases named_case (infs rs) name [] with ⟨a1, e⟩ | ⟨a1, a2, e⟩ | ⟨a1, a2, a3, e⟩ | ⟨k, hk, a1, a2, a3, a4, a5, e⟩
  · rw [a1] at hm
    have hq : removeS (infs rs) name = ([], 1900) := by simp [removeS, e]
    rw [hq]; simp [ha, hm]; exact RRet.err H _
  · rw [a1] at hm
    simp at a2
    rw [a2] at hn
    have hq : removeS (infs rs) name = ([], 1901) := by simp [removeS, e]
    rw [hq]; simp [ha, hm, hn]; exact RRet.err H _
  · rw [a1] at hm
    simp at a2
    rw [a2] at hn
    rw [atI_none a3] at ha
    have hq : removeS (infs rs) name = ([], 1903) := by simp [removeS, e]
    rw [hq]; simp [ha, hm, hn]; exact RRet.err H _
  · rw [a1] at hm
    simp at a2
    rw [a2] at hn
    rw [atI_some a3] at ha
    have hk0 : ¬ ((k : Int) < 0) := by omega
    obtain ⟨pv, cv, rfl⟩ := h.rows.slice
    simp [ha, hm, hn, hk0]
    refine wp_nxt (wp_for (fun d e G => ∃ i : Nat, d = rs.length - i ∧ i ≤ rs.length ∧ G = H ∧ e 0 = .slice pv rs.length cv ∧ e 1 = .string name ∧ e 6 = .int .i64 (k : Int) ∧ e 7 = .int .i64 (i : Int) ∧ ((infs rs).take i).any (fun x => decide (x.parent = name)) = false) rs.length ⟨0, by simp⟩ ?_)
    rintro d ev G ⟨i, rfl, hi, rfl, e0, e1, e6, e7, hall⟩
    by_cases hil : i < rs.length
    · obtain ⟨b, o, rfl, hb, _, _, t2, _⟩ := h.rows.at5 hil
      have wi := wrap_succ (i := i) (by omega)
      have hil' : i < (infs rs).length := by simpa using hil
      have hge : (infs rs)[i] = rs[i].1 := by simp [infs]
      have htk : ((infs rs).take (i + 1)).any (fun x => decide (x.parent = name)) = decide (rs[i].1.parent = name) := by
        rw [List.take_succ_eq_append_getElem hil', List.any_append, hall, hge]; simp
      have hmem : rs[i].1 ∈ infs rs := List.mem_map.2 ⟨_, List.getElem_mem hil, rfl⟩
      simp at t2
      generalize rs[i] = y at *
      by_cases b1 : y.1.parent = name
      · have hq : removeS (infs rs) name = ([], 1906) := by
          have : ((infs rs).any fun x => decide (x.parent = name)) = true := List.any_eq_true.2 ⟨y.1, hmem, by simpa using b1⟩
          simp only [removeS, e, this]; rfl
        rw [hq]; simp [c_ref16_Remove_l13, e0, e1, e6, e7, hil, t2, b1]; exact RRet.err _ _
      · simp [c_ref16_Remove_l13, e0, e1, e6, e7, hil, t2, b1]
        exact ⟨rs.length - (i + 1), by omega, i + 1, rfl, by omega, wi, by simpa [b1] using htk⟩
    · obtain rfl : i = rs.length := by omega
      rw [← infs_length rs, List.take_length] at hall
      have hq : removeS (infs rs) name = (cutAt (infs rs) k, 0) := by simp only [removeS, e, hall, a4]; rfl
      obtain ⟨r1, G1, c1, E1, rs1, i1, w1⟩ := rcopy_ok _ rs G h hw
      have hl1 : rs1.length = rs.length := by rw [← infs_length rs1, i1, infs_length]
      obtain ⟨r2, G2, c2, E2, w2⟩ := without_ok r1 rs1 k G1 w1.fo (by rw [hl1]; simpa using hk) (by rw [hl1]; exact fow2 a1)
      rw [hq]
      obtain ⟨p2, c2', rfl⟩ := w2.rows.slice
      simp [c_ref16_Remove_l13, e0, e1, e6, e7, c1, c2]
      exact ⟨E1.trans E2, _, _, rfl, by rw [show infs (cutAt rs1 k) = cutAt (infs rs1) k from infs_cut rs1 k, i1], w2⟩
theorem rlabel_ok (v : Value) (rs : List (Inf × Value)) (name label : ByteArray) (H : Heap) (h : Fo H v rs) (hz : FoZ rs) (hw : FoW rs) (hs : name.size ≤ 140737488355328) :
    wpf (call K f_ref16_Label [v, .string name, .string label] H) (RRet H (labelS (infs rs) name label)) := by
  have hl := hz.len
  have ha := rAt_ok v rs name H h hl
  have hm := rmay_ok v rs H h hz
  have hn := nameMay_ok name H hs
  refine open_plain rfl fc_ref16_Label rfl (Nat.le_of_ble_eq_true rfl) ?_
  rcases named_case (infs rs) name [] with ⟨a1, e⟩ | ⟨a1, a2, e⟩ | ⟨a1, a2, a3, e⟩ | ⟨k, hk, a1, a2, a3, a4, a5, e⟩
  · rw [a1] at hm
    have hq : labelS (infs rs) name label = ([], 1900) := by simp [labelS, e]
    rw [hq]; simp [ha, hm]; exact RRet.err H _
  · rw [a1] at hm
    simp at a2
    rw [a2] at hn
    have hq : labelS (infs rs) name label = ([], 1901) := by simp [labelS, e]
    rw [hq]; simp [ha, hm, hn]; exact RRet.err H _
  · rw [a1] at hm
    simp at a2
    rw [a2] at hn
    rw [atI_none a3] at ha
    have hq : labelS (infs rs) name label = ([], 1903) := by simp [labelS, e]
    rw [hq]; simp [ha, hm, hn]; exact RRet.err H _
  · rw [a1] at hm
    simp at a2
    rw [a2] at hn
    rw [atI_some a3] at ha
    have hk0 : ¬ ((k : Int) < 0) := by omega
    by_cases b1 : (3 : Int) < (label.size : Int)
    · have hq : labelS (infs rs) name label = ([], 1911) := by
        simp only [labelS, e]; rw [if_neg (by simp), if_pos (by omega)]
      rw [hq]; simp [ha, hm, hn, hk0, b1]; exact RRet.err H _
    · have hq : labelS (infs rs) name label = ((infs rs).set k { (infs rs)[k] with label := label }, 0) := by
        simp only [labelS, e, a4]; rw [if_neg (by simp), if_neg (by omega), List.getElem?_eq_getElem hk]
      obtain ⟨r1, G1, c1, E1, rs1, i1, w1⟩ := rcopy_ok _ rs H h hw
      have hl1 : rs1.length = rs.length := by rw [← infs_length rs1, i1, infs_length]
      have hk1 : k < rs1.length := by rw [hl1]; simpa using hk
      have hge : (infs rs)[k] = rs1[k].1 := by simp only [← i1]; simp [infs]
      obtain ⟨b, B, c, hv, _, _, _, hb, hB, hro, _, hat, hput⟩ := w1.out.blkOf encP_len (fun e => by rw [e] at hk1; simp at hk1)
      subst hv
      have cg : G1.cell b (k * 5 + 3) = some (.string rs1[k].1.label) := by simp only [Heap.cell, hB]; exact hat k hk1 3 (by omega)
      have hset := w1.put (b := b) rfl hk1 (x' := ({ rs1[k].1 with label := label }, rs1[k].2)) rfl rfl (hput k 3 hk1 (by omega) _ (.string label) (fun j hj => by
        match j with
        | 0 => rfl
        | 1 => rfl
        | 2 => rfl
        | 3 => rfl
        | 4 => rfl))
      have hst : G1.store b (k * 5 + 3) [.string label] = some (G1.set b (some (B.put (k * 5 + 3) (.string label)))) := by
        simp [Heap.store, hB, hro, Heap.row, cg, Blk.puts]
      rw [hq, hge]
      simp [ha, hm, hn, hk0, b1, c1, hk1, hst]
      refine ⟨E1.set (w1.out.below b rfl).1 _, _, _, rfl, ?_, hset.fo⟩
      rw [← i1]
      simp [infs, List.map_set]
end Go.AM
