import Derived.Test.YtbgidagbogpfkaaR7E
/- A forest of one's own: copied, begun. -/
namespace Go.AM
open Go.Proofs
set_option linter.unusedVariables false
set_option linter.unusedSimpArgs false
set_option maxRecDepth 100000
attribute [-simp] ByteArray.size_eq_zero_iff
theorem Ow.setB {α : Type} {enc : α → List Value} {sz n0 : Nat} {H : Heap} {v : Value} {xs : List α} (h : Ow enc sz n0 H v xs) {b : Nat} (hb : blkV v ≠ some b) (f : Option Blk) : Ow enc sz n0 (H.set b f) v xs :=
  h.frame (Nat.le_refl _) fun x hx => blk_set_ne fun e => hb (by rw [← e]; exact hx)
/-- Two slices in no common block. -/
def Dis (v w : Value) : Prop := ∀ b, blkV v = some b → blkV w ≠ some b
theorem Dis.symm {v w : Value} (h : Dis v w) : Dis w v := fun b h1 h2 => h b h2 h1
structure OwF (n0 : Nat) (H : Heap) (v : Value) (rs : List (Inf × Value)) : Prop where
  out : Ow encP 5 n0 H v rs
  fils : ∀ p ∈ rs, Ow encF 3 n0 H p.2 p.1.files
  sep : ∀ p ∈ rs, Dis v p.2
  dis : rs.Pairwise fun p q => Dis p.2 q.2
theorem OwF.fo {n0 : Nat} {H : Heap} {v : Value} {rs : List (Inf × Value)} (h : OwF n0 H v rs) : Fo H v rs := ⟨h.out.rows encP_len, fun p hp => (h.fils p hp).rows encF_len⟩
theorem OwF.ext {n0 : Nat} {H H' : Heap} {v : Value} {rs : List (Inf × Value)} (h : OwF n0 H v rs) (hE : Ext H H') : OwF n0 H' v rs := ⟨h.out.ext hE, fun p hp => (h.fils p hp).ext hE, h.sep, h.dis⟩
theorem OwF.low {n0 m : Nat} {H : Heap} {v : Value} {rs : List (Inf × Value)} (h : OwF n0 H v rs) (hm : m ≤ n0) : OwF m H v rs := ⟨h.out.low hm, fun p hp => (h.fils p hp).low hm, h.sep, h.dis⟩
/-- What a memory bears. -/
structure FoW (rs : List (Inf × Value)) : Prop where
  len : rs.length * 80 ≤ 2 ^ 47
  fil : ∀ p ∈ rs, p.1.files.length * 40 ≤ 2 ^ 47
theorem copy_ok (v : Value) (rs : List (Inf × Value)) (H : Heap) (h : Fo H v rs) (hw : FoW rs) : wpf (call K f_forest_Copy [v] H) fun r H' => Ext H H' ∧ ∃ rs', infs rs' = infs rs ∧ OwF H.next H' r rs' := by
  obtain ⟨v1, G1, hc1, E1, o1⟩ := cloneP_ok v rs H h.rows hw.len h.one
  refine open_plain rfl fc_forest_Copy rfl (Nat.le_of_ble_eq_true rfl) ?_
  obtain ⟨p1, c1, rfl⟩ := (o1.rows encP_len).slice
  simp [hc1]
  have hl : rs.length ≤ 140737488355328 := by have := hw.len; omega
  refine wp_nxt (wp_for (fun d e G => ∃ (i : Nat) (cur : List (Inf × Value)), d = rs.length - i ∧ i ≤ rs.length ∧ Ext H G ∧ e 3 = .slice p1 rs.length c1 ∧ e 8 = .int .i64 (rs.length : Int) ∧ e 9 = .int .i64 (i : Int) ∧
    infs cur = infs rs ∧ cur.length = rs.length ∧ (∀ k (hk : k < cur.length) (hk2 : k < rs.length), i ≤ k → cur[k] = rs[k]) ∧ Ow encP 5 H.next G (.slice p1 rs.length c1) cur ∧
    (∀ k (hk : k < cur.length), k < i → Ow encF 3 H.next G cur[k].2 cur[k].1.files ∧ Dis (.slice p1 rs.length c1) cur[k].2) ∧
    (∀ k l (hk : k < cur.length) (hl : l < cur.length), k < l → l < i → Dis cur[k].2 cur[l].2)) rs.length
    ⟨0, rs, by simp, by simp, E1, by simp, by simp, by simp, rfl, rfl, fun _ _ _ _ => rfl, o1, fun k hk h => by omega, fun k l hk hl h1 h2 => by omega⟩ ?_)
  rintro d e G ⟨i, cur, rfl, hi, hE, e3, e8, e9, hinf, hcl, hrest, ho, hf, hd⟩
  by_cases hlt : i < rs.length
  · have hci : i < cur.length := by omega
    have hcur := hrest i hci hlt (Nat.le_refl _)
    have hmem := List.getElem_mem hlt
    obtain ⟨r, G2, hc2, E2, o2⟩ := cloneF_ok rs[i].2 rs[i].1.files G ((h.fils _ hmem).ext hE) (hw.fil _ hmem)
    have hne : cur ≠ [] := fun e => by rw [e] at hci; simp at hci
    obtain ⟨b, B, c, hv, h2, h3, h4, h5, hB, hro, hez, hat, hput⟩ := (ho.ext E2).blkOf encP_len hne
    rw [hcl] at hv
    cases hv
    have hb0 : b < G.next := (ho.below b rfl).2
    have hBG : G.blk b = some B := by rw [← E2.blk b hb0]; exact hB
    have a4 := hat i hci 4 (by omega)
    rw [hcur] at a4
    have w1 := wrap_succ (i := i) (by omega)
    have hset := hput i 4 hci (by omega) (rs[i].1, r) r (fun k hk => by
      rw [hcur]
      match k with
      | 0 => rfl
      | 1 => rfl
      | 2 => rfl
      | 3 => rfl
      | 4 => rfl)
    have cg : G.cell b (i * 5 + 4) = some rs[i].2 := by simp only [Heap.cell, hBG]; exact a4
    have cg2 : G2.cell b (i * 5 + 4) = some rs[i].2 := by simp only [Heap.cell, hB]; exact a4
    have hr1 : r.oneCell' = true := (o2.rows encF_len).one
    obtain ⟨pr, cr, hrr⟩ := (o2.rows encF_len).slice
    simp [c_forest_Copy_l7, e3, e8, e9, hlt, cg, hc2, hB, hro, cg2, hr1, hrr]
    rw [← hrr]
    have hn1 := hE.next
    have hn2 := E2.next
    have hbl := o2.below
    refine ⟨rs.length - (i + 1), by omega, i + 1, rfl, by omega, (hE.trans E2).set h4 _, w1, cur.set i (rs[i].1, r), ?_, by rw [List.length_set]; exact hcl, ?_, hset, ?_, ?_⟩
    · rw [infs, List.map_set, ← infs, hinf]
      refine List.ext_getElem (by simp) fun k h1 h2 => ?_
      rw [List.getElem_set]
      split
      · rename_i e; subst e; simp [infs]
      · rfl
    · intro k hk hk2 hik
      rw [List.getElem_set_ne (by omega)]
      exact hrest k (by simpa using hk) hk2 (by omega)
    · intro k hk hki
      have hk' : k < cur.length := by simpa using hk
      by_cases e : k = i
      · subst e
        rw [List.getElem_set_self]
        refine ⟨(o2.setB (fun h => ?_) _).low hn1, fun x h1 h2 => ?_⟩
        · have := (hbl _ h).1; omega
        · cases h1; have := (hbl _ h2).1; simp only at this; omega
      · rw [List.getElem_set_ne (fun h => e h.symm)]
        obtain ⟨g1, g2⟩ := hf k hk' (by omega)
        exact ⟨(g1.ext E2).setB (g2 _ rfl) _, g2⟩
    · intro k l hk hl2 hkl hli
      have hk' : k < cur.length := by simpa using hk
      have hl' : l < cur.length := by simpa using hl2
      rw [List.getElem_set_ne (by omega)]
      by_cases e : l = i
      · subst e
        rw [List.getElem_set_self]
        intro x h1 h2
        have := ((hf k hk' (by omega)).1.below x h1).2
        have := (hbl x h2).1
        omega
      · rw [List.getElem_set_ne (fun h => e h.symm)]
        exact hd k l hk' hl' hkl (by omega)
  · obtain rfl : i = rs.length := by omega
    simp [c_forest_Copy_l7, e3, e8, e9]
    refine ⟨hE, cur, hinf, ho, fun p hp => ?_, fun p hp => ?_, List.pairwise_iff_getElem.2 fun k l hk hl2 hkl => hd k l hk hl2 hkl (by omega)⟩
    · obtain ⟨k, hk, rfl⟩ := List.mem_iff_getElem.1 hp
      exact (hf k hk (by omega)).1
    · obtain ⟨k, hk, rfl⟩ := List.mem_iff_getElem.1 hp
      exact (hf k hk (by omega)).2
end Go.AM
