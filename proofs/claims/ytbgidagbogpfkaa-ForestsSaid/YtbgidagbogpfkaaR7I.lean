import Derived.Test.YtbgidagbogpfkaaR7H
/- Contracts: Label, Remove. -/
namespace Go.AM
open Go.Proofs
set_option linter.unusedVariables false
set_option linter.unusedSimpArgs false
set_option maxRecDepth 100000
attribute [-simp] ByteArray.size_eq_zero_iff
/-- What an act of the forest answers. -/
def Ret (H : Heap) (q : List Inf × Int) (r : Value) (H' : Heap) : Prop :=
  Ext H H' ∧ ∃ u, r = .tuple #[u, .int .i64 q.2] ∧ (q.2 ≠ 0 → u = .slice none 0 0) ∧ (q.2 = 0 → ∃ rs', infs rs' = q.1 ∧ OwF H.next H' u rs')
theorem Ret.err {H H' : Heap} {e : Int} (hE : Ext H H') (h : e ≠ 0) : Ret H ([], e) (.tuple #[.slice none 0 0, .int .i64 e]) H' := ⟨hE, _, rfl, fun _ => rfl, fun h0 => absurd h0 h⟩
theorem set_ext {α : Type} {xs : List α} {i : Nat} (h : i < xs.length) {P : α → Prop} {x' : α} (h1 : ∀ x ∈ xs, P x) (h2 : P x') : ∀ x ∈ xs.set i x', P x := by
  intro x hx
  rcases List.mem_or_eq_of_mem_set hx with h | h
  · exact h1 x h
  · rw [h]; exact h2
/-- A cell of the row written, but for the files. -/
theorem OwF.put {n0 : Nat} {H : Heap} {v : Value} {rs : List (Inf × Value)} (h : OwF n0 H v rs) {b : Nat} {B' : Blk} (hb : blkV v = some b) {i : Nat} (hi : i < rs.length) {x' : Inf × Value} (h1 : x'.2 = rs[i].2) (h2 : x'.1.files = rs[i].1.files) (ho : Ow encP 5 n0 (H.set b (some B')) v (rs.set i x')) : OwF n0 (H.set b (some B')) v (rs.set i x') := by
  have hm := List.getElem_mem hi
  have hfil : ∀ p ∈ rs, Ow encF 3 n0 (H.set b (some B')) p.2 p.1.files := fun p hp => (h.fils p hp).setB (h.sep p hp b hb) _
  refine ⟨ho, set_ext hi hfil (by rw [h1, h2]; exact hfil _ hm), set_ext hi h.sep (by rw [h1]; exact h.sep _ hm), ?_⟩
  have key : (rs.set i x').map Prod.snd = rs.map Prod.snd := by
    rw [List.map_set]
    refine List.ext_getElem (by simp) fun k h3 h4 => ?_
    rw [List.getElem_set]
    split
    · rename_i e; subst e; simp [h1]
    · rfl
  have : ((rs.set i x').map Prod.snd).Pairwise Dis := by rw [key]; exact List.pairwise_map.2 h.dis
  exact List.pairwise_map.1 this
theorem strs1 (s : ByteArray) (H : Heap) : Strs (H.add (rowBlk 1 [.string s])) (.slice (some ⟨H.next, 0, none⟩) 1 3) [s] :=
  ⟨by simp, _, _, rfl, .inr ⟨H.next, 0, rfl, by simp, by simp, fun i hi j hj => by
    have hi0 : i = 0 := by simpa using hi
    have hj0 : j = 0 := by omega
    subst hi0 hj0; simp⟩⟩
def labelS (xs : List Inf) (name label : ByteArray) : List Inf × Int :=
  if namedE xs name [] ≠ 0 then ([], namedE xs name []) else if 3 < label.size then ([], 1911) else
  match xs[posN (xs.map Inf.name) name]? with | some x => (xs.set (posN (xs.map Inf.name) name) { x with label := label }, 0) | none => ([], 0)
theorem namedE_zero {xs : List Inf} {n : ByteArray} {ns : List ByteArray} (h : namedE xs n ns = 0) : beginE xs (n :: ns) = 0 ∧ hasN (xs.map Inf.name) n = true := by
  unfold namedE at h
  split at h
  · rename_i h1; exact absurd h h1
  · rename_i h1
    split at h
    · simp at h
    · rename_i h2; exact ⟨by simpa using h1, by simpa using h2⟩
theorem named_pos {xs : List Inf} {n : ByteArray} {ns : List ByteArray} (h : namedE xs n ns = 0) : posN (xs.map Inf.name) n < xs.length ∧ idxN (xs.map Inf.name) n = some (posN (xs.map Inf.name) n) ∧ mayB xs = true ∧ xs.length ≤ 6 := by
  obtain ⟨h1, h2⟩ := namedE_zero h
  obtain ⟨h3, _⟩ := beginE_zero h1
  obtain ⟨_, h4, _, h5⟩ := mayB_inv h3
  obtain ⟨h6, h7⟩ := idx_sorted h4 h2
  exact ⟨by simpa using h6, h7, h3, h5⟩
theorem label_ok' (v : Value) (rs : List (Inf × Value)) (name label : ByteArray) (H : Heap) (h : Fo H v rs) (hz : FoZ rs) (hw : FoW rs) (hs : name.size ≤ 140737488355328) :
    wpf (call K f_forest_Label [v, .string name, .string label] H) (Ret H (labelS (infs rs) name label)) := by
  have E0 := (Ext.refl H).add (rowBlk 1 [.string name])
  obtain ⟨r, G, hc, hE, u, rfl, hu1, hu2⟩ := named_ok v _ rs name [] _ (h.ext E0) hz hw (strs1 name H) (by simpa using hs) (by simp)
  have hE0 := E0.trans hE
  refine open_plain rfl fc_forest_Label rfl (Nat.le_of_ble_eq_true rfl) ?_
  by_cases hn : namedE (infs rs) name [] = 0
  · obtain ⟨rs', hin, ho⟩ := hu2 hn
    obtain ⟨hpos, hidx, hmay, h6⟩ := named_pos hn
    have hll : rs'.length = (infs rs).length := by rw [← infs_length rs', hin]
    rw [hn] at hc
    simp only [if_pos] at hc
    obtain ⟨pu, cu, rfl⟩ := ho.fo.rows.slice
    generalize hpp : posN ((infs rs).map Inf.name) name = pos at *
    have hpr : pos < rs'.length := by omega
    have hget : (infs rs)[pos]? = some rs'[pos].1 := by rw [← hin]; simp [infs, List.getElem?_eq_getElem hpr]
    by_cases hl : label.size ≤ 3
    · have hne : rs' ≠ [] := fun e => by rw [e] at hpr; simp at hpr
      obtain ⟨b, B, c, hv, h2, h3, h4, h5, hB, hro, hez, hat, hput⟩ := ho.out.blkOf encP_len hne
      cases hv
      have hset := ho.put (b := b) rfl hpr (x' := ({ rs'[pos].1 with label := label }, rs'[pos].2)) rfl rfl (hput pos 3 hpr (by omega) _ (.string label) (fun k hk => by
        match k with
        | 0 => rfl
        | 1 => rfl
        | 2 => rfl
        | 3 => rfl
        | 4 => rfl))
      have cg : G.cell b (pos * 5 + 3) = some (.string rs'[pos].1.label) := by simp only [Heap.cell, hB]; exact hat pos hpr 3 (by omega)
      have hsp : labelS (infs rs) name label = ((infs rs).set pos { rs'[pos].1 with label := label }, 0) := by
        simp only [labelS, hn, hpp, hget]
        rw [if_neg (by simp), if_neg (by omega)]
      rw [hsp]
      simp [hc, hl, hpr, hB, hro, cg]
      refine ⟨hE0.set (by simp at h4; omega) _, _, rfl, fun h => absurd rfl h, fun _ => ⟨_, ?_, hset.low (by simp)⟩⟩
      rw [← hin]
      simp [infs, List.map_set]
    · have hsp : labelS (infs rs) name label = ([], 1911) := by
        simp only [labelS, hn]
        rw [if_neg (by simp), if_pos (by omega)]
      rw [hsp]
      simp [hc, hl]
      exact Ret.err hE0 (by decide)
  · have hsp : labelS (infs rs) name label = ([], namedE (infs rs) name []) := by simp [labelS, hn]
    rw [hsp]
    rw [hu1 hn] at hc
    rw [if_neg hn] at hc
    simp [hc, hn]
    exact Ret.err hE0 hn
end Go.AM
