import Derived.Test.YtbgidagbogpfkaaR7P
/- Contracts: Write. -/
namespace Go.AM
open Go.Proofs
set_option linter.unusedVariables false
set_option linter.unusedSimpArgs false
set_option maxRecDepth 100000
attribute [-simp] ByteArray.size_eq_zero_iff
/-- A file written. -/
theorem Ow.put3 {n0 : Nat} {H : Heap} {v : Value} {fs : List Fil} (h : Ow encF 3 n0 H v fs) {i : Nat} (hi : i < fs.length) (f : Fil) : ∃ b B c, v = .slice (some ⟨b, 0, none⟩) fs.length c ∧ n0 ≤ b ∧ b < H.next ∧ H.blk b = some B ∧ B.ro = false ∧
    (∀ k, k < 3 → (B.at_ (i * 3 + k)).isSome = true) ∧ Ow encF 3 n0 (H.set b (some (((B.put (i * 3) (.string f.path)).put (i * 3 + 1) (.string f.content)).put (i * 3 + 2) (.bool f.own)))) v (fs.set i f) := by
  have hne : fs ≠ [] := fun e => by rw [e] at hi; simp at hi
  obtain ⟨b, B, c, hv, h2, h3, h4, h5, hB, hro, hez, hcells, hput⟩ := h.blkOf encF_len hne
  refine ⟨b, B, c, hv, h4, h5, hB, hro, fun k hk => by rw [hcells i hi k hk, List.getElem?_eq_getElem (by simpa using hk)]; rfl, ?_⟩
  rcases id h.is with ⟨_, e⟩ | ⟨e, _⟩ | ⟨b', B', c', hv', g2, g3, g4, g5, g6, g7, g8, g9, g10⟩
  · exact absurd e hne
  · exact absurd e hne
  rw [hv] at hv'
  cases hv'
  rw [hB] at g7
  cases g7
  refine ⟨by rw [List.length_set]; exact h.lim, .inr (.inr ⟨b, _, c, by rw [List.length_set]; exact hv, g2, by rw [List.length_set]; exact g3, g4, g5, g6, blk_set_self _ _ _, hro, hez, fun j hj => ?_⟩)⟩
  rw [List.length_set] at hj
  have hq : j / 3 < fs.length := by omega
  have hm : j % 3 < 3 := by omega
  have e : j / 3 * 3 + j % 3 = j := by omega
  have a1 := flat_get encF_len (fs.set i f) (j / 3) (by rw [List.length_set]; exact hq) _ hm
  have a2 := flat_get encF_len fs (j / 3) hq _ hm
  rw [e] at a1 a2
  rw [a1]
  simp only [at_put]
  rw [g10 j hj, a2]
  by_cases hji : j / 3 = i
  · subst hji
    rw [List.getElem_set_self]
    by_cases k0 : j % 3 = 0
    · rw [if_neg (by omega), if_neg (by omega), if_pos (by omega), k0]; rfl
    · by_cases k1 : j % 3 = 1
      · rw [if_neg (by omega), if_pos (by omega), k1]; rfl
      · have k2 : j % 3 = 2 := by omega
        rw [if_pos (by omega), k2]; rfl
  · rw [if_neg (by omega), if_neg (by omega), if_neg (by omega), List.getElem_set_ne (fun h => hji h.symm)]
/-- A snapshot's files where they are. -/
theorem OwF.putIn {n0 : Nat} {G : Heap} {v : Value} {rs : List (Inf × Value)} (h : OwF n0 G v rs) {i : Nat} (hi : i < rs.length) {bf : Nat} (hbf : blkV rs[i].2 = some bf) {f : Option Blk} {fs : List Fil} (hf : Ow encF 3 n0 (G.set bf f) rs[i].2 fs) :
    OwF n0 (G.set bf f) v (rs.set i ({ rs[i].1 with files := fs }, rs[i].2)) := by
  have hm := List.getElem_mem hi
  have hpw := List.pairwise_iff_getElem.1 h.dis
  have hsnd : ∀ k (hk : k < (rs.set i ({ rs[i].1 with files := fs }, rs[i].2)).length), (rs.set i ({ rs[i].1 with files := fs }, rs[i].2))[k].2 = (rs[k]'(by simpa using hk)).2 := fun k hk => by
    rw [List.getElem_set]
    split
    · rename_i e; subst e; rfl
    · rfl
  refine ⟨?_, fun p hp => ?_, fun p hp => ?_, List.pairwise_iff_getElem.2 fun k l hk hl hkl => ?_⟩
  · have hb : blkV v ≠ some bf := fun e => h.sep _ hm bf e hbf
    have ho := h.out.setB hb f
    have hfl : (rs.set i ({ rs[i].1 with files := fs }, rs[i].2)).flatMap encP = rs.flatMap encP := by
      have : (rs.set i ({ rs[i].1 with files := fs }, rs[i].2)).map encP = rs.map encP := by
        rw [List.map_set]
        refine List.ext_getElem (by simp) fun k h1 h2 => ?_
        rw [List.getElem_set]
        split
        · rename_i e; subst e; simp
        · rfl
      rw [List.flatMap_def, List.flatMap_def, this]
    refine ⟨by rw [List.length_set]; exact ho.lim, ?_⟩
    rcases ho.is with ⟨h1, h2⟩ | ⟨h1, h2⟩ | ⟨b, B, c, g1, g2, g3, g4, g5, g6, g7, g8, g9, g10⟩
    · subst h2; simp at hi
    · subst h1; simp at hi
    · exact .inr (.inr ⟨b, B, c, by rw [List.length_set]; exact g1, g2, by rw [List.length_set]; exact g3, g4, g5, g6, g7, g8, g9, fun j hj => by rw [hfl]; exact g10 j (by simpa using hj)⟩)
  · obtain ⟨k, hk, rfl⟩ := List.mem_iff_getElem.1 hp
    have hk' : k < rs.length := by simpa using hk
    rw [List.getElem_set]
    split
    · exact hf
    · rename_i hki
      refine (h.fils _ (List.getElem_mem hk')).setB (fun e => ?_) f
      rcases Nat.lt_or_ge k i with h1 | h1
      · exact hpw k i hk' hi h1 _ e hbf
      · exact hpw i k hi hk' (by omega) _ hbf e
  · obtain ⟨k, hk, rfl⟩ := List.mem_iff_getElem.1 hp
    rw [hsnd]
    exact h.sep _ (List.getElem_mem _)
  · rw [hsnd, hsnd]
    exact hpw k l _ _ hkl
def wroteF (fs : List Fil) (path content : ByteArray) : List Fil := if hasN (fs.map Fil.path) path = true then fs.set (posN (fs.map Fil.path) path) ⟨path, content, true⟩ else insAt fs (posN (fs.map Fil.path) path) ⟨path, content, true⟩
def writeS (xs : List Inf) (name path content : ByteArray) : List Inf × Int :=
  if fileE xs name path ≠ 0 then ([], fileE xs name path) else if 6 < content.size then ([], 1909) else
  match xs[posN (xs.map Inf.name) name]? with
  | none => ([], 0)
  | some x => if hasN (x.files.map Fil.path) path = false ∧ x.files.length = 4 then ([], 1910) else (xs.set (posN (xs.map Inf.name) name) { x with files := wroteF x.files path content }, 0)
theorem insAt_set {α : Type} (xs : List α) (i : Nat) (h : i ≤ xs.length) (x y : α) : (insAt xs i x).set i y = insAt xs i y := by
  have hl : (xs.take i).length = i := by rw [List.length_take]; omega
  unfold insAt
  rw [List.set_append_right i y (by omega), hl, Nat.sub_self, List.set_cons_zero]
theorem write_ok (v : Value) (rs : List (Inf × Value)) (name path content : ByteArray) (H : Heap) (h : Fo H v rs) (hz : FoZ rs) (hw : FoW rs) (hs : name.size ≤ 140737488355328) (hs2 : path.size ≤ 140737488355328) :
    wpf (call K f_forest_Write [v, .string name, .string path, .string content] H) (Ret H (writeS (infs rs) name path content)) := by
  obtain ⟨r, G, hc, hE, he1, he2⟩ := file_ok v rs name path H h hz hw hs hs2
  refine open_plain rfl fc_forest_Write rfl (Nat.le_of_ble_eq_true rfl) ?_
  by_cases he : fileE (infs rs) name path = 0
  case neg =>
    have hsp : writeS (infs rs) name path content = ([], fileE (infs rs) name path) := by simp [writeS, he]
    rw [hsp]
    rw [he1 he] at hc
    simp [hc, he]
    exact Ret.err hE he
  obtain ⟨rs', b, c, hin, rfl, ho⟩ := he2 he
  obtain ⟨hpos, hmay, h6, hidx, hk0, hwp⟩ := fileE_zero he
  have hll : rs'.length = (infs rs).length := by rw [← infs_length rs', hin]
  by_cases hct : content.size ≤ 6
  case neg =>
    have hsp : writeS (infs rs) name path content = ([], 1909) := by simp only [writeS, he]; rw [if_neg (by simp), if_pos (by omega)]
    rw [hsp]
    simp [hc, hct]
    exact Ret.err hE (by decide)
  generalize hpp : posN ((infs rs).map Inf.name) name = pos at *
  have hpr : pos < rs'.length := by omega
  have hget : (infs rs)[pos]? = some rs'[pos].1 := by rw [← hin]; simp [infs, List.getElem?_eq_getElem hpr]
  have hspp : writeS (infs rs) name path content = if hasN (rs'[pos].1.files.map Fil.path) path = false ∧ rs'[pos].1.files.length = 4 then ([], 1910) else ((infs rs).set pos { rs'[pos].1 with files := wroteF rs'[pos].1.files path content }, 0) := by
    simp only [writeS, he, hpp, hget]; rw [if_neg (by simp), if_neg (by omega)]
  rw [hspp]
  have hmem := List.getElem_mem hpr
  obtain ⟨hfs, hfl⟩ := files_facts hmay (x := rs'[pos].1) (by rw [← hin]; exact List.mem_map.2 ⟨_, hmem, rfl⟩)
  have hof := ho.fils _ hmem
  have hne : rs' ≠ [] := fun e => by rw [e] at hpr; simp at hpr
  obtain ⟨b1, B, c1, hv, g2, g3, g4, g5, hB, hro, hez, hcells, hput⟩ := ho.out.blkOf encP_len hne
  cases hv
  have c4 : G.cell b (pos * 5 + 4) = some rs'[pos].2 := by simp only [Heap.cell, hB]; exact hcells pos hpr 4 (by omega)
  have hfa := atFile_ok rs'[pos].2 rs'[pos].1.files path G (hof.rows encF_len) hfs (by omega) (fun _ _ => trivial)
  have hlf : lenO rs'[pos].2 = some (.int .i64 (rs'[pos].1.files.length : Int)) := by
    obtain ⟨p0, c0, e0⟩ := (hof.rows encF_len).slice; rw [e0]; rfl
  have hple := posN_le (rs'[pos].1.files.map Fil.path) path
  rw [List.length_map] at hple
  cases hh : hasN (rs'[pos].1.files.map Fil.path) path with
  | true =>
    rw [hh] at hfa
    rw [if_neg (by simp)]
    obtain ⟨hpl, _⟩ := idx_sorted hfs hh
    rw [List.length_map] at hpl
    have hwr : wroteF rs'[pos].1.files path content = rs'[pos].1.files.set (posN (rs'[pos].1.files.map Fil.path) path) ⟨path, content, true⟩ := by unfold wroteF; rw [if_pos hh]
    rw [hwr]
    generalize posN (rs'[pos].1.files.map Fil.path) path = at_ at *
    obtain ⟨bf, Bf, cf, hvf, q1, q2, hBf, hrf, hcf, hof2⟩ := hof.put3 hpl ⟨path, content, true⟩
    have hfin := ho.putIn hpr (bf := bf) (by rw [hvf]; rfl) hof2
    have d0 : ∃ w, G.cell bf (at_ * 3) = some w := by obtain ⟨w, hw⟩ := Option.isSome_iff_exists.1 (hcf 0 (by omega)); exact ⟨w, by simp only [Heap.cell, hBf]; exact hw⟩
    have d1 : ∃ w, G.cell bf (at_ * 3 + 1) = some w := by obtain ⟨w, hw⟩ := Option.isSome_iff_exists.1 (hcf 1 (by omega)); exact ⟨w, by simp only [Heap.cell, hBf]; exact hw⟩
    have d2 : ∃ w, G.cell bf (at_ * 3 + 2) = some w := by obtain ⟨w, hw⟩ := Option.isSome_iff_exists.1 (hcf 2 (by omega)); exact ⟨w, by simp only [Heap.cell, hBf]; exact hw⟩
    obtain ⟨w0, d0⟩ := d0
    obtain ⟨w1, d1⟩ := d1
    obtain ⟨w2, d2⟩ := d2
    rw [hvf] at c4 hfa hlf
    simp [hc, hct, c4, hfa, hlf, hpl, d0, d1, d2, hBf, hrf]
    refine ⟨hE.set q1 _, _, rfl, fun h => absurd rfl h, fun _ => ⟨_, ?_, hfin⟩⟩
    rw [← hin]
    simp [infs, List.map_set]
  | false =>
    rw [hh] at hfa
    by_cases h4 : rs'[pos].1.files.length = 4
    · rw [if_pos ⟨rfl, h4⟩]
      rw [h4] at hlf
      simp [hc, hct, c4, hfa, hlf]
      exact Ret.err hE (by decide)
    · rw [if_neg (by simp [h4])]
      have h4' : ¬ ((rs'[pos].1.files.length : Int) = 4) := by omega
      have hwr : wroteF rs'[pos].1.files path content = insAt rs'[pos].1.files (posN (rs'[pos].1.files.map Fil.path) path) ⟨path, content, true⟩ := by unfold wroteF; rw [if_neg (by rw [hh]; decide)]
      rw [hwr]
      generalize posN (rs'[pos].1.files.map Fil.path) path = at_ at *
      obtain ⟨X, hXn, hXb, hins⟩ := insF_ok (hof.ext ((Ext.refl G).add (rowBlk 3 (encF ⟨⟨#[]⟩, ⟨#[]⟩, false⟩)))) at_ hple ⟨⟨#[]⟩, ⟨#[]⟩, false⟩ G.next 3 (row_of 3 0 rfl fun j hj => by
        rw [Nat.zero_add, cell_add_new]; rfl) (by simp [rwB]) (fun e => by have := (hof.below _ e).2; omega) (by omega)
      have hnx : (G.add (rowBlk 3 (encF ⟨⟨#[]⟩, ⟨#[]⟩, false⟩))).next = G.next + 1 := rfl
      rw [hnx] at hXn hins
      have hnl : (insAt rs'[pos].1.files at_ ⟨⟨#[]⟩, ⟨#[]⟩, false⟩).length = rs'[pos].1.files.length + 1 := by
        unfold insAt; rw [List.length_append, List.length_take, List.length_cons, List.length_drop]; omega
      have hoN := Ow.new (enc := encF) (sz := 3) (n0 := H.next) (H := X) (xs := insAt rs'[pos].1.files at_ ⟨⟨#[]⟩, ⟨#[]⟩, false⟩) (b := G.next + 1) hXn.symm (by have := hE.next; omega) (by omega) (by simp [insAt]) rfl
      rw [hnl] at hoN
      obtain ⟨G2, hG2⟩ : ∃ G2, G2 = X.add (rowBlk 3 ((insAt rs'[pos].1.files at_ ⟨⟨#[]⟩, ⟨#[]⟩, false⟩).flatMap encF)) := ⟨_, rfl⟩
      have hins' : call K f_slices_Insert_File [rs'[pos].2, .int .i64 (at_ : Int), .slice (some ⟨G.next, 0, none⟩) 1 3] (G.add (rowBlk 3 [.string ⟨#[]⟩, .string ⟨#[]⟩, .bool false])) = some (.slice (some ⟨G.next + 1, 0, none⟩) (rs'[pos].1.files.length + 1) (2 * (rs'[pos].1.files.length + 1)), G2) := by rw [hG2]; exact hins
      rw [← hG2] at hoN
      have hG2n : G2.next = G.next + 2 := by rw [hG2, next_add, hXn]
      have hG2b : ∀ k, k < G.next → blkV rs'[pos].2 ≠ some k → G2.blk k = G.blk k := fun k hk hkb => by
        rw [hG2, blk_add_old (by omega), hXb k hkb, blk_add_old hk]
      obtain ⟨b2, B2, c2, hv2, q1, q2, hB2, hro2, hcc, hfin⟩ := ho.putF (G' := G2) hpr (by omega) hG2b hoN (fun x h1 h2 => by
        have := (ho.out.below x h1).2; cases h2; simp only at this; omega) (fun j hj hji x h1 h2 => by
        have := ((ho.fils _ (List.getElem_mem hj)).below x h1).2; cases h2; simp only at this; omega)
      cases hv2
      have hbf : blkV rs'[pos].2 ≠ some b := fun e => ho.sep _ hmem b rfl e
      have hBB : G2.blk b = some B := by rw [hG2b b g5 hbf]; exact hB
      rw [hBB] at hB2
      cases hB2
      have cG : (G.add (rowBlk 3 [.string ⟨#[]⟩, .string ⟨#[]⟩, .bool false])).cell b (pos * 5 + 4) = some rs'[pos].2 := by rw [cell_add_old g5]; exact c4
      have cG2 : G2.cell b (pos * 5 + 4) = some rs'[pos].2 := by simp only [Heap.cell, hBB]; exact hcells pos hpr 4 (by omega)
      generalize hr2 : (Value.slice (some ⟨G.next + 1, 0, none⟩) (rs'[pos].1.files.length + 1) (2 * (rs'[pos].1.files.length + 1))) = r2 at *
      generalize hG3 : G2.set b (some (B.put (pos * 5 + 4) r2)) = G3 at hfin
      have hpr3 : pos < (rs'.set pos ({ rs'[pos].1 with files := insAt rs'[pos].1.files at_ ⟨⟨#[]⟩, ⟨#[]⟩, false⟩ }, r2)).length := by simpa using hpr
      have hof3 := hfin.fils _ (List.getElem_mem hpr3)
      rw [List.getElem_set_self] at hof3
      obtain ⟨bf, Bf, cf, hvf, p1, p2, hBf, hrf, hcf, hof4⟩ := hof3.put3 (i := at_) (by simp only [hnl]; omega) ⟨path, content, true⟩
      simp only at hvf
      rw [hnl] at hvf
      have hrr := hr2
      rw [hvf] at hrr
      cases hrr
      have hfin4 := hfin.putIn hpr3 (bf := G.next + 1) (by rw [List.getElem_set_self, ← hr2]; rfl) (by rw [List.getElem_set_self]; exact hof4)
      have d0 : ∃ w, G3.cell (G.next + 1) (at_ * 3) = some w := by obtain ⟨w, hw⟩ := Option.isSome_iff_exists.1 (hcf 0 (by omega)); exact ⟨w, by simp only [Heap.cell, hBf]; exact hw⟩
      have d1 : ∃ w, G3.cell (G.next + 1) (at_ * 3 + 1) = some w := by obtain ⟨w, hw⟩ := Option.isSome_iff_exists.1 (hcf 1 (by omega)); exact ⟨w, by simp only [Heap.cell, hBf]; exact hw⟩
      have d2 : ∃ w, G3.cell (G.next + 1) (at_ * 3 + 2) = some w := by obtain ⟨w, hw⟩ := Option.isSome_iff_exists.1 (hcf 2 (by omega)); exact ⟨w, by simp only [Heap.cell, hBf]; exact hw⟩
      obtain ⟨w0, d0⟩ := d0
      obtain ⟨w1, d1⟩ := d1
      obtain ⟨w2, d2⟩ := d2
      have c3 : G3.cell b (pos * 5 + 4) = some r2 := by rw [← hG3, cell_set_self]; simp
      subst hr2
      have hpl : at_ < rs'[pos].1.files.length + 1 := by omega
      simp [hc, hct, c4, hfa, hlf, h4', cG, hins', cG2, hBB, hro, hG3, c3, hpl, d0, d1, d2, hBf, hrf]
      have EG2 : Ext H G2 := ⟨by have := hE.next; omega, fun k hk => by
        rw [hG2b k (by have := hE.next; omega) (fun e => by have := (hof.below _ e).1; omega)]; exact hE.blk k hk⟩
      have EG3 : Ext H G3 := by rw [← hG3]; exact EG2.set q2 _
      refine ⟨EG3.set (by have := hE.next; omega) _, _, rfl, fun h => absurd rfl h, fun _ => ⟨_, ?_, hfin4⟩⟩
      have e1 := insAt_set rs'[pos].1.files at_ hple ⟨⟨#[]⟩, ⟨#[]⟩, false⟩ ⟨path, content, true⟩
      rw [← hin]
      simp [infs, List.map_set, e1]
end Go.AM
