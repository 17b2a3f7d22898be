import Derived.Test.YtbgidagbogpfkaaR7N
/- Contracts: a file's snapshot; Delete. -/
namespace Go.AM
open Go.Proofs
set_option linter.unusedVariables false
set_option linter.unusedSimpArgs false
set_option maxRecDepth 100000
attribute [-simp] ByteArray.size_eq_zero_iff
/-- A snapshot's files anew. -/
theorem OwF.putF {n0 : Nat} {G G' : Heap} {v : Value} {rs : List (Inf × Value)} (h : OwF n0 G v rs) {i : Nat} (hi : i < rs.length) (hn : G.next ≤ G'.next) (hb : ∀ k, k < G.next → blkV rs[i].2 ≠ some k → G'.blk k = G.blk k)
    {fv : Value} {fs : List Fil} (hf : Ow encF 3 n0 G' fv fs) (hv : Dis v fv) (hd : ∀ j (hj : j < rs.length), j ≠ i → Dis rs[j].2 fv) :
    ∃ b B c, v = .slice (some ⟨b, 0, none⟩) rs.length c ∧ b < G.next ∧ n0 ≤ b ∧ G'.blk b = some B ∧ B.ro = false ∧ (B.at_ (i * 5 + 4)).isSome = true ∧ OwF n0 (G'.set b (some (B.put (i * 5 + 4) fv))) v (rs.set i ({ rs[i].1 with files := fs }, fv)) := by
  have hne : rs ≠ [] := fun e => by rw [e] at hi; simp at hi
  have hm := List.getElem_mem hi
  have hout : Ow encP 5 n0 G' v rs := h.out.frame hn fun b hbv => hb b (h.out.below b hbv).2 fun e => h.sep _ hm b hbv e
  obtain ⟨b, B, c, hvv, h2, h3, h4, h5, hB, hro, hez, hcells, hput⟩ := hout.blkOf encP_len hne
  have hbv : blkV v = some b := by rw [hvv]; rfl
  have ho := hput i 4 hi (by omega) ({ rs[i].1 with files := fs }, fv) fv (fun k hk => by
    match k with
    | 0 => rfl
    | 1 => rfl
    | 2 => rfl
    | 3 => rfl
    | 4 => rfl)
  refine ⟨b, B, c, hvv, (h.out.below b hbv).2, (h.out.below b hbv).1, hB, hro, by rw [hcells i hi 4 (by omega)]; rfl, ho, ?_, ?_, ?_⟩
  · intro p hp
    obtain ⟨k, hk, rfl⟩ := List.mem_iff_getElem.1 hp
    have hk' : k < rs.length := by simpa using hk
    rw [List.getElem_set]
    split
    · exact hf.setB (fun e => hv b hbv e) _
    · rename_i hki
      have hkm := List.getElem_mem hk'
      refine ((h.fils _ hkm).frame hn fun x hx => hb x ((h.fils _ hkm).below x hx).2 fun e => ?_).setB (fun e => h.sep _ hkm b hbv e) _
      have hpw := List.pairwise_iff_getElem.1 h.dis
      rcases Nat.lt_or_ge k i with h1 | h1
      · exact hpw k i hk' hi h1 x hx e
      · exact hpw i k hi hk' (by omega) x e hx
  · intro p hp
    obtain ⟨k, hk, rfl⟩ := List.mem_iff_getElem.1 hp
    have hk' : k < rs.length := by simpa using hk
    rw [List.getElem_set]
    split
    · exact hv
    · exact h.sep _ (List.getElem_mem hk')
  · refine List.pairwise_iff_getElem.2 fun k l hk hl hkl => ?_
    have hk' : k < rs.length := by simpa using hk
    have hl' : l < rs.length := by simpa using hl
    rw [List.getElem_set, List.getElem_set]
    have hpw := List.pairwise_iff_getElem.1 h.dis
    split
    · rename_i e1
      rw [if_neg (by omega)]
      exact (hd l hl' (by omega)).symm
    · rename_i e1
      split
      · rename_i e2; exact hd k hk' (by omega)
      · exact hpw k l hk' hl' hkl
def fileE (xs : List Inf) (name path : ByteArray) : Int :=
  if namedE xs name [] ≠ 0 then namedE xs name [] else
  match xs[posN (xs.map Inf.name) name]? with
  | none => 1
  | some x => if x.kind ≠ 0 then 1905 else if wordB path 3 = false then 1907 else 0
theorem file_ok (v : Value) (rs : List (Inf × Value)) (name path : ByteArray) (H : Heap) (h : Fo H v rs) (hz : FoZ rs) (hw : FoW rs) (hs : name.size ≤ 140737488355328) (hs2 : path.size ≤ 140737488355328) :
    wpf (call K f_forest_file [v, .string name, .string path] H) fun r H' => Ext H H' ∧ (fileE (infs rs) name path ≠ 0 → r = .tuple #[.slice none 0 0, .pointer none, .int .i64 (fileE (infs rs) name path)]) ∧
      (fileE (infs rs) name path = 0 → ∃ rs' b c, infs rs' = infs rs ∧ r = .tuple #[.slice (some ⟨b, 0, none⟩) rs'.length c, .pointer (some ⟨b, posN ((infs rs).map Inf.name) name * 5, none⟩), .int .i64 0] ∧ OwF H.next H' (.slice (some ⟨b, 0, none⟩) rs'.length c) rs') := by
  have E0 := (Ext.refl H).add (rowBlk 1 [.string name])
  obtain ⟨r, G, hc, hE, u, rfl, hu1, hu2⟩ := named_ok v _ rs name [] _ (h.ext E0) hz hw (strs1 name H) (by simpa using hs) (by simp)
  have hE0 := E0.trans hE
  have hip := isPath_ok path G hs2
  refine open_plain rfl fc_forest_file rfl (Nat.le_of_ble_eq_true rfl) ?_
  by_cases hn : namedE (infs rs) name [] = 0
  case neg =>
    have hsp : fileE (infs rs) name path = namedE (infs rs) name [] := by simp [fileE, hn]
    rw [hsp]
    rw [hu1 hn, if_neg hn] at hc
    simp [hc, hn]
    exact hE0
  obtain ⟨rs', hin, ho⟩ := hu2 hn
  obtain ⟨hpos, hidx, hmay, h6⟩ := named_pos hn
  have hll : rs'.length = (infs rs).length := by rw [← infs_length rs', hin]
  rw [hn] at hc
  simp only [if_pos] at hc
  generalize hpp : posN ((infs rs).map Inf.name) name = pos at *
  have hpr : pos < rs'.length := by omega
  have hget : (infs rs)[pos]? = some rs'[pos].1 := by rw [← hin]; simp [infs, List.getElem?_eq_getElem hpr]
  have hspp : fileE (infs rs) name path = if rs'[pos].1.kind ≠ 0 then 1905 else if wordB path 3 = false then 1907 else 0 := by
    simp only [fileE, hn, hpp, hget]; rw [if_neg (by simp)]
  rw [hspp]
  have hne : rs' ≠ [] := fun e => by rw [e] at hpr; simp at hpr
  obtain ⟨b, B, c, hv, g2, g3, g4, g5, hB, hro, hez, hcells, hput⟩ := ho.out.blkOf encP_len hne
  have c1 : G.cell b (pos * 5 + 1) = some (.int .i64 rs'[pos].1.kind) := by simp only [Heap.cell, hB]; exact hcells pos hpr 1 (by omega)
  subst hv
  by_cases hk0 : rs'[pos].1.kind = 0
  case neg =>
    simp [hc, hpr, c1, hk0]
    exact hE0
  rw [if_neg (by simpa using hk0)]
  rw [hk0] at c1
  cases hwp : wordB path 3 with
  | false =>
    rw [hwp] at hip
    simp [hc, hpr, c1, hip]
    exact hE0
  | true =>
    rw [hwp] at hip
    simp [hc, hpr, c1, hip]
    exact ⟨hE0, rs', hin, b, c, ⟨⟨rfl, rfl, rfl⟩, rfl⟩, ho.low (by simp)⟩
theorem fileE_zero {xs : List Inf} {name path : ByteArray} (h : fileE xs name path = 0) : ∃ (hi : posN (xs.map Inf.name) name < xs.length), mayB xs = true ∧ xs.length ≤ 6 ∧ idxN (xs.map Inf.name) name = some (posN (xs.map Inf.name) name) ∧ xs[posN (xs.map Inf.name) name].kind = 0 ∧ wordB path 3 = true := by
  unfold fileE at h
  split at h
  · rename_i h1; exact absurd h h1
  · rename_i h1
    have h1 : namedE xs name [] = 0 := by simpa using h1
    obtain ⟨h2, h3, h4, h5⟩ := named_pos h1
    rw [List.getElem?_eq_getElem h2] at h
    simp only at h
    split at h
    · simp at h
    · rename_i h6
      split at h
      · simp at h
      · rename_i h7
        exact ⟨h2, h4, h5, h3, by simpa using h6, by simpa using h7⟩
def deleteS (xs : List Inf) (name path : ByteArray) : List Inf × Int :=
  if fileE xs name path ≠ 0 then ([], fileE xs name path) else
  match xs[posN (xs.map Inf.name) name]? with
  | none => ([], 0)
  | some x => if hasN (x.files.map Fil.path) path = false then ([], 1908) else (xs.set (posN (xs.map Inf.name) name) { x with files := cutAt x.files (posN (x.files.map Fil.path) path) }, 0)
theorem files_facts {xs : List Inf} (h : mayB xs = true) {x : Inf} (hx : x ∈ xs) : Sorted (x.files.map Fil.path) ∧ x.files.length ≤ 4 := by
  obtain ⟨h1, _⟩ := mayB_inv h
  have := List.all_eq_true.1 h1 x hx
  simp only [infB, filesB, Bool.and_eq_true, decide_eq_true_eq] at this
  exact ⟨(rowsB_ok this.2.1).2, this.2.2⟩
theorem delete_ok (v : Value) (rs : List (Inf × Value)) (name path : ByteArray) (H : Heap) (h : Fo H v rs) (hz : FoZ rs) (hw : FoW rs) (hs : name.size ≤ 140737488355328) (hs2 : path.size ≤ 140737488355328) :
    wpf (call K f_forest_Delete [v, .string name, .string path] H) (Ret H (deleteS (infs rs) name path)) := by
  obtain ⟨r, G, hc, hE, he1, he2⟩ := file_ok v rs name path H h hz hw hs hs2
  refine open_plain rfl fc_forest_Delete rfl (Nat.le_of_ble_eq_true rfl) ?_
  by_cases he : fileE (infs rs) name path = 0
  case neg =>
    have hsp : deleteS (infs rs) name path = ([], fileE (infs rs) name path) := by simp [deleteS, he]
    rw [hsp]
    rw [he1 he] at hc
    simp [hc, he]
    exact Ret.err hE he
  obtain ⟨rs', b, c, hin, rfl, ho⟩ := he2 he
  obtain ⟨hpos, hmay, h6, hidx, hk0, hwp⟩ := fileE_zero he
  have hll : rs'.length = (infs rs).length := by rw [← infs_length rs', hin]
  generalize hpp : posN ((infs rs).map Inf.name) name = pos at *
  have hpr : pos < rs'.length := by omega
  have hget : (infs rs)[pos]? = some rs'[pos].1 := by rw [← hin]; simp [infs, List.getElem?_eq_getElem hpr]
  have hspp : deleteS (infs rs) name path = if hasN (rs'[pos].1.files.map Fil.path) path = false then ([], 1908) else ((infs rs).set pos { rs'[pos].1 with files := cutAt rs'[pos].1.files (posN (rs'[pos].1.files.map Fil.path) path) }, 0) := by
    simp only [deleteS, he, hpp, hget]; rw [if_neg (by simp)]
  rw [hspp]
  have hmem := List.getElem_mem hpr
  obtain ⟨hfs, hfl⟩ := files_facts hmay (x := rs'[pos].1) (by rw [← hin]; exact List.mem_map.2 ⟨_, hmem, rfl⟩)
  have hof := ho.fils _ hmem
  have hne : rs' ≠ [] := fun e => by rw [e] at hpr; simp at hpr
  obtain ⟨b1, B, c1, hv, g2, g3, g4, g5, hB, hro, hez, hcells, hput⟩ := ho.out.blkOf encP_len hne
  cases hv
  have c4 : G.cell b (pos * 5 + 4) = some rs'[pos].2 := by simp only [Heap.cell, hB]; exact hcells pos hpr 4 (by omega)
  have hfa := atFile_ok rs'[pos].2 rs'[pos].1.files path G (hof.rows encF_len) hfs (by omega) (fun _ _ => trivial)
  cases hh : hasN (rs'[pos].1.files.map Fil.path) path with
  | false =>
    rw [hh] at hfa
    simp [hc, c4, hfa]
    exact Ret.err hE (by decide)
  | true =>
    rw [hh] at hfa
    obtain ⟨hpl, _⟩ := idx_sorted hfs hh
    rw [List.length_map] at hpl
    generalize posN (rs'[pos].1.files.map Fil.path) path = at_ at *
    obtain ⟨r2, G2, hd, bf, Bf, hb1, hb2, rfl, hrof, hof2⟩ := delFile_ok hof at_ hpl (one_flat encF_one _) (by omega)
    have w1 : IntKind.i64.wrap ((at_ : Int) + 1) = (at_ : Int) + 1 := by rw [wrap_i64] <;> omega
    have hpw := List.pairwise_iff_getElem.1 ho.dis
    obtain ⟨b2, B2, c2, hv2, q1, q2, hB2, hro2, hcc, hfin⟩ := ho.putF (G' := G.set bf (some Bf)) hpr (Nat.le_refl _) (fun k hk hkb => blk_set_ne fun e => hkb (by rw [e]; exact hb1)) hof2 (fun x h1 h2 => by
      rw [hb2] at h2; cases h2; exact ho.sep _ hmem _ h1 hb1) (fun j hj hji x h1 h2 => by
      rw [hb2] at h2; cases h2
      rcases Nat.lt_or_ge j pos with h3 | h3
      · exact hpw j pos hj hpr h3 _ h1 hb1
      · exact hpw pos j hpr hj (by omega) _ hb1 h1)
    cases hv2
    have hr21 : r2.oneCell' = true := (hof2.rows encF_len).one
    obtain ⟨pq, cq, hqq⟩ := (hof2.rows encF_len).slice
    have hqc : r2.cells.toList = [r2] := by rw [hqq]; rfl
    have hqs : r2.cells.size = 1 := by rw [hqq]; rfl
    have cell4 : ∃ w, (G.set bf (some Bf)).cell b (pos * 5 + 4) = some w := by
      obtain ⟨w, hw⟩ := Option.isSome_iff_exists.1 hcc
      exact ⟨w, by simp only [Heap.cell, hB2]; exact hw⟩
    obtain ⟨w4, cell4⟩ := cell4
    have hbf : ¬ b = bf := fun e => ho.sep _ hmem b rfl (by rw [e]; exact hb1)
    rw [blk_set_ne hbf, hB] at hB2
    cases hB2
    simp [hc, c4, hfa, w1, hd, cell4, hbf, hB, hro, hr21, hqc, hqs]
    have hbf0 := (hof.below _ hb1).1
    refine ⟨(hE.set hbf0 _).set q2 _, _, rfl, fun h => absurd rfl h, fun _ => ⟨_, ?_, hfin⟩⟩
    rw [← hin]
    simp [infs, List.map_set, cutAt]
end Go.AM
