import Derived.Test.YtbgidagbogpfkaaR7Ri
/- Contracts: a forest of one's own written over. -/
namespace Go.AM
open Go.Proofs
set_option linter.unusedVariables false
set_option linter.unusedSimpArgs false
set_option maxRecDepth 100000
attribute [-simp] ByteArray.size_eq_zero_iff Heap.store
abbrev spoilt : ByteArray := ⟨#[115, 112, 111, 105, 108, 116]⟩
theorem store1 {G : Heap} {b j : Nat} {B : Blk} {w v : Value} (hB : G.blk b = some B) (hro : B.ro = false) (hc : G.cell b j = some w) (hv : v.oneCell' = true) : G.store b j [v] = some (G.set b (some (B.put j v))) := by
  simp [Heap.store, hB, hro, Heap.row, hc, Blk.puts, hv]
theorem spoilFiles_ok {n0 : Nat} (v : Value) (fs : List Fil) (H : Heap) (h : Ow encF 3 n0 H v fs) : wpf (call K f_law0_SpoilFiles [v] H) fun r G => r = .tuple #[] ∧ G.next = H.next ∧ ∀ b, blkV v ≠ some b → G.blk b = H.blk b := by
  have hlim := h.lim
  obtain ⟨p, c, hv⟩ := (h.rows encF_len).slice
  refine open_plain rfl fc_law0_SpoilFiles rfl (Nat.le_of_ble_eq_true rfl) ?_
  simp
  refine wp_for (fun d e G => ∃ (i : Nat) (cur : List Fil), d = fs.length - i ∧ i ≤ fs.length ∧ cur.length = fs.length ∧ Ow encF 3 n0 G v cur ∧ G.next = H.next ∧ (∀ b, blkV v ≠ some b → G.blk b = H.blk b) ∧ e 0 = v ∧ e 2 = .int .i64 (i : Int)) fs.length ⟨0, fs, by simp, by simp, rfl, h, rfl, fun _ _ => rfl, by simp, by simp⟩ ?_
  rintro d e G ⟨i, cur, rfl, hi, hcl, ho, hnx, hot, e0, e2⟩
  by_cases hil : i < fs.length
  · have hic : i < cur.length := by omega
    obtain ⟨b, B, c', hv', _, _, _, hb, hB, hro, _, hat, hput⟩ := ho.blkOf encF_len (fun e => by rw [e] at hic; simp at hic)
    have cg : G.cell b (i * 3) = some (.string cur[i].path) := by simp only [Heap.cell, hB]; exact hat i hic 0 (by omega)
    have hst := store1 (v := .string spoilt) hB hro cg rfl
    have hset := hput i 0 hic (by omega) ⟨spoilt, cur[i].content, cur[i].own⟩ (.string spoilt) (fun j hj => by
      match j with
      | 0 => rfl
      | 1 => rfl
      | 2 => rfl)
    have wi := wrap_succ (i := i) (by omega)
    rw [hcl] at hv'
    rw [hv'] at e0
    simp [c_law0_SpoilFiles_l4, e0, e2, hil, hst]
    exact ⟨fs.length - (i + 1), by omega, i + 1, rfl, by omega, _, by rw [List.length_set]; exact hcl, hset, hnx, fun k hk => by rw [if_neg (fun e => hk (by rw [hv', e]; rfl))]; exact hot k hk, hv'.symm, wi⟩
  · obtain rfl : i = fs.length := by omega
    rw [hv] at e0
    simp [c_law0_SpoilFiles_l4, e0, e2]
    exact ⟨hnx, hot⟩
theorem spoilInfos_ok {n0 : Nat} (v : Value) (rs : List (Inf × Value)) (H : Heap) (h : OwF n0 H v rs) (hl : rs.length ≤ 1000) : wpf (call K f_law0_SpoilInfos [v] H) fun r G => r = .tuple #[] ∧ G.next = H.next ∧ ∀ b, blkV v ≠ some b → (∀ p ∈ rs, blkV p.2 ≠ some b) → G.blk b = H.blk b := by
  obtain ⟨p, c, hv⟩ := h.fo.rows.slice
  have hdis := List.pairwise_iff_getElem.1 h.dis
  refine open_plain rfl fc_law0_SpoilInfos rfl (Nat.le_of_ble_eq_true rfl) ?_
  simp
  refine wp_for (fun d e G => ∃ (i : Nat) (cur : List (Inf × Value)), d = rs.length - i ∧ i ≤ rs.length ∧ cur.map Prod.snd = rs.map Prod.snd ∧ Ow encP 5 n0 G v cur ∧ (∀ k (hk : k < rs.length), i ≤ k → Ow encF 3 n0 G rs[k].2 rs[k].1.files) ∧ G.next = H.next ∧ (∀ b, blkV v ≠ some b → (∀ p ∈ rs, blkV p.2 ≠ some b) → G.blk b = H.blk b) ∧ e 0 = v ∧ e 2 = .int .i64 (i : Int)) rs.length ⟨0, rs, by simp, by simp, rfl, h.out, fun k hk _ => h.fils _ (List.getElem_mem hk), rfl, fun _ _ _ => rfl, by simp, by simp⟩ ?_
  rintro d e G ⟨i, cur, rfl, hi, hcm, ho, hf, hnx, hot, e0, e2⟩
  have hcl : cur.length = rs.length := by have := congrArg List.length hcm; simpa using this
  by_cases hil : i < rs.length
  · have hic : i < cur.length := by omega
    have hci : cur[i].2 = rs[i].2 := by
      have h1 : (cur.map Prod.snd)[i]'(by simpa using hic) = (rs.map Prod.snd)[i]'(by simpa using hil) := by simp only [hcm]
      simpa using h1
    have hfi := hf i hil (Nat.le_refl _)
    obtain ⟨r, G1, hc, hr, hn1, hb1⟩ := spoilFiles_ok _ _ G hfi
    subst hr
    have hmem := List.getElem_mem hil
    have ho1 := ho.frame (H' := G1) (by omega) fun b hb => hb1 b (h.sep _ hmem b hb)
    obtain ⟨b, B, c', hv', _, _, _, hb, hB, hro, _, hat, hput⟩ := ho1.blkOf encP_len (fun e => by rw [e] at hic; simp at hic)
    have cg : G1.cell b (i * 5) = some (.string cur[i].1.name) := by simp only [Heap.cell, hB]; exact hat i hic 0 (by omega)
    have hBG : G.blk b = some B := by rw [← hb1 b (h.sep _ hmem b (by rw [hv']; rfl))]; exact hB
    have c4 : G.cell b (i * 5 + 4) = some rs[i].2 := by
      simp only [Heap.cell, hBG]; rw [hat i hic 4 (by omega)]; show some cur[i].2 = _; rw [hci]
    have hst := store1 (v := .string spoilt) hB hro cg rfl
    have hset := hput i 0 hic (by omega) ({ cur[i].1 with name := spoilt }, cur[i].2) (.string spoilt) (fun j hj => by
      match j with
      | 0 => rfl
      | 1 => rfl
      | 2 => rfl
      | 3 => rfl
      | 4 => rfl)
    have wi := wrap_succ (i := i) (by omega)
    rw [hcl] at hv'
    have e0' := e0
    rw [hv'] at e0'
    have hfil2 : ∀ k (hk : k < rs.length), i + 1 ≤ k → Ow encF 3 n0 (G1.set b (some (B.put (i * 5) (.string spoilt)))) rs[k].2 rs[k].1.files := fun k hk hik => by
      have h1 := (hf k hk (by omega)).frame (H' := G1) (by omega) fun x hx => hb1 x fun hx2 => hdis i k hil hk (by omega) x hx2 hx
      exact h1.setB (fun hx => h.sep _ (List.getElem_mem hk) b (by rw [hv']; rfl) hx) _
    have hcm2 : (cur.set i ({ cur[i].1 with name := spoilt }, cur[i].2)).map Prod.snd = rs.map Prod.snd := by
      rw [List.map_set, ← hcm]
      refine List.ext_getElem (by simp) fun k h1 h2 => ?_
      rw [List.getElem_set]
      split
      · rename_i e; subst e; simp
      · rfl
    simp [c_law0_SpoilInfos_l5, e0', e2, hil, c4, hc, hst]
    exact ⟨rs.length - (i + 1), by omega, i + 1, rfl, by omega, _, hcm2, hset, hfil2, by omega, fun x hx hx2 => by rw [if_neg (fun e => hx (by rw [hv', e]; rfl)), hb1 x (hx2 _ _ hmem)]; exact hot x hx fun p hp => hx2 _ _ hp, hv'.symm, wi⟩
  · obtain rfl : i = rs.length := by omega
    rw [hv] at e0
    simp [c_law0_SpoilInfos_l5, e0, e2]
    exact ⟨hnx, fun b h1 h2 => hot b h1 fun p hp => h2 _ _ hp⟩
end Go.AM
