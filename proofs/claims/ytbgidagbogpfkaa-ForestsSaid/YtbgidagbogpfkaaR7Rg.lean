import Derived.Test.YtbgidagbogpfkaaR7Rf
/- The document's answer: deleting a file. -/
namespace Go.AM
open Go.Proofs
set_option linter.unusedVariables false
set_option linter.unusedSimpArgs false
set_option maxRecDepth 100000
attribute [-simp] ByteArray.size_eq_zero_iff Heap.store
/-- One more file at the end of a row of one's own. -/
theorem pushF_ok {n0 : Nat} {G : Heap} {u : Value} {L : List Fil} (h : Own encF 3 n0 G u L) (hn : n0 ≤ G.next) (x : Fil) (hl : (L.length + 1) * 40 ≤ 2 ^ 47) :
    ∃ u' X, (G.add (rowBlk 3 [.string x.path, .string x.content, .bool x.own])).row G.next 0 3 = some [.string x.path, .string x.content, .bool x.own] ∧
      appV (G.add (rowBlk 3 [.string x.path, .string x.content, .bool x.own])) 3 40 1 u [.string x.path, .string x.content, .bool x.own] = some (u', X) ∧ Own encF 3 n0 X u' (L ++ [x]) ∧ n0 ≤ X.next ∧ ∀ A, A.next ≤ n0 → Ext A G → Ext A X := by
  have E := (Ext.refl G).add (rowBlk 3 [.string x.path, .string x.content, .bool x.own])
  obtain ⟨X, h1, h2, h3, _, h5⟩ := (h.ext E).app2 (by_ := 40) encF_len x rfl hl (by omega) (by simp; omega)
  exact ⟨_, X, row_new _ _ _ rfl, h1, h2, by rw [h3]; simp; omega, fun A hA hE => h5 A hA (hE.add _)⟩
/-- The files of a snapshot of one's own forest set. -/
theorem OwF.setFiles {n0 m : Nat} {G : Heap} {v : Value} {rs : List (Inf × Value)} (w : OwF n0 G v rs) {k : Nat} (hk : k < rs.length) {u : Value} {fs : List Fil} (hu : Own encF 3 m G u fs) (hm : ∀ b, blkV v = some b → b < m) :
    ∃ b c X, v = .slice (some ⟨b, 0, none⟩) rs.length c ∧ G.store b (k * 5 + 4) [u] = some X ∧ Fo X v (rs.set k ({ rs[k].1 with files := fs }, u)) ∧ ∀ A, A.next ≤ n0 → Ext A G → Ext A X := by
  obtain ⟨b, B, c, hv, _, _, h4, h5, hB, hro, _, hat, hput⟩ := w.out.blkOf encP_len (fun e => by rw [e] at hk; simp at hk)
  subst hv
  have hone : u.oneCell' = true := (hu.rows encF_len).one
  have cg : G.cell b (k * 5 + 4) = some rs[k].2 := by simp only [Heap.cell, hB]; exact hat k hk 4 (by omega)
  have hst : G.store b (k * 5 + 4) [u] = some (G.set b (some (B.put (k * 5 + 4) u))) := by
    simp [Heap.store, hB, hro, Heap.row, cg, Blk.puts, hone]
  have hset := hput k 4 hk (by omega) ({ rs[k].1 with files := fs }, u) u (fun j hj => by
    match j with
    | 0 => rfl
    | 1 => rfl
    | 2 => rfl
    | 3 => rfl
    | 4 => rfl)
  refine ⟨b, c, _, rfl, hst, ⟨hset.rows encP_len, fun p hp => ?_⟩, fun A hA hE => hE.set (by omega) _⟩
  rcases List.mem_or_eq_of_mem_set hp with hp | rfl
  · exact ((w.fils p hp).setB (fun hb => w.sep p hp b rfl hb) _).rows encF_len
  · exact (hu.set (hm b rfl) _).rows encF_len
/-- The conditions of an act upon a file. -/
theorem file_case (xs : List Inf) (n path : ByteArray) : (mayB xs = false ∧ fileE xs n path = 1900) ∨ (mayB xs = true ∧ wordB n 4 = false ∧ fileE xs n path = 1901) ∨
    (mayB xs = true ∧ wordB n 4 = true ∧ idxN (xs.map Inf.name) n = none ∧ fileE xs n path = 1903) ∨
    ∃ k, ∃ hk : k < xs.length, mayB xs = true ∧ wordB n 4 = true ∧ idxN (xs.map Inf.name) n = some k ∧ posN (xs.map Inf.name) n = k ∧
      ((xs[k].kind ≠ 0 ∧ fileE xs n path = 1905) ∨ (xs[k].kind = 0 ∧ wordB path 3 = false ∧ fileE xs n path = 1907) ∨ (xs[k].kind = 0 ∧ wordB path 3 = true ∧ fileE xs n path = 0)) := by
  rcases named_case xs n [] with ⟨a1, e⟩ | ⟨a1, a2, e⟩ | ⟨a1, a2, a3, e⟩ | ⟨k, hk, a1, a2, a3, a4, a5, e⟩
  · exact .inl ⟨a1, by simp [fileE, e]⟩
  · exact .inr (.inl ⟨a1, by simpa using a2, by simp [fileE, e]⟩)
  · exact .inr (.inr (.inl ⟨a1, by simpa using a2, a3, by simp [fileE, e]⟩))
  · refine .inr (.inr (.inr ⟨k, hk, a1, by simpa using a2, a3, a4, ?_⟩))
    have hg : xs[k]? = some xs[k] := List.getElem?_eq_getElem hk
    by_cases b1 : xs[k].kind = 0
    · cases b2 : wordB path 3 with
      | false => exact .inr (.inl ⟨b1, rfl, by simp [fileE, e, a4, hg, b1, b2]⟩)
      | true => exact .inr (.inr ⟨b1, rfl, by simp [fileE, e, a4, hg, b1, b2]⟩)
    · exact .inl ⟨b1, by simp [fileE, e, a4, hg, b1]⟩
theorem cf_bound {w i n : Nat} (h1 : w ≤ i) (h2 : i < n) (h3 : n ≤ 4) : (w + 1) * 40 ≤ 2 ^ 47 := by omega
theorem rdelete_ok (v : Value) (rs : List (Inf × Value)) (name path : ByteArray) (H : Heap) (h : Fo H v rs) (hz : FoZ rs) (hw : FoW rs) (hs : name.size ≤ 140737488355328) (hs2 : path.size ≤ 140737488355328) :
    wpf (call K f_ref16_Delete [v, .string name, .string path] H) (RRet H (deleteS (infs rs) name path)) := by
  have hl := hz.len
  have hac := ractive_ok v rs name H h hl
  have hm := rmay_ok v rs H h hz
  have hn := nameMay_ok name H hs
  have hp := pathMay_ok path H hs2
  refine open_plain rfl fc_ref16_Delete rfl (Nat.le_of_ble_eq_true rfl) ?_
  rcases file_case (infs rs) name path with ⟨a1, e⟩ | ⟨a1, a2, e⟩ | ⟨a1, a2, a3, e⟩ | ⟨k, hk, a1, a2, a3, a4, hc⟩
  · rw [a1] at hm
    have hq : deleteS (infs rs) name path = ([], 1900) := by simp [deleteS, e]
    rw [hq]; simp [hm]; exact RRet.err H _
  · rw [a1] at hm
    rw [a2] at hn
    have hq : deleteS (infs rs) name path = ([], 1901) := by simp [deleteS, e]
    rw [hq]; simp [hm, hn]; exact RRet.err H _
  · rw [a1] at hm
    rw [a2] at hn
    rw [actS_none a3] at hac
    have hq : deleteS (infs rs) name path = ([], 1903) := by simp [deleteS, e]
    rw [hq]; simp [hm, hn, hac]; exact RRet.err H _
  · rw [a1] at hm
    rw [a2] at hn
    rw [actS_some a3 hk] at hac
    have hk' : k < rs.length := by simpa using hk
    have hge0 : (infs rs)[k] = rs[k].1 := by simp [infs]
    have hget : (infs rs)[k]? = some (infs rs)[k] := List.getElem?_eq_getElem hk
    obtain ⟨b0, o0, c0, hv0⟩ : ∃ b o c, v = .slice (some ⟨b, o, none⟩) rs.length c := by
      obtain ⟨p, c, rfl⟩ := h.rows.slice
      obtain ⟨b, o, rfl, _⟩ := h.rows.row encP_len hk'
      exact ⟨b, o, c, rfl⟩
    subst hv0
    obtain ⟨_, _, hpp, hb0, _, _, _, _, t4⟩ := h.rows.at5 hk'
    cases hpp
    have hfil := h.fils _ (List.getElem_mem hk')
    have hmem := List.getElem_mem hk'
    have hfa := rfileAt_ok rs[k].2 rs[k].1.files path H hfil (hz.inf _ hmem).2
    have hfb := infB_files ((mayB_all a1).1 _ (List.mem_map.2 ⟨_, hmem, rfl⟩))
    obtain ⟨_, hsrt, hl4⟩ := filesB_inv hfb
    simp at t4
    rcases hc with ⟨b1, e⟩ | ⟨b1, b2, e⟩ | ⟨b1, b2, e⟩
    · rw [if_pos b1] at hac
      have hq : deleteS (infs rs) name path = ([], 1905) := by simp [deleteS, e]
      rw [hq]; simp [hm, hn, hac]; exact RRet.err H _
    · rw [if_neg (by simpa using b1)] at hac
      rw [b2] at hp
      have hq : deleteS (infs rs) name path = ([], 1907) := by simp [deleteS, e]
      rw [hq]; simp [hm, hn, hac, hk', t4, hfa, hp]; exact RRet.err H _
    rw [if_neg (by simpa using b1)] at hac
    rw [b2] at hp
    have hmi := idx_mem (s := path) (ns := rs[k].1.files.map Fil.path)
    cases hi : idxN (rs[k].1.files.map Fil.path) path with
    | none =>
      rw [hi] at hmi
      rw [atI_none hi] at hfa
      have hq : deleteS (infs rs) name path = ([], 1908) := by
        simp only [deleteS, e, a4, hget, hge0, ← hmi]; rfl
      rw [hq]; simp [hm, hn, hac, hk', t4, hfa, hp]; exact RRet.err H _
    | some j =>
      rw [hi] at hmi
      rw [atI_some hi] at hfa
      have hh : hasN (rs[k].1.files.map Fil.path) path = true := hmi.symm
      obtain ⟨h1, h2⟩ := idx_sorted hsrt hh
      rw [hi] at h2
      have hpj : posN (rs[k].1.files.map Fil.path) path = j := (Option.some.inj h2).symm
      rw [hpj] at h1
      have hj : j < rs[k].1.files.length := by simpa using h1
      have hq : deleteS (infs rs) name path = ((infs rs).set k { rs[k].1 with files := cutAt rs[k].1.files j }, 0) := by
        simp only [deleteS, e, a4, hget, hge0, hh, hpj]; rfl
      have hj0 : ¬ ((j : Int) < 0) := by omega
      obtain ⟨r1, G1, c1, E1, rs1, i1, w1⟩ := rcopy_ok _ rs H h hw
      have hl1 : rs1.length = rs.length := by rw [← infs_length rs1, i1, infs_length]
      have hk1 : k < rs1.length := by omega
      have hge : rs[k].1 = rs1[k].1 := by
        have := infs_get hk1
        rw [i1, infs_get hk'] at this
        exact Option.some.inj this
      have f1 := w1.fo
      obtain ⟨b, o, hbv⟩ : ∃ b o, ∃ c, r1 = .slice (some ⟨b, o, none⟩) rs1.length c := by
        obtain ⟨p, c, rfl⟩ := f1.rows.slice
        obtain ⟨b, o, rfl, _⟩ := f1.rows.row encP_len hk1
        exact ⟨b, o, c, rfl⟩
      obtain ⟨c, rfl⟩ := hbv
      have hbelow : b < G1.next := (w1.out.below b rfl).2
      obtain ⟨_, _, hpp, _, _, _, _, _, s4⟩ := f1.rows.at5 hk1
      cases hpp
      have hfil1 := f1.fils _ (List.getElem_mem hk1)
      rw [← hge] at hfil1
      simp at s4
      simp [hm, hn, hac, hk', t4, hfa, hp, hj0, c1]
      obtain ⟨pf, cf, hfv⟩ := hfil1.slice
      rw [hfv] at s4 hfil1
      refine wp_nxt (wp_for (fun d e G => ∃ (i : Nat) (u : Value), d = rs[k].1.files.length - i ∧ i ≤ rs[k].1.files.length ∧ Ext G1 G ∧ Own encF 3 G1.next G u (cutL rs[k].1.files j i) ∧ e 8 = .int .i64 (k : Int) ∧ e 10 = .int .i64 (j : Int) ∧ e 11 = .slice (some ⟨b, o, none⟩) rs1.length c ∧ e 12 = u ∧ e 13 = .int .i64 (i : Int)) rs[k].1.files.length ⟨0, .slice none 0 0, by simp, by simp, Ext.refl G1, by unfold cutL; rw [if_pos (by omega)]; exact Own.nil, by simp⟩ ?_)
      rintro d ev G ⟨i, u, rfl, hil, hE, ho, e8, e10, e11, e12, e13⟩
      have s4' := s4
      rw [← hE.cell hbelow] at s4'
      have hcl := cutL_len (rs := rs[k].1.files) (k := j) hil
      by_cases hi2 : i < rs[k].1.files.length
      · obtain ⟨bf, of, rfl, hbf, m0⟩ := (hfil1.ext hE).row encF_len hi2
        have wi := wrap_succ (i := i) (by omega)
        have s1 := cutL_lt (k := j) hi2
        have s2 := cutL_eq hi2
        have s3 := cutL_gt (k := j) hi2
        have hL1 := cf_bound hcl hi2 hl4
        clear hcl
        by_cases hij : i = j
        · subst hij
          rw [← s2] at ho
          simp [-Heap.row, c_ref16_Delete_l20, e8, e10, e11, e12, e13, hk1, s4', hi2]
          exact ⟨rs[k].1.files.length - (i + 1), by omega, i + 1, rfl, by omega, hE, _, ho, rfl, wi⟩
        · obtain ⟨u', X, q1, q2, q3, _, q4⟩ := pushF_ok ho hE.next rs[k].1.files[i] hL1
          have hne : ¬ ((i : Int) = (j : Int)) := by omega
          have q3' : Own encF 3 G1.next X u' (cutL rs[k].1.files j (i + 1)) := by
            rcases Nat.lt_or_ge i j with h1 | h1
            · rw [s1 h1]; exact q3
            · rw [s3 (by omega)]; exact q3
          generalize rs[k].1.files[i] = y at *
          obtain ⟨y1, y2, y3⟩ := y
          have m0' : G.row bf (of + i * 3) 3 = some [.string y1, .string y2, .bool y3] := m0
          simp only at q1 q2
          simp [-Heap.row, c_ref16_Delete_l20, e8, e10, e11, e12, e13, hk1, s4', hi2, hij, hne, m0', q1, q2]
          exact ⟨rs[k].1.files.length - (i + 1), by omega, i + 1, rfl, by omega, q4 _ (Nat.le_refl _) hE, _, q3', rfl, wi⟩
      · obtain rfl : i = rs[k].1.files.length := by omega
        have hwc : cutL rs[k].1.files j rs[k].1.files.length = cutAt rs[k].1.files j := by unfold cutL; rw [if_neg (by omega), List.take_length]
        rw [hwc] at ho
        obtain ⟨b', c', X, hv', hst, hfo, hEX⟩ := (w1.ext hE).setFiles hk1 ho (fun b' hb' => (w1.out.below b' hb').2)
        cases hv'
        rw [Nat.zero_add] at s4'
        obtain ⟨pu, cu, rfl⟩ := (ho.rows encF_len).slice
        rw [hq]
        simp [-Heap.row, c_ref16_Delete_l20, e8, e10, e11, e12, e13, hk1, s4', hst]
        refine ⟨hEX H (Nat.le_refl _) (E1.trans hE), _, _, rfl, ?_, hfo⟩
        rw [← i1]
        simp [infs, List.map_set, ← hge]
end Go.AM
