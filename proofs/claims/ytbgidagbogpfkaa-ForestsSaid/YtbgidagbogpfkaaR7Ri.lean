import Derived.Test.YtbgidagbogpfkaaR7Rh
/- The document's answer: preparing. -/
namespace Go.AM
open Go.Proofs
set_option linter.unusedVariables false
set_option linter.unusedSimpArgs false
set_option maxRecDepth 100000
attribute [-simp] ByteArray.size_eq_zero_iff Heap.store
/-- One more file, no longer its own, behind the files of a variable. -/
theorem prep_step {n0 b : Nat} {G : Heap} {x : Inf} {u : Value} {L : List Fil} (vp : VarP G b (x, u)) (ho : Own encF 3 n0 G u L) (hb : b < n0) (hn : n0 ≤ G.next) (f : Fil) (hl : (L.length + 1) * 40 ≤ 2 ^ 47) :
    ∃ X Y u' W V, (G.add (rowBlk 3 [.string ⟨#[]⟩, .string ⟨#[]⟩, .bool false])).store G.next 0 (encF f) = some X ∧ X.store G.next 2 [.bool false] = some Y ∧ Y.cell b 4 = some u ∧ Y.row G.next 0 3 = some [.string f.path, .string f.content, .bool false] ∧
      (Y.add (rowBlk 3 [.string f.path, .string f.content, .bool false])).row Y.next 0 3 = some [.string f.path, .string f.content, .bool false] ∧
      appV (Y.add (rowBlk 3 [.string f.path, .string f.content, .bool false])) 3 40 1 u [.string f.path, .string f.content, .bool false] = some (u', W) ∧ W.store b 4 [u'] = some V ∧ VarP V b (x, u') ∧ Own encF 3 n0 V u' (L ++ [unown f]) ∧ n0 ≤ V.next ∧ ∀ A, A.next ≤ b → Ext A G → Ext A V := by
  have hA : (G.add (rowBlk 3 [.string ⟨#[]⟩, .string ⟨#[]⟩, .bool false])).blk G.next = some (rowBlk 3 [.string ⟨#[]⟩, .string ⟨#[]⟩, .bool false]) := by simp [Heap.add]
  have EA : Ext G (G.add (rowBlk 3 [.string ⟨#[]⟩, .string ⟨#[]⟩, .bool false])) := (Ext.refl G).add _
  obtain ⟨X, hX⟩ : ∃ X, X = (G.add (rowBlk 3 [.string ⟨#[]⟩, .string ⟨#[]⟩, .bool false])).set G.next (some ((rowBlk 3 [.string ⟨#[]⟩, .string ⟨#[]⟩, .bool false]).puts 0 (encF f))) := ⟨_, rfl⟩
  have x1 : (G.add (rowBlk 3 [.string ⟨#[]⟩, .string ⟨#[]⟩, .bool false])).store G.next 0 (encF f) = some X := by
    rw [hX]; simp [Heap.store, Heap.row, rowBlk]
  have EX : Ext G X := by rw [hX]; exact EA.set (Nat.le_refl _) _
  have hXb : X.blk G.next = some ((rowBlk 3 [.string ⟨#[]⟩, .string ⟨#[]⟩, .bool false]).puts 0 (encF f)) := by rw [hX]; exact blk_set_self _ _ _
  obtain ⟨Y, hY⟩ : ∃ Y, Y = X.set G.next (some (((rowBlk 3 [.string ⟨#[]⟩, .string ⟨#[]⟩, .bool false]).puts 0 (encF f)).put 2 (.bool false))) := ⟨_, rfl⟩
  have y1 : X.store G.next 2 [.bool false] = some Y := by
    rw [hY]; simp [Heap.store, Heap.row, Heap.cell, hXb, Blk.puts, Blk.put, rowBlk]
  have EY : Ext G Y := by rw [hY]; exact EX.set (Nat.le_refl _) _
  have hYn : Y.next = G.next + 1 := by rw [hY, hX]; rfl
  have y2 : Y.row G.next 0 3 = some [.string f.path, .string f.content, .bool false] := by
    rw [hY]
    refine row_of _ 0 rfl fun j hj => ?_
    rw [cell_set_self, Nat.zero_add]
    match j, hj with
    | 0, _ => rfl
    | 1, _ => rfl
    | 2, _ => rfl
  have vpY : VarP Y b (x, u) := vp.other (EY.blk b (by omega))
  obtain ⟨_, _, _, _, c4, _⟩ := vpY.cells
  have EZ := EY.add (rowBlk 3 [.string f.path, .string f.content, .bool false])
  obtain ⟨W, w1, w2, wn, wb, wE⟩ := (ho.ext EZ).app2 (by_ := 40) encF_len (unown f) rfl hl (by omega) (by simp; omega)
  generalize (Value.slice (some ⟨(Y.add (rowBlk 3 [.string f.path, .string f.content, .bool false])).next, 0, none⟩) (L.length + 1) (2 * (L.length + 1))) = uu at *
  have hbu : blkV u ≠ some b := fun e => by have := (ho.blkV_lt b e).1; omega
  have vpW : VarP W b (x, u) := vpY.other (by rw [wb b (by simp; omega) hbu, blk_add_old (by omega)])
  have hone := (w2.rows encF_len).one
  obtain ⟨V, v1, v2, vn, vo⟩ := vpW.put (q := (x, uu)) (j := 4) (v := uu) (by omega) hone rfl
  have hV : Own encF 3 n0 V uu (L ++ [unown f]) := by
    refine w2.frame (by omega) fun k hk1 hk2 hk3 => vo k (by omega)
  refine ⟨X, Y, uu, W, V, x1, y1, c4, y2, row_new _ _ _ rfl, w1, v1, v2, hV, by rw [vn, wn]; simp; omega, fun A hA hE => ?_⟩
  have EW := wE A (by omega) (hE.trans EZ)
  exact ⟨by rw [vn]; exact EW.next, fun k hk => by rw [vo k (by omega)]; exact EW.blk k hk⟩
theorem prep_loop {H X0 : Heap} {rs : List (Inf × Value)} {k : Nat} {fs : List Fil} {x : Inf} {b o c : Nat} {pf : Option Addr} {cf : Nat} (hk : k < rs.length) (hfil : Fils H (.slice pf fs.length cf) fs) (E0 : Ext H X0) (hn0 : H.next + 1 ≤ X0.next) (hb : b < H.next)
    (s4 : H.cell b (o + k * 5 + 4) = some (.slice pf fs.length cf)) (vp : VarP X0 H.next (x, .slice none 0 0)) (hl4 : fs.length ≤ 4)
    (e : Env) (Q : IEx → Env → Heap → Prop) (e0 : e 0 = .slice (some ⟨b, o, none⟩) rs.length c) (e10 : e 10 = .int .i64 (k : Int)) (e11 : e 11 = .pointer (some ⟨H.next, 0, none⟩)) (e12 : e 12 = .int .i64 0)
    (hQ : ∀ e' G u, e' 0 = .slice (some ⟨b, o, none⟩) rs.length c → e' 11 = .pointer (some ⟨H.next, 0, none⟩) → Ext H G → H.next + 1 ≤ G.next → VarP G H.next (x, u) → Own encF 3 X0.next G u (fs.map unown) → Q .norm e' G) :
    wp (unblock 1 (run K (.loop c_ref16_Prepare_l22) e X0)) Q := by
  refine wp_for (fun d e G => ∃ (i : Nat) (u : Value), d = fs.length - i ∧ i ≤ fs.length ∧ Ext H G ∧ X0.next ≤ G.next ∧ VarP G H.next (x, u) ∧ Own encF 3 X0.next G u ((fs.take i).map unown) ∧ e 0 = .slice (some ⟨b, o, none⟩) rs.length c ∧ e 10 = .int .i64 (k : Int) ∧ e 11 = .pointer (some ⟨H.next, 0, none⟩) ∧ e 12 = .int .i64 (i : Int)) fs.length ⟨0, .slice none 0 0, by simp, by simp, E0, Nat.le_refl _, vp, by simpa using Own.nil, e0, e10, e11, by simpa using e12⟩ ?_
  clear e0 e10 e11 e12 vp
  rintro d ev G ⟨i, u, rfl, hil, hE, hnG, vp, ho, e0, e10, e11, e12⟩
  rw [← hE.cell hb] at s4
  by_cases hi2 : i < fs.length
  · obtain ⟨bf, of, rfl, hbf1, m0⟩ := (hfil.ext hE).row encF_len hi2
    have wi := wrap_succ (i := i) (by omega)
    have hlen : (((fs.take i).map unown).length + 1) * 40 ≤ 2 ^ 47 := by
      rw [List.length_map, List.length_take]; omega
    obtain ⟨X, Y, u', W, V, x1, y1, y2, y3, y4, w1, v1, v2, v3, v4, v5⟩ := prep_step vp ho (by omega) hnG fs[i] hlen
    have hst : (fs.take i).map unown ++ [unown fs[i]] = (fs.take (i + 1)).map unown := by
      rw [List.take_succ_eq_append_getElem hi2, List.map_append]; rfl
    rw [hst] at v3
    obtain ⟨pu, cu, hu⟩ := (v3.rows encF_len).slice
    generalize ((fs.take (i + 1)).map unown).length = nn at hu
    subst hu
    generalize fs[i] = y at *
    obtain ⟨z1, z2, z3⟩ := y
    have m0' : G.row bf (of + i * 3) 3 = some [.string z1, .string z2, .bool z3] := m0
    simp only at y3 y4 w1
    have x1' : (G.add (rowBlk 3 [.string ⟨#[]⟩, .string ⟨#[]⟩, .bool false])).store G.next 0 [.string z1, .string z2, .bool z3] = some X := x1
    simp [-Heap.row, c_ref16_Prepare_l22, e0, e10, e11, e12, hk, s4, hi2, m0', x1', y1, y2, y3, y4, w1, v1]
    exact ⟨fs.length - (i + 1), by omega, i + 1, rfl, by omega, v5 H (Nat.le_refl _) hE, v4, _, v2, by simpa using v3, wi⟩
  · obtain rfl : i = fs.length := by omega
    rw [List.take_length] at ho
    simp [-Heap.row, c_ref16_Prepare_l22, e0, e10, e11, e12, hk, s4]
    exact hQ _ _ u (by simpa using e0) (by simpa using e11) hE (by omega) vp ho
theorem rprepare_ok (v : Value) (rs : List (Inf × Value)) (name parent : ByteArray) (kind : Int) (H : Heap) (h : Fo H v rs) (hz : FoZ rs) (hw : FoW rs) (hs : name.size ≤ 140737488355328) (hs2 : parent.size ≤ 140737488355328) :
    wpf (call K f_ref16_Prepare [v, .string name, .string parent, .int .i64 kind] H) (RRet H (prepareS (infs rs) name parent kind)) := by
  have hl := hz.len
  have hat := rAt_ok v rs parent H h hl
  have hat2 := rAt_ok v rs name H h hl
  have hm := rmay_ok v rs H h hz
  have hn := nameMay_ok name H hs
  have hn2 := nameMay_ok parent H hs2
  refine open_plain rfl fc_ref16_Prepare rfl (Nat.le_of_ble_eq_true rfl) ?_
  cases hmB : mayB (infs rs) with
  | false =>
    rw [hmB] at hm
    have hq : prepareS (infs rs) name parent kind = ([], 1900) := by simp [prepareS, beginE, hmB]
    rw [hq]; simp [hat, hm]; exact RRet.err H _
  | true =>
  rw [hmB] at hm
  obtain ⟨m1, m2, m3, m4⟩ := mayB_all hmB
  have hno0 : idxN ((infs rs).map Inf.name) ⟨#[]⟩ = none := idx_none fun k hk e => by
    have hk' : k < (infs rs).length := by simpa using hk
    rw [List.getElem_map] at e
    exact word_ne (infB_name (m1 _ (List.getElem_mem hk'))) e
  cases hwn : wordB name 4 with
  | false =>
    rw [hwn] at hn
    have hq : prepareS (infs rs) name parent kind = ([], 1901) := by
      have : beginE (infs rs) (prepNs name parent) = 1901 := by
        unfold prepNs; split <;> simp [beginE, hmB, hwn]
      simp [prepareS, this]
    rw [hq]; simp [hat, hm, hn]; exact RRet.err H _
  | true =>
  rw [hwn] at hn
  by_cases hpw : parent ≠ ⟨#[]⟩ ∧ wordB parent 4 = false
  · obtain ⟨hp, hwp⟩ := hpw
    rw [hwp] at hn2
    have hq : prepareS (infs rs) name parent kind = ([], 1901) := by
      have : beginE (infs rs) (prepNs name parent) = 1901 := by simp [prepNs, hp, beginE, hmB, hwn, hwp]
      simp [prepareS, this]
    rw [hq]; simp [hat, hm, hn, hn2, hp]; exact RRet.err H _
  have hb : beginE (infs rs) (prepNs name parent) = 0 := by
    by_cases hp : parent = ⟨#[]⟩
    · simp [prepNs, hp, beginE, hmB, hwn]
    · have : wordB parent 4 = true := by
        cases hh : wordB parent 4 with
        | true => rfl
        | false => exact absurd ⟨hp, hh⟩ hpw
      simp [prepNs, hp, beginE, hmB, hwn, this]
  -- the second test is false
  have hwp : parent = ⟨#[]⟩ ∨ (parent ≠ ⟨#[]⟩ ∧ wordB parent 4 = true) := by
    by_cases hp : parent = ⟨#[]⟩
    · exact .inl hp
    · refine .inr ⟨hp, ?_⟩
      cases hh : wordB parent 4 with
      | true => rfl
      | false => exact absurd ⟨hp, hh⟩ hpw
  clear hpw
  have hmem := idx_mem (s := name) (ns := (infs rs).map Inf.name)
  obtain ⟨pv, cv, hv⟩ := h.rows.slice
  subst hv
  have hl6 : rs.length ≤ 6 := by simpa using m4
  -- what is laid down
  have fin : ∀ (G : Heap) (u : Value) (fs : List Fil), Ext H G → VarP G H.next (⟨name, kind, parent, ⟨#[]⟩, []⟩, u) → Fils G u fs → hasN ((infs rs).map Inf.name) name = false → H.next + 1 ≤ G.next →
      ∃ p n c G1 G2, ∃ r1 : Value, call K f_ref16_Copy [.slice pv rs.length cv] G = some (r1, G1) ∧ G1.row H.next 0 5 = some [.string name, .int .i64 kind, .string parent, .string ⟨#[]⟩, u] ∧ call K f_ref16_with [r1, .agg #[.string name, .int .i64 kind, .string parent, .string ⟨#[]⟩, u]] G1 = some (.slice p n c, G2) ∧
        G.row H.next 0 5 = some [.string name, .int .i64 kind, .string parent, .string ⟨#[]⟩, u] ∧ RRet H (insAt (infs rs) (posN ((infs rs).map Inf.name) name) ⟨name, kind, parent, ⟨#[]⟩, fs⟩, 0) (.tuple #[.slice p n c, .int .i64 0]) G2 := by
    intro G u fs hE vp hf hno hnx
    obtain ⟨r1, G1, c1, E1, rs1, i1, w1⟩ := rcopy_ok _ rs G (h.ext hE) hw
    have hl1 : rs1.length = rs.length := by rw [← infs_length rs1, i1, infs_length]
    obtain ⟨_, _, _, _, _, q1⟩ := vp.cells
    obtain ⟨_, _, _, _, _, q2⟩ := (vp.other (E1.blk _ (by omega))).cells
    obtain ⟨r2, G2, c2, E2, w2⟩ := with_ok r1 rs1 (⟨name, kind, parent, ⟨#[]⟩, fs⟩, u) G1 w1.fo (hf.ext E1) (by rw [i1]; exact m2) (by rw [i1]; exact hno) (by rw [hl1]; omega)
    rw [i1] at w2
    obtain ⟨p2, c2', rfl⟩ := w2.rows.slice
    refine ⟨_, _, _, G1, G2, r1, c1, q2, c2, q1, (hE.trans E1).trans E2, _, _, rfl, ?_, w2⟩
    rw [show infs (insAt rs1 (posN ((infs rs).map Inf.name) name) ((⟨name, kind, parent, ⟨#[]⟩, fs⟩ : Inf), u)) = insAt (infs rs1) (posN ((infs rs).map Inf.name) name) ⟨name, kind, parent, ⟨#[]⟩, fs⟩ from infs_ins _ _ _, i1]
  obtain ⟨X, x1, EX, vX, xn⟩ := new_var H (⟨name, kind, parent, ⟨#[]⟩, []⟩, .slice none 0 0) rfl
  have x1' : (H.add (rowBlk 5 [.string ⟨#[]⟩, .int .i64 0, .string ⟨#[]⟩, .string ⟨#[]⟩, .slice none 0 0])).store H.next 0 [.string name, .int .i64 kind, .string parent, .string ⟨#[]⟩, .slice none 0 0] = some X := x1
  rcases hwp with rfl | ⟨hp, hwp⟩
  · rw [atI_none hno0] at hat
    by_cases b1 : kind ≠ 0 ∧ kind ≠ 1
    · have hq : prepareS (infs rs) name ⟨#[]⟩ kind = ([], 1905) := by
        simp only [prepareS, hb]; rw [if_neg (by simp), if_pos b1]
      rw [hq]; simp [hat, hm, hn, b1]; exact RRet.err H _
    have b1' : kind = 0 ∨ kind = 1 := by
      by_cases a : kind = 0
      · exact .inl a
      · exact .inr (by by_cases c : kind = 1; exact c; exact absurd ⟨a, c⟩ b1)
    cases hi : idxN ((infs rs).map Inf.name) name with
    | some j =>
      rw [hi] at hmem
      rw [atI_some hi] at hat2
      have hq : prepareS (infs rs) name ⟨#[]⟩ kind = ([], 1902) := by
        simp only [prepareS, hb]; rw [if_neg (by simp), if_neg b1, if_pos (show hasN ((infs rs).map Inf.name) name = true from hmem.symm)]
      have hj0 : (0 : Int) ≤ (j : Int) := by omega
      rw [hq]
      rcases b1' with rfl | rfl <;> (simp [hat, hm, hn, hat2, hj0]; exact RRet.err H _)
    | none =>
      rw [hi] at hmem
      rw [atI_none hi] at hat2
      have hno : hasN ((infs rs).map Inf.name) name = false := hmem.symm
      by_cases b2 : (6 : Int) ≤ (rs.length : Int)
      · have hq : prepareS (infs rs) name ⟨#[]⟩ kind = ([], 1910) := by
          simp only [prepareS, hb]; rw [if_neg (by simp), if_neg b1, if_neg (by simp [hno]), if_pos trivial, if_pos (by simp; omega)]
        rw [hq]
        rcases b1' with rfl | rfl <;> (simp [hat, hm, hn, hat2, b2]; exact RRet.err H _)
      · have hq : prepareS (infs rs) name ⟨#[]⟩ kind = (insAt (infs rs) (posN ((infs rs).map Inf.name) name) ⟨name, kind, ⟨#[]⟩, ⟨#[]⟩, []⟩, 0) := by
          simp only [prepareS, hb]; rw [if_neg (by simp), if_neg b1, if_neg (by simp [hno]), if_pos trivial, if_neg (by simp; omega)]
        obtain ⟨p, n, c, G1, G2, r1, c1, c2, c3, c4, hR⟩ := fin X (.slice none 0 0) [] EX vX Rows.nil hno (by omega)
        rw [hq]
        rcases b1' with rfl | rfl <;> (simp [-Heap.row, hat, hm, hn, hat2, b2, x1', c1, c2, c3, c4, run_regd_tr, finD_some, Chk, wanted]; exact hR)
  · rw [hwp] at hn2
    by_cases b1 : kind ≠ 0 ∧ kind ≠ 1
    · have hq : prepareS (infs rs) name parent kind = ([], 1905) := by
        simp only [prepareS, hb]; rw [if_neg (by simp), if_pos b1]
      rw [hq]; simp [hat, hm, hn, hn2, hp, b1]; exact RRet.err H _
    have b1' : kind = 0 ∨ kind = 1 := by
      by_cases a : kind = 0
      · exact .inl a
      · exact .inr (by by_cases c : kind = 1; exact c; exact absurd ⟨a, c⟩ b1)
    cases hi : idxN ((infs rs).map Inf.name) name with
    | some j =>
      rw [hi] at hmem
      rw [atI_some hi] at hat2
      have hq : prepareS (infs rs) name parent kind = ([], 1902) := by
        simp only [prepareS, hb]; rw [if_neg (by simp), if_neg b1, if_pos (show hasN ((infs rs).map Inf.name) name = true from hmem.symm)]
      have hj0 : (0 : Int) ≤ (j : Int) := by omega
      rw [hq]
      rcases b1' with rfl | rfl <;> (simp [hat, hm, hn, hn2, hp, hat2, hj0]; exact RRet.err H _)
    | none =>
      rw [hi] at hmem
      rw [atI_none hi] at hat2
      have hno : hasN ((infs rs).map Inf.name) name = false := hmem.symm
      have hmp := idx_mem (s := parent) (ns := (infs rs).map Inf.name)
      cases hip : idxN ((infs rs).map Inf.name) parent with
      | none =>
        rw [hip] at hmp
        rw [atI_none hip] at hat
        have hq : prepareS (infs rs) name parent kind = ([], 1904) := by
          simp only [prepareS, hb]; rw [if_neg (by simp), if_neg b1, if_neg (by simp [hno]), if_neg hp, if_pos (show hasN ((infs rs).map Inf.name) parent = false from hmp.symm)]
        rw [hq]
        rcases b1' with rfl | rfl <;> (simp [hat, hm, hn, hn2, hp, hat2]; exact RRet.err H _)
      | some k =>
        rw [hip] at hmp
        rw [atI_some hip] at hat
        have hhp : hasN ((infs rs).map Inf.name) parent = true := hmp.symm
        obtain ⟨h1, h2⟩ := idx_sorted m2 hhp
        rw [hip] at h2
        have hpk : posN ((infs rs).map Inf.name) parent = k := (Option.some.inj h2).symm
        rw [hpk] at h1
        have hk : k < rs.length := by simpa using h1
        have hget : (infs rs)[posN ((infs rs).map Inf.name) parent]? = some rs[k].1 := by rw [hpk]; exact infs_get hk
        obtain ⟨b, o, rfl, hbH, _, t1, _, _, t4⟩ := h.rows.at5 hk
        have hmk := List.getElem_mem hk
        have hfil := h.fils _ hmk
        have hl4 := (filesB_inv (infB_files (m1 _ (List.mem_map.2 ⟨_, hmk, rfl⟩)))).2.2
        simp at t1 t4
        have hk0 : ¬ ((k : Int) < 0) := by omega
        have hk1 : (0 : Int) ≤ (k : Int) := by omega
        by_cases b3 : rs[k].1.kind = 2
        case neg =>
          have hq : prepareS (infs rs) name parent kind = ([], 1904) := by
            simp only [prepareS, hb, hget]; rw [if_neg (by simp), if_neg b1, if_neg (by simp [hno]), if_neg hp, if_neg (by simp [hhp]), if_pos b3]
          rw [hq]
          rcases b1' with rfl | rfl <;> (simp [hat, hm, hn, hn2, hp, hat2, hk0, hk, t1, b3]; exact RRet.err H _)
        rw [b3] at t1
        by_cases b2 : (6 : Int) ≤ (rs.length : Int)
        · have hq : prepareS (infs rs) name parent kind = ([], 1910) := by
            simp only [prepareS, hb, hget]; rw [if_neg (by simp), if_neg b1, if_neg (by simp [hno]), if_neg hp, if_neg (by simp [hhp]), if_neg (by simp [b3]), if_pos (by simp; omega)]
          rw [hq]
          rcases b1' with rfl | rfl <;> (simp [hat, hm, hn, hn2, hp, hat2, hk0, hk, t1, b2]; exact RRet.err H _)
        · have hq : prepareS (infs rs) name parent kind = (insAt (infs rs) (posN ((infs rs).map Inf.name) name) ⟨name, kind, parent, ⟨#[]⟩, rs[k].1.files.map unown⟩, 0) := by
            simp only [prepareS, hb, hget]; rw [if_neg (by simp), if_neg b1, if_neg (by simp [hno]), if_neg hp, if_neg (by simp [hhp]), if_neg (by simp [b3]), if_neg (by simp; omega)]
          obtain ⟨pf, cf, hfv⟩ := hfil.slice
          rw [hfv] at hfil t4
          rw [hq]
          rcases b1' with rfl | rfl
          all_goals
            simp [-Heap.row, hat, hm, hn, hn2, hp, hat2, hk0, hk1, hk, t1, b2, x1']
            refine wp_nxt (prep_loop (c := cv) (o := o) hk hfil EX (by omega) hbH t4 vX hl4 _ _ (by simp) (by simp) (by simp) (by simp) ?_)
            intro e' G u e0 e11 hE hnG vp ho
            obtain ⟨p, n, c, G1, G2, r1, c1, c2, c3, c4, hR⟩ := fin G u _ hE vp (ho.rows encF_len) hno hnG
            simp [-Heap.row, e0, e11, c1, c2, c3, c4, run_regd_tr, finD_some, Chk, wanted]
            exact hR
end Go.AM
