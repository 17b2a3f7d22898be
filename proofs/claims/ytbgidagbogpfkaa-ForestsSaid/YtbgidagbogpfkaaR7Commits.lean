import Derived.Test.YtbgidagbogpfkaaR7CodeL
import Derived.Test.YtbgidagbogpfkaaR7Child
/- The law ForestCommits: true. -/
namespace Go.AM
open Go.Proofs
set_option linter.unusedVariables false
set_option linter.unusedSimpArgs false
set_option maxRecDepth 100000
attribute [-simp] ByteArray.size_eq_zero_iff
/-! ### the plain law -/
theorem named_words {xs : List Inf} {n : ByteArray} {ns : List ByteArray} (h : namedE xs n ns = 0) : mayB xs = true ∧ wordB n 4 = true ∧ (∀ s ∈ ns, wordB s 4 = true) ∧ hasN (xs.map Inf.name) n = true := by
  obtain ⟨h1, h2⟩ := namedE_zero h
  obtain ⟨h3, h4⟩ := begin_words h1
  exact ⟨h3, h4 n (by simp), fun s hs => h4 s (by simp [hs]), h2⟩
theorem root_look {xs : List Inf} {f : Nat} {p : ByteArray} (h : rootB xs f p = true) (hp : p ≠ ⟨#[]⟩) : ∃ y, look xs p = some y ∧ y.kind = 2 := by
  cases f with
  | zero => cases h
  | succ f =>
    rw [rootB_look, if_neg hp] at h
    cases hl : look xs p with
    | none => rw [hl] at h; cases h
    | some y =>
      rw [hl] at h
      simp only [Bool.and_eq_true, decide_eq_true_eq] at h
      exact ⟨y, rfl, h.1⟩
/-- What committing leaves. -/
theorem commit_law {xs : List Inf} {name to : ByteArray} (h : (commitS xs name to).2 = 0) : ∃ x ∈ xs, x.name = name ∧ mayB (commitS xs name to).1 = true ∧ (commitS xs name to).1.length = xs.length ∧ ({ x with name := to, kind := 2 } : Inf) ∈ (commitS xs name to).1 ∧
    (∀ y ∈ (commitS xs name to).1, y.name ≠ name) ∧ mayB xs = true ∧ wordB to 4 = true := by
  unfold commitS at h ⊢
  split at h
  · rename_i h1; exact absurd h h1
  rename_i h1
  rw [if_neg h1]
  have h1' : namedE xs name [to] = 0 := by simpa using h1
  obtain ⟨hm, hwn, hws, hh⟩ := named_words h1'
  have hwt := hws to (by simp)
  obtain ⟨hpos, hidx, _, _⟩ := named_pos h1'
  obtain ⟨m1, m2, m3, m4⟩ := mayB_all hm
  rw [List.getElem?_eq_getElem hpos] at h ⊢
  simp only at h ⊢
  split at h
  · simp at h
  rename_i h2
  split at h
  · simp at h
  rename_i h3
  rw [if_neg h2, if_neg h3]
  have hxm := List.getElem_mem hpos
  have hnm := idx_name hidx hpos
  have hcf := cut_filter Inf.name m2 hh
  have hcl := cut_len _ _ hpos
  generalize hX : xs[posN (xs.map Inf.name) name] = x at *
  have hk : x.kind = 0 := by simpa using h2
  have hto : hasN (xs.map Inf.name) to = false := by simpa using h3
  have hlx : look xs name = some x := by rw [← hnm]; exact look_of m2 hxm
  have hne := word_ne hwn
  have nokids : ∀ z ∈ xs, z.parent ≠ name := fun z hz hp => by
    obtain ⟨y, h4, h5⟩ := root_look (m3 z hz) (by rw [hp]; exact hne)
    rw [hp, hlx] at h4
    cases h4
    rw [hk] at h5; cases h5
  have hmc := may_cut hm hh nokids
  have hmem : ∀ z, z ∈ cutAt xs (posN (xs.map Inf.name) name) ↔ z ∈ xs ∧ z.name ≠ name := fun z => by
    rw [hcf, List.mem_filter]; simp
  generalize cutAt xs (posN (xs.map Inf.name) name) = cs at *
  have hnc : hasN (cs.map Inf.name) to = false := (hasN_no _ _).2 fun hc => by
    obtain ⟨z, hz, e⟩ := List.mem_map.1 hc
    exact (hasN_no _ _).1 hto (by rw [← e]; exact List.mem_map.2 ⟨z, ((hmem z).1 hz).1, rfl⟩)
  have hib := m1 x hxm
  have hfi := infB_files hib
  have hmi : mayB (insAt cs (posN (cs.map Inf.name) to) { x with name := to, kind := 2 }) = true := by
    refine may_ins (x := { x with name := to, kind := 2 }) hmc ?_ hnc ?_ (by omega)
    · simp only [infB, Bool.and_eq_true, decide_eq_true_eq] at hib ⊢
      rw [hk] at hfi
      exact ⟨⟨⟨hwt, by omega⟩, hib.1.2⟩, hfi⟩
    · by_cases hp : x.parent = ⟨#[]⟩
      · exact .inl hp
      · obtain ⟨y, h4, h5⟩ := root_look (m3 x hxm) hp
        obtain ⟨h6, h7⟩ := look_some h4
        refine .inr ⟨y, ?_, h5⟩
        show look cs x.parent = _
        rw [← h7]
        refine look_of (mayB_all hmc).2.1 ((hmem y).2 ⟨h6, fun e => ?_⟩)
        have := name_inj m2 h6 hxm (e.trans hnm.symm)
        rw [this, hk] at h5; cases h5
  refine ⟨x, hxm, hnm, hmi, ?_, mem_insAt.2 (.inl rfl), fun y hy => ?_, hm, hwt⟩
  · rw [insAt_len _ _ _ (by have := posN_le (cs.map Inf.name) to; simpa using this)]; exact hcl
  · rcases mem_insAt.1 hy with rfl | hy
    · show to ≠ name
      rintro rfl
      rw [hh] at hto; cases hto
    · exact ((hmem y).1 hy).2
/-- Its children may be prepared. -/
theorem committed_child {ys : List Inf} {to child : ByteArray} {x : Inf} (hm : mayB ys = true) (hx : x ∈ ys) (h1 : x.name = to) (h2 : x.kind = 2) (hw : wordB to 4 = true) (hn : hasN (ys.map Inf.name) child = false) (hl : ys.length < 6) : (prepareS ys child to 1).2 = 0 ∨ (prepareS ys child to 1).2 = 1901 := by
  have hne := word_ne hw
  obtain ⟨m1, m2, _, _⟩ := mayB_all hm
  cases hc : wordB child 4 with
  | false =>
    right
    have hb : beginE ys (prepNs child to) = 1901 := by simp [beginE, prepNs, hne, hm, hc]
    simp [prepareS, hb]
  | true =>
    left
    have hb : beginE ys (prepNs child to) = 0 := by simp [beginE, prepNs, hne, hm, hc, hw]
    have hh : hasN (ys.map Inf.name) to = true := (hasN_iff _ _).2 (by rw [← h1]; exact List.mem_map.2 ⟨x, hx, rfl⟩)
    obtain ⟨k1, k2⟩ := idx_sorted m2 hh
    have k1' : posN (ys.map Inf.name) to < ys.length := by simpa using k1
    have hxe : ys[posN (ys.map Inf.name) to] = x := name_inj m2 (List.getElem_mem k1') hx ((idx_name k2 k1').trans h1.symm)
    have hg : ys[posN (ys.map Inf.name) to]? = some x := by rw [List.getElem?_eq_getElem k1', hxe]
    simp [prepareS, hb, hn, hne, hh, hg, h2, show ys.length ≠ 6 by omega]
/-! ### the walk -/
attribute [-simp] Heap.store
theorem VarP.put {G : Heap} {b : Nat} {p q : Inf × Value} (h : VarP G b p) {j : Nat} (hj : j < 5) {v : Value} (hv : v.oneCell' = true) (hq : encP q = (encP p).set j v) : ∃ X, G.store b j [v] = some X ∧ VarP X b q ∧ X.next = G.next ∧ ∀ k, k ≠ b → X.blk k = G.blk k := by
  obtain ⟨B, h1, h2, h3⟩ := h
  refine ⟨G.set b (some (B.put j v)), ?_, ⟨_, blk_set_self _ _ _, h2, fun i hi => ?_⟩, rfl, fun k hk => blk_set_ne hk⟩
  · have hc : G.cell b j = some ((encP p)[j]'hj) := by simp only [Heap.cell, h1, h3 j hj]; exact List.getElem?_eq_getElem _
    simp [Heap.store, h1, h2, Heap.row, hc, hv, Blk.puts]
  · rw [hq, List.getElem?_set]
    show (if i = j then some v else B.at_ i) = _
    by_cases e : i = j
    · subst e; rw [if_pos rfl, if_pos rfl, if_pos (show i < (encP p).length from hj)]
    · rw [if_neg e, if_neg (Ne.symm e)]; exact h3 i hi
theorem any_take {rs : List (Inf × Value)} (f : Inf × Value → Bool) {j : Nat} (h : j < rs.length) : (rs.take (j + 1)).any f = ((rs.take j).any f || f rs[j]) := by
  rw [List.take_succ_eq_append_getElem h, List.any_append]; simp
theorem commits_law (v : Value) (rs : List (Inf × Value)) (name to child : ByteArray) (H : Heap) (hF : Fo H v rs) (hz : FoZ rs ∧ FoW rs ∧ FoC rs) (hs1 : name.size ≤ 140737488351232) (hs2 : to.size ≤ 140737488351232) (hs3 : child.size ≤ 140737488351232) :
    call K f_law19_ForestCommits [v, .string name, .string to, .string child] H = some (.bool true, H) := by
  refine of_wpf (open_pure rfl fc_law19_ForestCommits rfl (Nat.le_of_ble_eq_true rfl) ?_)
  have ha := awake_ok H.roAll
  have hF := hF.roAll
  generalize H.roAll = G0 at *
  obtain ⟨r1, G1, c1, R1⟩ := commit_ok v rs name to G0 hF hz.1 hz.2.1 (by omega) (by omega)
  by_cases he : (commitS (infs rs) name to).2 = 0
  case neg =>
    have := ret_err R1 he
    subst this
    simp [ha, c1, he]
  obtain ⟨u1, s1, rfl, i1, w1, _⟩ := ret_rows (G := G1) R1 he (Ext.refl G1)
  obtain ⟨x, hx, hxn, hm, hlen, hx2, hno, hm0, hwt⟩ := commit_law he
  rw [← i1] at hm hx2 hno hlen
  simp only [infs_length] at hlen
  have h6 : s1.length ≤ 6 := by have := (mayB_all hm).2.2.2; simpa using this
  have zz := may_z hm
  have hF1 := hF.ext R1.1
  clear R1
  have was : (lastP rs name).1 = x := by rw [← hxn]; exact last_is (mayB_all hm0).2.1 hx
  have now : (lastP s1 to).1 = { x with name := to, kind := 2 } := last_is (x := { x with name := to, kind := 2 }) (mayB_all hm).2.1 hx2
  obtain ⟨pr, cr, rfl⟩ := hF1.rows.slice
  obtain ⟨p1, k1, rfl⟩ := w1.rows.slice
  have E2 : Ext G1 ((G1.add (rowBlk 5 [.string ⟨#[]⟩, .int .i64 0, .string ⟨#[]⟩, .string ⟨#[]⟩, .slice none 0 0])).add (rowBlk 5 [.string ⟨#[]⟩, .int .i64 0, .string ⟨#[]⟩, .string ⟨#[]⟩, .slice none 0 0])) := ((Ext.refl G1).add _).add _
  have v11 : VarP ((G1.add (rowBlk 5 [.string ⟨#[]⟩, .int .i64 0, .string ⟨#[]⟩, .string ⟨#[]⟩, .slice none 0 0])).add (rowBlk 5 [.string ⟨#[]⟩, .int .i64 0, .string ⟨#[]⟩, .string ⟨#[]⟩, .slice none 0 0])) G1.next zeroP := (VarP.new G1).other (by rw [blk_add_old (by simp)])
  have v12 := VarP.new (G1.add (rowBlk 5 [.string ⟨#[]⟩, .int .i64 0, .string ⟨#[]⟩, .string ⟨#[]⟩, .slice none 0 0]))
  generalize hGG : (G1.add (rowBlk 5 [(.string ⟨#[]⟩ : Value), .int .i64 0, .string ⟨#[]⟩, .string ⟨#[]⟩, .slice none 0 0])).add (rowBlk 5 [.string ⟨#[]⟩, .int .i64 0, .string ⟨#[]⟩, .string ⟨#[]⟩, .slice none 0 0]) = G2 at *
  have hn2 : G1.next + 2 ≤ G2.next := by rw [← hGG]; simp
  rw [show (G1.add (rowBlk 5 [.string ⟨#[]⟩, .int .i64 0, .string ⟨#[]⟩, .string ⟨#[]⟩, .slice none 0 0])).next = G1.next + 1 from rfl] at v12
  have hbnd := hz.1.len
  simp [ha, c1, hGG]
  refine wp_nxt (wp_for (fun d e G => ∃ j : Nat, d = rs.length - j ∧ j ≤ rs.length ∧ Ext G1 G ∧ G1.next + 2 ≤ G.next ∧ VarP G G1.next (lastP (rs.take j) name) ∧ VarP G (G1.next + 1) zeroP ∧ e 0 = .slice pr rs.length cr ∧ e 1 = .string name ∧ e 2 = .string to ∧ e 3 = .string child ∧ e 9 = .slice p1 s1.length k1 ∧ e 11 = .pointer (some ⟨G1.next, 0, none⟩) ∧ e 12 = .pointer (some ⟨G1.next + 1, 0, none⟩) ∧ e 13 = .int .i64 (j : Int)) rs.length ⟨0, by simp, by simp, E2, hn2, v11, v12, by simp⟩ ?_)
  clear v11 v12 E2 hn2
  rintro d e G ⟨j, rfl, hj, hE, hn2, v11, v12, e0, e1, e2, e3, e9, e11, e12, e13⟩
  by_cases hjl : j < rs.length
  · have hfo := hF1.ext hE
    obtain ⟨b, o, rfl, hb, m0⟩ := hfo.rows.row encP_len hjl
    obtain ⟨_, _, hp2, _, t0, _⟩ := hfo.rows.at5 hjl
    cases hp2
    have hbG : b < G1.next := by obtain ⟨_, _, h, hb, _⟩ := hF1.rows.row encP_len hjl; cases h; exact hb
    have hone := hfo.one _ (List.getElem_mem hjl)
    have wj := wrap_succ (i := j) (by omega)
    have hc1 := last_take (p := name) hjl
    simp at t0
    obtain ⟨X, x1, x2, x3, x4⟩ := v11.store hone
    have EX : Ext G1 X := ⟨by have := hE.next; omega, fun k hk => by rw [x4 k (by omega)]; exact hE.blk k hk⟩
    have v12X := v12.other (x4 _ (by omega))
    generalize rs[j] = y at *
    by_cases a1 : y.1.name = name
    · rw [if_pos a1] at hc1
      rw [← hc1] at x2
      simp [-Heap.row, c_law19_ForestCommits_l12, e0, e1, e2, e3, e9, e11, e12, e13, hjl, t0, a1, m0, x1]
      exact ⟨rs.length - (j + 1), by omega, j + 1, rfl, by omega, EX, by omega, x2, v12X, wj⟩
    · rw [if_neg a1] at hc1
      rw [← hc1] at v11
      simp [-Heap.row, c_law19_ForestCommits_l12, e0, e1, e2, e3, e9, e11, e12, e13, hjl, t0, a1]
      exact ⟨rs.length - (j + 1), by omega, j + 1, rfl, by omega, hE, hn2, v11, v12, wj⟩
  obtain rfl : j = rs.length := by omega
  rw [List.take_length] at v11
  simp [c_law19_ForestCommits_l12, e0, e1, e2, e3, e9, e11, e12, e13]
  refine wp_nxt (wp_for (fun d e G => ∃ j : Nat, d = s1.length - j ∧ j ≤ s1.length ∧ Ext G1 G ∧ G1.next + 2 ≤ G.next ∧ VarP G G1.next (lastP rs name) ∧ VarP G (G1.next + 1) (lastP (s1.take j) to) ∧ e 0 = .slice pr rs.length cr ∧ e 1 = .string name ∧ e 2 = .string to ∧ e 3 = .string child ∧ e 9 = .slice p1 s1.length k1 ∧ e 11 = .pointer (some ⟨G1.next, 0, none⟩) ∧ e 12 = .pointer (some ⟨G1.next + 1, 0, none⟩) ∧ e 14 = .bool ((s1.take j).any fun q => decide (q.1.name = child)) ∧ e 15 = .int .i64 (j : Int)) s1.length ⟨0, by simp, by simp, hE, hn2, v11, v12, by simp [e0, e1, e2, e3, e9, e11, e12]⟩ ?_)
  clear v11 v12 hE hn2 e0 e1 e2 e3 e9 e11 e12 e13
  rintro d e G ⟨j, rfl, hj, hE, hn2, v11, v12, e0, e1, e2, e3, e9, e11, e12, e14, e15⟩
  by_cases hjl : j < s1.length
  · have hfo := w1.ext hE
    obtain ⟨b, o, rfl, hb, m0⟩ := hfo.rows.row encP_len hjl
    obtain ⟨_, _, hp2, _, t0, _⟩ := hfo.rows.at5 hjl
    cases hp2
    have hbG : b < G1.next := by obtain ⟨_, _, h, hb, _⟩ := w1.rows.row encP_len hjl; cases h; exact hb
    have hone := hfo.one _ (List.getElem_mem hjl)
    have wj := wrap_succ (i := j) (by omega)
    have hc1 := last_take (p := to) hjl
    have hnn := hno s1[j].1 (List.mem_map.2 ⟨_, List.getElem_mem hjl, rfl⟩)
    have hany := any_take (fun q => decide (q.1.name = child)) hjl
    simp at t0
    obtain ⟨X, x1, x2, x3, x4⟩ := v12.store hone
    have EX : Ext G1 X := ⟨by have := hE.next; omega, fun k hk => by rw [x4 k (by omega)]; exact hE.blk k hk⟩
    have v11X := v11.other (x4 _ (by omega))
    have t0X : X.cell b (o + j * 5) = some (.string s1[j].1.name) := by simp only [Heap.cell, x4 b (by omega)]; exact t0
    generalize s1[j] = y at *
    generalize ((s1.take j).any fun q => decide (q.1.name = child)) = th at *
    by_cases a1 : y.1.name = to
    · rw [if_pos a1] at hc1
      rw [← hc1] at x2
      subst a1
      cases th with
      | true =>
        simp [-Heap.row, c_law19_ForestCommits_l20, e0, e1, e2, e3, e9, e11, e12, e14, e15, hjl, t0, m0, x1, t0X]
        exact ⟨s1.length - (j + 1), by omega, j + 1, rfl, by omega, EX, by omega, v11X, x2, by simpa using hany, wj⟩
      | false =>
        by_cases a2 : y.1.name = child
        · simp [-Heap.row, c_law19_ForestCommits_l20, e0, e1, e2, e3, e9, e11, e12, e14, e15, hjl, t0, m0, x1, t0X, hnn]
          exact ⟨s1.length - (j + 1), by omega, j + 1, rfl, by omega, EX, by omega, v11X, x2, by simpa [a2] using hany, wj⟩
        · simp [-Heap.row, c_law19_ForestCommits_l20, e0, e1, e2, e3, e9, e11, e12, e14, e15, hjl, t0, m0, x1, t0X, hnn]
          exact ⟨s1.length - (j + 1), by omega, j + 1, rfl, by omega, EX, by omega, v11X, x2, by simpa [a2] using hany, wj⟩
    · rw [if_neg a1] at hc1
      rw [← hc1] at v12
      cases th with
      | true =>
        simp [-Heap.row, c_law19_ForestCommits_l20, e0, e1, e2, e3, e9, e11, e12, e14, e15, hjl, t0, a1]
        exact ⟨s1.length - (j + 1), by omega, j + 1, rfl, by omega, hE, hn2, v11, v12, by simpa using hany, wj⟩
      | false =>
        by_cases a2 : y.1.name = child
        · simp [-Heap.row, c_law19_ForestCommits_l20, e0, e1, e2, e3, e9, e11, e12, e14, e15, hjl, t0, a1, hnn]
          exact ⟨s1.length - (j + 1), by omega, j + 1, rfl, by omega, hE, hn2, v11, v12, by simpa [a2] using hany, wj⟩
        · simp [-Heap.row, c_law19_ForestCommits_l20, e0, e1, e2, e3, e9, e11, e12, e14, e15, hjl, t0, a1, hnn]
          exact ⟨s1.length - (j + 1), by omega, j + 1, rfl, by omega, hE, hn2, v11, v12, by simpa [a2] using hany, wj⟩
  obtain rfl : j = s1.length := by omega
  rw [List.take_length] at v12 e14
  have hth : (s1.any fun q => decide (q.1.name = child)) = hasN ((infs s1).map Inf.name) child := by
    unfold hasN infs
    rw [List.any_map, List.any_map]; rfl
  rw [hth] at e14
  obtain ⟨X1, x1, v1, xn1, xo1⟩ := v11.put (q := ({ (lastP rs name).1 with name := to }, (lastP rs name).2)) (j := 0) (v := .string to) (by omega) rfl rfl
  obtain ⟨X2, x2, v2, xn2, xo2⟩ := v1.put (q := ({ (lastP rs name).1 with name := to, kind := 2 }, (lastP rs name).2)) (j := 1) (v := .int .i64 2) (by omega) rfl rfl
  have EX : Ext G1 X2 := ⟨by have := hE.next; omega, fun k hk => by rw [xo2 k (by omega), xo1 k (by omega)]; exact hE.blk k hk⟩
  have v12X := (v12.other (xo1 _ (by omega))).other (xo2 _ (by omega))
  obtain ⟨r3, G3, c3, R3⟩ := prepare_ok _ s1 child to 1 X2 (w1.ext EX) zz.1 zz.2 (by omega) (by omega)
  have E3 := EX.trans R3.1
  have v2' := v2.other (R3.1.blk _ (by omega))
  have v12' := v12X.other (R3.1.blk _ (by omega))
  obtain ⟨_, _, _, _, _, m11⟩ := v2'.cells
  obtain ⟨_, _, _, _, _, m12⟩ := v12'.cells
  have hmy := may_ok _ _ _ (w1.ext E3) zz.1
  rw [hm] at hmy
  have f1 : Fils G3 (lastP rs name).2 (lastP rs name).1.files := by
    rcases last_spec rs name with ⟨h, _⟩ | ⟨h, _⟩
    · rw [h]; exact Rows.nil
    · exact (hF1.ext E3).fils _ h
  have f2 : Fils G3 (lastP s1 to).2 (lastP s1 to).1.files := by
    rcases last_spec s1 to with ⟨h, _⟩ | ⟨h, _⟩
    · rw [h]; exact Rows.nil
    · exact (w1.ext E3).fils _ h
  have fl : (lastP rs name).1.files.length ≤ 140737488355328 := by
    rcases last_spec rs name with ⟨h, _⟩ | ⟨h, _⟩
    · rw [h]; exact Nat.zero_le _
    · exact (hz.1.inf _ h).2
  have same := sameInfo_ok ({ (lastP rs name).1 with name := to, kind := 2 }, (lastP rs name).2) (lastP s1 to) G3 f1 f2 fl
  rw [show decide (({ (lastP rs name).1 with name := to, kind := 2 } : Inf) = (lastP s1 to).1) = true from by rw [was, now]; simp] at same
  have hcc := committed_child (child := child) hm hx2 rfl rfl hwt
  rw [infs_length] at hcc
  obtain ⟨u3, rfl, n3, o3⟩ := ret_all R3 (Ext.refl G3)
  have hu3 : ∃ p n c, u3 = .slice p n c ∧ ((prepareS (infs s1) child to 1).2 = 0 → n = s1.length + 1) := by
    by_cases h : (prepareS (infs s1) child to 1).2 = 0
    · obtain ⟨s3, i3, w3⟩ := o3 h
      obtain ⟨p, c, h2⟩ := w3.rows.slice
      have := (child_law h i3).1
      rw [infs_length] at this
      exact ⟨p, _, c, h2, fun _ => this⟩
    · exact ⟨_, _, _, n3 h, fun h2 => absurd h2 h⟩
  obtain ⟨p3, l3, k3, rfl, hl3⟩ := hu3
  clear n3 o3 R3
  have wl := wrap_succ (i := s1.length) (by omega)
  generalize (lastP s1 to) = q12 at *
  generalize (lastP rs name) = q11 at *
  generalize (prepareS (infs s1) child to 1).2 = fe at *
  generalize hasN ((infs s1).map Inf.name) child = th at *
  rw [hlen] at c3 hmy wl h6 hcc hl3
  rw [hlen] at e9 e15
  by_cases h6' : rs.length < 6
  · have g6 : ¬ (6 ≤ (rs.length : Int)) := by omega
    by_cases hs : (child.size : Int) < 1
    · by_cases hf : fe = 0
      · have := hl3 hf
        subst hf this
        cases th <;> simp [-Heap.row, c_law19_ForestCommits_l20, e0, e1, e2, e3, e9, e11, e12, e14, e15, x1, x2, c3, m11, m12, same, hlen, hmy, wl, g6, hs]
      · cases th <;> simp [-Heap.row, c_law19_ForestCommits_l20, e0, e1, e2, e3, e9, e11, e12, e14, e15, x1, x2, c3, m11, m12, same, hlen, hmy, wl, g6, hs, hf]
    · by_cases hf : fe = 0
      · have := hl3 hf
        subst hf this
        cases th <;> simp [-Heap.row, c_law19_ForestCommits_l20, e0, e1, e2, e3, e9, e11, e12, e14, e15, x1, x2, c3, m11, m12, same, hlen, hmy, wl, g6, hs]
      · cases th with
        | true => simp [-Heap.row, c_law19_ForestCommits_l20, e0, e1, e2, e3, e9, e11, e12, e14, e15, x1, x2, c3, m11, m12, same, hlen, hmy, wl, g6, hs, hf]
        | false =>
          have : fe = 1901 := (hcc rfl (by omega)).resolve_left hf
          subst this
          simp [-Heap.row, c_law19_ForestCommits_l20, e0, e1, e2, e3, e9, e11, e12, e14, e15, x1, x2, c3, m11, m12, same, hlen, hmy, wl, g6, hs]
  · have g6 : (6 ≤ (rs.length : Int)) := by omega
    by_cases hf : fe = 0
    · have := hl3 hf
      subst hf this
      cases th <;> simp [-Heap.row, c_law19_ForestCommits_l20, e0, e1, e2, e3, e9, e11, e12, e14, e15, x1, x2, c3, m11, m12, same, hlen, hmy, wl, g6]
    · cases th <;> simp [-Heap.row, c_law19_ForestCommits_l20, e0, e1, e2, e3, e9, e11, e12, e14, e15, x1, x2, c3, m11, m12, same, hlen, hmy, wl, g6, hf]
end Go.AM
