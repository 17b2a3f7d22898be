import Derived.Test.YtbgidagbogpfkaaR7CodeL
import Derived.Test.YtbgidagbogpfkaaR7Kept
/- The law ForestWrites: true. -/
namespace Go.AM
open Go.Proofs
set_option linter.unusedVariables false
set_option linter.unusedSimpArgs false
set_option maxRecDepth 100000
attribute [-simp] ByteArray.size_eq_zero_iff
/-! ### the plain law -/
def cntP (fs : List Fil) (p : ByteArray) : Nat := fs.countP fun f => decide (f.path = p)
theorem cnt_none : ∀ {fs : List Fil} {p : ByteArray}, hasN (fs.map Fil.path) p = false → cntP fs p = 0 := fun {fs p} h => by
  refine List.countP_eq_zero.2 fun f hf => ?_
  have := (hasN_no _ _).1 h
  simpa using fun (e : f.path = p) => this (by rw [← e]; exact List.mem_map.2 ⟨f, hf, rfl⟩)
theorem cnt_one : ∀ {fs : List Fil} {p : ByteArray}, Sorted (fs.map Fil.path) → hasN (fs.map Fil.path) p = true → cntP fs p = 1
  | [], p, _, h => by cases h
  | f :: fs, p, h, hn => by
    obtain ⟨h1, h2⟩ := List.pairwise_cons.1 h
    have hm : p = f.path ∨ p ∈ fs.map Fil.path := by
      have := (hasN_iff _ _).1 hn
      rw [List.map_cons, List.mem_cons] at this; exact this
    unfold cntP
    rw [List.countP_cons]
    by_cases e : f.path = p
    · subst e
      have : hasN (fs.map Fil.path) f.path = false := (hasN_no _ _).2 fun hm => (Ls.irrefl _ (h1 _ hm))
      have h3 := cnt_none this
      unfold cntP at h3
      rw [h3]; simp
    · have : hasN (fs.map Fil.path) p = true := (hasN_iff _ _).2 (hm.resolve_left fun h => e h.symm)
      have h3 := cnt_one h2 this
      unfold cntP at h3
      rw [h3]; simp [e]
theorem name_at {xs : List Inf} (hs : Sorted (xs.map Inf.name)) {i j : Nat} (hi : i < xs.length) (hj : j < xs.length) (h : xs[i].name = xs[j].name) : i = j := by
  rcases Nat.lt_trichotomy i j with hh | hh | hh
  · exact absurd h (sorted_map hs i j hi hj hh).ne
  · exact hh
  · exact absurd h.symm (sorted_map hs j i hj hi hh).ne
theorem file_ready {xs : List Inf} {name path : ByteArray} (h : fileE xs name path = 0) : wordB name 4 = true ∧ hasN (xs.map Inf.name) name = true := by
  unfold fileE at h
  split at h
  · rename_i h1; exact absurd h h1
  · rename_i h1
    obtain ⟨h2, h3⟩ := namedE_zero (show namedE xs name [] = 0 by simpa using h1)
    obtain ⟨_, h4⟩ := beginE_zero h2
    exact ⟨by simpa using h4, h3⟩
theorem write_file {xs : List Inf} {name path content : ByteArray} (h : (writeS xs name path content).2 = 0) : fileE xs name path = 0 := by
  unfold writeS at h
  split at h
  · rename_i h1; exact absurd h h1
  · rename_i h1; simpa using h1
/-- What is written is there; deleted it is gone. -/
theorem wrote_law {xs : List Inf} {name path content : ByteArray} (h : (writeS xs name path content).2 = 0) : (deleteS (writeS xs name path content).1 name path).2 = 0 ∧
    ∀ (j : Nat) (x y z : Inf), xs[j]? = some x → (writeS xs name path content).1[j]? = some y → (deleteS (writeS xs name path content).1 name path).1[j]? = some z → x.name = name →
      (cntP y.files path = 1 ∧ (∀ f ∈ y.files, f.path = path → f = ⟨path, content, true⟩) ∧ y.files.length ≤ 4) ∧ (∀ f ∈ z.files, f.path ≠ path) ∧ z.files.length + 1 = y.files.length := by
  have hmay := write_may h
  obtain ⟨hw, hhas⟩ := file_ready (write_file h)
  obtain ⟨i, hi, hpos, hm, h1, h2, h3, h4, h5, h6⟩ := write_inv h
  obtain ⟨m1, m2, m3, m4⟩ := mayB_all hm
  have hfb := infB_files (m1 _ (List.getElem_mem hi))
  rw [h2] at hfb
  obtain ⟨w1, w2, w3⟩ := wrote_files hfb h3 h4 h5
  have hnames : ((writeS xs name path content).1).map Inf.name = xs.map Inf.name := by rw [h6]; exact set_names hi rfl
  generalize hY : (writeS xs name path content).1 = ys at *
  have hdel : (deleteS ys name path) = (ys.set i { xs[i] with files := cutAt (wroteF xs[i].files path content) (posN ((wroteF xs[i].files path content).map Fil.path) path) }, 0) := by
    have hb : beginE ys [name] = 0 := by simp [beginE, hmay, hw]
    have hn : namedE ys name [] = 0 := by simp [namedE, hb, hnames, hhas]
    have hg : ys[posN (xs.map Inf.name) name]? = some { xs[i] with files := wroteF xs[i].files path content } := by
      rw [← hpos, h6, List.getElem?_set, if_pos rfl, if_pos hi]
    have hf : fileE ys name path = 0 := by
      simp only [fileE, hn, hnames, hg]
      simp [h2, h3]
    simp only [deleteS, hf, hnames, hg]
    simp [w2, ← hpos]
  rw [hdel]
  refine ⟨rfl, fun j x y z hx hy hz hnm => ?_⟩
  obtain ⟨hj, rfl⟩ := List.getElem?_eq_some_iff.1 hx
  have hji : j = i := name_at m2 hj hi (hnm.trans h1.symm)
  subst hji
  rw [h6, List.getElem?_set, if_pos rfl, if_pos hi] at hy
  have hiy : j < ys.length := by rw [h6]; simpa using hi
  simp only [List.getElem?_set, if_pos, hiy] at hz
  cases hy; cases hz
  obtain ⟨_, s2, s3⟩ := filesB_inv w1
  refine ⟨⟨cnt_one s2 w2, w3, s3⟩, fun f hf => ?_, cut_len _ _ (posN_path s2 w2).1⟩
  simp only at hf
  rw [cut_filter Fil.path s2 w2] at hf
  simpa using (List.mem_filter.1 hf).2
/-! ### the walk -/
/-- A file laid into a variable of its own. -/
theorem new_store3 (G : Heap) (x : Fil) : ∃ X, (G.add (rowBlk 3 [.string ⟨#[]⟩, .string ⟨#[]⟩, .bool false])).store G.next 0 (encF x) = some X ∧ Ext G X ∧ X.row G.next 0 3 = some (encF x) ∧
    X.cell G.next 0 = some (.string x.path) ∧ X.cell G.next 1 = some (.string x.content) ∧ X.cell G.next 2 = some (.bool x.own) ∧ X.next = G.next + 1 := by
  refine ⟨(G.add (rowBlk 3 [.string ⟨#[]⟩, .string ⟨#[]⟩, .bool false])).set G.next (some ((rowBlk 3 [.string ⟨#[]⟩, .string ⟨#[]⟩, .bool false]).puts 0 (encF x))), ?_, ((Ext.refl G).add _).set (Nat.le_refl _) _, ?_, ?_, ?_, ?_, rfl⟩
  · simp [Heap.store, Heap.row, rowBlk]
  · simp [Heap.row, Blk.puts, Blk.put, rowBlk]
  all_goals (rw [cell_set_self]; rfl)
attribute [-simp] Heap.store
theorem cnt_take {fs : List Fil} {p : ByteArray} {j : Nat} (h : j < fs.length) : cntP (fs.take (j + 1)) p = cntP (fs.take j) p + if fs[j].path = p then 1 else 0 := by
  unfold cntP
  rw [List.take_succ_eq_append_getElem h, List.countP_append, List.countP_cons, List.countP_nil]
  simp
theorem cnt_le (fs : List Fil) (p : ByteArray) (j : Nat) : cntP (fs.take j) p ≤ j := Nat.le_trans List.countP_le_length (by rw [List.length_take]; omega)
theorem writes_law (v : Value) (rs : List (Inf × Value)) (name path content : ByteArray) (H : Heap) (hF : Fo H v rs) (hz : FoZ rs ∧ FoW rs ∧ FoC rs) (hs1 : name.size ≤ 140737488351232) (hs2 : path.size ≤ 140737488351232) :
    call K f_law19_ForestWrites [v, .string name, .string path, .string content] H = some (.bool true, H) := by
  refine of_wpf (open_pure rfl fc_law19_ForestWrites rfl (Nat.le_of_ble_eq_true rfl) ?_)
  have ha := awake_ok H.roAll
  have hF := hF.roAll
  generalize H.roAll = G0 at *
  obtain ⟨r1, G1, c1, R1⟩ := write_ok v rs name path content G0 hF hz.1 hz.2.1 (by omega) (by omega)
  by_cases he : (writeS (infs rs) name path content).2 = 0
  case neg =>
    have := ret_err R1 he
    subst this
    simp [ha, c1, he]
  obtain ⟨hd, hlaw⟩ := wrote_law he
  have hk1 := write_kept he
  have hk2 := delete_kept hd
  have hm1 := write_may he
  have hm2 := delete_may hd
  obtain ⟨u1, s1, rfl, i1, w1, _⟩ := ret_rows (G := G1) R1 he (Ext.refl G1)
  rw [← i1] at hd hk1 hk2 hm1 hm2 hlaw
  have z1 : FoZ s1 ∧ FoW s1 := may_z hm1
  obtain ⟨r2, G2, c2, R2⟩ := delete_ok u1 s1 name path G1 w1 z1.1 z1.2 (by omega) (by omega)
  obtain ⟨u2, s2, rfl, i2, w2, _⟩ := ret_rows (G := G1) R2 hd (Ext.refl G2)
  rw [← i2] at hk2 hm2 hlaw
  have z2 : FoZ s2 ∧ FoW s2 := may_z hm2
  have hF2 := (hF.ext R1.1).ext R2.1
  have w1 := w1.ext R2.1
  clear R1 R2
  obtain ⟨pr, cr, rfl⟩ := hF2.rows.slice
  obtain ⟨p1, k1, rfl⟩ := w1.rows.slice
  obtain ⟨p2, k2, rfl⟩ := w2.rows.slice
  have l1 : s1.length = rs.length := by simpa using hk1.1
  have l2 : s2.length = rs.length := by have := hk2.1; simp at this; omega
  have hbnd : rs.length ≤ 140737488355328 := hz.1.len
  rw [l1] at c1 c2 w1
  rw [l2] at c2 w2
  simp [ha, c1, c2]
  refine wp_nxt (wp_for (fun d e G => ∃ i : Nat, d = rs.length - i ∧ i ≤ rs.length ∧ Ext G2 G ∧ e 0 = .slice pr rs.length cr ∧ e 1 = .string name ∧ e 2 = .string path ∧ e 3 = .string content ∧ e 9 = .slice p1 rs.length k1 ∧ e 11 = .slice p2 rs.length k2 ∧ e 13 = .int .i64 (i : Int)) rs.length ⟨0, by simp [Ext.refl]⟩ ?_)
  rintro d e G ⟨i, rfl, hi, hE, e0, e1, e2, e3, e9, e11, e13⟩
  by_cases hil : i < rs.length
  case neg =>
    obtain rfl : i = rs.length := by omega
    have t1 := may_ok _ _ _ (w1.ext hE) z1.1
    have t2 := may_ok _ _ _ (w2.ext hE) z2.1
    rw [hm1] at t1
    rw [hm2] at t2
    simp [c_law19_ForestWrites_l31, e0, e13, e9, e11, t1, t2]
  obtain ⟨br, orr, rfl, hbr, t0, _, _, _, _⟩ := (hF2.ext hE).rows.at5 hil
  have wi := wrap_succ (i := i) (by omega)
  have il1 : i < s1.length := by omega
  have il2 : i < s2.length := by omega
  obtain ⟨b1, o1, rfl, hb1, _, _, _, _, t4⟩ := (w1.ext hE).rows.at5 il1
  obtain ⟨b2, o2, rfl, hb2, _, _, _, _, v4⟩ := (w2.ext hE).rows.at5 il2
  have hf1 := (w1.ext hE).fils _ (List.getElem_mem il1)
  have hf2 := (w2.ext hE).fils _ (List.getElem_mem il2)
  have law := hlaw i _ _ _ (infs_get hil) (infs_get il1) (infs_get il2)
  simp at t0 t4 v4
  generalize s1[i] = y at *
  generalize s2[i] = z at *
  generalize rs[i] = x at *
  obtain ⟨⟨yn, yk, yp, yl, yf⟩, yv⟩ := y
  obtain ⟨⟨zn, zk, zp, zl, zf⟩, zv⟩ := z
  simp only at t4 v4 hf1 hf2 law
  by_cases hnm : x.1.name = name
  case neg =>
    simp [c_law19_ForestWrites_l31, e0, e1, e13, hil, t0, hnm]
    exact ⟨rs.length - (i + 1), by omega, i + 1, rfl, by omega, hE, e2, e3, e9, e11, wi⟩
  obtain ⟨⟨q1, q2, q3⟩, q4, q5⟩ := law hnm
  rw [hnm] at t0
  have wi1 := wi
  simp [c_law19_ForestWrites_l31, e0, e1, e13, hil, t0]
  obtain ⟨py, cy, rfl⟩ := hf1.slice
  obtain ⟨pz, cz, rfl⟩ := hf2.slice
  refine wp_nxt (wp_unblock (wp_nxt (wp_for (fun d e G' => ∃ j : Nat, d = yf.length - j ∧ j ≤ yf.length ∧ Ext G G' ∧ e 0 = .slice (some ⟨br, orr, none⟩) rs.length cr ∧ e 1 = .string name ∧ e 2 = .string path ∧ e 3 = .string content ∧ e 9 = .slice (some ⟨b1, o1, none⟩) rs.length k1 ∧ e 11 = .slice (some ⟨b2, o2, none⟩) rs.length k2 ∧ e 13 = .int .i64 (i : Int) ∧ e 14 = .int .i64 (cntP (yf.take j) path : Int) ∧ e 15 = .int .i64 (j : Int)) yf.length ⟨0, by simp [Ext.refl, e0, e1, e2, e3, e9, e11, e13, cntP]⟩ ?_)))
  clear e0 e1 e2 e3 e9 e11 e13
  rintro d e G' ⟨j, rfl, hj, hE', e0, e1, e2, e3, e9, e11, e13, e14, e15⟩
  have il1' : i < rs.length := hil
  have t4' := t4
  rw [← hE'.cell hb1] at t4'
  have v4' := v4
  rw [← hE'.cell hb2] at v4'
  by_cases hjl : j < yf.length
  case pos =>
    obtain ⟨bf, of, hpf, hbf, m0⟩ := (hf1.ext hE').row encF_len hjl
    subst hpf
    obtain ⟨X, x1, EX, x2, x3, x4, x5, xn⟩ := new_store3 G' yf[j]
    have wj := wrap_succ (i := j) (by omega)
    have wc := wrap_succ (i := cntP (yf.take j) path) (by have := cnt_le yf path j; omega)
    have hct := cnt_take (p := path) hjl
    have hq2 := q2 _ (List.getElem_mem hjl)
    generalize yf[j] = w at *
    by_cases hp : w.path = path
    · have := hq2 hp
      subst this
      rw [if_pos rfl] at hct
      simp [-Heap.row, c_law19_ForestWrites_l21, e0, e1, e2, e3, e9, e11, e13, e14, e15, hil, hjl, t4', m0, x1, x3, x4, x5]
      exact ⟨yf.length - (j + 1), by omega, j + 1, rfl, by omega, hE'.trans EX, by rw [hct]; exact wc, wj⟩
    · rw [if_neg hp] at hct
      simp [-Heap.row, c_law19_ForestWrites_l21, e0, e1, e2, e3, e9, e11, e13, e14, e15, hil, hjl, t4', m0, x1, x3, x4, x5, hp]
      exact ⟨yf.length - (j + 1), by omega, j + 1, rfl, by omega, hE'.trans EX, by rw [hct]; rfl, wj⟩
  obtain rfl : j = yf.length := by omega
  rw [List.take_length, q1] at e14
  simp [c_law19_ForestWrites_l21, e0, e1, e2, e3, e9, e11, e13, e14, e15, hil, t4']
  refine wp_nxt (wp_for (fun d e G'' => ∃ j : Nat, d = zf.length - j ∧ j ≤ zf.length ∧ G'' = G' ∧ e 0 = .slice (some ⟨br, orr, none⟩) rs.length cr ∧ e 1 = .string name ∧ e 2 = .string path ∧ e 3 = .string content ∧ e 9 = .slice (some ⟨b1, o1, none⟩) rs.length k1 ∧ e 11 = .slice (some ⟨b2, o2, none⟩) rs.length k2 ∧ e 13 = .int .i64 (i : Int) ∧ e 14 = .int .i64 1 ∧ e 17 = .int .i64 (j : Int)) zf.length ⟨0, by simp [e0, e1, e2, e3, e9, e11, e13, e14]⟩ ?_)
  clear e0 e1 e2 e3 e9 e11 e13 e14 e15
  rintro d e G'' ⟨j, rfl, hj, rfl, e0, e1, e2, e3, e9, e11, e13, e14, e17⟩
  by_cases hjl : j < zf.length
  case pos =>
    obtain ⟨bf, of, hpf, hbf, m0, _, _⟩ := (hf2.ext hE').at3 hjl
    subst hpf
    have wj := wrap_succ (i := j) (by omega)
    have hq := q4 _ (List.getElem_mem hjl)
    simp at m0
    generalize zf[j] = w at *
    simp [c_law19_ForestWrites_l27, e0, e1, e2, e3, e9, e11, e13, e14, e17, hil, hjl, v4', m0, hq]
    exact ⟨zf.length - (j + 1), by omega, j + 1, rfl, by omega, wj⟩
  obtain rfl : j = zf.length := by omega
  have ws : IntKind.i64.wrap ((yf.length : Int) - 1) = (zf.length : Int) := by rw [wrap_i64] <;> omega
  simp [c_law19_ForestWrites_l27, e0, e1, e2, e3, e9, e11, e13, e14, e17, hil, v4', t4', ws]
  exact ⟨rs.length - (i + 1), by omega, i + 1, rfl, by omega, hE.trans hE', wi1⟩
end Go.AM
