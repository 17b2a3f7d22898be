import Derived.Test.YtbgidagbogpfkaaR7CodeL
import Derived.Test.YtbgidagbogpfkaaR7Commits
/- The law ForestRemoves: true. -/
namespace Go.AM
open Go.Proofs
set_option linter.unusedVariables false
set_option linter.unusedSimpArgs false
set_option maxRecDepth 100000
attribute [-simp] ByteArray.size_eq_zero_iff
/-! ### the plain law -/
theorem remove_law {xs : List Inf} {name : ByteArray} (h : (removeS xs name).2 = 0) : (∀ x ∈ xs, x.parent ≠ name) ∧ (removeS xs name).1 = xs.filter (fun x => decide (x.name ≠ name)) ∧ (removeS xs name).1.length + 1 = xs.length ∧ mayB (removeS xs name).1 = true ∧
    (prepareS (removeS xs name).1 name ⟨#[]⟩ 0).2 = 0 := by
  unfold removeS at h ⊢
  split at h
  · rename_i h1; exact absurd h h1
  rename_i h1
  rw [if_neg h1]
  have h1' : namedE xs name [] = 0 := by simpa using h1
  obtain ⟨hm, hwn, _, hh⟩ := named_words h1'
  obtain ⟨hpos, _, _, h6⟩ := named_pos h1'
  split at h
  · simp at h
  rename_i h2
  rw [if_neg h2]
  have hk : ∀ x ∈ xs, x.parent ≠ name := fun x hx e => h2 (List.any_eq_true.2 ⟨x, hx, by simpa using e⟩)
  have hcf := cut_filter Inf.name (mayB_all hm).2.1 hh
  have hcl := cut_len _ _ hpos
  have hmc := may_cut hm hh hk
  refine ⟨hk, hcf, hcl, hmc, ?_⟩
  simp only
  have hn : hasN ((cutAt xs (posN (xs.map Inf.name) name)).map Inf.name) name = false := (hasN_no _ _).2 fun hc => by
    obtain ⟨z, hz, e⟩ := List.mem_map.1 hc
    rw [hcf] at hz
    have := (List.mem_filter.1 hz).2
    simp [e] at this
  generalize cutAt xs (posN (xs.map Inf.name) name) = cs at *
  have hb : beginE cs (prepNs name ⟨#[]⟩) = 0 := by simp [beginE, prepNs, hmc, hwn]
  have hl6 : cs.length ≠ 6 := by omega
  simp [prepareS, hb, hn, hl6]
theorem filter_get {α : Type} (p : α → Bool) {l : List α} {j : Nat} (h : j < l.length) (hp : p l[j] = true) : (l.filter p)[((l.take j).filter p).length]? = some l[j] := by
  have e : l.filter p = (l.take j).filter p ++ (l[j] :: (l.drop (j + 1)).filter p) := by
    conv => lhs; rw [← List.take_append_drop j l, List.filter_append, List.drop_eq_getElem_cons h, List.filter_cons, if_pos hp]
  rw [e, List.getElem?_append_right (Nat.le_refl _), Nat.sub_self]; rfl
theorem filter_take {α : Type} (p : α → Bool) {l : List α} {j : Nat} (h : j < l.length) : ((l.take (j + 1)).filter p).length = ((l.take j).filter p).length + if p l[j] then 1 else 0 := by
  rw [List.take_succ_eq_append_getElem h, List.filter_append, List.length_append, List.filter_cons]
  split <;> simp
theorem filter_le {α : Type} (p : α → Bool) (l : List α) (j : Nat) : ((l.take j).filter p).length ≤ j := Nat.le_trans (List.length_filter_le _ _) (by rw [List.length_take]; omega)
/-! ### the walk -/
theorem removes_law (v : Value) (rs : List (Inf × Value)) (name : ByteArray) (H : Heap) (hF : Fo H v rs) (hz : FoZ rs ∧ FoW rs ∧ FoC rs) (hs1 : name.size ≤ 140737488351232) :
    call K f_law19_ForestRemoves [v, .string name] H = some (.bool true, H) := by
  refine of_wpf (open_pure rfl fc_law19_ForestRemoves rfl (Nat.le_of_ble_eq_true rfl) ?_)
  have ha := awake_ok H.roAll
  have hF := hF.roAll
  generalize H.roAll = G0 at *
  obtain ⟨r1, G1, c1, R1⟩ := remove_ok v rs name G0 hF hz.1 hz.2.1 (by omega)
  by_cases he : (removeS (infs rs) name).2 = 0
  case neg =>
    have := ret_err R1 he
    subst this
    simp [ha, c1, he]
  obtain ⟨u1, s1, rfl, i1, w1, _⟩ := ret_rows (G := G1) R1 he (Ext.refl G1)
  obtain ⟨hkids, hfil, hlen, hm, hprep⟩ := remove_law he
  rw [← i1] at hm hfil hlen hprep
  simp only [infs_length] at hlen
  have zz := may_z hm
  have hF1 := hF.ext R1.1
  clear R1
  obtain ⟨pr, cr, rfl⟩ := hF1.rows.slice
  obtain ⟨p1, k1, rfl⟩ := w1.rows.slice
  have hbnd := hz.1.len
  simp [ha, c1]
  refine wp_nxt (wp_for (fun d e G => ∃ j : Nat, d = rs.length - j ∧ j ≤ rs.length ∧ G = G1 ∧ e 0 = .slice pr rs.length cr ∧ e 1 = .string name ∧ e 5 = .slice p1 s1.length k1 ∧ e 7 = .int .i64 ((((infs rs).take j).filter fun x => decide (x.name ≠ name)).length : Int) ∧ e 8 = .int .i64 (j : Int)) rs.length ⟨0, by simp⟩ ?_)
  rintro d e G ⟨j, rfl, hj, rfl, e0, e1, e5, e7, e8⟩
  by_cases hjl : j < rs.length
  · obtain ⟨b, o, rfl, hb, m0⟩ := hF1.rows.row encP_len hjl
    obtain ⟨_, _, hp2, _, t0, _, t2, _⟩ := hF1.rows.at5 hjl
    cases hp2
    have wj := wrap_succ (i := j) (by omega)
    have hjl' : j < (infs rs).length := by simpa using hjl
    have hft := filter_take (fun x : Inf => decide (x.name ≠ name)) hjl'
    have hfg := filter_get (fun x : Inf => decide (x.name ≠ name)) hjl'
    have hfl := filter_le (fun x : Inf => decide (x.name ≠ name)) (infs rs) j
    have hge : (infs rs)[j] = rs[j].1 := by simp [infs]
    rw [hge] at hft hfg
    have hkid := hkids rs[j].1 (List.mem_map.2 ⟨_, List.getElem_mem hjl, rfl⟩)
    have hffr := hF1.fils _ (List.getElem_mem hjl)
    simp at t0 t2
    rw [← hfil] at hfg
    generalize rs[j] = x at *
    generalize (((infs rs).take j).filter fun x => decide (x.name ≠ name)).length = k at *
    by_cases a1 : x.1.name = name
    · simp [a1] at hft
      simp [-Heap.row, c_law19_ForestRemoves_l16, e0, e1, e5, e7, e8, hjl, t0, t2, hkid, a1]
      exact ⟨rs.length - (j + 1), by omega, j + 1, rfl, by omega, by simpa using hft.symm, wj⟩
    · simp [a1] at hft hfg
      have hk1 : k < s1.length := by
        have := (List.getElem?_eq_some_iff.1 hfg).1
        simpa using this
      have hke : s1[k].1 = x.1 := by
        rw [infs_get hk1] at hfg
        exact Option.some.inj hfg
      obtain ⟨bs, os, rfl, hbs, m1⟩ := w1.rows.row encP_len hk1
      have same := sameInfo_ok s1[k] x G (w1.fils _ (List.getElem_mem hk1)) hffr (by have := (zz.1.inf _ (List.getElem_mem hk1)).2; exact this)
      rw [hke] at same
      simp at same
      have wk := wrap_succ (i := k) (by omega)
      have hge2 : ¬ ((s1.length : Int) ≤ k) := by omega
      simp [-Heap.row, c_law19_ForestRemoves_l16, e0, e1, e5, e7, e8, hjl, t0, t2, hkid, a1, hk1, hge2, m0, m1, same]
      exact ⟨rs.length - (j + 1), by omega, j + 1, rfl, by omega, by simpa [hft] using wk, wj⟩
  obtain rfl : j = rs.length := by omega
  have hk : (((infs rs).take rs.length).filter fun x => decide (x.name ≠ name)).length = s1.length := by
    rw [← infs_length rs, List.take_length, ← hfil, infs_length]
  rw [hk] at e7
  obtain ⟨r3, G3, c3, R3⟩ := prepare_ok _ s1 name ⟨#[]⟩ 0 G w1 zz.1 zz.2 (by omega) (by decide)
  obtain ⟨u3, s3, rfl, i3, w3, _⟩ := ret_rows (G := G3) R3 hprep (Ext.refl G3)
  have hl3 := (child_law hprep i3).1
  rw [infs_length] at hl3
  obtain ⟨p3, k3, rfl⟩ := w3.rows.slice
  have hmy := may_ok _ _ _ (w1.ext R3.1) zz.1
  rw [hm] at hmy
  have ws : IntKind.i64.wrap ((rs.length : Int) - 1) = (s1.length : Int) := by rw [wrap_i64] <;> omega
  have hl3' : s3.length = rs.length := by omega
  simp [c_law19_ForestRemoves_l16, e0, e1, e5, e7, e8, c3, hmy, ws, hl3']
end Go.AM
