import Derived.Test.YtbgidagbogpfkaaR7C
/- Contracts: a forest. -/
namespace Go.AM
open Go.Proofs
set_option linter.unusedVariables false
set_option linter.unusedSimpArgs false
set_option maxRecDepth 100000
attribute [-simp] ByteArray.size_eq_zero_iff
structure Fo (H : Heap) (v : Value) (rs : List (Inf × Value)) : Prop where
  rows : Rows encP 5 H v rs
  fils : ∀ p ∈ rs, Fils H p.2 p.1.files
def infs (rs : List (Inf × Value)) : List Inf := rs.map Prod.fst
@[simp] theorem infs_length (rs : List (Inf × Value)) : (infs rs).length = rs.length := by simp [infs]
theorem infs_names (rs : List (Inf × Value)) : (infs rs).map Inf.name = rs.map keyP := by simp [infs, List.map_map]
theorem Fo.ext {H H' : Heap} {v : Value} {rs : List (Inf × Value)} (h : Fo H v rs) (hE : Ext H H') : Fo H' v rs := ⟨h.rows.ext hE, fun p hp => (h.fils p hp).ext hE⟩
theorem Fo.roAll {H : Heap} {v : Value} {rs : List (Inf × Value)} (h : Fo H v rs) : Fo H.roAll v rs := ⟨h.rows.roAll, fun p hp => (h.fils p hp).roAll⟩
theorem Rows.one {α : Type} {enc : α → List Value} {sz : Nat} {H : Heap} {v : Value} {xs : List α} (h : Rows enc sz H v xs) : v.oneCell' = true := by obtain ⟨p, c, rfl⟩ := h.slice; rfl
theorem Fo.one {H : Heap} {v : Value} {rs : List (Inf × Value)} (h : Fo H v rs) : ∀ p ∈ rs, p.2.oneCell' = true := fun p hp => (h.fils p hp).one
/-- No text, and no row, is longer than a memory bears. -/
structure FoZ (rs : List (Inf × Value)) : Prop where
  len : rs.length ≤ 140737488355328
  inf : ∀ p ∈ rs, InfZ p.1 ∧ p.1.files.length ≤ 140737488355328
theorem all_take_succ {α : Type} (p : α → Bool) {xs : List α} {i : Nat} (h : i < xs.length) : (xs.take (i + 1)).all p = ((xs.take i).all p && p xs[i]) := by
  rw [List.take_succ_eq_append_getElem h, List.all_append]; simp
theorem all_no {α : Type} (p : α → Bool) {xs : List α} {i : Nat} (h : i < xs.length) (hp : p xs[i] = false) : xs.all p = false := by
  rw [List.all_eq_false]; exact ⟨xs[i], List.getElem_mem _, by simp [hp]⟩
theorem rooted_ok (v : Value) (rs : List (Inf × Value)) (a : Nat) (H : Heap) (h : Fo H v rs) (hz : FoZ rs) (hs : Sorted (rs.map keyP)) (ha : a < rs.length) :
    call K f_forest_rooted [v, .int .i64 (a : Int)] H = some (.bool (rootB (infs rs) rs.length rs[a].1.parent), H) := by
  obtain ⟨p, c, rfl⟩ := h.rows.slice
  have hl := hz.len
  refine of_wpf (open_pure rfl fc_forest_rooted rfl (Nat.le_of_ble_eq_true rfl) ?_)
  simp
  refine wp_nxt (wp_for (fun d e G => ∃ i k : Nat, ∃ hk : k < rs.length, d = rs.length - i ∧ i ≤ rs.length ∧ G = H.roAll ∧ e 0 = .slice p rs.length c ∧ e 1 = .int .i64 (k : Int) ∧ e 9 = .int .i64 (rs.length : Int) ∧ e 10 = .int .i64 (i : Int) ∧
    rootB (infs rs) (rs.length - i) rs[k].1.parent = rootB (infs rs) rs.length rs[a].1.parent) rs.length ⟨0, a, ha, by simp⟩ ?_)
  rintro d e G ⟨i, k, hk, rfl, hi, rfl, e0, e1, e9, e10, hc⟩
  rw [← hc]
  by_cases hlt : i < rs.length
  · obtain ⟨b, o, rfl, hb, k0, k1, k2, k3, k4⟩ := h.rows.roAll.at5 hk
    have w1 := wrap_succ (i := i) (by omega)
    have hat := atInfo_ok _ rs rs[k].1.parent H.roAll h.rows.roAll hs hz.len h.one
    have hf : rs.length - i = (rs.length - (i + 1)) + 1 := by omega
    have hroot : rootB (infs rs) (rs.length - i) rs[k].1.parent = if rs[k].1.parent = ⟨#[]⟩ then true else match idxN (rs.map keyP) rs[k].1.parent with
        | some m => (match (infs rs)[m]? with | some y => decide (y.kind = 2) && rootB (infs rs) (rs.length - (i + 1)) y.parent | none => false) | none => false := by
      rw [hf, rootB, infs_names]
      rfl
    rw [hroot] at hc ⊢
    simp at k2
    generalize rs[k].1.parent = par at hat hc k2 ⊢
    by_cases hp : par = ⟨#[]⟩
    · simp [c_forest_rooted_l11, e0, e1, e9, e10, hlt, hk, k2, hp]
    · by_cases hh : hasN (rs.map keyP) par = true
      · obtain ⟨hpl, hidx⟩ := idx_sorted hs hh
        simp only [List.length_map] at hpl
        generalize posN (rs.map keyP) par = m at hat hpl hidx
        obtain ⟨b', o', eq, _, m0, m1, _⟩ := h.rows.roAll.at5 hpl
        cases eq
        have hget : (infs rs)[m]? = some rs[m].1 := by simp [infs, List.getElem?_eq_getElem hpl]
        rw [hidx, if_neg hp] at hc ⊢
        simp only [hget] at hc ⊢
        simp at m1
        by_cases hkd : rs[m].1.kind = 2
        · simp [c_forest_rooted_l11, e0, e1, e9, e10, hlt, hk, k2, hp, hat, hh, hpl, m1, hkd]
          exact ⟨rs.length - (i + 1), by omega, i + 1, rfl, by omega, w1, rfl⟩
        · simp [c_forest_rooted_l11, e0, e1, e9, e10, hlt, hk, k2, hp, hat, hh, hpl, m1, hkd]
      · have hh' : hasN (rs.map keyP) par = false := by simpa using hh
        have hidx : idxN (rs.map keyP) par = none := by
          have := idx_mem (s := par) (ns := rs.map keyP)
          rw [hh'] at this
          cases hx : idxN (rs.map keyP) par with
          | none => rfl
          | some j => rw [hx] at this; cases this
        rw [hidx, if_neg hp]
        simp [c_forest_rooted_l11, e0, e1, e9, e10, hlt, hk, k2, hp, hat, hh']
  · obtain rfl : i = rs.length := by omega
    simp [c_forest_rooted_l11, e0, e1, e9, e10, rootB]
theorem may_ok (v : Value) (rs : List (Inf × Value)) (H : Heap) (h : Fo H v rs) (hz : FoZ rs) : call K f_forest_May [v] H = some (.bool (mayB (infs rs)), H) := by
  obtain ⟨p, c, rfl⟩ := h.rows.slice
  have hl := hz.len
  have hmy : mayB (infs rs) = (rowsB (fun q : Inf × Value => infB q.1) keyP rs rs.length && rs.all (fun q => rootB (infs rs) rs.length q.1.parent) && decide (rs.length ≤ 6)) := by
    have e1 : rowsB infB Inf.name (infs rs) (infs rs).length = rowsB (fun q : Inf × Value => infB q.1) keyP rs rs.length := by
      unfold rowsB
      rw [infs, List.length_map]
      congr 1
      funext i
      unfold rowB
      cases i with
      | zero => simp only [List.getElem?_map]; cases rs[0]? <;> rfl
      | succ j => simp only [List.getElem?_map]; cases rs[j + 1]? <;> cases rs[j]? <;> rfl
    unfold mayB
    rw [e1, infs, List.length_map, List.all_map]
    rfl
  rw [hmy]
  refine of_wpf (open_pure rfl fc_forest_May rfl (Nat.le_of_ble_eq_true rfl) ?_)
  simp
  refine wp_nxt (wp_for (fun d e G => ∃ i : Nat, d = rs.length - i ∧ i ≤ rs.length ∧ Ext H.roAll G ∧ e 0 = .slice p rs.length c ∧ e 6 = .slice p rs.length c ∧ e 7 = .int .i64 (rs.length : Int) ∧ e 8 = .int .i64 (i : Int) ∧ rowsB (fun q : Inf × Value => infB q.1) keyP rs i = true) rs.length ⟨0, by simp [rowsB, Ext.refl]⟩ ?_)
  rintro d e G ⟨i, rfl, hi, hE, e0, e6, e7, e8, hc⟩
  by_cases hlt : i < rs.length
  · have hr := (h.roAll.ext hE)
    obtain ⟨b, o, rfl, hb, k0, k1, k2, k3, k4⟩ := hr.rows.at5 hlt
    have hbn : b ≠ G.next := by omega
    have w1 := wrap_succ (i := i) (by omega)
    have hs := rowsB_succ (fun q : Inf × Value => infB q.1) keyP rs i
    rw [hc, Bool.true_and] at hs
    have bad : rowB (fun q : Inf × Value => infB q.1) keyP rs i = false → rowsB (fun q : Inf × Value => infB q.1) keyP rs rs.length = false := fun hb => rowsB_no (n := i + 1) (by rw [hs, hb]) (by omega)
    have good : rowB (fun q : Inf × Value => infB q.1) keyP rs i = true → ∀ G' : Heap, Ext H.roAll G' → ∃ d', d' < rs.length - i ∧ ∃ j : Nat, d' = rs.length - j ∧ j ≤ rs.length ∧ Ext H.roAll G' ∧ IntKind.i64.wrap ((i : Int) + 1) = (j : Int) ∧ rowsB (fun q : Inf × Value => infB q.1) keyP rs j = true :=
      fun hb G' hG => ⟨rs.length - (i + 1), by omega, i + 1, rfl, by omega, hG, w1, by rw [hs, hb]⟩
    have hmem := List.getElem_mem hlt
    have hzi := hz.inf _ hmem
    have hp := fun G => isName_ok rs[i].1.name G hzi.1.1
    have hfo := hr.one _ hmem
    have hfl : ∀ X Y, call K f_forest_files [rs[i].2, .bool (decide (rs[i].1.kind = 1))] ((G.add X).set G.next Y) = some (.bool (filesB (decide (rs[i].1.kind = 1)) rs[i].1.files), (G.add X).set G.next Y) := fun X Y =>
      files_ok _ _ _ _ ((hr.fils _ hmem).ext (((Ext.refl G).add X).set (Nat.le_refl _) Y)) hzi.1.2 hzi.2
    have hq : rowB (fun q : Inf × Value => infB q.1) keyP rs i = (infB rs[i].1 && (i == 0 || decide (Ls (rs[i - 1]'(by omega)).1.name rs[i].1.name))) := by
      cases i with
      | zero => rw [rowB_zero _ _ hlt]; simp
      | succ j => rw [rowB_succ _ _ hlt]; simp
    rw [hq] at bad good
    have hprev : ∀ j, i = j + 1 → G.cell b (o + j * 5) = some (.string (rs[i - 1]'(by omega)).1.name) := by
      rintro j rfl
      obtain ⟨b', o', e, _, m0, _⟩ := hr.rows.at5 (i := j) (by omega)
      cases e
      exact m0
    generalize rs[i] = xv at k0 k1 k2 k3 k4 hp bad good hfl hfo
    obtain ⟨x, fv⟩ := xv
    generalize rs[i - 1]'(by omega) = y at bad good hprev
    simp at k0 k1 k2 k3 k4 hp hfl
    simp only at bad good hfo
    by_cases c1 : wordB x.name 4 = true
    case neg =>
      have c1' : wordB x.name 4 = false := by simpa using c1
      have hf := bad (by simp [infB, c1'])
      simp [c_forest_May_l7, e0, e6, e7, e8, hlt, k0, k1, k2, k3, k4, hfo, hp, c1', hf, hbn, cell_add_old hb]
    by_cases c2 : 0 ≤ x.kind ∧ x.kind ≤ 2
    case neg =>
      have hf := bad (by simp only [infB, decide_eq_false c2, Bool.and_false, Bool.false_and])
      simp [c_forest_May_l7, e0, e6, e7, e8, hlt, k0, k1, k2, k3, k4, hfo, hp, c1, decide_eq_false c2, hf, hbn, cell_add_old hb]
    by_cases c3 : x.label.size ≤ 3
    case neg =>
      have hf := bad (by simp [infB, c3])
      simp [c_forest_May_l7, e0, e6, e7, e8, hlt, k0, k1, k2, k3, k4, hfo, hp, c1, decide_eq_true c2, c3, hf, hbn, cell_add_old hb]
    by_cases c4 : filesB (decide (x.kind = 1)) x.files = true
    case neg =>
      have c4' : filesB (decide (x.kind = 1)) x.files = false := by simpa using c4
      have hf := bad (by simp only [infB, c4', Bool.and_false, Bool.false_and])
      simp [c_forest_May_l7, e0, e6, e7, e8, hlt, k0, k1, k2, k3, k4, hfo, hp, c1, decide_eq_true c2, c3, hfl, c4', hf, hbn, cell_add_old hb]
    have hinf : infB x = true := by simp only [infB, c1, decide_eq_true c2, decide_eq_true c3, c4]; rfl
    rw [hinf] at bad good
    rcases Nat.eq_zero_or_pos i with hi0 | hi0
    · subst hi0
      have hg := good rfl
      simp at k0 k1 k2 k3 k4
      simp only [Nat.sub_zero, Nat.zero_add, Int.natCast_zero, Int.ofNat_zero, Int.zero_add] at hg
      simp [c_forest_May_l7, e0, e6, e7, e8, hlt, k0, k1, k2, k3, k4, hfo, hp, c1, decide_eq_true c2, c3, hfl, c4, hbn, cell_add_old hb]
      exact hg _ ((hE.add _).set hE.next _)
    · obtain ⟨j, hj⟩ : ∃ j, i = j + 1 := ⟨i - 1, by omega⟩
      have hpc := hprev j hj
      have w2 : IntKind.i64.wrap ((i : Int) - 1) = (j : Int) := by rw [wrap_i64] <;> omega
      have hjl : j < rs.length := by omega
      have hi1 : (0 : Int) < (i : Int) := by omega
      have hne0 : (i == 0) = false := by simp; omega
      by_cases c5 : Ls y.1.name x.name
      · have hg := good (by simp [c5])
        simp [c_forest_May_l7, e0, e6, e7, e8, hlt, k0, k1, k2, k3, k4, hfo, hp, c1, decide_eq_true c2, c3, hfl, c4, hbn, cell_add_old hb, w2, hjl, hi0, hi1, hpc, bLess_ls, c5]
        exact hg _ ((hE.add _).set hE.next _)
      · have hf := bad (by simp [c5, hne0])
        simp [c_forest_May_l7, e0, e6, e7, e8, hlt, k0, k1, k2, k3, k4, hfo, hp, c1, decide_eq_true c2, c3, hfl, c4, hbn, cell_add_old hb, w2, hjl, hi0, hi1, hpc, bLess_ls, c5, hf]
  · obtain rfl : i = rs.length := by omega
    obtain ⟨_, hsort⟩ := rowsB_ok hc
    rw [hc, Bool.true_and]
    have hr := (h.roAll.ext hE)
    simp [c_forest_May_l7, e0, e6, e7, e8]
    refine wp_nxt (wp_for (fun d e G' => ∃ i : Nat, d = rs.length - i ∧ i ≤ rs.length ∧ G' = G ∧ e 0 = .slice p rs.length c ∧ e 55 = .int .i64 (rs.length : Int) ∧ e 56 = .int .i64 (i : Int) ∧ (rs.take i).all (fun q => rootB (infs rs) rs.length q.1.parent) = true) rs.length ⟨0, by simp [e0]⟩ ?_)
    rintro d e G' ⟨i, rfl, hi, rfl, e0, e55, e56, hall⟩
    by_cases hlt : i < rs.length
    · have hro := rooted_ok _ rs i G' hr hz hsort hlt
      have hs := all_take_succ (fun q : Inf × Value => rootB (infs rs) rs.length q.1.parent) hlt
      have hn := all_no (fun q : Inf × Value => rootB (infs rs) rs.length q.1.parent) hlt
      have w1 := wrap_succ (i := i) (by omega)
      cases hb : rootB (infs rs) rs.length rs[i].1.parent with
      | true =>
        rw [hb] at hro
        rw [hall, hb] at hs
        simp [c_forest_May_l14, e0, e55, e56, hlt, hro]
        exact ⟨rs.length - (i + 1), by omega, i + 1, rfl, by omega, w1, by simpa using hs⟩
      | false =>
        rw [hb] at hro
        have := hn hb
        simp [c_forest_May_l14, e0, e55, e56, hlt, hro, this]
    · obtain rfl : i = rs.length := by omega
      rw [List.take_length] at hall
      rw [hall]
      simp [c_forest_May_l14, e0, e55, e56]
      omega
end Go.AM
