import Derived.Test.YtbgidagbogpfkaaR7Re
/- The document's answer: committing. -/
namespace Go.AM
open Go.Proofs
set_option linter.unusedVariables false
set_option linter.unusedSimpArgs false
set_option maxRecDepth 100000
attribute [-simp] ByteArray.size_eq_zero_iff Heap.store
theorem new_var (G : Heap) (x : Inf × Value) (h1 : x.2.oneCell' = true) : ∃ X, (G.add (rowBlk 5 [.string ⟨#[]⟩, .int .i64 0, .string ⟨#[]⟩, .string ⟨#[]⟩, .slice none 0 0])).store G.next 0 (encP x) = some X ∧ Ext G X ∧ VarP X G.next x ∧ X.next = G.next + 1 := by
  obtain ⟨X, x1, EX, x2, _, _, _, _, x4, xn⟩ := new_store5 G x h1
  refine ⟨X, x1, EX, ?_, xn⟩
  simp [Heap.store, Heap.row, h1, rowBlk] at x1
  subst x1
  refine ⟨_, blk_set_self _ _ _, rfl, fun j hj => ?_⟩
  match j, hj with
  | 0, _ => rfl
  | 1, _ => rfl
  | 2, _ => rfl
  | 3, _ => rfl
  | 4, _ => rfl
theorem actS_some {xs : List Inf} {name : ByteArray} {k : Nat} (h : idxN (xs.map Inf.name) name = some k) (hk : k < xs.length) : actS xs name = if xs[k].kind ≠ 0 then (0, 1905) else ((k : Int), 0) := by
  rw [actS, h]; simp only [List.getElem?_eq_getElem hk]
theorem actS_none {xs : List Inf} {name : ByteArray} (h : idxN (xs.map Inf.name) name = none) : actS xs name = (0, 1903) := by rw [actS, h]
theorem rcommit_ok (v : Value) (rs : List (Inf × Value)) (name to : ByteArray) (H : Heap) (h : Fo H v rs) (hz : FoZ rs) (hw : FoW rs) (hs : name.size ≤ 140737488355328) (hs2 : to.size ≤ 140737488355328) :
    wpf (call K f_ref16_Commit [v, .string name, .string to] H) (RRet H (commitS (infs rs) name to)) := by
  have hl := hz.len
  have hac := ractive_ok v rs name H h hl
  have hat := rAt_ok v rs to H h hl
  have hm := rmay_ok v rs H h hz
  have hn := nameMay_ok name H hs
  have hn2 := nameMay_ok to H hs2
  refine open_plain rfl fc_ref16_Commit rfl (Nat.le_of_ble_eq_true rfl) ?_
  rcases named_case (infs rs) name [to] with ⟨a1, e⟩ | ⟨a1, a2, e⟩ | ⟨a1, a2, a3, e⟩ | ⟨k, hk, a1, a2, a3, a4, a5, e⟩
  · rw [a1] at hm
    have hq : commitS (infs rs) name to = ([], 1900) := by simp [commitS, e]
    rw [hq]; simp [hm]; exact RRet.err H _
  · rw [a1] at hm
    have hq : commitS (infs rs) name to = ([], 1901) := by simp [commitS, e]
    rw [hq]
    cases b1 : wordB name 4 with
    | false =>
      rw [b1] at hn
      simp [hm, hn]; exact RRet.err H _
    | true =>
      have b2 : wordB to 4 = false := by simpa [b1] using a2
      rw [b1] at hn; rw [b2] at hn2
      simp [hm, hn, hn2]; exact RRet.err H _
  · rw [a1] at hm
    simp at a2
    rw [a2.1] at hn; rw [a2.2] at hn2
    rw [actS_none a3] at hac
    have hq : commitS (infs rs) name to = ([], 1903) := by simp [commitS, e]
    rw [hq]; simp [hm, hn, hn2, hac]; exact RRet.err H _
  · rw [a1] at hm
    simp at a2
    rw [a2.1] at hn; rw [a2.2] at hn2
    rw [actS_some a3 hk] at hac
    have hget : (infs rs)[k]? = some (infs rs)[k] := List.getElem?_eq_getElem hk
    by_cases b1 : (infs rs)[k].kind = 0
    case neg =>
      have hq : commitS (infs rs) name to = ([], 1905) := by
        simp only [commitS, e, a4, hget]; rw [if_neg (by simp), if_pos b1]
      rw [if_pos b1] at hac
      rw [hq]; simp [hm, hn, hn2, hac]; exact RRet.err H _
    rw [if_neg (by simpa using b1)] at hac
    have hmem := idx_mem (s := to) (ns := (infs rs).map Inf.name)
    cases hi : idxN ((infs rs).map Inf.name) to with
    | some j =>
      rw [hi] at hmem
      rw [atI_some hi] at hat
      have hq : commitS (infs rs) name to = ([], 1902) := by
        simp only [commitS, e, a4, hget]; rw [if_neg (by simp), if_neg (by simpa using b1), if_pos (show hasN ((infs rs).map Inf.name) to = true from hmem.symm)]
      have hj0 : (0 : Int) ≤ (j : Int) := by omega
      rw [hq]; simp [hm, hn, hn2, hac, hat, hj0]; exact RRet.err H _
    | none =>
      rw [hi] at hmem
      rw [atI_none hi] at hat
      have hno : hasN ((infs rs).map Inf.name) to = false := hmem.symm
      have hq : commitS (infs rs) name to = (insAt (cutAt (infs rs) k) (posN ((cutAt (infs rs) k).map Inf.name) to) { (infs rs)[k] with name := to, kind := 2 }, 0) := by
        simp only [commitS, e, a4, hget]; rw [if_neg (by simp), if_neg (by simpa using b1), if_neg (by simp [hno])]
      obtain ⟨r1, G1, c1, E1, rs1, i1, w1⟩ := rcopy_ok _ rs H h hw
      have hl1 : rs1.length = rs.length := by rw [← infs_length rs1, i1, infs_length]
      have hk1 : k < rs1.length := by rw [hl1]; simpa using hk
      have hge : (infs rs)[k] = rs1[k].1 := by simp only [← i1]; simp [infs]
      have f1 := w1.fo
      obtain ⟨b, o, hbv⟩ : ∃ b o, ∃ c, r1 = .slice (some ⟨b, o, none⟩) rs1.length c := by
        obtain ⟨p, c, rfl⟩ := f1.rows.slice
        obtain ⟨b, o, rfl, _⟩ := f1.rows.row encP_len hk1
        exact ⟨b, o, c, rfl⟩
      obtain ⟨c, rfl⟩ := hbv
      obtain ⟨_, _, hpp, hbG, m0⟩ := f1.rows.row encP_len hk1
      cases hpp
      have hone := f1.one _ (List.getElem_mem hk1)
      have hfil := f1.fils _ (List.getElem_mem hk1)
      obtain ⟨X, x1, EX, vX, xn⟩ := new_var G1 rs1[k] hone
      obtain ⟨X1, y1, v1, yn1, yo1⟩ := vX.put (q := ({ rs1[k].1 with name := to }, rs1[k].2)) (j := 0) (v := .string to) (by omega) rfl rfl
      obtain ⟨X2, y2, v2, yn2, yo2⟩ := v1.put (q := ({ rs1[k].1 with name := to, kind := 2 }, rs1[k].2)) (j := 1) (v := .int .i64 2) (by omega) rfl rfl
      have EX2 : Ext G1 X2 := ⟨by have := EX.next; omega, fun j hj => by rw [yo2 j (by omega), yo1 j (by omega)]; exact EX.blk j hj⟩
      have hl2 : (rs1.length + 2) * 80 ≤ 2 ^ 47 := by rw [hl1]; exact fow2 a1
      obtain ⟨r2, G2, c2, E2, w2⟩ := without_ok _ rs1 k X2 (f1.ext EX2) hk1 hl2
      have v2' := v2.other (E2.blk _ (by omega))
      obtain ⟨_, _, _, _, _, q1⟩ := v2.cells
      obtain ⟨_, _, _, _, _, q2⟩ := v2'.cells
      have hcl := cut_len rs1 k hk1
      have hic : infs (cutAt rs1 k) = cutAt (infs rs) k := by rw [show infs (cutAt rs1 k) = cutAt (infs rs1) k from infs_cut rs1 k, i1]
      have hns : hasN ((infs (cutAt rs1 k)).map Inf.name) to = false := by
        rw [hic]
        refine (hasN_no _ _).2 fun hc => ?_
        obtain ⟨z, hz, ez⟩ := List.mem_map.1 hc
        exact (hasN_no _ _).1 hno (by rw [← ez]; exact List.mem_map.2 ⟨z, mem_cut hz, rfl⟩)
      obtain ⟨r3, G3, c3, E3, w3⟩ := with_ok r2 (cutAt rs1 k) ({ rs1[k].1 with name := to, kind := 2 }, rs1[k].2) G2 w2 ((hfil.ext EX2).ext E2) (by rw [hic]; exact sorted_cutG Inf.name (mayB_all a1).2.1 k) hns (by omega)
      have hres : infs (insAt (cutAt rs1 k) (posN ((infs (cutAt rs1 k)).map Inf.name) to) ({ rs1[k].1 with name := to, kind := 2 }, rs1[k].2)) = insAt (cutAt (infs rs) k) (posN ((cutAt (infs rs) k).map Inf.name) to) { rs1[k].1 with name := to, kind := 2 } := by
        rw [hic]
        rw [show infs (insAt (cutAt rs1 k) (posN ((cutAt (infs rs) k).map Inf.name) to) ({ rs1[k].1 with name := to, kind := 2 }, rs1[k].2)) = insAt (infs (cutAt rs1 k)) (posN ((cutAt (infs rs) k).map Inf.name) to) { rs1[k].1 with name := to, kind := 2 } from infs_ins _ _ _, hic]
      obtain ⟨p3, c3', rfl⟩ := w3.rows.slice
      rw [hq, hge, ← hres]
      generalize rs1[k] = y at *
      obtain ⟨⟨n2, k2, p2, l2, f2⟩, yv⟩ := y
      simp only at c3 q1 q2 y1 y2 x1 m0 hone
      simp [-Heap.row, hm, hn, hn2, hac, hat, c1, hk1, m0, x1, y1, y2, q1, c2, run_regd_tr, finD_some, Chk, wanted, q2, c3, hone]
      exact ⟨((E1.trans EX2).trans E2).trans E3, _, _, rfl, rfl, w3⟩
end Go.AM
