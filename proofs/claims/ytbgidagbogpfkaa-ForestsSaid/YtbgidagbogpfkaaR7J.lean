import Derived.Test.YtbgidagbogpfkaaR7I
/- Contracts: Remove, Commit. -/
namespace Go.AM
open Go.Proofs
set_option linter.unusedVariables false
set_option linter.unusedSimpArgs false
set_option maxRecDepth 100000
attribute [-simp] ByteArray.size_eq_zero_iff
theorem kid_ok (p : Inf × Value) (name : ByteArray) (bp : Nat) (H : Heap) (hc : H.cell bp 0 = some (.string name)) (hb : bp < H.next) (h1 : p.2.oneCell' = true) : call K f_forest_Remove_1 [.agg (encP p).toArray, .pointer (some ⟨bp, 0, none⟩)] H = some (.bool (decide (p.1.parent = name)), H) := by
  have hne : bp ≠ H.next := by omega
  have hc2 : ∀ B : Blk, (H.roAll.add B).cell bp 0 = some (.string name) := fun B => by rw [cell_add_old (by simpa using hb), cell_roAll]; exact hc
  refine of_wpf (open_pure rfl fc_forest_Remove_1 rfl (Nat.le_of_ble_eq_true rfl) ?_)
  simp [h1, hc2]
theorem kids_ok (v : Value) (rs : List (Inf × Value)) (name : ByteArray) (bp : Nat) (H : Heap) (h : Rows encP 5 H v rs) (h1 : ∀ p ∈ rs, p.2.oneCell' = true) (hc : H.cell bp 0 = some (.string name)) (hb : bp < H.next) (hl : rs.length ≤ 1000) :
    call K f_slices_ContainsFunc_Info [v, .func (.func f_forest_Remove_1) #[] #[.pointer (some ⟨bp, 0, none⟩)]] H = some (.bool (rs.any fun p => decide (p.1.parent = name)), H) := by
  have hidx : ∃ u, call K f_slices_IndexFunc_Info [v, .func (.func f_forest_Remove_1) #[] #[.pointer (some ⟨bp, 0, none⟩)]] H.roAll = some (u, H.roAll) ∧ ∃ r : Int, u = .int .i64 r ∧ decide (0 ≤ r) = rs.any fun p => decide (p.1.parent = name) := by
    obtain ⟨p, c, rfl⟩ := h.slice
    refine (?_ : ∀ {r : Option (Value × Heap)}, (wpf r fun u G => (∃ k : Int, u = .int .i64 k ∧ decide (0 ≤ k) = rs.any fun p => decide (p.1.parent = name)) ∧ G = H.roAll) → ∃ u, r = some (u, H.roAll) ∧ ∃ k : Int, u = .int .i64 k ∧ decide (0 ≤ k) = rs.any fun p => decide (p.1.parent = name)) (open_pure rfl fc_slices_IndexFunc_Info rfl (Nat.le_of_ble_eq_true rfl) ?_)
    · rintro r ⟨u, G, h1, h2, rfl⟩; exact ⟨u, h1, h2⟩
    simp
    refine wp_nxt (wp_for (fun d e G => ∃ i : Nat, d = rs.length - i ∧ i ≤ rs.length ∧ G = H.roAll.roAll ∧ e 0 = .slice p rs.length c ∧ e 1 = .func (.func f_forest_Remove_1) #[] #[.pointer (some ⟨bp, 0, none⟩)] ∧ e 7 = .int .i64 (rs.length : Int) ∧ e 8 = .int .i64 (i : Int) ∧ ((rs.take i).any fun p => decide (p.1.parent = name)) = false) rs.length ⟨0, by simp⟩ ?_)
    rintro d e G ⟨i, rfl, hi, rfl, e0, e1, e7, e8, hall⟩
    by_cases hlt : i < rs.length
    · obtain ⟨b, o, rfl, hb', hrow⟩ := h.roAll.roAll.row encP_len hlt
      have hk := kid_ok rs[i] name bp H.roAll.roAll (by simpa using hc) hb (h1 _ (List.getElem_mem _))
      have w1 := wrap_succ (i := i) (by omega)
      have hst : ((rs.take (i + 1)).any fun p => decide (p.1.parent = name)) = decide (rs[i].1.parent = name) := by
        rw [List.take_succ_eq_append_getElem hlt, List.any_append, hall]; simp
      by_cases hp : rs[i].1.parent = name
      · have hany : (rs.any fun p => decide (p.1.parent = name)) = true := List.any_eq_true.2 ⟨rs[i], List.getElem_mem _, by simp [hp]⟩
        rw [decide_eq_true hp] at hk
        generalize rs[i] = x at *
        simp [-Heap.row, c_slices_IndexFunc_Info_l7, e0, e1, e7, e8, hlt, hrow, hk, hany]
      · rw [decide_eq_false hp] at hk hst
        generalize rs[i] = x at *
        simp [-Heap.row, c_slices_IndexFunc_Info_l7, e0, e1, e7, e8, hlt, hrow, hk]
        exact ⟨rs.length - (i + 1), by omega, i + 1, rfl, by omega, w1, by simpa using hst⟩
    · obtain rfl : i = rs.length := by omega
      rw [List.take_length] at hall
      simp [c_slices_IndexFunc_Info_l7, e0, e1, e7, e8, hall]
  obtain ⟨u, hu, r, rfl, hr⟩ := hidx
  refine of_wpf (open_pure rfl fc_slices_ContainsFunc_Info rfl (Nat.le_of_ble_eq_true rfl) ?_)
  simp [hu]
  exact hr
def cutAt {α : Type} (xs : List α) (i : Nat) : List α := xs.take i ++ xs.drop (i + 1)
def removeS (xs : List Inf) (name : ByteArray) : List Inf × Int :=
  if namedE xs name [] ≠ 0 then ([], namedE xs name []) else if (xs.any fun x => decide (x.parent = name)) = true then ([], 1906) else (cutAt xs (posN (xs.map Inf.name) name), 0)
theorem infs_cut (rs : List (Inf × Value)) (i : Nat) : infs (rs.take i ++ rs.drop (i + 1)) = cutAt (infs rs) i := by simp [infs, cutAt, List.map_take, List.map_drop]
/-- The row shortened. -/
theorem OwF.cut {n0 : Nat} {H : Heap} {v r : Value} {rs : List (Inf × Value)} (h : OwF n0 H v rs) {b : Nat} {B' : Blk} (hb : blkV v = some b) (hr : blkV r = some b) {i : Nat} (ho : Ow encP 5 n0 (H.set b (some B')) r (rs.take i ++ rs.drop (i + 1))) : OwF n0 (H.set b (some B')) r (rs.take i ++ rs.drop (i + 1)) := by
  have hsub : ∀ p ∈ rs.take i ++ rs.drop (i + 1), p ∈ rs := fun p hp => by
    rcases List.mem_append.1 hp with h | h
    · exact List.mem_of_mem_take h
    · exact List.mem_of_mem_drop h
  refine ⟨ho, fun p hp => (h.fils p (hsub p hp)).setB (h.sep p (hsub p hp) b hb) _, fun p hp x hx => ?_, ?_⟩
  · rw [hr] at hx; cases hx; exact h.sep p (hsub p hp) b hb
  · refine h.dis.sublist ?_
    have h1 : (rs.drop (i + 1)).Sublist (rs.drop i) := by
      rw [← List.drop_drop]; exact List.drop_sublist _ _
    have := (List.Sublist.refl (rs.take i)).append h1
    rwa [List.take_append_drop] at this
theorem remove_ok (v : Value) (rs : List (Inf × Value)) (name : ByteArray) (H : Heap) (h : Fo H v rs) (hz : FoZ rs) (hw : FoW rs) (hs : name.size ≤ 140737488355328) :
    wpf (call K f_forest_Remove [v, .string name] H) (Ret H (removeS (infs rs) name)) := by
  have E1 := (Ext.refl H).add (rowBlk 1 [.string name])
  have E0 := E1.add (rowBlk 1 [.string name])
  obtain ⟨r, G, hc, hE, u, rfl, hu1, hu2⟩ := named_ok v _ rs name [] _ (h.ext E0) hz hw (strs1 name (H.add (rowBlk 1 [.string name]))) (by simpa using hs) (by simp)
  have hE0 := E0.trans hE
  simp only [next_add] at hc
  refine open_plain rfl fc_forest_Remove rfl (Nat.le_of_ble_eq_true rfl) ?_
  by_cases hn : namedE (infs rs) name [] = 0
  · obtain ⟨rs', hin, ho⟩ := hu2 hn
    obtain ⟨hpos, hidx, hmay, h6⟩ := named_pos hn
    have hll : rs'.length = (infs rs).length := by rw [← infs_length rs', hin]
    rw [hn] at hc
    simp only [if_pos] at hc
    have hcell : G.cell H.next 0 = some (.string name) := by
      rw [hE.cell (by simp; omega), cell_add_old (by simp), cell_add_new]; rfl
    have hlt : H.next < G.next := by have := hE.next; simp at this; omega
    have hk := kids_ok u rs' name H.next G ho.fo.rows ho.fo.one hcell hlt (by omega)
    have hkk : (rs'.any fun p => decide (p.1.parent = name)) = (infs rs).any fun x => decide (x.parent = name) := by rw [← hin, infs, List.any_map]; rfl
    rw [hkk] at hk
    obtain ⟨pu, cu, rfl⟩ := ho.fo.rows.slice
    generalize hpp : posN ((infs rs).map Inf.name) name = pos at *
    have hpr : pos < rs'.length := by omega
    cases hkb : (infs rs).any fun x => decide (x.parent = name) with
    | true =>
      have hsp : removeS (infs rs) name = ([], 1906) := by simp only [removeS, hn, hkb]; rfl
      rw [hkb] at hk
      rw [hsp]
      simp [hc, hk, capt]
      exact Ret.err hE0 (by decide)
    | false =>
      have hsp : removeS (infs rs) name = (cutAt (infs rs) pos, 0) := by simp only [removeS, hn, hkb, hpp]; rfl
      rw [hkb] at hk
      obtain ⟨r2, G2, hd, b, B', hb1, hb2, rfl, hro, ho2⟩ := delInfo_ok ho.out pos hpr (encP_one ho.fo.one) (by omega)
      have w1 : IntKind.i64.wrap ((pos : Int) + 1) = (pos : Int) + 1 := by rw [wrap_i64] <;> omega
      have hcut := ho.cut hb1 hb2 ho2
      obtain ⟨p2, c2, hr2⟩ := hcut.fo.rows.slice
      generalize (rs'.take pos ++ rs'.drop (pos + 1)).length = ln at hr2
      subst hr2
      rw [hsp]
      simp [hc, hk, capt, w1, hd]
      have hbl := (ho.out.below b hb1).1
      refine ⟨hE0.set (by simp at hbl; omega) _, _, rfl, fun h => absurd rfl h, fun _ => ⟨_, ?_, hcut.low (m := H.next) (by simp; omega)⟩⟩
      rw [infs_cut, hin]
  · have hsp : removeS (infs rs) name = ([], namedE (infs rs) name []) := by simp [removeS, hn]
    rw [hsp]
    rw [hu1 hn] at hc
    rw [if_neg hn] at hc
    simp [hc, hn]
    exact Ret.err hE0 hn
end Go.AM
