/- The law LogForms: true. -/
import Derived.Test.YteamlnogjjgdoaaR3LogStops
namespace Go.AM
open Go.Proofs
set_option linter.unusedVariables false
set_option linter.unusedSimpArgs false
set_option maxRecDepth 100000
attribute [-simp] ByteArray.size_eq_zero_iff
/-- A row of two cells' elements in a block of its own. -/
theorem rows_blk {α : Type} {enc : α → List Value} {sz : Nat} {H : Heap} (xs : List α) (hl : xs.length ≤ 1000) (he : ∀ x, (enc x).length = sz) (b n c : Nat) (hn : n = xs.length) (hc : n ≤ c / 2) (hb : b < H.next) (h : ∀ j, j < n * sz → H.cell b j = (xs.flatMap enc)[j]?) : Rows enc sz H (.slice (some ⟨b, 0, none⟩) n c) xs := by
  subst hn
  refine ⟨by omega, _, _, rfl, .inr ⟨b, 0, rfl, hb, hc, fun i hi j hj => ?_⟩⟩
  have hlt : i * sz + j < xs.length * sz := by
    have : (i + 1) * sz ≤ xs.length * sz := Nat.mul_le_mul_right _ hi
    rw [Nat.succ_mul] at this; omega
  rw [Nat.zero_add, h _ hlt, flat_get he xs i hi j hj]
def Bad (xs : List Img) : Prop := imOk (-1) xs = false
theorem bad_no {xs : List Img} (h : Bad xs) (s : Int) : ¬ MkOk xs s := fun hk => by unfold Bad at h; rw [hk.1] at h; cases h
theorem make_bad {v : Value} {xs : List Img} {s : Int} {H : Heap} (h : Imgs H v xs) (hn : ¬ MkOk xs s) : ∃ v' G, call K f_log_Make [v, .int .i64 s] H = some (.tuple #[v', .int .i64 400], G) ∧ Ext H G ∧ lenO v' = some (.int .i64 0) := by
  obtain ⟨_, G, c1, E1, v1, rfl, o1⟩ := make_ok v xs s H h
  rw [mkErr, if_neg hn] at c1
  have l1 := o1.len
  rw [mkRecs, if_neg hn] at l1
  exact ⟨v1, G, c1, E1, l1⟩
theorem scan_bad0 {v : Value} {rs : List ByteArray} {s : Int} {H : Heap} (h : Strs H v rs) (hn : ¬ scOk rs s) : ∃ v' a b G, call K f_log_Scan [v, .int .i64 s] H = some (.tuple #[v', a, b, .int .i64 400], G) ∧ Ext H G := by
  obtain ⟨_, G, c1, E1, v1, rfl, o1⟩ := scan_ok v rs s H h
  rw [scErr, if_neg hn] at c1
  exact ⟨v1, _, _, G, c1, E1⟩
theorem logForms_ok (which x : Int) (H : Heap) : call K f_law4_LogForms [.int .i64 which, .int .i64 x] H = some (.bool true, H) := by
  refine of_wpf (open_pure rfl fc_law4_LogForms rfl (Nat.le_of_ble_eq_true rfl) ?_)
  obtain ⟨d, hd, d1, d2⟩ : ∃ d : Nat, IntKind.i64.wrap (1 + bits .and .i64 x 1023) = (d : Int) ∧ 1 ≤ d ∧ d ≤ 1024 := by
    rw [and1023, wrap_i64 (by omega) (by omega)]; exact ⟨(1 + x % 1024).toNat, by omega, by omega, by omega⟩
  have w1 : IntKind.i64.wrap (-(d : Int)) = -(d : Int) := wrap_i64 (by omega) (by omega)
  have w2 : IntKind.i64.wrap (47 + (d : Int)) = 47 + (d : Int) := wrap_i64 (by omega) (by omega)
  obtain ⟨z, hz⟩ : ∃ z : Nat, z = 96 + d := ⟨_, rfl⟩
  have w3 : IntKind.i64.wrap (96 + (d : Int)) = (z : Int) := by rw [wrap_i64 (by omega) (by omega)]; omega
  have w4 : IntKind.i64.wrap (2147483647 + (d : Int)) = 2147483647 + (d : Int) := wrap_i64 (by omega) (by omega)
  obtain ⟨y, hy⟩ : ∃ y : Nat, y = 200 + d := ⟨_, rfl⟩
  have w5 : IntKind.i64.wrap (200 + (d : Int)) = (y : Int) := by rw [wrap_i64 (by omega) (by omega)]; omega
  have z1 : z ≤ 70368744177664 := by omega
  have y1 : 16 * y ≤ 70368744177664 := by omega
  have y2 : y ≤ 70368744177664 := by omega
  obtain ⟨k, hk, hrem⟩ := umod which 6 (by omega) (by omega)
  simp at hrem
  have wr : IntKind.i64.wrap (k : Int) = k := wrap_i64 (by omega) (by omega)
  obtain ⟨H4, hH4⟩ : ∃ H4, H4 = (((H.roAll.add (rowBlk 2 [.int .i64 (-(d : Int)), .string ⟨#[]⟩])).add (rowBlk 2 [.int .i64 (47 + (d : Int)), .string ⟨#[]⟩])).add (rowBlk 2 [.int .i64 3, .string ⟨#[]⟩, .int .i64 3, .string ⟨#[]⟩])).add (rowBlk 2 [.int .i64 3, .string ⟨#[]⟩, .int .i64 2, .string ⟨#[]⟩]) := ⟨_, rfl⟩
  have n4 : H4.next = H.next + 1 + 1 + 1 + 1 := by subst hH4; simp
  have rz := row_fill1 H4 (H.next + 1 + 1 + 1 + 1) z z (.int .u8 0) n4.symm (Nat.le_refl _)
  obtain ⟨H8, hH8⟩ : ∃ H8, H8 = (((H4.add (fillB 1 z [.int .u8 0])).add (rowBlk 2 [.int .i64 0, .string (zer z)])).add (fillB 2 49 [.int .i64 0, .string ⟨#[]⟩])).add (rowBlk 1 [.slice (some ⟨H.next, 0, none⟩) 1 3, .slice (some ⟨H.next + 1, 0, none⟩) 1 3, .slice (some ⟨H.next + 1 + 1, 0, none⟩) 2 5, .slice (some ⟨H.next + 1 + 1 + 1, 0, none⟩) 2 5, .slice (some ⟨H.next + 1 + 1 + 1 + 1 + 1, 0, none⟩) 1 3, .slice (some ⟨H.next + 1 + 1 + 1 + 1 + 1 + 1, 0, none⟩) 49 99]) := ⟨_, rfl⟩
  have n8 : H8.next = H.next + 8 := by subst hH8; simp [n4]
  have x2 : ¬ H.next = H.next + 1 + 1 := by omega
  have x3 : ¬ H.next = H.next + 1 + 1 + 1 := by omega
  have hbad : ∃ u L, H8.cell (H.next + 1 + 1 + 1 + 1 + 1 + 1 + 1) k = some u ∧ Imgs H8 u L ∧ Bad L := by
    have hc : ∀ b o, b < H.next + 4 → H8.cell b o = H4.cell b o := fun b o hb => by
      subst hH8
      simp only [cell_add, next_add, n4]
      rw [if_neg (by omega), if_neg (by omega), if_neg (by omega), if_neg (by omega)]
    match k, hk with
    | 0, _ =>
      refine ⟨.slice (some ⟨H.next, 0, none⟩) 1 3, [(-(d : Int), ⟨#[]⟩)], by subst hH8; simp [n4], rows_blk _ (by simp) encI_len _ _ _ rfl (by omega) (by omega) fun j hj => ?_, ?_⟩
      · rw [hc _ _ (by omega)]; subst hH4
        match j, hj with
        | 0, _ => simp [x2, x3]
        | 1, _ => simp [x2, x3]
      · unfold Bad; simp [imOk]; omega
    | 1, _ =>
      refine ⟨.slice (some ⟨H.next + 1, 0, none⟩) 1 3, [(47 + (d : Int), ⟨#[]⟩)], by subst hH8; simp [n4], rows_blk _ (by simp) encI_len _ _ _ rfl (by omega) (by omega) fun j hj => ?_, ?_⟩
      · rw [hc _ _ (by omega)]; subst hH4
        match j, hj with
        | 0, _ => simp [x2, x3]
        | 1, _ => simp [x2, x3]
      · unfold Bad; simp [imOk]; omega
    | 2, _ =>
      refine ⟨.slice (some ⟨H.next + 1 + 1, 0, none⟩) 2 5, [(3, ⟨#[]⟩), (3, ⟨#[]⟩)], by subst hH8; simp [n4], rows_blk _ (by simp) encI_len _ _ _ rfl (by omega) (by omega) fun j hj => ?_, ?_⟩
      · rw [hc _ _ (by omega)]; subst hH4
        match j, hj with
        | 0, _ => simp [x2, x3]
        | 1, _ => simp [x2, x3]
        | 2, _ => simp
        | 3, _ => simp
      · unfold Bad; simp [imOk]
    | 3, _ =>
      refine ⟨.slice (some ⟨H.next + 1 + 1 + 1, 0, none⟩) 2 5, [(3, ⟨#[]⟩), (2, ⟨#[]⟩)], by subst hH8; simp [n4], rows_blk _ (by simp) encI_len _ _ _ rfl (by omega) (by omega) fun j hj => ?_, ?_⟩
      · rw [hc _ _ (by omega)]; subst hH4
        match j, hj with
        | 0, _ => simp [x2, x3]
        | 1, _ => simp [x2, x3]
        | 2, _ => simp
        | 3, _ => simp
      · unfold Bad; simp [imOk]
    | 4, _ =>
      refine ⟨.slice (some ⟨H.next + 1 + 1 + 1 + 1 + 1, 0, none⟩) 1 3, [(0, zer z)], by subst hH8; simp [n4], rows_blk _ (by simp) encI_len _ _ _ rfl (by omega) (by omega) fun j hj => ?_, ?_⟩
      · subst hH8
        match j, hj with
        | 0, _ => simp [n4]
        | 1, _ => simp [n4]
      · unfold Bad; simp [imOk, zer_size]; omega
    | 5, _ =>
      refine ⟨.slice (some ⟨H.next + 1 + 1 + 1 + 1 + 1 + 1, 0, none⟩) 49 99, List.replicate 49 (0, ⟨#[]⟩), by subst hH8; simp [n4], rows_blk _ (by simp) encI_len _ _ _ (by simp) (by omega) (by omega) fun j hj => ?_, ?_⟩
      · have hf : (fillB 2 49 [.int .i64 0, .string ⟨#[]⟩]).at_ j = ((List.replicate 49 ((0, ⟨#[]⟩) : Img)).flatMap encI)[j]? := by
          have h1 := flat_get encI_len (List.replicate 49 ((0, ⟨#[]⟩) : Img)) (j / 2) (by simp; omega) (j % 2) (by omega)
          rw [show j / 2 * 2 + j % 2 = j by omega] at h1
          simp only [List.getElem_replicate] at h1
          rw [h1, at_fillB, if_pos (by omega)]
        rw [← hf]; subst hH8; simp [n4]
      · exact rfl
  obtain ⟨u, L, hu, hI, hB⟩ := hbad
  obtain ⟨v1, G1, c1, E1, l1⟩ := make_bad hI (bad_no hB 1)
  obtain ⟨v2, G2, c2, E2, l2⟩ := make_bad (s := -(d : Int)) (H := G1) (Rows.nil (α := Img)) (fun h => by have := h.2.1; omega)
  obtain ⟨v3, G3, c3, E3, l3⟩ := make_bad (s := 2147483647 + (d : Int)) (H := G2) (Rows.nil (α := Img)) (fun h => by have := h.2.1; omega)
  obtain ⟨v4, G4, c4, E4, l4⟩ := make_bad (v := .slice (some ⟨G3.next, 0, none⟩) 1 3) (xs := [(1, ⟨#[]⟩)]) (s := 2147483644) (H := G3.add (rowBlk 2 [.int .i64 1, .string ⟨#[]⟩])) (rows_blk _ (by simp) encI_len _ _ _ rfl (by omega) (by simp) fun j hj => by
    match j, hj with
    | 0, _ => simp
    | 1, _ => simp) (fun h => by have := h.2.2; simp at this)
  obtain ⟨v5, a5, b5, G5, c5, E5⟩ := scan_bad0 (s := -(d : Int)) (H := G4) (Rows.nil (α := ByteArray) (enc := encS)) (fun h => by have := h.1; omega)
  obtain ⟨v6, a6, b6, G6, c6, E6⟩ := scan_bad0 (v := .slice (some ⟨G5.next, 0, none⟩) y (2 * y + 1)) (rs := List.replicate y ⟨#[]⟩) (s := 1) (H := G5.add (fillB 1 y [.string ⟨#[]⟩])) ⟨by simp; omega, some ⟨G5.next, 0, none⟩, 2 * y + 1, by simp, .inr ⟨G5.next, 0, rfl, by simp, by simp; omega, fun i hi j hj => by
    simp at hi
    obtain rfl : j = 0 := by omega
    simp [hi, Nat.mod_one]⟩⟩ (fun h => by have := h.2; simp at this; omega)
  obtain ⟨_, G7, c7, E7, v7, rfl, o7⟩ := make_ok (.slice none 0 0) [] 5 G6 Rows.nil
  have k7 : MkOk [] 5 := by decide
  have m7 : mkErr [] 5 = 0 := by rw [mkErr, if_pos k7]
  have hS : call K f_law0_SameRecords [v7, .slice (some ⟨G7.next, 0, none⟩) 1 3] (G7.add (rowBlk 4 [.int .i64 5, .int .i64 0, .int .i64 4, .string ⟨#[]⟩])) = some (.bool true, G7.add (rowBlk 4 [.int .i64 5, .int .i64 0, .int .i64 4, .string ⟨#[]⟩])) := by
    have r7 : Recs (G7.add (rowBlk 4 [.int .i64 5, .int .i64 0, .int .i64 4, .string ⟨#[]⟩])) (.slice (some ⟨G7.next, 0, none⟩) 1 3) [(5, 0, 4, ⟨#[]⟩)] := rows_blk _ (by simp) encR_len _ _ _ rfl (by omega) (by simp) fun j hj => by
      match j, hj with
      | 0, _ => simp
      | 1, _ => simp
      | 2, _ => simp
      | 3, _ => simp
    rw [sameRecords_ok v7 _ (mkRecs [] 5) [(5, 0, 4, ⟨#[]⟩)] _ ((o7.rows encR_len).ext ((Ext.refl _).add _)) r7]
    rw [decide_eq_true (by rw [mkRecs, if_pos k7]; simp [recsAll])]
  simp [awake_ok, hd, w1, w2, w3, w4, w5, z1, y1, y2, ← hH4, n4, rz, nums_rep, str_zero, natOf_int, ← hH8, hrem, wr, hk, hu, c1, l1, c2, c3, c4, c5, c6, c7, m7, hS]
end Go.AM
