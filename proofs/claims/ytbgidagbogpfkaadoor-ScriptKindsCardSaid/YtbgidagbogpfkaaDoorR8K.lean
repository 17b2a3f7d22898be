import Derived.Test.YtbgidagbogpfkaaDoorR8J
/- script.Show, whole. -/
namespace Go.AM
open Go.Proofs
set_option linter.unusedVariables false
set_option linter.unusedSimpArgs false
set_option maxRecDepth 100000
attribute [-simp] ByteArray.size_eq_zero_iff Heap.store Heap.row
theorem words_app (g : Nat) (H : Heap) : appE 1 8 (.slice (some ⟨H.next, 0, none⟩) 5 11) (.slice (some ⟨H.next + 1, 0, none⟩) 1 3) ((H.add (rowBlk 1 (wordsR g))).add (rowBlk 1 [.pointer (some ⟨g, 7, none⟩)])) =
    some (.slice (some ⟨H.next + 2, 0, none⟩) 6 12, ((H.add (rowBlk 1 (wordsR g))).add (rowBlk 1 [.pointer (some ⟨g, 7, none⟩)])).add (rowBlk 1 (wordsR g ++ [.pointer (some ⟨g, 7, none⟩)]))) := by
  have h1 : ((H.add (rowBlk 1 (wordsR g))).add (rowBlk 1 [.pointer (some ⟨g, 7, none⟩)])).row (H.next + 1) 0 (1 * 1) = some [.pointer (some ⟨g, 7, none⟩)] := by
    refine row_of _ 0 rfl fun j hj => ?_
    rw [Nat.zero_add, show H.next + 1 = (H.add (rowBlk 1 (wordsR g))).next from rfl, cell_add_new]; rfl
  have h2 : ((H.add (rowBlk 1 (wordsR g))).add (rowBlk 1 [.pointer (some ⟨g, 7, none⟩)])).row H.next 0 (5 * 1) = some (wordsR g) := by
    refine row_of _ 0 rfl fun j hj => ?_
    rw [Nat.zero_add, cell_add_old (by simp), cell_add_new]; rfl
  rw [appE_slice, elems_at, h1, appO_some, appV_odd (xs := wordsR g) (by omega) (by omega) (by omega) (by omega) (by omega) rfl h2]
  rfl
theorem show_ok (v : Value) (xs : List Ac) (H : Heap) (hr : Rows encA 10 H v xs) : call K f_script_Show [v] H = some (showV xs, H) := by
  refine of_wpf (open_pure rfl fc_script_Show rfl (Nat.le_of_ble_eq_true rfl) ?_)
  have hr := hr.roAll
  generalize H.roAll = G0 at *
  obtain ⟨p, c, rfl⟩ := hr.slice
  by_cases hn : xs.length ≤ 256
  rotate_left
  · have hn2 : (256 : Int) < (xs.length : Int) := by omega
    simp [hn2, showV_bad (xs := xs) (fun h => hn h.1)]
  have hn2 : ¬ (256 : Int) < (xs.length : Int) := by omega
  have hB0 := Bu.new G0
  have hE0 : Ext G0 (G0.add { rowBlk 2 [.pointer none, .slice none 0 0] with ty := some (46, true) }) := (Ext.refl G0).add _
  simp [hn2]
  simp only [rowBlk] at hB0 hE0 ⊢
  generalize hGb : G0.add _ = Gb at *
  refine wp_nxt (wp_for (fun d e G => ∃ (i : Nat) (x : Value), d = xs.length - i ∧ i ≤ xs.length ∧ Ext G0 G ∧ Bu G G0.next (showL (xs.take i)) x ∧ e 4 = .pointer (some ⟨G0.next, 0, none⟩) ∧ e 14 = .slice p xs.length c ∧ e 15 = .int .i64 (xs.length : Int) ∧ e 16 = .int .i64 (i : Int) ∧ (xs.take i).all mayB = true) xs.length ⟨0, .slice none 0 0, by simp, by simp, hE0, by simpa [showL] using hB0, by simp, by simp, by simp, by simp, by simp⟩ ?_)
  rintro d e G ⟨i, x, rfl, hi, hE, hB, e4, e14, e15, e16, hall⟩
  by_cases hlt : i < xs.length
  · have w1 := wrap_succ (i := i) (by omega)
    obtain ⟨b, o, rfl, hb, hrow⟩ := rows_act (hr.ext hE) hlt
    have hat := all_take (f := mayB) hlt
    have hlen := showL_len (xs.take i) fun a ha => MayP.of (List.all_eq_true.1 hall a ha)
    have htf : showL (xs.take (i + 1)) = showL (xs.take i) ++ oneL xs[i] := take_flat oneL hlt
    have hbad : mayB xs[i] = false → ¬ (xs.length ≤ 256 ∧ xs.all mayB = true) := fun h1 h2 => by
      have := List.all_eq_true.1 h2.2 xs[i] (List.getElem_mem _)
      rw [h1] at this; cases this
    rw [List.length_take, Nat.min_eq_left hi] at hlen
    generalize xs[i] = a at *
    obtain ⟨X, x1, E1, v1, n1⟩ := new_act G a
    simp only [zA_enc] at x1
    have hrowX := v1.isA.row
    have hact := fun G => may_ok a G
    have hilt : (i : Int) < (xs.length : Int) := by omega
    cases hmay : mayB a
    · simp [c_script_Show_l22, e4, e14, e15, e16, hilt, hlt, hrow, x1, hrowX, hact, hmay, encA_len, showV_bad (hbad hmay)]
    · have hm := MayP.of hmay
      have w2 : IntKind.i64.wrap (a.torn + 1) = a.torn + 1 := by have := hm.torn; exact wrap_i64 (by omega) (by omega)
      have hg1 : G.next ≠ G0.next := by have := hB.lt; omega
      simp [c_script_Show_l22, e4, e14, e15, e16, hilt, hlt, hrow, x1, hrowX, hact, hmay, encA_len, v1.isA.c0, v1.isA.c6, v1.isA.c9, v1.isA.c8, w2]
      have hnb : ∀ j, j < 4 → (X.add (rowBlk 1 [.int .i64 a.kind, .int .i64 a.cut, .int .i64 a.at_, .int .i64 (a.torn + 1)])).cell X.next j = some (.int .i64 (((numsA a).getD j 0 : Nat) : Int)) := fun j hj => by
        rw [numsA_cast hm, cell_add_new]
        match j, hj with
        | 0, _ => rfl
        | 1, _ => rfl
        | 2, _ => rfl
        | 3, _ => rfl
      have v2 : VarA (X.add (rowBlk 1 [.int .i64 a.kind, .int .i64 a.cut, .int .i64 a.at_, .int .i64 (a.torn + 1)])) G.next a := v1.other (blk_add_old (by omega))
      have E2 : Ext G (X.add (rowBlk 1 [.int .i64 a.kind, .int .i64 a.cut, .int .i64 a.at_, .int .i64 (a.torn + 1)])) := E1.add _
      have ny : (X.add (rowBlk 1 [.int .i64 a.kind, .int .i64 a.cut, .int .i64 a.at_, .int .i64 (a.torn + 1)])).next = G.next + 2 := by rw [next_add, n1]
      refine wp_nxt (wp_unblock (wp_nxt ((show_nums (a := a) (s0 := showL (xs.take i)) (b := X.next) (nb := G0.next) (x := x) hm (hB.ext E2) (by omega) (by simpa using e4) (by simp) (by simp) (by simp) hnb (by omega) (by have := hB.lt; omega) (hB.notNew (by omega))).mono ?_)))
      generalize X.add (rowBlk 1 [.int .i64 a.kind, .int .i64 a.cut, .int .i64 a.at_, .int .i64 (a.torn + 1)]) = Y at *
      rintro y e1 G1 ⟨rfl, x1', hB1, hF1, f0, f4, f6, f14, f15, f16⟩
      simp at f0 f4 f6 f14 f15 f16
      have hgo := hF1.old G.next (by omega) hg1 (hB.notNew (Nat.le_refl _))
      have hF0 : Fr G0.next G x G1 x1' := (Fr.ext E2).trans hF1
      have v3 : VarA G1 G.next a := v2.other hgo.1
      have hw := words_ok G.next G1
      have hn1 := hF1.next
      have happ := words_app G.next G1
      have n2 : ((((G1.add (rowBlk 1 (wordsR G.next))).add (rowBlk 1 [.pointer (some ⟨G.next, 7, none⟩)])).add (rowBlk 1 (wordsR G.next ++ [.pointer (some ⟨G.next, 7, none⟩)])))).next = G1.next + 3 := rfl
      have E3 : Ext G1 (((G1.add (rowBlk 1 (wordsR G.next))).add (rowBlk 1 [.pointer (some ⟨G.next, 7, none⟩)])).add (rowBlk 1 (wordsR G.next ++ [.pointer (some ⟨G.next, 7, none⟩)]))) := (((Ext.refl G1).add _).add _).add _
      have hcell : ∀ j, j < 6 → (((G1.add (rowBlk 1 (wordsR G.next))).add (rowBlk 1 [.pointer (some ⟨G.next, 7, none⟩)])).add (rowBlk 1 (wordsR G.next ++ [.pointer (some ⟨G.next, 7, none⟩)]))).cell (G1.next + 2) j = (wordsR G.next ++ [.pointer (some ⟨G.next, 7, none⟩)])[j]? := fun j hj => by
        rw [show G1.next + 2 = ((G1.add (rowBlk 1 (wordsR G.next))).add (rowBlk 1 [.pointer (some ⟨G.next, 7, none⟩)])).next from rfl, cell_add_new]; rfl
      simp [f6, hw, happ]
      generalize ((G1.add (rowBlk 1 (wordsR G.next))).add (rowBlk 1 [.pointer (some ⟨G.next, 7, none⟩)])).add (rowBlk 1 (wordsR G.next ++ [.pointer (some ⟨G.next, 7, none⟩)])) = G4 at *
      have v4 : VarA G4 G.next a := v3.other (E3.blk _ (by omega))
      have I := v4.isA
      have hnl : ((numsA a).flatMap numL).length ≤ 4 * 5 := flat_bound numL 5 (numsA a) fun n hn => numL_len (hm.nums hn)
      have hbp : ∀ j, j < 6 → ∃ k, G4.cell (G1.next + 2) j = some (.pointer (some ⟨G.next, k, none⟩)) ∧ G4.cell G.next k = some (.string ((textsA a).getD j ⟨#[]⟩)) := fun j hj => by
        match j, hj with
        | 0, h => exact ⟨1, hcell 0 h, I.c1⟩
        | 1, h => exact ⟨2, hcell 1 h, I.c2⟩
        | 2, h => exact ⟨3, hcell 2 h, I.c3⟩
        | 3, h => exact ⟨4, hcell 3 h, I.c4⟩
        | 4, h => exact ⟨5, hcell 4 h, I.c5⟩
        | 5, h => exact ⟨7, hcell 5 h, I.c7⟩
      have hlt1 := hB1.lt
      have hB4 := hB1.ext E3
      refine (show_texts (a := a) (s0 := showL (xs.take i) ++ (numsA a).flatMap numL) (b := G1.next + 2) (nb := G0.next) (g := G.next) (x := x1') hm hB4 (by rw [List.length_append]; omega) (by simp [f4]; exact e4) (by simp) (by simp) (by simp) hbp (by omega) (by omega) (hB1.notNew (by omega)) (by omega) hg1 hgo.2).mono ?_
      rintro y e2 G2 ⟨rfl, x2, hB2, hF2, k0, k4, k6, k14, k15, k16⟩
      simp [f0, f4, f6, f14, f15, f16] at k0 k4 k6 k14 k15 k16
      simp [k4, k14, k15, k16, e4, e14, e15, e16]
      have hF : Fr G0.next G x G2 x2 := (hF0.trans (Fr.ext E3)).trans hF2
      refine ⟨xs.length - (i + 1), by omega, i + 1, rfl, by omega, ⟨by have := hE.next; have := hF.next; omega, fun k hk => ?_⟩, ⟨x2, ?_⟩, w1, ?_⟩
      · rw [(hF.old k (by have := hE.next; omega) (by omega) (hB.notIn (by omega))).1]; exact hE.blk k hk
      · rw [htf]
        have : showL (xs.take i) ++ oneL a = showL (xs.take i) ++ (numsA a).flatMap numL ++ (textsA a).flatMap textL := by rw [List.append_assoc]; rfl
        rw [this]; exact hB2
      · rw [← List.all_eq_true, hat, hall, hmay]; rfl
  · obtain rfl : i = xs.length := by omega
    rw [List.take_length] at hB hall
    have hlen := showL_len xs fun a ha => MayP.of (List.all_eq_true.1 hall a ha)
    obtain ⟨H', hs⟩ := hB.string (by omega)
    simp [c_script_Show_l22, e4, e14, e15, e16, hs, showV_good hn hall]
end Go.AM
