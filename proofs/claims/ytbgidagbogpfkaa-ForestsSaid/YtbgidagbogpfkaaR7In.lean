import Derived.Test.YtbgidagbogpfkaaR7K1
/- slices.Insert: what the machine answers where the capacity is known. -/
namespace Go.AM
open Go.Proofs
set_option linter.unusedVariables false
set_option linter.unusedSimpArgs false
set_option maxRecDepth 100000
attribute [-simp] ByteArray.size_eq_zero_iff
/-! ### slices.Insert of one element: Info -/
section
variable {H : Heap} {b b2 n c i c2 : Nat} {B B2 : Blk} {xs ys : List Value}
theorem insInfo_slv (hz : H.eszIs b 5 = true) (l h n c : Nat) (h1 : l ≤ h) (h2 : h ≤ c / 2) : slvV H 5 (.slice (some ⟨b, 0, none⟩) n c) (some (.int .i64 (l : Int))) (some (.int .i64 (h : Int))) none = some (.slice (some ⟨b, l * 5, none⟩) (h - l) (2 * (c / 2 - l) + c % 2)) := by
  simp [slvV, bound, h1, h2, hz]
theorem insInfo_end_room (hB : H.blk b = some B) (hro : B.ro = false) (he : B.esz = 5) (hrm : B.room = some (c * 5)) (hx : H.row b 0 (n * 5) = some xs) (hy : H.row b2 0 5 = some ys) (h1 : ys.all Value.oneCell' = true) (hn : n + 1 ≤ c) (hb : (n + 1) * 80 ≤ 2 ^ 46) :
    call K1 f_slices_Insert_Info [.slice (some ⟨b, 0, none⟩) n (2 * c + 1), .int .i64 (n : Int), .slice (some ⟨b2, 0, none⟩) 1 c2] H = some (.slice (some ⟨b, 0, none⟩) (n + 1) (2 * c + 1), H.set b (some (B.puts (n * 5) ys))) := by
  refine of_wpf (open_plain rfl fc_slices_Insert_Info rfl (Nat.le_of_ble_eq_true rfl) ?_)
  have hz : H.eszIs b 5 = true := by simp [Heap.eszIs, hB, he]
  have hyl : ys.length = 5 := (row_cell hy).1
  have hc2 : (2 * c + 1) / 2 = c := by omega
  have hst := storeR_room (vs := ys) (o := n * 5) hB hro hrm (by rw [hyl]; omega) h1
  have ha : appV H 5 80 1 (.slice (some ⟨b, 0, none⟩) n (2 * c + 1)) ys = some (.slice (some ⟨b, 0, none⟩) (n + 1) (2 * c + 1), H.set b (some (B.puts (n * 5) ys))) :=
    appV_room (by omega) (by omega) (by rw [Nat.zero_add]; exact hst)
  have hs1 : slvV H 5 (.slice (some ⟨b, 0, none⟩) n (2 * c + 1)) (some (.int .i64 (n : Int))) none none = some (.slice (some ⟨b, n * 5, none⟩) 0 (2 * (c - n) + 1)) := by
    simp [slvV, bound, hc2, hz]; omega
  simp [-Heap.row, hs1, hy, ha]
theorem insInfo_end_grow (hB : H.blk b = some B) (he : B.esz = 5) (hx : H.row b 0 (n * 5) = some xs) (hy : H.row b2 0 5 = some ys) (h1 : ys.all Value.oneCell' = true) (hnc : n ≤ c) (hn : c < n + 1) (hb : (n + 1) * 80 ≤ 2 ^ 46) :
    call K1 f_slices_Insert_Info [.slice (some ⟨b, 0, none⟩) n (2 * c + 1), .int .i64 (n : Int), .slice (some ⟨b2, 0, none⟩) 1 c2] H = some (.slice (some ⟨H.next, 0, none⟩) (n + 1) (2 * (n + 1)), H.add (rowBlk 5 (xs ++ ys))) := by
  refine of_wpf (open_plain rfl fc_slices_Insert_Info rfl (Nat.le_of_ble_eq_true rfl) ?_)
  have hz : H.eszIs b 5 = true := by simp [Heap.eszIs, hB, he]
  have hc2 : (2 * c + 1) / 2 = c := by omega
  have ha : appV H 5 80 1 (.slice (some ⟨b, 0, none⟩) n (2 * c + 1)) ys = some (.slice (some ⟨H.next, 0, none⟩) (n + 1) (2 * (n + 1)), H.add (rowBlk 5 (xs ++ ys))) :=
    appV_odd (by omega) (by omega) (by omega) (by omega) (by omega) h1 hx
  have hs1 : slvV H 5 (.slice (some ⟨b, 0, none⟩) n (2 * c + 1)) (some (.int .i64 (n : Int))) none none = some (.slice (some ⟨b, n * 5, none⟩) 0 (2 * (c - n) + 1)) := by
    simp [slvV, bound, hc2, hz]; omega
  simp [-Heap.row, hs1, hy, ha]
theorem insInfo_mid_grow (hB : H.blk b = some B) (he : B.esz = 5) (hx : H.row b 0 (n * 5) = some xs) (hx1 : xs.all Value.oneCell' = true) (hy : H.row b2 0 5 = some ys) (h1 : ys.all Value.oneCell' = true) (hbn : b < H.next) (hb2 : b2 < H.next) (hi : i < n) (hnc : n ≤ c) (hn : c < n + 1) (hb : (n + 1) * 80 ≤ 2 ^ 46) :
    call K1 f_slices_Insert_Info [.slice (some ⟨b, 0, none⟩) n (2 * c + 1), .int .i64 (i : Int), .slice (some ⟨b2, 0, none⟩) 1 c2] H =
      some (.slice (some ⟨H.next, 0, none⟩) (n + 1) (2 * (n + 1)), H.add (((rowBlk 5 (xs.take (i * 5) ++ rep [(.string ⟨#[]⟩), (.int .i64 0), (.string ⟨#[]⟩), (.string ⟨#[]⟩), (.slice none 0 0)] (n + 1 - i))).puts (i * 5) ys).puts ((i + 1) * 5) (xs.drop (i * 5)))) := by
  have hz : H.eszIs b 5 = true := by simp [Heap.eszIs, hB, he]
  have hcn : c = n := by omega
  subst hcn
  have hc2 : (2 * c + 1) / 2 = c := by omega
  have hxl := (row_cell hx).1
  have hyl : ys.length = 5 := (row_cell hy).1
  have hne : ¬ i = c := by omega
  have hw1 : IntKind.i64.wrap ((c : Int) + 1) = (c : Int) + 1 := by rw [wrap_i64] <;> omega
  have hw2 : IntKind.i64.wrap ((c : Int) + 1 - (i : Int)) = ((c + 1 - i : Nat) : Int) := by rw [wrap_i64] <;> omega
  have hlt : (c : Int) < (c : Int) + 1 := by omega
  have hw3 : IntKind.i64.wrap ((i : Int) + 1) = ((i + 1 : Nat) : Int) := by rw [wrap_i64] <;> omega
  have hs1 : slvV H 5 (.slice (some ⟨b, 0, none⟩) c (2 * c + 1)) (some (.int .i64 (i : Int))) none none = some (.slice (some ⟨b, i * 5, none⟩) (c - i) (2 * (c - i) + 1)) := by
    simp [slvV, bound, hc2, hz]; omega
  have hs2 : slvV H 5 (.slice (some ⟨b, 0, none⟩) c (2 * c + 1)) none (some (.int .i64 (i : Int))) none = some (.slice (some ⟨b, 0, none⟩) i (2 * c + 1)) := by
    simp [slvV, bound, hc2]; omega
  have hk : (c + 1 - i) * 80 ≤ 70368744177664 ∧ c + 1 - i ≤ 70368744177664 := by omega
  have hsum : i + (c + 1 - i) = c + 1 := by omega
  have hz1 : (rep [(.string ⟨#[]⟩), (.int .i64 0), (.string ⟨#[]⟩), (.string ⟨#[]⟩), (.slice none 0 0)] (c + 1 - i)).all Value.oneCell' = true := by
    have : ∀ n, (rep [(.string ⟨#[]⟩), (.int .i64 0), (.string ⟨#[]⟩), (.string ⟨#[]⟩), (.slice none 0 0)] n).all Value.oneCell' = true := fun n => by
      induction n with
      | zero => rfl
      | succ n ih => rw [rep, List.all_append, ih]; rfl
    exact this _
  have ha : appV H 5 80 (c + 1 - i) (.slice (some ⟨b, 0, none⟩) i (2 * c + 1)) (rep [(.string ⟨#[]⟩), (.int .i64 0), (.string ⟨#[]⟩), (.string ⟨#[]⟩), (.slice none 0 0)] (c + 1 - i)) = some (.slice (some ⟨H.next, 0, none⟩) (c + 1) (2 * (c + 1)), H.add (rowBlk 5 (xs.take (i * 5) ++ rep [(.string ⟨#[]⟩), (.int .i64 0), (.string ⟨#[]⟩), (.string ⟨#[]⟩), (.slice none 0 0)] (c + 1 - i)))) := by
    have := appV_odd (H := H) (esz := 5) (bytes := 80) (k := c + 1 - i) (b := b) (o := 0) (n := i) (c := 2 * c + 1) (xs := xs.take (i * 5)) (ys := rep [(.string ⟨#[]⟩), (.int .i64 0), (.string ⟨#[]⟩), (.string ⟨#[]⟩), (.slice none 0 0)] (c + 1 - i)) (by omega) (by omega) (by omega) (by omega) (by omega) hz1 (by
      have := row_sub hx 0 (i * 5) (by omega); simpa [-Heap.row] using this)
    rw [hsum] at this; exact this
  generalize hR1 : rowBlk 5 (xs.take (i * 5) ++ rep [(.string ⟨#[]⟩), (.int .i64 0), (.string ⟨#[]⟩), (.string ⟨#[]⟩), (.slice none 0 0)] (c + 1 - i)) = R1 at ha ⊢
  have hR1e : R1.esz = 5 ∧ R1.ro = false ∧ ∀ j, j < (c + 1) * 5 → (R1.at_ j).isSome = true := by
    subst hR1
    refine ⟨rfl, rfl, fun j hj => ?_⟩
    have hrl := rep_len [(.string ⟨#[]⟩), (.int .i64 0), (.string ⟨#[]⟩), (.string ⟨#[]⟩), (.slice none 0 0)] (c + 1 - i)
    simp only [List.length_cons, List.length_nil] at hrl
    simp only [at_row]
    rw [List.getElem?_eq_getElem (by rw [List.length_append, List.length_take, hrl]; omega)]; rfl
  obtain ⟨r1, r2, r3⟩ := hR1e
  have hs3 : slvV (H.add R1) 5 (.slice (some ⟨H.next, 0, none⟩) (c + 1) (2 * (c + 1))) (some (.int .i64 (i : Int))) none none = some (.slice (some ⟨H.next, i * 5, none⟩) (c + 1 - i) (2 * (c + 1 - i))) := by
    simp [slvV, bound, Heap.eszIs, r1]; omega
  have hm1 : Nat.min 1 (c + 1 - i) = 1 := Nat.min_eq_left (by omega)
  have he1 : (H.add R1).row b2 0 5 = some ys := by rw [row_congr (fun o => cell_add_old hb2)]; exact hy
  have hst1 : (H.add R1).storeR H.next (i * 5) ys = some (H.add (R1.puts (i * 5) ys)) := by
    rw [storeR_row (blk_add_new H R1) r2 (row_some_of _ _ fun j hj => by rw [cell_add_new]; exact r3 _ (by omega)) h1, add_set_some rfl]
  generalize hR2 : R1.puts (i * 5) ys = R2 at hst1 ⊢
  have hR2e : R2.esz = 5 ∧ R2.ro = false ∧ ∀ j, j < (c + 1) * 5 → (R2.at_ j).isSome = true := by
    subst hR2
    refine ⟨(puts_esz _ _ _).1.trans r1, (puts_esz _ _ _).2.trans r2, fun j hj => ?_⟩
    rw [puts_at]
    split
    · rw [List.getElem?_eq_getElem (by omega)]; rfl
    · exact r3 j hj
  obtain ⟨q1, q2, q3⟩ := hR2e
  have hs4 : slvV (H.add R2) 5 (.slice (some ⟨H.next, 0, none⟩) (c + 1) (2 * (c + 1))) (some (.int .i64 ((i : Int) + 1))) none none = some (.slice (some ⟨H.next, (i + 1) * 5, none⟩) (c - i) (2 * (c - i))) := by
    have h7 : ((i : Int) + 1).toNat = i + 1 := by omega
    have h8 : 0 ≤ (i : Int) + 1 := by omega
    simp [slvV, bound, natOf_int, Heap.eszIs, q1, h7, h8]; omega
  have hs5 : slvV (H.add R2) 5 (.slice (some ⟨b, 0, none⟩) c (2 * c + 1)) (some (.int .i64 (i : Int))) none none = some (.slice (some ⟨b, i * 5, none⟩) (c - i) (2 * (c - i) + 1)) := by
    have : (H.add R2).eszIs b 5 = true := by simp only [Heap.eszIs, blk_add_old hbn]; exact hz
    simp [slvV, bound, hc2, this]; omega
  have hm2 : Nat.min (c - i) (c - i) = c - i := Nat.min_self _
  have he2 : (H.add R2).row b (i * 5) ((c - i) * 5) = some (xs.drop (i * 5)) := by
    rw [row_congr (fun o => cell_add_old hbn)]
    have := row_sub hx (i * 5) ((c - i) * 5) (by omega)
    rw [Nat.zero_add] at this
    rw [this, List.take_of_length_le (by rw [List.length_drop]; omega)]
  have hst2 : (H.add R2).storeR H.next ((i + 1) * 5) (xs.drop (i * 5)) = some (H.add (R2.puts ((i + 1) * 5) (xs.drop (i * 5)))) := by
    rw [storeR_row (blk_add_new H R2) q2 (row_some_of _ _ fun j hj => by rw [cell_add_new]; rw [List.length_drop] at hj; exact q3 _ (by omega)) (by
      rw [List.all_eq_true]; intro a ha; exact List.all_eq_true.1 hx1 a (List.mem_of_mem_drop ha)), add_set_some rfl]
  refine of_wpf (open_plain rfl fc_slices_Insert_Info rfl (Nat.le_of_ble_eq_true rfl) ?_)
  simp [-Heap.row, -Heap.store, step_copyV, hs1, hs2, hne, hw1, hw2, hw3, hlt, hc2, hk, ha, hs3, hm1, he1, hst1, hs4, hs5, hm2, he2, hst2]
theorem insInfo_mid_room (hB : H.blk b = some B) (hro : B.ro = false) (he : B.esz = 5) (hrm : B.room = some (c * 5)) (hx : H.row b 0 (n * 5) = some xs) (hx1 : xs.all Value.oneCell' = true) (hy : H.row b2 0 5 = some ys) (h1 : ys.all Value.oneCell' = true) (hbb : b2 ≠ b) (hr2 : rwB H b2 = true) (hi : i < n) (hn : n + 1 ≤ c) (hb : (n + 1) * 80 ≤ 2 ^ 46) :
    call K1 f_slices_Insert_Info [.slice (some ⟨b, 0, none⟩) n (2 * c + 1), .int .i64 (i : Int), .slice (some ⟨b2, 0, none⟩) 1 c2] H =
      some (.slice (some ⟨b, 0, none⟩) (n + 1) (2 * c + 1), H.set b (some ((B.puts ((i + 1) * 5) (xs.drop (i * 5))).puts (i * 5) ys))) := by
  have hz : H.eszIs b 5 = true := by simp [Heap.eszIs, hB, he]
  have hc2 : (2 * c + 1) / 2 = c := by omega
  have hxl := (row_cell hx).1
  have hyl : ys.length = 5 := (row_cell hy).1
  have hne : ¬ i = n := by omega
  have hlt : ¬ ((c : Int) < (n : Int) + 1) := by omega
  have hw1 : IntKind.i64.wrap ((n : Int) + 1) = (n : Int) + 1 := by rw [wrap_i64] <;> omega
  have hw3 : IntKind.i64.wrap ((i : Int) + 1) = (i : Int) + 1 := by rw [wrap_i64] <;> omega
  have h7 : ((i : Int) + 1).toNat = i + 1 := by omega
  have h8 : 0 ≤ (i : Int) + 1 := by omega
  have h9 : ((n : Int) + 1).toNat = n + 1 := by omega
  have h10 : 0 ≤ (n : Int) + 1 := by omega
  have hs1 : slvV H 5 (.slice (some ⟨b, 0, none⟩) n (2 * c + 1)) (some (.int .i64 (i : Int))) none none = some (.slice (some ⟨b, i * 5, none⟩) (n - i) (2 * (c - i) + 1)) := by
    simp [slvV, bound, hc2, hz]; omega
  have hs2 : slvV H 5 (.slice (some ⟨b, 0, none⟩) n (2 * c + 1)) none (some (.int .i64 ((n : Int) + 1))) none = some (.slice (some ⟨b, 0, none⟩) (n + 1) (2 * c + 1)) := by
    simp [slvV, bound, natOf_int, hc2, h9, h10]; omega
  have hs3 : ∀ B1 : Blk, B1.esz = 5 → slvV (H.set b (some B1)) 5 (.slice (some ⟨b, 0, none⟩) (n + 1) (2 * c + 1)) (some (.int .i64 (i : Int))) none none = some (.slice (some ⟨b, i * 5, none⟩) (n + 1 - i) (2 * (c - i) + 1)) := by
    intro B1 hB1
    have : (H.set b (some B1)).eszIs b 5 = true := by simp [Heap.eszIs, hB1]
    simp [slvV, bound, hc2, this]; omega
  have hs3' := hs3 B he
  rw [set_same hB] at hs3'
  have hs4 : slvV H 5 (.slice (some ⟨b, 0, none⟩) (n + 1) (2 * c + 1)) (some (.int .i64 ((i : Int) + 1))) none none = some (.slice (some ⟨b, (i + 1) * 5, none⟩) (n - i) (2 * (c - (i + 1)) + 1)) := by
    simp [slvV, bound, natOf_int, hc2, h7, h8, hz]; omega
  have hr1 : rwB H b = true := by
    have := (row_cell hx).2 0 (by omega)
    have h0 : (B.at_ 0).isSome = true := by
      simp only [Heap.cell, hB, Nat.zero_add] at this
      rw [this, List.getElem?_eq_getElem (by omega)]; rfl
    simp [rwB, hB, hro, he, h0]
  have hov : call K1 f_slices_overlaps_api_Info [.slice (some ⟨b2, 0, none⟩) 1 c2, .slice (some ⟨b, (i + 1) * 5, none⟩) (n - i) (2 * (c - (i + 1)) + 1)] H = some (.bool false, H) := by
    rw [call_eq]
    show overX [.slice (some ⟨b2, 0, none⟩) 1 c2, .slice (some ⟨b, (i + 1) * 5, none⟩) (n - i) (2 * (c - (i + 1)) + 1)] H = _
    simp [overX, hr1, hr2, hbb]
  have hm1 : Nat.min (n + 1 - i) (n - i) = n - i := Nat.min_eq_right (by omega)
  have he2 : H.row b (i * 5) ((n - i) * 5) = some (xs.drop (i * 5)) := by
    have := row_sub hx (i * 5) ((n - i) * 5) (by omega)
    rw [Nat.zero_add] at this
    rw [this, List.take_of_length_le (by rw [List.length_drop]; omega)]
  have hst1 : H.storeR b ((i + 1) * 5) (xs.drop (i * 5)) = some (H.set b (some (B.puts ((i + 1) * 5) (xs.drop (i * 5))))) :=
    storeR_room hB hro hrm (by rw [List.length_drop]; omega) (by rw [List.all_eq_true]; intro a ha; exact List.all_eq_true.1 hx1 a (List.mem_of_mem_drop ha))
  generalize hB1 : B.puts ((i + 1) * 5) (xs.drop (i * 5)) = B1 at hst1 ⊢
  have q1 : B1.esz = 5 := by subst hB1; exact (puts_esz _ _ _).1.trans he
  have q2 : B1.ro = false := by subst hB1; exact (puts_esz _ _ _).2.trans hro
  have q3 : B1.room = some (c * 5) := by subst hB1; exact (puts_room _ _ _).trans hrm
  have hs5 := hs3 B1 q1
  have hm2 : Nat.min 1 (n + 1 - i) = 1 := Nat.min_eq_left (by omega)
  have he3 : (H.set b (some B1)).row b2 0 5 = some ys := by rw [row_congr (fun o => cell_set_ne hbb)]; exact hy
  have hst2 : (H.set b (some B1)).storeR b (i * 5) ys = some (H.set b (some (B1.puts (i * 5) ys))) := by
    rw [storeR_room (blk_set_self _ _ _) q2 q3 (by omega) h1, set_set]
  refine of_wpf (open_plain rfl fc_slices_Insert_Info rfl (Nat.le_of_ble_eq_true rfl) ?_)
  simp [-Heap.row, -Heap.store, step_copyV, hs1, hs2, hne, hw1, hw3, hlt, hs4, hov, hs3', hm1, he2, hst1, hs5, hm2, he3, hst2]
theorem insInfo_zero (p : Option Addr) (hp : (p = none ∧ c = 0) ∨ ∃ b o, p = some ⟨b, o, none⟩) {r : Value × Heap} (hy : H.row b2 0 5 = some ys) (h : appV H 5 80 1 (.slice p 0 c) ys = some r) :
    call K1 f_slices_Insert_Info [.slice p 0 c, .int .i64 0, .slice (some ⟨b2, 0, none⟩) 1 c2] H = some r := by
  refine of_wpf (v := r.1) (H := r.2) (open_plain rfl fc_slices_Insert_Info rfl (Nat.le_of_ble_eq_true rfl) ?_)
  have h' : appV H 5 80 1 (.slice p 0 c) ys = some (r.1, r.2) := h
  rcases hp with ⟨rfl, rfl⟩ | ⟨b, o, rfl⟩
  · have hs1 : slvV H 5 (.slice none 0 0) (some (.int .i64 0)) none none = some (.slice none 0 0) := by simp [slvV, bound]
    simp [-Heap.row, hs1, hy, h']
  · have hs1 : slvV H 5 (.slice (some ⟨b, o, none⟩) 0 c) (some (.int .i64 0)) none none = some (.slice (some ⟨b, o, none⟩) 0 (2 * (c / 2) + c % 2)) := by simp [slvV, bound]
    simp [-Heap.row, hs1, hy, h']
end
/-! ### slices.Insert of one element: File -/
section
variable {H : Heap} {b b2 n c i c2 : Nat} {B B2 : Blk} {xs ys : List Value}
theorem insFile_slv (hz : H.eszIs b 3 = true) (l h n c : Nat) (h1 : l ≤ h) (h2 : h ≤ c / 2) : slvV H 3 (.slice (some ⟨b, 0, none⟩) n c) (some (.int .i64 (l : Int))) (some (.int .i64 (h : Int))) none = some (.slice (some ⟨b, l * 3, none⟩) (h - l) (2 * (c / 2 - l) + c % 2)) := by
  simp [slvV, bound, h1, h2, hz]
theorem insFile_end_room (hB : H.blk b = some B) (hro : B.ro = false) (he : B.esz = 3) (hrm : B.room = some (c * 3)) (hx : H.row b 0 (n * 3) = some xs) (hy : H.row b2 0 3 = some ys) (h1 : ys.all Value.oneCell' = true) (hn : n + 1 ≤ c) (hb : (n + 1) * 40 ≤ 2 ^ 46) :
    call K1 f_slices_Insert_File [.slice (some ⟨b, 0, none⟩) n (2 * c + 1), .int .i64 (n : Int), .slice (some ⟨b2, 0, none⟩) 1 c2] H = some (.slice (some ⟨b, 0, none⟩) (n + 1) (2 * c + 1), H.set b (some (B.puts (n * 3) ys))) := by
  refine of_wpf (open_plain rfl fc_slices_Insert_File rfl (Nat.le_of_ble_eq_true rfl) ?_)
  have hz : H.eszIs b 3 = true := by simp [Heap.eszIs, hB, he]
  have hyl : ys.length = 3 := (row_cell hy).1
  have hc2 : (2 * c + 1) / 2 = c := by omega
  have hst := storeR_room (vs := ys) (o := n * 3) hB hro hrm (by rw [hyl]; omega) h1
  have ha : appV H 3 40 1 (.slice (some ⟨b, 0, none⟩) n (2 * c + 1)) ys = some (.slice (some ⟨b, 0, none⟩) (n + 1) (2 * c + 1), H.set b (some (B.puts (n * 3) ys))) :=
    appV_room (by omega) (by omega) (by rw [Nat.zero_add]; exact hst)
  have hs1 : slvV H 3 (.slice (some ⟨b, 0, none⟩) n (2 * c + 1)) (some (.int .i64 (n : Int))) none none = some (.slice (some ⟨b, n * 3, none⟩) 0 (2 * (c - n) + 1)) := by
    simp [slvV, bound, hc2, hz]; omega
  simp [-Heap.row, hs1, hy, ha]
theorem insFile_end_grow (hB : H.blk b = some B) (he : B.esz = 3) (hx : H.row b 0 (n * 3) = some xs) (hy : H.row b2 0 3 = some ys) (h1 : ys.all Value.oneCell' = true) (hnc : n ≤ c) (hn : c < n + 1) (hb : (n + 1) * 40 ≤ 2 ^ 46) :
    call K1 f_slices_Insert_File [.slice (some ⟨b, 0, none⟩) n (2 * c + 1), .int .i64 (n : Int), .slice (some ⟨b2, 0, none⟩) 1 c2] H = some (.slice (some ⟨H.next, 0, none⟩) (n + 1) (2 * (n + 1)), H.add (rowBlk 3 (xs ++ ys))) := by
  refine of_wpf (open_plain rfl fc_slices_Insert_File rfl (Nat.le_of_ble_eq_true rfl) ?_)
  have hz : H.eszIs b 3 = true := by simp [Heap.eszIs, hB, he]
  have hc2 : (2 * c + 1) / 2 = c := by omega
  have ha : appV H 3 40 1 (.slice (some ⟨b, 0, none⟩) n (2 * c + 1)) ys = some (.slice (some ⟨H.next, 0, none⟩) (n + 1) (2 * (n + 1)), H.add (rowBlk 3 (xs ++ ys))) :=
    appV_odd (by omega) (by omega) (by omega) (by omega) (by omega) h1 hx
  have hs1 : slvV H 3 (.slice (some ⟨b, 0, none⟩) n (2 * c + 1)) (some (.int .i64 (n : Int))) none none = some (.slice (some ⟨b, n * 3, none⟩) 0 (2 * (c - n) + 1)) := by
    simp [slvV, bound, hc2, hz]; omega
  simp [-Heap.row, hs1, hy, ha]
theorem insFile_mid_grow (hB : H.blk b = some B) (he : B.esz = 3) (hx : H.row b 0 (n * 3) = some xs) (hx1 : xs.all Value.oneCell' = true) (hy : H.row b2 0 3 = some ys) (h1 : ys.all Value.oneCell' = true) (hbn : b < H.next) (hb2 : b2 < H.next) (hi : i < n) (hnc : n ≤ c) (hn : c < n + 1) (hb : (n + 1) * 40 ≤ 2 ^ 46) :
    call K1 f_slices_Insert_File [.slice (some ⟨b, 0, none⟩) n (2 * c + 1), .int .i64 (i : Int), .slice (some ⟨b2, 0, none⟩) 1 c2] H =
      some (.slice (some ⟨H.next, 0, none⟩) (n + 1) (2 * (n + 1)), H.add (((rowBlk 3 (xs.take (i * 3) ++ rep [(.string ⟨#[]⟩), (.string ⟨#[]⟩), (.bool false)] (n + 1 - i))).puts (i * 3) ys).puts ((i + 1) * 3) (xs.drop (i * 3)))) := by
  have hz : H.eszIs b 3 = true := by simp [Heap.eszIs, hB, he]
  have hcn : c = n := by omega
  subst hcn
  have hc2 : (2 * c + 1) / 2 = c := by omega
  have hxl := (row_cell hx).1
  have hyl : ys.length = 3 := (row_cell hy).1
  have hne : ¬ i = c := by omega
  have hw1 : IntKind.i64.wrap ((c : Int) + 1) = (c : Int) + 1 := by rw [wrap_i64] <;> omega
  have hw2 : IntKind.i64.wrap ((c : Int) + 1 - (i : Int)) = ((c + 1 - i : Nat) : Int) := by rw [wrap_i64] <;> omega
  have hlt : (c : Int) < (c : Int) + 1 := by omega
  have hw3 : IntKind.i64.wrap ((i : Int) + 1) = ((i + 1 : Nat) : Int) := by rw [wrap_i64] <;> omega
  have hs1 : slvV H 3 (.slice (some ⟨b, 0, none⟩) c (2 * c + 1)) (some (.int .i64 (i : Int))) none none = some (.slice (some ⟨b, i * 3, none⟩) (c - i) (2 * (c - i) + 1)) := by
    simp [slvV, bound, hc2, hz]; omega
  have hs2 : slvV H 3 (.slice (some ⟨b, 0, none⟩) c (2 * c + 1)) none (some (.int .i64 (i : Int))) none = some (.slice (some ⟨b, 0, none⟩) i (2 * c + 1)) := by
    simp [slvV, bound, hc2]; omega
  have hk : (c + 1 - i) * 40 ≤ 70368744177664 ∧ c + 1 - i ≤ 70368744177664 := by omega
  have hsum : i + (c + 1 - i) = c + 1 := by omega
  have hz1 : (rep [(.string ⟨#[]⟩), (.string ⟨#[]⟩), (.bool false)] (c + 1 - i)).all Value.oneCell' = true := by
    have : ∀ n, (rep [(.string ⟨#[]⟩), (.string ⟨#[]⟩), (.bool false)] n).all Value.oneCell' = true := fun n => by
      induction n with
      | zero => rfl
      | succ n ih => rw [rep, List.all_append, ih]; rfl
    exact this _
  have ha : appV H 3 40 (c + 1 - i) (.slice (some ⟨b, 0, none⟩) i (2 * c + 1)) (rep [(.string ⟨#[]⟩), (.string ⟨#[]⟩), (.bool false)] (c + 1 - i)) = some (.slice (some ⟨H.next, 0, none⟩) (c + 1) (2 * (c + 1)), H.add (rowBlk 3 (xs.take (i * 3) ++ rep [(.string ⟨#[]⟩), (.string ⟨#[]⟩), (.bool false)] (c + 1 - i)))) := by
    have := appV_odd (H := H) (esz := 3) (bytes := 40) (k := c + 1 - i) (b := b) (o := 0) (n := i) (c := 2 * c + 1) (xs := xs.take (i * 3)) (ys := rep [(.string ⟨#[]⟩), (.string ⟨#[]⟩), (.bool false)] (c + 1 - i)) (by omega) (by omega) (by omega) (by omega) (by omega) hz1 (by
      have := row_sub hx 0 (i * 3) (by omega); simpa [-Heap.row] using this)
    rw [hsum] at this; exact this
  generalize hR1 : rowBlk 3 (xs.take (i * 3) ++ rep [(.string ⟨#[]⟩), (.string ⟨#[]⟩), (.bool false)] (c + 1 - i)) = R1 at ha ⊢
  have hR1e : R1.esz = 3 ∧ R1.ro = false ∧ ∀ j, j < (c + 1) * 3 → (R1.at_ j).isSome = true := by
    subst hR1
    refine ⟨rfl, rfl, fun j hj => ?_⟩
    have hrl := rep_len [(.string ⟨#[]⟩), (.string ⟨#[]⟩), (.bool false)] (c + 1 - i)
    simp only [List.length_cons, List.length_nil] at hrl
    simp only [at_row]
    rw [List.getElem?_eq_getElem (by rw [List.length_append, List.length_take, hrl]; omega)]; rfl
  obtain ⟨r1, r2, r3⟩ := hR1e
  have hs3 : slvV (H.add R1) 3 (.slice (some ⟨H.next, 0, none⟩) (c + 1) (2 * (c + 1))) (some (.int .i64 (i : Int))) none none = some (.slice (some ⟨H.next, i * 3, none⟩) (c + 1 - i) (2 * (c + 1 - i))) := by
    simp [slvV, bound, Heap.eszIs, r1]; omega
  have hm1 : Nat.min 1 (c + 1 - i) = 1 := Nat.min_eq_left (by omega)
  have he1 : (H.add R1).row b2 0 3 = some ys := by rw [row_congr (fun o => cell_add_old hb2)]; exact hy
  have hst1 : (H.add R1).storeR H.next (i * 3) ys = some (H.add (R1.puts (i * 3) ys)) := by
    rw [storeR_row (blk_add_new H R1) r2 (row_some_of _ _ fun j hj => by rw [cell_add_new]; exact r3 _ (by omega)) h1, add_set_some rfl]
  generalize hR2 : R1.puts (i * 3) ys = R2 at hst1 ⊢
  have hR2e : R2.esz = 3 ∧ R2.ro = false ∧ ∀ j, j < (c + 1) * 3 → (R2.at_ j).isSome = true := by
    subst hR2
    refine ⟨(puts_esz _ _ _).1.trans r1, (puts_esz _ _ _).2.trans r2, fun j hj => ?_⟩
    rw [puts_at]
    split
    · rw [List.getElem?_eq_getElem (by omega)]; rfl
    · exact r3 j hj
  obtain ⟨q1, q2, q3⟩ := hR2e
  have hs4 : slvV (H.add R2) 3 (.slice (some ⟨H.next, 0, none⟩) (c + 1) (2 * (c + 1))) (some (.int .i64 ((i : Int) + 1))) none none = some (.slice (some ⟨H.next, (i + 1) * 3, none⟩) (c - i) (2 * (c - i))) := by
    have h7 : ((i : Int) + 1).toNat = i + 1 := by omega
    have h8 : 0 ≤ (i : Int) + 1 := by omega
    simp [slvV, bound, natOf_int, Heap.eszIs, q1, h7, h8]; omega
  have hs5 : slvV (H.add R2) 3 (.slice (some ⟨b, 0, none⟩) c (2 * c + 1)) (some (.int .i64 (i : Int))) none none = some (.slice (some ⟨b, i * 3, none⟩) (c - i) (2 * (c - i) + 1)) := by
    have : (H.add R2).eszIs b 3 = true := by simp only [Heap.eszIs, blk_add_old hbn]; exact hz
    simp [slvV, bound, hc2, this]; omega
  have hm2 : Nat.min (c - i) (c - i) = c - i := Nat.min_self _
  have he2 : (H.add R2).row b (i * 3) ((c - i) * 3) = some (xs.drop (i * 3)) := by
    rw [row_congr (fun o => cell_add_old hbn)]
    have := row_sub hx (i * 3) ((c - i) * 3) (by omega)
    rw [Nat.zero_add] at this
    rw [this, List.take_of_length_le (by rw [List.length_drop]; omega)]
  have hst2 : (H.add R2).storeR H.next ((i + 1) * 3) (xs.drop (i * 3)) = some (H.add (R2.puts ((i + 1) * 3) (xs.drop (i * 3)))) := by
    rw [storeR_row (blk_add_new H R2) q2 (row_some_of _ _ fun j hj => by rw [cell_add_new]; rw [List.length_drop] at hj; exact q3 _ (by omega)) (by
      rw [List.all_eq_true]; intro a ha; exact List.all_eq_true.1 hx1 a (List.mem_of_mem_drop ha)), add_set_some rfl]
  refine of_wpf (open_plain rfl fc_slices_Insert_File rfl (Nat.le_of_ble_eq_true rfl) ?_)
  simp [-Heap.row, -Heap.store, step_copyV, hs1, hs2, hne, hw1, hw2, hw3, hlt, hc2, hk, ha, hs3, hm1, he1, hst1, hs4, hs5, hm2, he2, hst2]
theorem insFile_mid_room (hB : H.blk b = some B) (hro : B.ro = false) (he : B.esz = 3) (hrm : B.room = some (c * 3)) (hx : H.row b 0 (n * 3) = some xs) (hx1 : xs.all Value.oneCell' = true) (hy : H.row b2 0 3 = some ys) (h1 : ys.all Value.oneCell' = true) (hbb : b2 ≠ b) (hr2 : rwB H b2 = true) (hi : i < n) (hn : n + 1 ≤ c) (hb : (n + 1) * 40 ≤ 2 ^ 46) :
    call K1 f_slices_Insert_File [.slice (some ⟨b, 0, none⟩) n (2 * c + 1), .int .i64 (i : Int), .slice (some ⟨b2, 0, none⟩) 1 c2] H =
      some (.slice (some ⟨b, 0, none⟩) (n + 1) (2 * c + 1), H.set b (some ((B.puts ((i + 1) * 3) (xs.drop (i * 3))).puts (i * 3) ys))) := by
  have hz : H.eszIs b 3 = true := by simp [Heap.eszIs, hB, he]
  have hc2 : (2 * c + 1) / 2 = c := by omega
  have hxl := (row_cell hx).1
  have hyl : ys.length = 3 := (row_cell hy).1
  have hne : ¬ i = n := by omega
  have hlt : ¬ ((c : Int) < (n : Int) + 1) := by omega
  have hw1 : IntKind.i64.wrap ((n : Int) + 1) = (n : Int) + 1 := by rw [wrap_i64] <;> omega
  have hw3 : IntKind.i64.wrap ((i : Int) + 1) = (i : Int) + 1 := by rw [wrap_i64] <;> omega
  have h7 : ((i : Int) + 1).toNat = i + 1 := by omega
  have h8 : 0 ≤ (i : Int) + 1 := by omega
  have h9 : ((n : Int) + 1).toNat = n + 1 := by omega
  have h10 : 0 ≤ (n : Int) + 1 := by omega
  have hs1 : slvV H 3 (.slice (some ⟨b, 0, none⟩) n (2 * c + 1)) (some (.int .i64 (i : Int))) none none = some (.slice (some ⟨b, i * 3, none⟩) (n - i) (2 * (c - i) + 1)) := by
    simp [slvV, bound, hc2, hz]; omega
  have hs2 : slvV H 3 (.slice (some ⟨b, 0, none⟩) n (2 * c + 1)) none (some (.int .i64 ((n : Int) + 1))) none = some (.slice (some ⟨b, 0, none⟩) (n + 1) (2 * c + 1)) := by
    simp [slvV, bound, natOf_int, hc2, h9, h10]; omega
  have hs3 : ∀ B1 : Blk, B1.esz = 3 → slvV (H.set b (some B1)) 3 (.slice (some ⟨b, 0, none⟩) (n + 1) (2 * c + 1)) (some (.int .i64 (i : Int))) none none = some (.slice (some ⟨b, i * 3, none⟩) (n + 1 - i) (2 * (c - i) + 1)) := by
    intro B1 hB1
    have : (H.set b (some B1)).eszIs b 3 = true := by simp [Heap.eszIs, hB1]
    simp [slvV, bound, hc2, this]; omega
  have hs3' := hs3 B he
  rw [set_same hB] at hs3'
  have hs4 : slvV H 3 (.slice (some ⟨b, 0, none⟩) (n + 1) (2 * c + 1)) (some (.int .i64 ((i : Int) + 1))) none none = some (.slice (some ⟨b, (i + 1) * 3, none⟩) (n - i) (2 * (c - (i + 1)) + 1)) := by
    simp [slvV, bound, natOf_int, hc2, h7, h8, hz]; omega
  have hr1 : rwB H b = true := by
    have := (row_cell hx).2 0 (by omega)
    have h0 : (B.at_ 0).isSome = true := by
      simp only [Heap.cell, hB, Nat.zero_add] at this
      rw [this, List.getElem?_eq_getElem (by omega)]; rfl
    simp [rwB, hB, hro, he, h0]
  have hov : call K1 f_slices_overlaps_api_File [.slice (some ⟨b2, 0, none⟩) 1 c2, .slice (some ⟨b, (i + 1) * 3, none⟩) (n - i) (2 * (c - (i + 1)) + 1)] H = some (.bool false, H) := by
    rw [call_eq]
    show overX [.slice (some ⟨b2, 0, none⟩) 1 c2, .slice (some ⟨b, (i + 1) * 3, none⟩) (n - i) (2 * (c - (i + 1)) + 1)] H = _
    simp [overX, hr1, hr2, hbb]
  have hm1 : Nat.min (n + 1 - i) (n - i) = n - i := Nat.min_eq_right (by omega)
  have he2 : H.row b (i * 3) ((n - i) * 3) = some (xs.drop (i * 3)) := by
    have := row_sub hx (i * 3) ((n - i) * 3) (by omega)
    rw [Nat.zero_add] at this
    rw [this, List.take_of_length_le (by rw [List.length_drop]; omega)]
  have hst1 : H.storeR b ((i + 1) * 3) (xs.drop (i * 3)) = some (H.set b (some (B.puts ((i + 1) * 3) (xs.drop (i * 3))))) :=
    storeR_room hB hro hrm (by rw [List.length_drop]; omega) (by rw [List.all_eq_true]; intro a ha; exact List.all_eq_true.1 hx1 a (List.mem_of_mem_drop ha))
  generalize hB1 : B.puts ((i + 1) * 3) (xs.drop (i * 3)) = B1 at hst1 ⊢
  have q1 : B1.esz = 3 := by subst hB1; exact (puts_esz _ _ _).1.trans he
  have q2 : B1.ro = false := by subst hB1; exact (puts_esz _ _ _).2.trans hro
  have q3 : B1.room = some (c * 3) := by subst hB1; exact (puts_room _ _ _).trans hrm
  have hs5 := hs3 B1 q1
  have hm2 : Nat.min 1 (n + 1 - i) = 1 := Nat.min_eq_left (by omega)
  have he3 : (H.set b (some B1)).row b2 0 3 = some ys := by rw [row_congr (fun o => cell_set_ne hbb)]; exact hy
  have hst2 : (H.set b (some B1)).storeR b (i * 3) ys = some (H.set b (some (B1.puts (i * 3) ys))) := by
    rw [storeR_room (blk_set_self _ _ _) q2 q3 (by omega) h1, set_set]
  refine of_wpf (open_plain rfl fc_slices_Insert_File rfl (Nat.le_of_ble_eq_true rfl) ?_)
  simp [-Heap.row, -Heap.store, step_copyV, hs1, hs2, hne, hw1, hw3, hlt, hs4, hov, hs3', hm1, he2, hst1, hs5, hm2, he3, hst2]
theorem insFile_zero (p : Option Addr) (hp : (p = none ∧ c = 0) ∨ ∃ b o, p = some ⟨b, o, none⟩) {r : Value × Heap} (hy : H.row b2 0 3 = some ys) (h : appV H 3 40 1 (.slice p 0 c) ys = some r) :
    call K1 f_slices_Insert_File [.slice p 0 c, .int .i64 0, .slice (some ⟨b2, 0, none⟩) 1 c2] H = some r := by
  refine of_wpf (v := r.1) (H := r.2) (open_plain rfl fc_slices_Insert_File rfl (Nat.le_of_ble_eq_true rfl) ?_)
  have h' : appV H 3 40 1 (.slice p 0 c) ys = some (r.1, r.2) := h
  rcases hp with ⟨rfl, rfl⟩ | ⟨b, o, rfl⟩
  · have hs1 : slvV H 3 (.slice none 0 0) (some (.int .i64 0)) none none = some (.slice none 0 0) := by simp [slvV, bound]
    simp [-Heap.row, hs1, hy, h']
  · have hs1 : slvV H 3 (.slice (some ⟨b, o, none⟩) 0 c) (some (.int .i64 0)) none none = some (.slice (some ⟨b, o, none⟩) 0 (2 * (c / 2) + c % 2)) := by simp [slvV, bound]
    simp [-Heap.row, hs1, hy, h']
end
end Go.AM
