import Derived.Test.YtbgidagbogpfkaaR7G
/- slices.Insert, slices.Delete of what is one's own. -/
namespace Go.AM
open Go.Proofs
set_option linter.unusedVariables false
set_option linter.unusedSimpArgs false
set_option maxRecDepth 100000
attribute [-simp] ByteArray.size_eq_zero_iff
theorem ins_gen {α : Type} {enc : α → List Value} {esz by_ n0 : Nat} {f : FuncId} (hX : K.X f = some (insX esz by_)) (he : ∀ x, (enc x).length = esz) {H : Heap} {v : Value} {xs : List α} (h : Ow enc esz n0 H v xs) (i : Nat) (hi : i ≤ xs.length) (x : α) (b2 c2 : Nat)
    (hy : H.row b2 0 esz = some (enc x)) (hr2 : rwB H b2 = true) (hbb : blkV v ≠ some b2) (h1 : (enc x).all Value.oneCell' = true) (hb : (xs.length + 1) * by_ ≤ 2 ^ 46) (hl : xs.length + 1 ≤ 2 ^ 46) :
    ∃ X : Heap, X.next = H.next ∧ (∀ k, blkV v ≠ some k → X.blk k = H.blk k) ∧
      call K f [v, .int .i64 (i : Int), .slice (some ⟨b2, 0, none⟩) 1 c2] H = some (.slice (some ⟨H.next, 0, none⟩) (xs.length + 1) (2 * (xs.length + 1)), X.add (rowBlk esz ((xs.take i ++ x :: xs.drop i).flatMap enc))) := by
  have hcall : ∀ args, call K f args H = insX esz by_ args H := fun args => by rw [call_eq, hX]
  have hflat : (xs.take i ++ x :: xs.drop i).flatMap enc = (xs.flatMap enc).take (i * esz) ++ enc x ++ (xs.flatMap enc).drop (i * esz) := by
    have hsplit : xs.flatMap enc = (xs.take i).flatMap enc ++ (xs.drop i).flatMap enc := by rw [← List.flatMap_append, List.take_append_drop]
    have hlen : ((xs.take i).flatMap enc).length = i * esz := by rw [flat_len he, List.length_take, Nat.min_eq_left hi]
    rw [hsplit, List.take_left' hlen, List.drop_left' hlen, List.flatMap_append, List.flatMap_cons, List.append_assoc]
  rcases h.is with ⟨rfl, rfl⟩ | ⟨rfl, b, rfl, _⟩ | ⟨b, B, c, rfl, q2, q3, q4, q5, q6, q7, q8, q9, q10⟩
  · have hi0 : i = 0 := by simpa using hi
    subst hi0
    refine ⟨H, rfl, fun _ _ => rfl, ?_⟩
    rw [hcall]
    have hb' : by_ ≤ 2 ^ 46 := by simpa using hb
    simp [-Heap.row, insX, hy, hr2]
    refine ⟨by simpa using hb', ?_⟩
    unfold appV
    rw [if_neg (by omega)]
    simp only
    rw [if_pos ⟨by omega, by omega, h1⟩]
  · have hi0 : i = 0 := by simpa using hi
    subst hi0
    refine ⟨H, rfl, fun _ _ => rfl, ?_⟩
    rw [hcall]
    have hb' : by_ ≤ 2 ^ 46 := by simpa using hb
    have := appV_odd (H := H) (esz := esz) (bytes := by_) (k := 1) (b := b) (o := 0) (n := 0) (c := 1) (xs := []) (ys := enc x) (by omega) (by omega) (by omega) (by simpa using (by omega : by_ ≤ 2 ^ 47)) (by omega) h1 (by simp)
    simp [-Heap.row, insX, hy, hr2]
    refine ⟨by simpa using hb', ?_⟩
    rw [this]
    simp
  · refine ⟨H.set b none, rfl, fun k hk => blk_set_ne fun e => hk (by rw [e]; rfl), ?_⟩
    rw [hcall, hflat]
    have hrow := h.row he rfl
    have hne : b2 ≠ b := fun e => hbb (by rw [e]; rfl)
    have hin : ((i : Int).toNat) = i := by omega
    have hc : (0 : Int) ≤ (i : Int) ∧ (i : Int) ≤ (xs.length : Int) ∧ (xs.length + 1) * by_ ≤ 2 ^ 46 ∧ rwB H b2 = true := ⟨by omega, by omega, hb, hr2⟩
    unfold insX
    simp only [hy, if_pos hc, if_pos q2, q7, hrow]
    rw [if_pos ⟨trivial, q8, q9, hne, q3, q4⟩, hin]
theorem insP_ok {n0 : Nat} {H : Heap} {v : Value} {rs : List (Inf × Value)} (h : Ow encP 5 n0 H v rs) (i : Nat) (hi : i ≤ rs.length) (x : Inf × Value) (b2 c2 : Nat) (hy : H.row b2 0 5 = some (encP x)) (hr2 : rwB H b2 = true) (hbb : blkV v ≠ some b2) (h1 : x.2.oneCell' = true) (hl : rs.length ≤ 1000) :
    ∃ X : Heap, X.next = H.next ∧ (∀ k, blkV v ≠ some k → X.blk k = H.blk k) ∧
      call K f_slices_Insert_Info [v, .int .i64 (i : Int), .slice (some ⟨b2, 0, none⟩) 1 c2] H = some (.slice (some ⟨H.next, 0, none⟩) (rs.length + 1) (2 * (rs.length + 1)), X.add (rowBlk 5 ((rs.take i ++ x :: rs.drop i).flatMap encP))) :=
  ins_gen rfl encP_len h i hi x b2 c2 hy hr2 hbb (by simp [h1]) (by omega) (by omega)
theorem insF_ok {n0 : Nat} {H : Heap} {v : Value} {fs : List Fil} (h : Ow encF 3 n0 H v fs) (i : Nat) (hi : i ≤ fs.length) (x : Fil) (b2 c2 : Nat) (hy : H.row b2 0 3 = some (encF x)) (hr2 : rwB H b2 = true) (hbb : blkV v ≠ some b2) (hl : fs.length ≤ 1000) :
    ∃ X : Heap, X.next = H.next ∧ (∀ k, blkV v ≠ some k → X.blk k = H.blk k) ∧
      call K f_slices_Insert_File [v, .int .i64 (i : Int), .slice (some ⟨b2, 0, none⟩) 1 c2] H = some (.slice (some ⟨H.next, 0, none⟩) (fs.length + 1) (2 * (fs.length + 1)), X.add (rowBlk 3 ((fs.take i ++ x :: fs.drop i).flatMap encF))) :=
  ins_gen rfl encF_len h i hi x b2 c2 hy hr2 hbb (encF_one x) (by omega) (by omega)
theorem delInfo_ok {n0 : Nat} {H : Heap} {v : Value} {xs : List (Inf × Value)} (h : Ow encP 5 n0 H v xs) (i : Nat) (hi : i < xs.length) (h1 : (xs.flatMap encP).all Value.oneCell' = true) (hl : xs.length ≤ 1000) :
    wpf (call K f_slices_Delete_Info [v, .int .i64 (i : Int), .int .i64 ((i : Int) + 1)] H) fun r H' => ∃ b B', blkV v = some b ∧ blkV r = some b ∧ H' = H.set b (some B') ∧ B'.ro = false ∧ Ow encP 5 n0 H' r (xs.take i ++ xs.drop (i + 1)) := by
  have hne : xs ≠ [] := fun e => by subst e; simp at hi
  rcases id h.is with ⟨_, e⟩ | ⟨e, _⟩ | ⟨b, B, c, rfl, q2, q3, q4, q5, q6, q7, q8, q9, q10⟩
  · exact absurd e hne
  · exact absurd e hne
  have hrow := h.row encP_len rfl
  have hz : H.eszIs b 5 = true := by simp [Heap.eszIs, q7, q9]
  have hfl := flat_len encP_len xs
  have hi1 : ((i : Int) + 1).toNat = i + 1 := by omega
  have hi2 : (0 : Int) ≤ (i : Int) + 1 := by omega
  have hne1 : ¬ ((i : Int) = (i : Int) + 1) := by omega
  have hs0 : slvV H 5 (.slice (some ⟨b, 0, none⟩) xs.length c) (some (.int .i64 (i : Int))) (some (.int .i64 ((i : Int) + 1))) (some (.int .i64 (xs.length : Int))) = some (.slice (some ⟨b, i * 5, none⟩) 1 (2 * (xs.length - i) + 1)) := by
    simp [slvV, bound, natOf_int, hi1, hi2, hz]; omega
  have hs1 : slvV H 5 (.slice (some ⟨b, 0, none⟩) xs.length c) none (some (.int .i64 (i : Int))) none = some (.slice (some ⟨b, 0, none⟩) i c) := by
    simp [slvV, bound]; omega
  obtain ⟨m, hm⟩ : ∃ m, xs.length = i + 1 + m := ⟨xs.length - (i + 1), by omega⟩
  have hs2 : slvV H 5 (.slice (some ⟨b, 0, none⟩) xs.length c) (some (.int .i64 ((i : Int) + 1))) none none = some (.slice (some ⟨b, (i + 1) * 5, none⟩) m (2 * (c / 2 - (i + 1)))) := by
    simp [slvV, bound, natOf_int, hi1, hi2, hz]; omega
  have w1 : IntKind.i64.wrap ((i : Int) + 1) = (i : Int) + 1 := by rw [wrap_i64] <;> omega
  have hcell : ∀ j, j < xs.length * 5 → (B.at_ j).isSome = true := fun j hj => by
    rw [q10 j hj, List.getElem?_eq_getElem (by rw [hfl]; exact hj)]; rfl
  have hdrop : ((xs.drop (i + 1)).flatMap encP) = (xs.flatMap encP).drop ((i + 1) * 5) := by
    have hsplit : xs.flatMap encP = (xs.take (i + 1)).flatMap encP ++ (xs.drop (i + 1)).flatMap encP := by rw [← List.flatMap_append, List.take_append_drop]
    have hlen : ((xs.take (i + 1)).flatMap encP).length = (i + 1) * 5 := by rw [flat_len encP_len, List.length_take, Nat.min_eq_left (by omega)]
    rw [hsplit, List.drop_left' hlen]
  have htake : ((xs.take i).flatMap encP) = (xs.flatMap encP).take (i * 5) := by
    have hsplit : xs.flatMap encP = (xs.take i).flatMap encP ++ (xs.drop i).flatMap encP := by rw [← List.flatMap_append, List.take_append_drop]
    have hlen : ((xs.take i).flatMap encP).length = i * 5 := by rw [flat_len encP_len, List.length_take, Nat.min_eq_left (by omega)]
    rw [hsplit, List.take_left' hlen]
  generalize hD : (xs.drop (i + 1)).flatMap encP = D at *
  have hDl : D.length = m * 5 := by rw [hdrop, List.length_drop, hfl]; omega
  have hD1 : D.all Value.oneCell' = true := by
    rw [hdrop, List.all_eq_true]; intro a ha; exact List.all_eq_true.1 h1 a (List.mem_of_mem_drop ha)
  have hrowD : H.row b ((i + 1) * 5) (m * 5) = some D := by
    have := row_sub hrow ((i + 1) * 5) (m * 5) (by omega)
    rw [Nat.zero_add] at this
    rw [this, ← hdrop, List.take_of_length_le (by omega)]
  -- the elements behind are moved
  have hap : appV H 5 80 m (.slice (some ⟨b, 0, none⟩) i c) D = some (.slice (some ⟨b, 0, none⟩) (i + m) c, H.set b (some (B.puts (i * 5) D))) := by
    by_cases hm0 : m = 0
    · subst hm0
      have : D = [] := List.eq_nil_of_length_eq_zero (by omega)
      subst this
      rw [puts_nil, set_same q7]
      unfold appV; exact if_pos rfl
    · refine appV_room hm0 (by omega) ?_
      rw [Nat.zero_add]
      refine storeR_row q7 q8 (row_some_of _ _ fun j hj => ?_) hD1
      simp only [Heap.cell, q7]
      exact hcell _ (by omega)
  generalize hB1 : B.puts (i * 5) D = B1 at hap
  have r1 : B1.esz = 5 := by subst hB1; exact (puts_esz _ _ _).1.trans q9
  have r2 : B1.ro = false := by subst hB1; exact (puts_esz _ _ _).2.trans q8
  have r3 : ∀ j, j < xs.length * 5 → (B1.at_ j).isSome = true := by
    intro j hj
    subst hB1
    rw [puts_at]
    split
    · rw [List.getElem?_eq_getElem (by omega)]; rfl
    · exact hcell j hj
  have him1 : ((i : Int) + (m : Int)).toNat = i + m := by omega
  have him2 : (0 : Int) ≤ (i : Int) + (m : Int) := by omega
  have hs3 : slvV (H.set b (some B1)) 5 (.slice (some ⟨b, 0, none⟩) (i + m) c) (some (.int .i64 ((i : Int) + (m : Int)))) (some (.int .i64 (xs.length : Int))) none = some (.slice (some ⟨b, (i + m) * 5, none⟩) 1 (2 * (c / 2 - (i + m)))) := by
    have : (H.set b (some B1)).eszIs b 5 = true := by simp [Heap.eszIs, r1]
    simp [slvV, bound, natOf_int, him1, him2, this]; omega
  have hst : (H.set b (some B1)).store b ((i + m) * 5) (rep [(.string ⟨#[]⟩), (.int .i64 0), (.string ⟨#[]⟩), (.string ⟨#[]⟩), (.slice none 0 0)] 1) = some (H.set b (some (B1.puts ((i + m) * 5) (rep [(.string ⟨#[]⟩), (.int .i64 0), (.string ⟨#[]⟩), (.string ⟨#[]⟩), (.slice none 0 0)] 1)))) := by
    have hrr : ((H.set b (some B1)).row b ((i + m) * 5) (rep [(.string ⟨#[]⟩), (.int .i64 0), (.string ⟨#[]⟩), (.string ⟨#[]⟩), (.slice none 0 0)] 1).length).isSome = true := row_some_of _ _ fun j hj => by
      rw [cell_set_self]
      refine r3 _ ?_
      rw [rep_len] at hj
      simp only [List.length_cons, List.length_nil] at hj
      omega
    show (match (H.set b (some B1)).blk b with | some B => if B.ro = false ∧ ((H.set b (some B1)).row b ((i + m) * 5) (rep [(.string ⟨#[]⟩), (.int .i64 0), (.string ⟨#[]⟩), (.string ⟨#[]⟩), (.slice none 0 0)] 1).length).isSome = true ∧ (rep [(.string ⟨#[]⟩), (.int .i64 0), (.string ⟨#[]⟩), (.string ⟨#[]⟩), (.slice none 0 0)] 1).all Value.oneCell' = true then some ((H.set b (some B1)).set b (some (B.puts ((i + m) * 5) (rep [(.string ⟨#[]⟩), (.int .i64 0), (.string ⟨#[]⟩), (.string ⟨#[]⟩), (.slice none 0 0)] 1)))) else none | none => none) = _
    rw [blk_set_self]
    simp only
    rw [if_pos ⟨r2, hrr, rfl⟩, set_set]
  have hclr : ∀ cc, clrV [(.string ⟨#[]⟩), (.int .i64 0), (.string ⟨#[]⟩), (.string ⟨#[]⟩), (.slice none 0 0)] (.slice (some ⟨b, (i + m) * 5, none⟩) 1 cc) (H.set b (some B1)) = some (undef, H.set b (some (B1.puts ((i + m) * 5) (rep [(.string ⟨#[]⟩), (.int .i64 0), (.string ⟨#[]⟩), (.string ⟨#[]⟩), (.slice none 0 0)] 1)))) := fun cc => by
    unfold clrV; simp only [hst]
  refine open_plain rfl fc_slices_Delete_Info rfl (Nat.le_of_ble_eq_true rfl) ?_
  simp [-Heap.row, hs0, hs1, hs2, hne1, hrowD, hap, hs3, hclr]
  have hlen : (xs.take i ++ xs.drop (i + 1)).length = i + m := by rw [List.length_append, List.length_take, List.length_drop]; omega
  refine ⟨b, rfl, rfl, _, rfl, (puts_esz _ _ _).2.trans r2, by rw [hlen]; omega, .inr (.inr ⟨b, _, c, by rw [hlen], q2, by rw [hlen]; omega, q4, q5, q6, blk_set_self _ _ _, (puts_esz _ _ _).2.trans r2, (puts_esz _ _ _).1.trans r1, fun j hj => ?_⟩)⟩
  rw [hlen] at hj
  have htl : ((xs.flatMap encP).take (i * 5)).length = i * 5 := by rw [List.length_take, hfl]; omega
  rw [puts_at, if_neg (by omega), ← hB1, puts_at, List.flatMap_append, hD, htake]
  by_cases hji : j < i * 5
  · rw [if_neg (by omega), List.getElem?_append_left (by omega), List.getElem?_take, if_pos hji, q10 j (by omega)]
  · rw [if_pos (by omega), List.getElem?_append_right (by omega), htl]
theorem delFile_ok {n0 : Nat} {H : Heap} {v : Value} {xs : List (Fil)} (h : Ow encF 3 n0 H v xs) (i : Nat) (hi : i < xs.length) (h1 : (xs.flatMap encF).all Value.oneCell' = true) (hl : xs.length ≤ 1000) :
    wpf (call K f_slices_Delete_File [v, .int .i64 (i : Int), .int .i64 ((i : Int) + 1)] H) fun r H' => ∃ b B', blkV v = some b ∧ blkV r = some b ∧ H' = H.set b (some B') ∧ B'.ro = false ∧ Ow encF 3 n0 H' r (xs.take i ++ xs.drop (i + 1)) := by
  have hne : xs ≠ [] := fun e => by subst e; simp at hi
  rcases id h.is with ⟨_, e⟩ | ⟨e, _⟩ | ⟨b, B, c, rfl, q2, q3, q4, q5, q6, q7, q8, q9, q10⟩
  · exact absurd e hne
  · exact absurd e hne
  have hrow := h.row encF_len rfl
  have hz : H.eszIs b 3 = true := by simp [Heap.eszIs, q7, q9]
  have hfl := flat_len encF_len xs
  have hi1 : ((i : Int) + 1).toNat = i + 1 := by omega
  have hi2 : (0 : Int) ≤ (i : Int) + 1 := by omega
  have hne1 : ¬ ((i : Int) = (i : Int) + 1) := by omega
  have hs0 : slvV H 3 (.slice (some ⟨b, 0, none⟩) xs.length c) (some (.int .i64 (i : Int))) (some (.int .i64 ((i : Int) + 1))) (some (.int .i64 (xs.length : Int))) = some (.slice (some ⟨b, i * 3, none⟩) 1 (2 * (xs.length - i) + 1)) := by
    simp [slvV, bound, natOf_int, hi1, hi2, hz]; omega
  have hs1 : slvV H 3 (.slice (some ⟨b, 0, none⟩) xs.length c) none (some (.int .i64 (i : Int))) none = some (.slice (some ⟨b, 0, none⟩) i c) := by
    simp [slvV, bound]; omega
  obtain ⟨m, hm⟩ : ∃ m, xs.length = i + 1 + m := ⟨xs.length - (i + 1), by omega⟩
  have hs2 : slvV H 3 (.slice (some ⟨b, 0, none⟩) xs.length c) (some (.int .i64 ((i : Int) + 1))) none none = some (.slice (some ⟨b, (i + 1) * 3, none⟩) m (2 * (c / 2 - (i + 1)))) := by
    simp [slvV, bound, natOf_int, hi1, hi2, hz]; omega
  have w1 : IntKind.i64.wrap ((i : Int) + 1) = (i : Int) + 1 := by rw [wrap_i64] <;> omega
  have hcell : ∀ j, j < xs.length * 3 → (B.at_ j).isSome = true := fun j hj => by
    rw [q10 j hj, List.getElem?_eq_getElem (by rw [hfl]; exact hj)]; rfl
  have hdrop : ((xs.drop (i + 1)).flatMap encF) = (xs.flatMap encF).drop ((i + 1) * 3) := by
    have hsplit : xs.flatMap encF = (xs.take (i + 1)).flatMap encF ++ (xs.drop (i + 1)).flatMap encF := by rw [← List.flatMap_append, List.take_append_drop]
    have hlen : ((xs.take (i + 1)).flatMap encF).length = (i + 1) * 3 := by rw [flat_len encF_len, List.length_take, Nat.min_eq_left (by omega)]
    rw [hsplit, List.drop_left' hlen]
  have htake : ((xs.take i).flatMap encF) = (xs.flatMap encF).take (i * 3) := by
    have hsplit : xs.flatMap encF = (xs.take i).flatMap encF ++ (xs.drop i).flatMap encF := by rw [← List.flatMap_append, List.take_append_drop]
    have hlen : ((xs.take i).flatMap encF).length = i * 3 := by rw [flat_len encF_len, List.length_take, Nat.min_eq_left (by omega)]
    rw [hsplit, List.take_left' hlen]
  generalize hD : (xs.drop (i + 1)).flatMap encF = D at *
  have hDl : D.length = m * 3 := by rw [hdrop, List.length_drop, hfl]; omega
  have hD1 : D.all Value.oneCell' = true := by
    rw [hdrop, List.all_eq_true]; intro a ha; exact List.all_eq_true.1 h1 a (List.mem_of_mem_drop ha)
  have hrowD : H.row b ((i + 1) * 3) (m * 3) = some D := by
    have := row_sub hrow ((i + 1) * 3) (m * 3) (by omega)
    rw [Nat.zero_add] at this
    rw [this, ← hdrop, List.take_of_length_le (by omega)]
  -- the elements behind are moved
  have hap : appV H 3 40 m (.slice (some ⟨b, 0, none⟩) i c) D = some (.slice (some ⟨b, 0, none⟩) (i + m) c, H.set b (some (B.puts (i * 3) D))) := by
    by_cases hm0 : m = 0
    · subst hm0
      have : D = [] := List.eq_nil_of_length_eq_zero (by omega)
      subst this
      rw [puts_nil, set_same q7]
      unfold appV; exact if_pos rfl
    · refine appV_room hm0 (by omega) ?_
      rw [Nat.zero_add]
      refine storeR_row q7 q8 (row_some_of _ _ fun j hj => ?_) hD1
      simp only [Heap.cell, q7]
      exact hcell _ (by omega)
  generalize hB1 : B.puts (i * 3) D = B1 at hap
  have r1 : B1.esz = 3 := by subst hB1; exact (puts_esz _ _ _).1.trans q9
  have r2 : B1.ro = false := by subst hB1; exact (puts_esz _ _ _).2.trans q8
  have r3 : ∀ j, j < xs.length * 3 → (B1.at_ j).isSome = true := by
    intro j hj
    subst hB1
    rw [puts_at]
    split
    · rw [List.getElem?_eq_getElem (by omega)]; rfl
    · exact hcell j hj
  have him1 : ((i : Int) + (m : Int)).toNat = i + m := by omega
  have him2 : (0 : Int) ≤ (i : Int) + (m : Int) := by omega
  have hs3 : slvV (H.set b (some B1)) 3 (.slice (some ⟨b, 0, none⟩) (i + m) c) (some (.int .i64 ((i : Int) + (m : Int)))) (some (.int .i64 (xs.length : Int))) none = some (.slice (some ⟨b, (i + m) * 3, none⟩) 1 (2 * (c / 2 - (i + m)))) := by
    have : (H.set b (some B1)).eszIs b 3 = true := by simp [Heap.eszIs, r1]
    simp [slvV, bound, natOf_int, him1, him2, this]; omega
  have hst : (H.set b (some B1)).store b ((i + m) * 3) (rep [(.string ⟨#[]⟩), (.string ⟨#[]⟩), (.bool false)] 1) = some (H.set b (some (B1.puts ((i + m) * 3) (rep [(.string ⟨#[]⟩), (.string ⟨#[]⟩), (.bool false)] 1)))) := by
    have hrr : ((H.set b (some B1)).row b ((i + m) * 3) (rep [(.string ⟨#[]⟩), (.string ⟨#[]⟩), (.bool false)] 1).length).isSome = true := row_some_of _ _ fun j hj => by
      rw [cell_set_self]
      refine r3 _ ?_
      rw [rep_len] at hj
      simp only [List.length_cons, List.length_nil] at hj
      omega
    show (match (H.set b (some B1)).blk b with | some B => if B.ro = false ∧ ((H.set b (some B1)).row b ((i + m) * 3) (rep [(.string ⟨#[]⟩), (.string ⟨#[]⟩), (.bool false)] 1).length).isSome = true ∧ (rep [(.string ⟨#[]⟩), (.string ⟨#[]⟩), (.bool false)] 1).all Value.oneCell' = true then some ((H.set b (some B1)).set b (some (B.puts ((i + m) * 3) (rep [(.string ⟨#[]⟩), (.string ⟨#[]⟩), (.bool false)] 1)))) else none | none => none) = _
    rw [blk_set_self]
    simp only
    rw [if_pos ⟨r2, hrr, rfl⟩, set_set]
  have hclr : ∀ cc, clrV [(.string ⟨#[]⟩), (.string ⟨#[]⟩), (.bool false)] (.slice (some ⟨b, (i + m) * 3, none⟩) 1 cc) (H.set b (some B1)) = some (undef, H.set b (some (B1.puts ((i + m) * 3) (rep [(.string ⟨#[]⟩), (.string ⟨#[]⟩), (.bool false)] 1)))) := fun cc => by
    unfold clrV; simp only [hst]
  refine open_plain rfl fc_slices_Delete_File rfl (Nat.le_of_ble_eq_true rfl) ?_
  simp [-Heap.row, hs0, hs1, hs2, hne1, hrowD, hap, hs3, hclr]
  have hlen : (xs.take i ++ xs.drop (i + 1)).length = i + m := by rw [List.length_append, List.length_take, List.length_drop]; omega
  refine ⟨b, rfl, rfl, _, rfl, (puts_esz _ _ _).2.trans r2, by rw [hlen]; omega, .inr (.inr ⟨b, _, c, by rw [hlen], q2, by rw [hlen]; omega, q4, q5, q6, blk_set_self _ _ _, (puts_esz _ _ _).2.trans r2, (puts_esz _ _ _).1.trans r1, fun j hj => ?_⟩)⟩
  rw [hlen] at hj
  have htl : ((xs.flatMap encF).take (i * 3)).length = i * 3 := by rw [List.length_take, hfl]; omega
  rw [puts_at, if_neg (by omega), ← hB1, puts_at, List.flatMap_append, hD, htake]
  by_cases hji : j < i * 3
  · rw [if_neg (by omega), List.getElem?_append_left (by omega), List.getElem?_take, if_pos hji, q10 j (by omega)]
  · rw [if_pos (by omega), List.getElem?_append_right (by omega), htl]
end Go.AM
