import Derived.Test.YtbgidagbogpfkaaDoorR8I
/- script.Show: its inner loops. -/
namespace Go.AM
open Go.Proofs
set_option linter.unusedVariables false
set_option linter.unusedSimpArgs false
set_option maxRecDepth 100000
attribute [-simp] ByteArray.size_eq_zero_iff Heap.store Heap.row
/-- What a builder's writes leave as it was. -/
structure Fr (nb : Nat) (H : Heap) (x : Value) (H' : Heap) (x' : Value) : Prop where
  next : H.next ≤ H'.next
  old : ∀ k, k < H.next → k ≠ nb → NotIn x k → H'.blk k = H.blk k ∧ NotIn x' k
theorem Fr.refl (nb : Nat) (H : Heap) (x : Value) : Fr nb H x H x := ⟨Nat.le_refl _, fun k h1 h2 h3 => ⟨rfl, h3⟩⟩
theorem Fr.trans {nb : Nat} {A B C : Heap} {x y z : Value} (h : Fr nb A x B y) (g : Fr nb B y C z) : Fr nb A x C z :=
  ⟨Nat.le_trans h.next g.next, fun k h1 h2 h3 => by
    obtain ⟨a1, a2⟩ := h.old k h1 h2 h3
    obtain ⟨b1, b2⟩ := g.old k (Nat.lt_of_lt_of_le h1 h.next) h2 a2
    exact ⟨b1.trans a1, b2⟩⟩
theorem Fr.ext {nb : Nat} {A B : Heap} {x : Value} (h : Ext A B) : Fr nb A x B x := ⟨h.next, fun k h1 h2 h3 => ⟨h.blk k h1, h3⟩⟩
theorem Bu.write' {H : Heap} {b : Nat} {l : List UInt8} {x : Value} (h : Bu H b l x) (s : List UInt8) (hs : s ≠ []) (hl : l.length + s.length ≤ 140737488355328) :
    ∃ H' x' v, call K f_strings_Builder_WriteString [.pointer (some ⟨b, 0, none⟩), .string (S s)] H = some (v, H') ∧ Bu H' b (l ++ s) x' ∧ Fr b H x H' x' := by
  obtain ⟨H', x', v, h1, h2, h3, h4, h5⟩ := h.write s hs hl
  exact ⟨H', x', v, h1, h2, h3, fun k a b c => ⟨h4 k a b c, h5 k a⟩⟩
theorem itoa_S (n : Nat) (hn : n ≤ 1000) (G : Heap) : call K f_strconv_Itoa [.int .i64 (n : Int)] G = some (.string (S (Lib.decDigits n)), G) := by
  rw [itoa_ok _ (by omega) (by omega), dg_S]
theorem show_nums {e : Env} {G : Heap} {a : Ac} {s0 : List UInt8} {b nb : Nat} {x : Value} (hm : MayP a) (hB : Bu G nb s0 x) (hs : s0.length ≤ 140737488300000) (h4 : e 4 = .pointer (some ⟨nb, 0, none⟩)) (h32 : e 32 = .slice (some ⟨b, 0, none⟩) 4 9) (h33 : e 33 = .int .i64 4) (h34 : e 34 = .int .i64 0)
    (hb : ∀ j, j < 4 → G.cell b j = some (.int .i64 (((numsA a).getD j 0 : Nat) : Int))) (b1 : b < G.next) (b2 : b ≠ nb) (b3 : NotIn x b) :
    wp (unblock 2 (run K (.loop c_script_Show_l14) e G)) fun y e' G' => y = .norm ∧ ∃ x', Bu G' nb (s0 ++ (numsA a).flatMap numL) x' ∧ Fr nb G x G' x' ∧ e' 0 = e 0 ∧ e' 4 = e 4 ∧ e' 6 = e 6 ∧ e' 14 = e 14 ∧ e' 15 = e 15 ∧ e' 16 = e 16 := by
  refine wp_for (fun d e' G' => ∃ (i : Nat) (x' : Value), d = 4 - i ∧ i ≤ 4 ∧ Bu G' nb (s0 ++ ((numsA a).take i).flatMap numL) x' ∧ Fr nb G x G' x' ∧ e' 4 = .pointer (some ⟨nb, 0, none⟩) ∧ e' 32 = .slice (some ⟨b, 0, none⟩) 4 9 ∧ e' 33 = .int .i64 4 ∧ e' 34 = .int .i64 (i : Int) ∧ e' 0 = e 0 ∧ e' 6 = e 6 ∧ e' 14 = e 14 ∧ e' 15 = e 15 ∧ e' 16 = e 16) 4 ⟨0, x, by simp, by simp, by simpa using hB, Fr.refl _ _ _, h4, h32, h33, by simpa using h34, rfl, rfl, rfl, rfl, rfl⟩ ?_
  rintro d e' G' ⟨i, x', rfl, hi, hB', hF, e4, e32, e33, e34, e0, e6, e14, e15, e16⟩
  have hl : (numsA a).length = 4 := rfl
  by_cases hlt : i < 4
  · have w1 := wrap_succ (i := i) (by omega)
    have hi4 : ((i : Nat) : Int) < 4 := by omega
    have hc : G'.cell b i = some (.int .i64 (((numsA a).getD i 0 : Nat) : Int)) := by simp only [Heap.cell, (hF.old b b1 b2 b3).1]; exact hb i hlt
    have hx : (numsA a).getD i 0 = (numsA a)[i] := by rw [List.getD_eq_getElem?_getD, List.getElem?_eq_getElem (by rw [hl]; exact hlt)]; rfl
    have hn : (numsA a)[i] ≤ 1000 := hm.nums (List.getElem_mem _)
    have hlen := take_flat_len numL 5 (numsA a) i (by omega) fun n hn => numL_len (hm.nums hn)
    have htf := take_flat numL (xs := numsA a) (i := i) (by omega)
    rw [hx] at hc
    generalize (numsA a)[i] = n at *
    have hd := fun G => itoa_S n hn G
    have hdl := (decDigits_len hn).1
    have a2 : binV K.P .add 9 (.string (S (Lib.decDigits n))) (.string ⟨#[32]⟩) = some (.string (S (numL n))) := sadd_S _ [32] (by simp; omega)
    obtain ⟨Z, z, vz, z1, z2, z3⟩ := hB'.write' (numL n) (by simp [numL]) (by rw [List.length_append]; have := numL_len hn; omega)
    rw [List.append_assoc, ← htf] at z2
    simp [c_script_Show_l14, e4, e32, e33, e34, hi4, hlt, hc, hd, a2, z1]
    exact ⟨4 - (i + 1), by omega, i + 1, rfl, by omega, z, z2, hF.trans z3, w1, e0, e6, e14, e15, e16⟩
  · obtain rfl : i = 4 := by omega
    rw [List.take_of_length_le (by rw [hl]; omega)] at hB'
    simp [c_script_Show_l14, e4, e32, e33, e34, e0, e6, e14, e15, e16, h4]
    exact ⟨x', hB', hF⟩
theorem show_texts {e : Env} {G : Heap} {a : Ac} {s0 : List UInt8} {b nb g : Nat} {x : Value} (hm : MayP a) (hB : Bu G nb s0 x) (hs : s0.length ≤ 140737488300000) (h4 : e 4 = .pointer (some ⟨nb, 0, none⟩)) (h46 : e 46 = .slice (some ⟨b, 0, none⟩) 6 12) (h47 : e 47 = .int .i64 6) (h48 : e 48 = .int .i64 0)
    (hb : ∀ j, j < 6 → ∃ k, G.cell b j = some (.pointer (some ⟨g, k, none⟩)) ∧ G.cell g k = some (.string ((textsA a).getD j ⟨#[]⟩))) (b1 : b < G.next) (b2 : b ≠ nb) (b3 : NotIn x b) (g1 : g < G.next) (g2 : g ≠ nb) (g3 : NotIn x g) :
    wp (unblock 4 (run K (.loop c_script_Show_l20) e G)) fun y e' G' => y = .norm ∧ ∃ x', Bu G' nb (s0 ++ (textsA a).flatMap textL) x' ∧ Fr nb G x G' x' ∧ e' 0 = e 0 ∧ e' 4 = e 4 ∧ e' 6 = e 6 ∧ e' 14 = e 14 ∧ e' 15 = e 15 ∧ e' 16 = e 16 := by
  refine wp_for (fun d e' G' => ∃ (i : Nat) (x' : Value), d = 6 - i ∧ i ≤ 6 ∧ Bu G' nb (s0 ++ ((textsA a).take i).flatMap textL) x' ∧ Fr nb G x G' x' ∧ e' 4 = .pointer (some ⟨nb, 0, none⟩) ∧ e' 46 = .slice (some ⟨b, 0, none⟩) 6 12 ∧ e' 47 = .int .i64 6 ∧ e' 48 = .int .i64 (i : Int) ∧ e' 0 = e 0 ∧ e' 6 = e 6 ∧ e' 14 = e 14 ∧ e' 15 = e 15 ∧ e' 16 = e 16) 6 ⟨0, x, by simp, by simp, by simpa using hB, Fr.refl _ _ _, h4, h46, h47, by simpa using h48, rfl, rfl, rfl, rfl, rfl⟩ ?_
  rintro d e' G' ⟨i, x', rfl, hi, hB', hF, e4, e46, e47, e48, e0, e6, e14, e15, e16⟩
  have hl : (textsA a).length = 6 := rfl
  by_cases hlt : i < 6
  · have w1 := wrap_succ (i := i) (by omega)
    have hi4 : ((i : Nat) : Int) < 6 := by omega
    obtain ⟨k, hbk, hgk⟩ := hb i hlt
    have hc1 : G'.cell b i = some (.pointer (some ⟨g, k, none⟩)) := by simp only [Heap.cell, (hF.old b b1 b2 b3).1]; exact hbk
    have hc2 : G'.cell g k = some (.string ((textsA a).getD i ⟨#[]⟩)) := by simp only [Heap.cell, (hF.old g g1 g2 g3).1]; exact hgk
    have hx : (textsA a).getD i ⟨#[]⟩ = (textsA a)[i] := by rw [List.getD_eq_getElem?_getD, List.getElem?_eq_getElem (by rw [hl]; exact hlt)]; rfl
    have hn : (textsA a)[i].size ≤ 512 := hm.texts (List.getElem_mem _)
    have hlen := take_flat_len textL 517 (textsA a) i (by omega) fun w hw => textL_len (hm.texts hw)
    have htf := take_flat textL (xs := textsA a) (i := i) (by omega)
    rw [hx] at hc2
    generalize (textsA a)[i] = w at *
    have hd := fun G => itoa_S w.size (by omega) G
    have hdl := (decDigits_len (n := w.size) (by omega)).1
    have hwl : (L w).length = w.size := L_length w
    have a2 : binV K.P .add 9 (.string (S (Lib.decDigits w.size))) (.string ⟨#[58]⟩) = some (.string (S (Lib.decDigits w.size ++ [58]))) := sadd_S _ [58] (by simp; omega)
    have a3 : binV K.P .add 9 (.string (S (Lib.decDigits w.size ++ [58]))) (.string w) = some (.string (S (textL w))) := by
      have := sadd_S (P := K.P) (t := 9) (Lib.decDigits w.size ++ [58]) (L w) (by simp only [List.length_append, hwl, List.length_singleton]; omega)
      rw [S_L] at this
      rw [this]; simp [textL]
    obtain ⟨Z, z, vz, z1, z2, z3⟩ := hB'.write' (textL w) (by simp [textL]) (by rw [List.length_append]; have := textL_len hn; omega)
    rw [List.append_assoc, ← htf] at z2
    generalize Lib.decDigits w.size ++ [58] = Y1 at a2 a3
    simp [c_script_Show_l20, run_regd_tr, finD_some, Chk, wanted, e4, e46, e47, e48, hi4, hlt, hc1, hc2, hd, a2, a3, z1]
    exact ⟨6 - (i + 1), by omega, i + 1, rfl, by omega, z, z2, hF.trans z3, w1, e0, e6, e14, e15, e16⟩
  · obtain rfl : i = 6 := by omega
    rw [List.take_of_length_le (by rw [hl]; omega)] at hB'
    simp [c_script_Show_l20, e4, e46, e47, e48, e0, e6, e14, e15, e16, h4]
    exact ⟨x', hB', hF⟩
end Go.AM
