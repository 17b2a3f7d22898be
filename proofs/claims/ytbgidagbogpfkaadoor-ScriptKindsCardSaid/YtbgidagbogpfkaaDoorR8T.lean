import Derived.Test.YtbgidagbogpfkaaDoorR8U
/- The reference's words: numbers and texts. -/
namespace Go.AM
open Go.Proofs
set_option linter.unusedVariables false
set_option linter.unusedSimpArgs false
set_option maxRecDepth 100000
attribute [-simp] ByteArray.size_eq_zero_iff Heap.store Heap.row
structure WdP (H : Heap) (b : Nat) (l : List UInt8) (at_ : Nat) (bad : Bool) : Prop where
  lt : b < H.next
  blk : ∃ B, H.blk b = some B ∧ B.ro = false ∧ B.at_ 0 = some (.string (S l)) ∧ B.at_ 1 = some (.int .i64 (at_ : Int)) ∧ B.at_ 2 = some (.bool bad)
theorem WdP.c0 {H : Heap} {b : Nat} {l : List UInt8} {at_ : Nat} {bad : Bool} (h : WdP H b l at_ bad) : H.cell b 0 = some (.string (S l)) := by
  obtain ⟨B, h1, h2, h3, h4, h5⟩ := h.blk; simp only [Heap.cell, h1]; exact h3
theorem WdP.c1 {H : Heap} {b : Nat} {l : List UInt8} {at_ : Nat} {bad : Bool} (h : WdP H b l at_ bad) : H.cell b 1 = some (.int .i64 (at_ : Int)) := by
  obtain ⟨B, h1, h2, h3, h4, h5⟩ := h.blk; simp only [Heap.cell, h1]; exact h4
theorem WdP.c2 {H : Heap} {b : Nat} {l : List UInt8} {at_ : Nat} {bad : Bool} (h : WdP H b l at_ bad) : H.cell b 2 = some (.bool bad) := by
  obtain ⟨B, h1, h2, h3, h4, h5⟩ := h.blk; simp only [Heap.cell, h1]; exact h5
theorem WdP.set1 {H : Heap} {b : Nat} {l : List UInt8} {at_ : Nat} {bad : Bool} (h : WdP H b l at_ bad) (a' : Nat) : ∃ X, H.store b 1 [.int .i64 (a' : Int)] = some X ∧ WdP X b l a' bad ∧ ExB b H X ∧ X.next = H.next := by
  obtain ⟨B, h1, h2, h3, h4, h5⟩ := h.blk
  refine ⟨H.set b (some (B.puts 1 [.int .i64 (a' : Int)])), store_row h1 h2 (by simp [Heap.row, Heap.cell, h1, h4]) rfl (by simp), ⟨h.lt, _, blk_set_self _ _ _, h2, ?_, rfl, ?_⟩, ⟨Nat.le_refl _, fun k _ hk => blk_set_ne hk⟩, rfl⟩
  · have : (B.puts 1 [.int .i64 (a' : Int)]).at_ 0 = B.at_ 0 := rfl
    rw [this]; exact h3
  · have : (B.puts 1 [.int .i64 (a' : Int)]).at_ 2 = B.at_ 2 := rfl
    rw [this]; exact h5
theorem WdP.set2 {H : Heap} {b : Nat} {l : List UInt8} {at_ : Nat} {bad : Bool} (h : WdP H b l at_ bad) (bad' : Bool) : ∃ X, H.store b 2 [.bool bad'] = some X ∧ WdP X b l at_ bad' ∧ ExB b H X ∧ X.next = H.next := by
  obtain ⟨B, h1, h2, h3, h4, h5⟩ := h.blk
  refine ⟨H.set b (some (B.puts 2 [.bool bad'])), store_row h1 h2 (by simp [Heap.row, Heap.cell, h1, h5]) rfl (by simp), ⟨h.lt, _, blk_set_self _ _ _, h2, ?_, ?_, rfl⟩, ⟨Nat.le_refl _, fun k _ hk => blk_set_ne hk⟩, rfl⟩
  · have : (B.puts 2 [.bool bad']).at_ 0 = B.at_ 0 := rfl
    rw [this]; exact h3
  · have : (B.puts 2 [.bool bad']).at_ 1 = B.at_ 1 := rfl
    rw [this]; exact h4
theorem WdP.grow {H H' : Heap} {b : Nat} {l : List UInt8} {at_ : Nat} {bad : Bool} (h : WdP H b l at_ bad) (hn : H.next ≤ H'.next) (hb : H'.blk b = H.blk b) : WdP H' b l at_ bad :=
  ⟨Nat.lt_of_lt_of_le h.lt hn, by rw [hb]; exact h.blk⟩
theorem bt_S (l : List UInt8) (k : Nat) (h : k < l.length) : bt (S l) (k : Int) = ((l[k]).toNat : Int) := by
  rw [bt_L, L_S, Int.toNat_natCast, List.getElem?_eq_getElem h]; rfl
theorem wnum_ok {G : Heap} {b : Nat} {l : List UInt8} {at_ : Nat} {bad : Bool} (h : WdP G b l at_ bad) (ha : at_ ≤ 1152921504606846976) (hl : l.length ≤ 140737488355328) :
    ∃ G', call K f_ref20_words_num [.pointer (some ⟨b, 0, none⟩)] G = some (.int .i64 ((wnum l at_ bad).1 : Int), G') ∧ WdP G' b l (wnum l at_ bad).2.1 (wnum l at_ bad).2.2 ∧ ExB b G G' := by
  have key : wpf (call K f_ref20_words_num [.pointer (some ⟨b, 0, none⟩)] G) fun v G' => v = .int .i64 ((wnum l at_ bad).1 : Int) ∧ WdP G' b l (wnum l at_ bad).2.1 (wnum l at_ bad).2.2 ∧ ExB b G G' := by
    refine open_plain rfl fc_ref20_words_num rfl (Nat.le_of_ble_eq_true rfl) ?_
    simp
    refine wp_nxt (wp_for (fun d e G' => ∃ (k a x : Nat), d = 4 - k ∧ k ≤ 4 ∧ a ≤ at_ + k ∧ x + 1 ≤ 10 ^ k ∧ e 0 = .pointer (some ⟨b, 0, none⟩) ∧ e 3 = .int .i64 (x : Int) ∧ e 4 = .int .i64 (k : Int) ∧ WdP G' b l a bad ∧ ExB b G G' ∧ wdig (4 - k) l a x = wdig 4 l at_ 0) 4 ⟨0, at_, 0, rfl, by omega, by omega, by simp, by simp, by simp, by simp, h, ExB.refl _ _, rfl⟩ ?_)
    rintro d e G' ⟨k, a, x, rfl, hk, hla, hx, e0, e3, e4, hw, hE, hd⟩
    have hsz : (S l).size = l.length := S_size l
    -- the end of it
    have fin : ∀ G1 : Heap, WdP G1 b l (wdig 4 l at_ 0).2 bad → ExB b G G1 → ∃ Y Z, G1.store b 2 [.bool (bad || decide (l.length ≤ (wdig 4 l at_ 0).2))] = some Y ∧ Y.cell b 1 = some (.int .i64 ((wdig 4 l at_ 0).2 : Int)) ∧ Y.store b 1 [.int .i64 (((wdig 4 l at_ 0).2 + 1 : Nat) : Int)] = some Z ∧ WdP Z b l ((wdig 4 l at_ 0).2 + 1) (bad || decide (l.length ≤ (wdig 4 l at_ 0).2)) ∧ ExB b G Z := fun G1 g1 g2 => by
      obtain ⟨Y, y1, y2, y3, _⟩ := g1.set2 (bad || decide (l.length ≤ (wdig 4 l at_ 0).2))
      obtain ⟨Z, z1, z2, z3, _⟩ := y2.set1 ((wdig 4 l at_ 0).2 + 1)
      exact ⟨Y, Z, y1, y2.c1, z1, z2, (g2.trans y3).trans z3⟩
    have hle := wdig_le 4 l at_ 0
    have stop : wdig (4 - k) l a x = (x, a) → x = (wdig 4 l at_ 0).1 ∧ a = (wdig 4 l at_ 0).2 := fun hs => by
      rw [hd] at hs; rw [hs]; exact ⟨rfl, rfl⟩
    have hx4 : x ≤ 9999 := by
      have : 10 ^ k ≤ 10 ^ 4 := Nat.pow_le_pow_right (by decide) hk
      omega
    have leave : wdig (4 - k) l a x = (x, a) → ∃ Y Z, G'.store b 2 [.bool (bad || decide (l.length ≤ a))] = some Y ∧ Y.cell b 1 = some (.int .i64 (a : Int)) ∧ Y.store b 1 [.int .i64 ((a : Int) + 1)] = some Z ∧ (x = (wnum l at_ bad).1 ∧ WdP Z b l (wnum l at_ bad).2.1 (wnum l at_ bad).2.2 ∧ ExB b G Z) := fun hs => by
      obtain ⟨s1, s2⟩ := stop hs
      have hw' := hw
      rw [s2] at hw'
      obtain ⟨Y, Z, f1, f2, f3, f4, f5⟩ := fin G' hw' hE
      rw [← s2] at f1 f2 f3
      exact ⟨Y, Z, f1, f2, f3, s1, f4, f5⟩
    have w1 := wrap_succ (i := a) (by omega)
    have hb1 : binV K.P .geq 3 (.int .i64 (a : Int)) (.int .i64 (l.length : Int)) = some (.bool (decide (l.length ≤ a))) := by simp
    have out : wdig (4 - k) l a x = (x, a) → ∃ Y Z, G'.store b 2 [.bool (bad || decide (l.length ≤ a))] = some Y ∧ Y.cell b 1 = some (.int .i64 (a : Int)) ∧ Y.store b 1 [.int .i64 ((a : Int) + 1)] = some Z ∧ (x = (wnum l at_ bad).1 ∧ WdP Z b l (wnum l at_ bad).2.1 (wnum l at_ bad).2.2 ∧ ExB b G Z) := leave
    have hnum : ∀ Z : Heap, (x = (wnum l at_ bad).1 ∧ WdP Z b l (wnum l at_ bad).2.1 (wnum l at_ bad).2.2 ∧ ExB b G Z) → (x = (wnum l at_ bad).1 ∧ WdP Z b l (wnum l at_ bad).2.1 (wnum l at_ bad).2.2 ∧ ExB b G Z) := fun _ h => h
    by_cases hk4 : k < 4
    · have hk4' : ((k : Nat) : Int) < 4 := by omega
      have hsuc : 4 - k = (4 - (k + 1)) + 1 := by omega
      have wk := wrap_succ (i := k) (by omega)
      by_cases hin : a < l.length
      · have hin' : (a : Int) < (l.length : Int) := by omega
        have hin2 : ¬ ((l.length : Int) ≤ (a : Int)) := by omega
        have hbt := bt_S l a hin
        have hu := (l[a]).toNat_lt
        by_cases hdg : 48 ≤ (l[a]).toNat ∧ (l[a]).toNat ≤ 57
        · have g1 : (48 : Int) ≤ ((l[a]).toNat : Int) := by omega
          have g2 : ((l[a]).toNat : Int) ≤ 57 := by omega
          have hnext : wdig (4 - (k + 1)) l (a + 1) (10 * x + ((l[a]).toNat - 48)) = wdig 4 l at_ 0 := by
            rw [← hd, hsuc]
            conv => rhs; unfold wdig
            rw [List.getElem?_eq_getElem hin]
            simp only
            rw [if_pos hdg]
          obtain ⟨Y, y1, y2, y3, _⟩ := hw.set1 (a + 1)
          have y1 : G'.store b 1 [.int .i64 ((a : Int) + 1)] = some Y := y1
          generalize (l[a]).toNat = u at *
          have wa : ((u : Int) - 48) % 256 = (u : Int) - 48 := by omega
          have w0 : IntKind.i64.wrap (10 * (x : Int)) = 10 * (x : Int) := wrap_i64 (by omega) (by omega)
          have w2 : IntKind.i64.wrap ((u : Int) - 48) = (u : Int) - 48 := wrap_i64 (by omega) (by omega)
          have w3 : IntKind.i64.wrap (10 * (x : Int) + ((u : Int) - 48)) = 10 * (x : Int) + ((u : Int) - 48) := wrap_i64 (by omega) (by omega)
          have hx' : 10 * x + (u - 48) + 1 ≤ 10 ^ (k + 1) := by rw [Nat.pow_succ]; omega
          simp [c_ref20_words_num_l7, e0, e3, e4, hk4', hw.c0, hw.c1, hsz, hin, hin', hbt, g1, g2, wa, w0, w2, w3, y1, wk, w1]
          exact ⟨4 - (k + 1), by omega, k + 1, rfl, by omega, a + 1, by omega, 10 * x + (u - 48), hx', by omega, rfl, y2, hE.trans y3, hnext⟩
        · have hs : wdig (4 - k) l a x = (x, a) := by
            rw [hsuc]; unfold wdig; rw [List.getElem?_eq_getElem hin]; simp only; rw [if_neg hdg]
          obtain ⟨Y, Z, f1, f2, f3, f4⟩ := out hs
          rw [decide_eq_false (by omega : ¬ l.length ≤ a), Bool.or_false] at f1
          generalize (l[a]).toNat = u at *
          by_cases g1 : (48 : Int) ≤ (u : Int)
          · have g2 : ¬ (u : Int) ≤ 57 := by omega
            cases bad <;> (simp [c_ref20_words_num_l7, e0, e3, e4, hk4', hw.c0, hw.c1, hw.c2, hsz, hin, hin', hin2, hbt, g1, g2, w1, f1, f2, f3]; first | exact f4 | exact ⟨f4.1, f4.2⟩)
          · cases bad <;> (simp [c_ref20_words_num_l7, e0, e3, e4, hk4', hw.c0, hw.c1, hw.c2, hsz, hin, hin', hin2, hbt, g1, w1, f1, f2, f3]; first | exact f4 | exact ⟨f4.1, f4.2⟩)
      · have hin' : ¬ (a : Int) < (l.length : Int) := by omega
        have hin2 : (l.length : Int) ≤ (a : Int) := by omega
        have hs : wdig (4 - k) l a x = (x, a) := by
          rw [hsuc]; unfold wdig; rw [List.getElem?_eq_none (by omega)]
        obtain ⟨Y, Z, f1, f2, f3, f4⟩ := out hs
        rw [decide_eq_true (by omega : l.length ≤ a), Bool.or_true] at f1
        cases bad <;> (simp [c_ref20_words_num_l7, e0, e3, e4, hk4', hw.c0, hw.c1, hw.c2, hsz, hin', hin2, w1, f1, f2, f3]; first | exact f4 | exact ⟨f4.1, f4.2⟩)
    · obtain rfl : k = 4 := by omega
      have hs : wdig (4 - 4) l a x = (x, a) := rfl
      obtain ⟨Y, Z, f1, f2, f3, f4⟩ := out hs
      by_cases hin : a < l.length
      · have hin2 : ¬ ((l.length : Int) ≤ (a : Int)) := by omega
        rw [decide_eq_false (by omega : ¬ l.length ≤ a), Bool.or_false] at f1
        cases bad <;> (simp [c_ref20_words_num_l7, e0, e3, e4, hw.c0, hw.c1, hw.c2, hsz, hin2, w1, f1, f2, f3]; first | exact f4 | exact ⟨f4.1, f4.2⟩)
      · have hin2 : (l.length : Int) ≤ (a : Int) := by omega
        rw [decide_eq_true (by omega : l.length ≤ a), Bool.or_true] at f1
        cases bad <;> (simp [c_ref20_words_num_l7, e0, e3, e4, hw.c0, hw.c1, hw.c2, hsz, hin2, w1, f1, f2, f3]; first | exact f4 | exact ⟨f4.1, f4.2⟩)
  obtain ⟨v, G', h1, rfl, h2, h3⟩ := key
  exact ⟨G', h1, h2, h3⟩
theorem wtext_ok {G : Heap} {b : Nat} {l : List UInt8} {at_ : Nat} {bad : Bool} (h : WdP G b l at_ bad) (ha : at_ ≤ 1152921504606840000) (hl : l.length ≤ 140737488355328) :
    ∃ G', call K f_ref20_words_text [.pointer (some ⟨b, 0, none⟩)] G = some (.string (S (wtext l at_ bad).1), G') ∧ WdP G' b l (wtext l at_ bad).2.1 (wtext l at_ bad).2.2 ∧ ExB b G G' := by
  obtain ⟨X, x1, x2, x3⟩ := wnum_ok h (by omega) hl
  have hle := wnum_le l at_ bad
  have key : wpf (call K f_ref20_words_text [.pointer (some ⟨b, 0, none⟩)] G) fun v G' => v = .string (S (wtext l at_ bad).1) ∧ WdP G' b l (wtext l at_ bad).2.1 (wtext l at_ bad).2.2 ∧ ExB b G G' := by
    refine open_plain rfl fc_ref20_words_text rfl (Nat.le_of_ble_eq_true rfl) ?_
    unfold wtext
    generalize wnum l at_ bad = q at *
    obtain ⟨n, a, bd⟩ := q
    simp only at x1 x2 hle ⊢
    obtain ⟨Y, y1, y2, y3, yn⟩ := x2.set2 true
    have hsz : (S l).size = l.length := S_size l
    cases bd
    · have hal := hle.2.2.2 rfl
      have w1 : IntKind.i64.wrap ((l.length : Int) - (a : Int)) = (l.length : Int) - (a : Int) := wrap_i64 (by omega) (by omega)
      by_cases hlt : l.length < a + n
      · have hlt2 : (l.length : Int) - (a : Int) < (n : Int) := by omega
        simp [x1, x2.c2, x2.c1, x2.c0, hsz, hlt, hlt2, y1, w1]
        exact ⟨rfl, y2, x3.trans y3⟩
      · have hlt2 : ¬ (l.length : Int) - (a : Int) < (n : Int) := by omega
        obtain ⟨Z, z1, z2, z3, zn⟩ := x2.set1 (a + n)
        have z1 : X.store b 1 [.int .i64 ((a : Int) + (n : Int))] = some Z := z1
        have zc1 : Z.cell b 1 = some (.int .i64 ((a : Int) + (n : Int))) := z2.c1
        have w2 : IntKind.i64.wrap ((a : Int) + (n : Int)) = (a : Int) + (n : Int) := wrap_i64 (by omega) (by omega)
        have e1 : slsV (S l) (some (.int .i64 (a : Int))) (some (.int .i64 ((a : Int) + (n : Int)))) = some (.string (S ((l.drop a).take n))) := by
          simp only [slsV, bound, natOf]
          rw [if_pos (by omega), if_pos (by omega), show ((a : Int) + (n : Int)).toNat = a + n by omega, Int.toNat_natCast]
          simp only
          rw [if_pos ⟨by omega, by omega⟩]
          congr 2
          apply L_inj; rw [L_extract, L_S, L_S, show a + n - a = n by omega]
        have w3 : IntKind.i64.wrap ((a : Int) + (n : Int) - (n : Int)) = (a : Int) := by rw [show (a : Int) + (n : Int) - (n : Int) = (a : Int) by omega]; exact wrap_i64 (by omega) (by omega)
        have w4 : IntKind.i64.wrap (a : Int) = (a : Int) := wrap_i64 (by omega) (by omega)
        simp [x1, x2.c2, x2.c1, x2.c0, hsz, hlt, hlt2, z1, zc1, z2.c0, w1, w2, w3, w4, e1]
        exact ⟨z2, x3.trans z3⟩
    · simp [x1, x2.c2, y1]
      exact ⟨rfl, y2, x3.trans y3⟩
  obtain ⟨v, G', h1, rfl, h2, h3⟩ := key
  exact ⟨G', h1, h2, h3⟩
end Go.AM
