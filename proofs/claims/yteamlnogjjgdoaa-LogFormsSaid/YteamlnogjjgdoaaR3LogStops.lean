/- The law LogStops: true. -/
import Derived.Test.YteamlnogjjgdoaaR3LogBack
namespace Go.AM
open Go.Proofs
set_option linter.unusedVariables false
set_option linter.unusedSimpArgs false
set_option maxRecDepth 100000
attribute [-simp] ByteArray.size_eq_zero_iff
theorem scanGo_stop {q : Int} {bad : ByteArray} {rest : List ByteArray} : ∀ (L : List ByteArray) (S : Sc) (i : Nat), ¬ ((getR bad).2.2.2.2 = 0 ∧ (getR bad).1 = q + ((i + L.length : Nat) : Int)) → scanGo q S i (L ++ bad :: rest) = scanGo q S i L
  | [], S, i, h => by
    have h' : ¬ ((getR bad).2.2.2.2 = 0 ∧ (getR bad).1 = q + (i : Int)) := by simpa using h
    simp only [List.nil_append, scanGo]
    rw [if_neg h']
  | t :: L, S, i, h => by
    rw [List.cons_append, scanGo, scanGo]
    split
    · split
      · exact scanGo_stop L _ (i + 1) (by rw [show i + 1 + L.length = i + (t :: L).length by simp; omega]; exact h)
      · rfl
    · rfl
theorem getR_nil : (getR ⟨#[]⟩).2.2.2.2 ≠ 0 := by unfold getR; rw [if_neg (fun h => absurd h.1 (by decide))]; simp
/-- A log of two transactions with one record that is not taken. -/
theorem scan_bad {xs ys : List Img} {q s : Int} {k m : Nat} {bad : ByteArray} (k1 : MkOk xs q) (hm : m = 4 * xs.length + 1) (hs : s = q + m) (k2 : MkOk ys s) (hk : k < m + (mkRecs ys s).length) (hb : ¬ ((getR bad).2.2.2.2 = 0 ∧ (getR bad).1 = q + (k : Int))) :
    (scanGo q sc0 0 ((((mkRecs xs q).map txtR ++ (mkRecs ys s).map txtR)).set k bad)).done = (if k < m then [] else [xs]) ∧ (scanGo q sc0 0 ((((mkRecs xs q).map txtR ++ (mkRecs ys s).map txtR)).set k bad)).used = (if k < m then 0 else m) := by
  have d1 : ((mkRecs xs q).map txtR).length = m := by rw [List.length_map, mkRecs_len k1, hm]
  have hlt : k < ((mkRecs xs q).map txtR ++ (mkRecs ys s).map txtR).length := by rw [List.length_append, d1, List.length_map]; exact hk
  rw [List.set_eq_take_append_cons_drop, if_pos hlt, scanGo_stop _ _ _ (by rw [List.length_take, Nat.min_eq_left (by omega), Nat.zero_add]; exact hb)]
  by_cases hkm : k < m
  · rw [if_pos hkm, if_pos hkm, List.take_append_of_le_length (by omega)]
    exact scanGo_cut k1 (by rw [mkRecs_len k1, ← hm]; exact hkm)
  · rw [if_neg hkm, if_neg hkm, List.take_append, List.take_of_length_le (by omega), d1]
    have := scan_cut2 (q := q) (s := s) (r := k - m) k1 k2 (by omega)
    rw [hm] at this ⊢
    exact this
theorem logStops_ok (va vb : Value) (xs ys : List Img) (at_ : Int) (lost : Bool) (H : Heap) (ha : Imgs H va xs) (hb : Imgs H vb ys) : call K f_law4_LogStops [va, vb, .int .i64 at_, .bool lost] H = some (.bool true, H) := by
  obtain ⟨p, c, rfl⟩ := ha.slice
  obtain ⟨p', c', rfl⟩ := hb.slice
  refine of_wpf (open_pure rfl fc_law4_LogStops rfl (Nat.le_of_ble_eq_true rfl) ?_)
  obtain ⟨_, G1, c1, E1, v1, rfl, o1⟩ := make_ok _ xs 10 H.roAll ha.roAll
  obtain ⟨m, hm⟩ : ∃ m : Nat, m = (mkRecs xs 10).length := ⟨_, rfl⟩
  have l1 := o1.len
  rw [← hm] at l1
  have hm2 : m ≤ 193 := by
    rw [hm]; by_cases k1 : MkOk xs 10
    · rw [mkRecs_len k1]; have := mkOk_len k1; omega
    · rw [mkRecs, if_neg k1]; simp
  obtain ⟨s, hs⟩ : ∃ s : Int, s = 10 + m := ⟨_, rfl⟩
  have w1 : IntKind.i64.wrap (10 + (m : Int)) = s := by rw [wrap_i64 (by omega) (by omega)]; omega
  obtain ⟨_, G2, c2, E2, v2, rfl, o2⟩ := make_ok _ ys s G1 (hb.roAll.ext E1)
  by_cases k1 : MkOk xs 10
  · have m1 : mkErr xs 10 = 0 := by rw [mkErr, if_pos k1]
    have hx := mkOk_len k1
    rw [mkRecs_len k1] at hm
    by_cases k2 : MkOk ys s
    · have m2 : mkErr ys s = 0 := by rw [mkErr, if_pos k2]
      have hy := mkOk_len k2
      obtain ⟨n, hn⟩ : ∃ n : Nat, n = 4 * ys.length + 1 := ⟨_, rfl⟩
      have l2 := o2.len
      rw [mkRecs_len k2, ← hn] at l2
      have w2 : IntKind.i64.wrap ((m : Int) + (n : Int)) = (m : Int) + n := wrap_i64 (by omega) (by omega)
      have n0 : ¬ (m : Int) < 1 := by omega
      have n1 : ¬ (n : Int) < 1 := by omega
      by_cases k3 : (200 : Int) < (m : Int) + n
      · simp [awake_ok, c1, m1, l1, w1, c2, m2, l2, w2, k3, n0, n1]
      · obtain ⟨t3, G3, c3, E3, o3⟩ := texts_ok v1 _ G2 ((o1.rows encR_len).ext E2) (by rw [mkRecs_len k1]; omega)
        obtain ⟨t4, G4, c4, E4, o4⟩ := texts_ok v2 _ G3 ((o2.rows encR_len).ext E3) (by rw [mkRecs_len k2]; omega)
        have d1 : ((mkRecs xs 10).map txtR).length = m := by rw [List.length_map, mkRecs_len k1, hm]
        have d2 : ((mkRecs ys s).map txtR).length = n := by rw [List.length_map, mkRecs_len k2, hn]
        have en2 := E2.next
        have en3 := E3.next
        have en4 := E4.next
        obtain ⟨v5, G5, c5, o5, E5⟩ := (o3.ext E4).appAny (by omega) (o4.rows encS_len) encS_len encS_one (bytes := 16) (by rw [d1, d2]; omega) (by rw [d1, d2]; omega)
        have l5 := o5.len
        have d5 : ((mkRecs xs 10).map txtR ++ (mkRecs ys s).map txtR).length = m + n := by rw [List.length_append, d1, d2]
        rw [d5] at l5
        obtain ⟨k, hk, hrem⟩ := umod at_ (m + n) (by omega) (by omega)
        have wm := u64_nat (m + n) (by omega)
        rw [Int.natCast_add] at hrem wm
        have wr : IntKind.i64.wrap (k : Int) = k := wrap_i64 (by omega) (by omega)
        have w9 : IntKind.i64.wrap (9 + (k : Int)) = 9 + k := wrap_i64 (by omega) (by omega)
        obtain ⟨b, B, rfl, hbn, hbl, hB, hro, hat, hup⟩ := o5.blkOf encS_len (by intro h; rw [h] at d5; simp at d5; omega)
        rw [d5] at c5 l5
        have hcb : ∀ o, G5.cell b o = B.at_ o := fun o => by simp only [Heap.cell, hB]
        have bk := hat k (by rw [d5]; exact hk) 0 (by omega)
        simp at bk l5
        have E05 : Ext H.roAll G5 := E1.trans (E5 G1 en2 (E2.trans (E3.trans E4)))
        -- what follows the record that is spoilt
        have fin : ∀ bad : ByteArray, ¬ ((getR bad).2.2.2.2 = 0 ∧ (getR bad).1 = 10 + (k : Int)) → ∃ v6 G6, call K f_log_Scan [.slice (some ⟨b, 0, none⟩) (m + n) (2 * (m + n)), .int .i64 10] (G5.set b (some (B.put k (.string bad)))) = some (.tuple #[v6, .int .i64 (if k < m then 10 else 10 + m), .int .i64 ((if k < m then 0 else m : Nat) : Int), .int .i64 0], G6) ∧ lenO v6 = some (.int .i64 ((if k < m then 0 else 1 : Nat) : Int)) ∧ (¬ k < m → call K f_law4_sameTxns [v6, .slice (some ⟨G6.next, 0, none⟩) 1 3] (G6.add (rowBlk 1 [.slice p xs.length c])) = some (.bool true, G6.add (rowBlk 1 [.slice p xs.length c]))) := fun bad hbad => by
          have hO := hup k 0 (by rw [d5]; exact hk) (by omega) bad (.string bad) (fun r (hr : r < 1) => by
            have h0 : r = 0 := by omega
            subst h0; rfl)
          rw [d5] at hO
          simp at hO
          have hR := hO.rows encS_len
          obtain ⟨_, G6, c6, E6, v6, rfl, o6⟩ := scan_ok _ _ 10 _ hR
          obtain ⟨z1, z2⟩ := scan_bad (bad := bad) (k := k) k1 hm hs k2 (by rw [mkRecs_len k2]; omega) hbad
          have sk : scOk (((mkRecs xs 10).map txtR ++ (mkRecs ys s).map txtR).set k bad) 10 := ⟨by omega, by rw [List.length_set, d5]; omega⟩
          refine ⟨v6, G6, ?_, ?_, fun hkm => ?_⟩
          · rw [c6, scNext, scUsed, scErr, if_pos sk, if_pos sk, if_pos sk, scRes, z2]
            by_cases hkm : k < m <;> simp [hkm]
          · have := o6.len
            rw [scTxns, if_pos sk, scRes, z1] at this
            rw [this]
            by_cases hkm : k < m <;> simp [hkm]
          · have h6 := o6.txns
            rw [scTxns, if_pos sk, scRes, z1, if_neg hkm] at h6
            have hnb : H.roAll.next ≤ b := by have := E1.next; omega
            have a6 := ha.roAll.ext ((E05.set hnb (some (B.put k (.string bad)))).trans E6)
            rw [sameTxns_ok v6 _ [xs] [xs] _ (h6.ext ((Ext.refl _).add _)) (txns1 a6), decide_eq_true rfl]
        cases lost
        · have hmay : RMay (9 + (k : Int)) 1 0 ⟨#[]⟩ := ⟨by omega, .inr ⟨by omega, by omega, by omega, by omega, by decide⟩⟩
          obtain ⟨v6, G6, c6, l6, S6⟩ := fin (putR (9 + (k : Int)) 1 0 ⟨#[]⟩).1 (by
            have := getR_txt (r := (9 + (k : Int), 1, 0, ⟨#[]⟩)) hmay
            rw [show (putR (9 + (k : Int)) 1 0 ⟨#[]⟩).1 = txtR (9 + (k : Int), 1, 0, ⟨#[]⟩) from rfl, this]
            simp only; omega)
          by_cases hkm : k < m
          · simp [hkm] at c6 l6
            simp [awake_ok, c1, m1, l1, w1, c2, m2, l2, w2, k3, n0, n1, c3, c4, c5, l5, wm, hrem, wr, hk, hcb, hB, hro, bk, w9, c6, l6, hkm]
          · have S6 := S6 hkm
            simp [hkm] at c6 l6
            rw [← hs] at c6
            simp [awake_ok, c1, m1, l1, w1, c2, m2, l2, w2, k3, n0, n1, c3, c4, c5, l5, wm, hrem, wr, hk, hcb, hB, hro, bk, w9, c6, l6, hkm, S6]
        · obtain ⟨v6, G6, c6, l6, S6⟩ := fin ⟨#[]⟩ (fun h => getR_nil h.1)
          by_cases hkm : k < m
          · simp [hkm] at c6 l6
            simp [awake_ok, c1, m1, l1, w1, c2, m2, l2, w2, k3, n0, n1, c3, c4, c5, l5, wm, hrem, wr, hk, hcb, hB, hro, bk, c6, l6, hkm]
          · have S6 := S6 hkm
            simp [hkm] at c6 l6
            rw [← hs] at c6
            simp [awake_ok, c1, m1, l1, w1, c2, m2, l2, w2, k3, n0, n1, c3, c4, c5, l5, wm, hrem, wr, hk, hcb, hB, hro, bk, c6, l6, hkm, S6]
    · have m2 : mkErr ys s = 400 := by rw [mkErr, if_neg k2]
      simp [awake_ok, c1, m1, l1, w1, c2, m2]
  · have m1 : mkErr xs 10 = 400 := by rw [mkErr, if_neg k1]
    simp [awake_ok, c1, m1, l1, w1, c2]
end Go.AM
