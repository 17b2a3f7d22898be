/- The law LogBack: true. -/
import Derived.Test.YteamlnogjjgdoaaR3LogEmpty
namespace Go.AM
open Go.Proofs
set_option linter.unusedVariables false
set_option linter.unusedSimpArgs false
set_option maxRecDepth 100000
attribute [-simp] ByteArray.size_eq_zero_iff
theorem scan_two {xs ys : List Img} {q s : Int} (k1 : MkOk xs q) (hs : s = q + (4 * xs.length + 1 : Nat)) (k2 : MkOk ys s) : ∃ fl, scanGo q sc0 0 ((mkRecs xs q).map txtR ++ (mkRecs ys s).map txtR) = ⟨[xs, ys], 4 * xs.length + 1 + (4 * ys.length + 1), [], 0, fl⟩ := by
  obtain ⟨fl, e⟩ := scanGo_txn (seq := q) (S := sc0) (i := 0) (ts := (mkRecs ys s).map txtR) rfl rfl (by simp) k1
  obtain ⟨fl2, e2⟩ := scanGo_txn (seq := q) (S := ⟨sc0.done ++ [xs], 0 + 4 * xs.length + 1, [], 0, fl⟩) (i := 0 + 4 * xs.length + 1) (ts := []) rfl rfl (by omega) k2
  rw [List.append_nil] at e2
  refine ⟨fl2, ?_⟩
  rw [e, e2]
  simp [scanGo, sc0]; omega
theorem scan_cut2 {xs ys : List Img} {q s : Int} {r : Nat} (k1 : MkOk xs q) (k2 : MkOk ys s) (hr : r < (mkRecs ys s).length) : (scanGo q sc0 0 ((mkRecs xs q).map txtR ++ ((mkRecs ys s).map txtR).take r)).done = [xs] ∧ (scanGo q sc0 0 ((mkRecs xs q).map txtR ++ ((mkRecs ys s).map txtR).take r)).used = 4 * xs.length + 1 := by
  obtain ⟨fl, e⟩ := scanGo_txn (seq := q) (S := sc0) (i := 0) (ts := ((mkRecs ys s).map txtR).take r) rfl rfl (by simp) k1
  obtain ⟨h1, h2⟩ := scanGo_cut (seq := q) (S := ⟨sc0.done ++ [xs], 0 + 4 * xs.length + 1, [], 0, fl⟩) (i := 0 + 4 * xs.length + 1) k2 hr
  rw [e, h1, h2]
  simp [sc0]
theorem logBack_ok (va vb : Value) (xs ys : List Img) (seq cut : Int) (H : Heap) (ha : Imgs H va xs) (hb : Imgs H vb ys) : call K f_law4_LogBack [va, vb, .int .i64 seq, .int .i64 cut] H = some (.bool true, H) := by
  obtain ⟨p, c, rfl⟩ := ha.slice
  obtain ⟨p', c', rfl⟩ := hb.slice
  refine of_wpf (open_pure rfl fc_law4_LogBack rfl (Nat.le_of_ble_eq_true rfl) ?_)
  obtain ⟨q, hq, q1, q2⟩ := q_ok seq
  obtain ⟨_, G1, c1, E1, v1, rfl, o1⟩ := make_ok _ xs q H.roAll ha.roAll
  by_cases k1 : MkOk xs q
  · have m1 : mkErr xs q = 0 := by rw [mkErr, if_pos k1]
    have hx := mkOk_len k1
    obtain ⟨m, hm⟩ : ∃ m : Nat, m = 4 * xs.length + 1 := ⟨_, rfl⟩
    have l1 := o1.len
    rw [mkRecs_len k1, ← hm] at l1
    obtain ⟨s, hs⟩ : ∃ s : Int, s = q + m := ⟨_, rfl⟩
    have w1 : IntKind.i64.wrap (q + (m : Int)) = s := by rw [wrap_i64 (by omega) (by omega)]; omega
    obtain ⟨_, G2, c2, E2, v2, rfl, o2⟩ := make_ok _ ys s G1 (hb.roAll.ext E1)
    by_cases k2 : MkOk ys s
    · have m2 : mkErr ys s = 0 := by rw [mkErr, if_pos k2]
      have hy := mkOk_len k2
      obtain ⟨n, hn⟩ : ∃ n : Nat, n = 4 * ys.length + 1 := ⟨_, rfl⟩
      have l2 := o2.len
      rw [mkRecs_len k2, ← hn] at l2
      have w2 : IntKind.i64.wrap ((m : Int) + (n : Int)) = ((m + n : Nat) : Int) := by rw [wrap_i64 (by omega) (by omega)]; omega
      simp at w2
      have n1 : ¬ (n : Int) < 1 := by omega
      have n2 : (0 : Int) < n := by omega
      have n3 : 0 < n := by omega
      by_cases k3 : (200 : Int) < (m : Int) + n
      · simp [awake_ok, hq, c1, m1, l1, w1, c2, m2, l2, w2, k3, n2, n3]
      · obtain ⟨t3, G3, c3, E3, o3⟩ := texts_ok v1 _ G2 ((o1.rows encR_len).ext E2) (by rw [mkRecs_len k1]; omega)
        obtain ⟨t4, G4, c4, E4, o4⟩ := texts_ok v2 _ G3 ((o2.rows encR_len).ext E3) (by rw [mkRecs_len k2]; omega)
        have d1 : ((mkRecs xs q).map txtR).length = m := by rw [List.length_map, mkRecs_len k1, hm]
        have d2 : ((mkRecs ys s).map txtR).length = n := by rw [List.length_map, mkRecs_len k2, hn]
        have en3 := E3.next
        have en4 := E4.next
        obtain ⟨v5, G5, c5, o5, E5⟩ := (o3.ext E4).appAny (by omega) (o4.rows encS_len) encS_len encS_one (bytes := 16) (by rw [d1, d2]; omega) (by rw [d1, d2]; omega)
        have l5 := o5.len
        rw [List.length_append, d1, d2] at l5
        simp at l5
        obtain ⟨_, G6, c6, E6, v6, rfl, o6⟩ := scan_ok v5 _ q G5 (o5.rows encS_len)
        obtain ⟨r, hr, hrem⟩ := umod cut n (by omega) (by omega)
        have wm := u64_nat n (by omega)
        have wr : IntKind.i64.wrap (r : Int) = r := wrap_i64 (by omega) (by omega)
        obtain ⟨k, hk⟩ : ∃ k : Nat, k = m + r := ⟨_, rfl⟩
        have wk : IntKind.i64.wrap ((m : Int) + (r : Int)) = (k : Int) := by rw [wrap_i64 (by omega) (by omega)]; omega
        obtain ⟨u, hu, hur⟩ := (o5.ext E6).cut encS_len k (by rw [List.length_append, d1, d2]; omega)
        have htk : ((mkRecs xs q).map txtR ++ (mkRecs ys s).map txtR).take k = (mkRecs xs q).map txtR ++ ((mkRecs ys s).map txtR).take r := by
          rw [List.take_append, List.take_of_length_le (by omega), d1, show k - m = r by omega]
        rw [htk] at hur
        obtain ⟨_, G7, c7, E7, v7, rfl, o7⟩ := scan_ok u _ q G6 hur
        obtain ⟨fl, hs6⟩ := scan_two k1 (by rw [hs, hm]) k2
        obtain ⟨hs7, hu7⟩ := scan_cut2 (q := q) (s := s) (r := r) k1 k2 (by rw [mkRecs_len k2]; omega)
        have s6 : scOk ((mkRecs xs q).map txtR ++ (mkRecs ys s).map txtR) q := ⟨by omega, by rw [List.length_append, d1, d2]; omega⟩
        have s7 : scOk ((mkRecs xs q).map txtR ++ ((mkRecs ys s).map txtR).take r) q := ⟨by omega, by rw [List.length_append, List.length_take, d1, d2]; omega⟩
        have z6 : scErr ((mkRecs xs q).map txtR ++ (mkRecs ys s).map txtR) q = 0 := by rw [scErr, if_pos s6]
        have z7 : scErr ((mkRecs xs q).map txtR ++ ((mkRecs ys s).map txtR).take r) q = 0 := by rw [scErr, if_pos s7]
        have u6 : scUsed ((mkRecs xs q).map txtR ++ (mkRecs ys s).map txtR) q = m + n := by rw [scUsed, if_pos s6, scRes, hs6, hm, hn]
        have u7 : scUsed ((mkRecs xs q).map txtR ++ ((mkRecs ys s).map txtR).take r) q = m := by rw [scUsed, if_pos s7, scRes, hu7, hm]
        have x6 : scNext ((mkRecs xs q).map txtR ++ (mkRecs ys s).map txtR) q = q + ((m : Int) + n) := by rw [scNext, if_pos s6, scRes, hs6, hm, hn]; simp
        have x7 : scNext ((mkRecs xs q).map txtR ++ ((mkRecs ys s).map txtR).take r) q = s := by rw [scNext, if_pos s7, scRes, hu7, hs, hm]
        have E57 : Ext H.roAll G7 := (((E5 G1 (E2.next) ((E2.trans (E3.trans E4)))).trans (E6.trans E7)) |> fun h => E1.trans h)
        have b7 := hb.roAll.ext E57
        have a7 := ha.roAll.ext E57
        have hT6 : Txns G7 v6 [xs, ys] := by
          have := o6.txns
          rw [scTxns, if_pos s6, scRes, hs6] at this
          exact this.ext E7
        have hT7 : Txns G7 v7 [xs] := by
          have := o7.txns
          rw [scTxns, if_pos s7, scRes, hs7] at this
          exact this
        have S6 : ∀ B, B = rowBlk 1 [.slice p xs.length c, .slice p' ys.length c'] → call K f_law4_sameTxns [v6, .slice (some ⟨G7.next, 0, none⟩) 2 5] (G7.add B) = some (.bool true, G7.add B) := fun B hB => by
          subst hB
          rw [sameTxns_ok v6 _ [xs, ys] [xs, ys] _ (hT6.ext ((Ext.refl _).add _)) (txns2 a7 b7), decide_eq_true rfl]
        have S7 : ∀ B B', B' = rowBlk 1 [.slice p xs.length c] → call K f_law4_sameTxns [v7, .slice (some ⟨G7.next + 1, 0, none⟩) 1 3] ((G7.add B).add B') = some (.bool true, (G7.add B).add B') := fun B B' hB => by
          subst hB
          have := sameTxns_ok v7 (.slice (some ⟨(G7.add B).next, 0, none⟩) 1 3) [xs] [xs] _ (hT7.ext (((Ext.refl _).add B).add (rowBlk 1 [.slice p xs.length c]))) (txns1 (a7.ext ((Ext.refl _).add B)))
          rw [decide_eq_true rfl] at this
          exact this
        have w3 : IntKind.i64.wrap (q + ((m : Int) + (n : Int))) = q + ((m : Int) + n) := wrap_i64 (by omega) (by omega)
        simp [awake_ok, hq, c1, m1, l1, w1, c2, m2, l2, w2, k3, n1, n2, n3, c3, c4, c5, c6, wm, hrem, wr, wk, hu, c7, z6, z7, u6, u7, x6, x7, l5, S6, S7, w3]
    · have m2 : mkErr ys s = 400 := by rw [mkErr, if_neg k2]
      have l2 := o2.len
      rw [mkRecs, if_neg k2] at l2
      simp [awake_ok, hq, c1, m1, l1, w1, c2, m2, l2]
  · have m1 : mkErr xs q = 400 := by rw [mkErr, if_neg k1]
    have l1 := o1.len
    rw [mkRecs, if_neg k1] at l1
    simp [awake_ok, hq, c1, m1, l1]
end Go.AM
