/- The law LogLater: true. -/
import Derived.Test.YteamlnogjjgdoaaR3W
namespace Go.AM
open Go.Proofs
set_option linter.unusedVariables false
set_option linter.unusedSimpArgs false
set_option maxRecDepth 100000
attribute [-simp] ByteArray.size_eq_zero_iff
theorem OwnT.len0 {n0 H v} (h : OwnT n0 H v []) : lenO v = some (.int .i64 0) := by
  obtain ⟨vs, D, _, h1, h2⟩ := h
  have := h2.length
  have hl := h1.len
  simp at this; subst this; exact hl
theorem q_ok (seq : Int) : ∃ q : Int, IntKind.i64.wrap (1 + bits .and .i64 seq 65535) = q ∧ 1 ≤ q ∧ q ≤ 65536 := by
  rw [and65535, wrap_i64 (by omega) (by omega)]; exact ⟨_, rfl, by omega, by omega⟩
theorem scOk_txt {xs : List Img} {s q : Int} (hk : MkOk xs s) (hq : 1 ≤ q ∧ q ≤ 2147483647) : scErr ((mkRecs xs s).map txtR) q = 0 := by rw [scErr, if_pos (scOk_made hk hq)]
theorem logLater_ok (va vb : Value) (xs ys : List Img) (seq : Int) (H : Heap) (ha : Imgs H va xs) (hb : Imgs H vb ys) : call K f_law4_LogLater [va, vb, .int .i64 seq] H = some (.bool true, H) := by
  obtain ⟨p, c, rfl⟩ := ha.slice
  obtain ⟨p', c', rfl⟩ := hb.slice
  refine of_wpf (open_pure rfl fc_law4_LogLater rfl (Nat.le_of_ble_eq_true rfl) ?_)
  obtain ⟨q, hq, q1, q2⟩ := q_ok seq
  obtain ⟨_, G1, c1, E1, v1, rfl, o1⟩ := make_ok _ xs q H.roAll ha.roAll
  by_cases k1 : MkOk xs q
  · have m1 : mkErr xs q = 0 := by rw [mkErr, if_pos k1]
    have hx := mkOk_len k1
    obtain ⟨m, hm⟩ : ∃ m : Nat, m = 4 * xs.length + 1 := ⟨_, rfl⟩
    have l1 := o1.len
    rw [mkRecs_len k1, ← hm] at l1
    obtain ⟨s, hs⟩ : ∃ s : Int, s = q + m := ⟨_, rfl⟩
    have w1 : IntKind.i64.wrap (q + (m : Int)) = s := by rw [wrap_i64 (by omega) (by omega)]; omega
    obtain ⟨_, G2, c2, E2, v2, rfl, o2⟩ := make_ok _ ys s G1 (hb.roAll.ext E1)
    by_cases k2 : MkOk ys s
    · have m2 : mkErr ys s = 0 := by rw [mkErr, if_pos k2]
      have hy := mkOk_len k2
      obtain ⟨n, hn⟩ : ∃ n : Nat, n = 4 * ys.length + 1 := ⟨_, rfl⟩
      have l2 := o2.len
      rw [mkRecs_len k2, ← hn] at l2
      have w2 : IntKind.i64.wrap (s + (n : Int)) = s + n := wrap_i64 (by omega) (by omega)
      obtain ⟨t3, G3, c3, E3, o3⟩ := texts_ok v2 _ G2 (o2.rows encR_len) (by rw [mkRecs_len k2]; omega)
      obtain ⟨_, G4, c4, E4, v4, rfl, o4⟩ := scan_ok t3 _ s G3 (o3.rows encS_len)
      obtain ⟨t5, G5, c5, E5, o5⟩ := texts_ok v2 _ G4 ((o2.rows encR_len).ext (E3.trans E4)) (by rw [mkRecs_len k2]; omega)
      obtain ⟨_, G6, c6, E6, v6, rfl, o6⟩ := scan_ok t5 _ q G5 (o5.rows encS_len)
      obtain ⟨fl, hs4⟩ := scan_made k2
      have hs6 := scan_off (q := q) k2 (by omega)
      have k4 := scOk_made (q := s) k2 (by omega)
      have k6 := scOk_made (q := q) k2 (by omega)
      have z4 := scOk_txt (q := s) k2 (by omega)
      have z6 := scOk_txt (q := q) k2 (by omega)
      have n4 : scNext ((mkRecs ys s).map txtR) s = s + n := by rw [scNext, if_pos k4, hs4, hn]
      have u4 : scUsed ((mkRecs ys s).map txtR) s = n := by rw [scUsed, if_pos k4, hs4, hn]
      have n6 : scNext ((mkRecs ys s).map txtR) q = q := by rw [scNext, if_pos k6, hs6]; simp [sc0]
      have u6 : scUsed ((mkRecs ys s).map txtR) q = 0 := by rw [scUsed, if_pos k6, hs6]; rfl
      have d6 : scTxns ((mkRecs ys s).map txtR) q = [] := by rw [scTxns, if_pos k6, hs6]; rfl
      rw [d6] at o6
      have l6 := o6.len0
      have hT : ∀ B, Txns (G6.add B) v4 [ys] := fun B => by
        have := o4.txns
        rw [scTxns, if_pos k4, hs4] at this
        exact this.ext ((E5.trans E6).trans ((Ext.refl _).add B))
      have hSame : call K f_law4_sameTxns [v4, .slice (some ⟨G6.next, 0, none⟩) 1 3] (G6.add (rowBlk 1 [.slice p' ys.length c'])) = some (.bool true, G6.add (rowBlk 1 [.slice p' ys.length c'])) := by
        rw [sameTxns_ok v4 _ [ys] [ys] _ (hT _) (txns1 (hb.roAll.ext (E1.trans (E2.trans (E3.trans (E4.trans (E5.trans E6)))))))]
        simp
      simp [awake_ok, hq, c1, m1, l1, w1, c2, m2, l2, c3, c4, c5, c6, z4, z6, n4, u4, n6, u6, l6, hSame, w2]
    · have m2 : mkErr ys s = 400 := by rw [mkErr, if_neg k2]
      have l2 := o2.len
      rw [mkRecs, if_neg k2] at l2
      simp [awake_ok, hq, c1, m1, l1, w1, c2, m2, l2]
  · have m1 : mkErr xs q = 400 := by rw [mkErr, if_neg k1]
    have l1 := o1.len
    rw [mkRecs, if_neg k1] at l1
    simp [awake_ok, hq, c1, m1, l1]
end Go.AM
