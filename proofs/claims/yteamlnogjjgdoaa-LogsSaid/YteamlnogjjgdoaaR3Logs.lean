/- The law Logs: true. -/
import Derived.Test.YteamlnogjjgdoaaR3N
namespace Go.AM
open Go.Proofs
set_option linter.unusedVariables false
set_option linter.unusedSimpArgs false
set_option maxRecDepth 100000
attribute [-simp] ByteArray.size_eq_zero_iff
theorem logs_ok (va vb : Value) (xs : List Img) (rs : List ByteArray) (seq : Int) (H : Heap) (ha : Imgs H va xs) (hb : Strs H vb rs) (hz : EszOk H 1 vb) (wa : (xs.length + 2) * 24 ≤ 140737488355328) (wb : (rs.length + 2) * 16 ≤ 140737488355328) : call K f_law4_Logs [va, vb, .int .i64 seq] H = some (.bool true, H) := by
  obtain ⟨p, c, rfl⟩ := ha.slice
  obtain ⟨p', c', rfl⟩ := hb.slice
  refine of_wpf (open_pure rfl fc_law4_Logs rfl (Nat.le_of_ble_eq_true rfl) ?_)
  obtain ⟨v1, G1, c1, E1, o1⟩ := lendI_ok _ xs H.roAll ha.roAll wa
  obtain ⟨v2, G2, c2, E2, o2⟩ := lendS_ok _ rs G1 (hb.roAll.ext E1) wb
  obtain ⟨_, G3, c3, E3, v3, rfl, o3⟩ := make_ok v1 xs seq G2 ((o1.rows encI_len).ext E2)
  obtain ⟨_, G4, c4, E4, v4, rfl, o4⟩ := rmake_ok _ xs seq G3 (ha.roAll.ext (E1.trans (E2.trans E3)))
  obtain ⟨_, G5, c5, E5, v5, rfl, o5⟩ := scan_ok v2 rs seq G4 ((o2.rows encS_len).ext (E3.trans E4))
  have E15 := E1.trans (E2.trans (E3.trans (E4.trans E5)))
  have hz5 : EszOk G5 1 (.slice p' rs.length c') := by
    intro b o n cc e
    cases e
    obtain ⟨_, p2, c2', e2, hp⟩ := hb
    cases e2
    rcases hp with ⟨hh, _⟩ | ⟨b3, o3', e3, hb3, _⟩
    · cases hh
    · cases e3
      refine (hz _ _ _ _ rfl).imp id fun h => ?_
      unfold Heap.eszIs at h ⊢
      rw [E15.blk _ hb3, blk_roAll]
      cases hB : H.blk b with
      | none => rw [hB] at h; cases h
      | some B => rw [hB] at h; exact h
  obtain ⟨_, G6, c6, E6, v6, rfl, o6⟩ := rscan_ok _ rs seq G5 (hb.roAll.ext E15) hz5
  have E36 := E4.trans (E5.trans E6)
  have r3 := (o3.rows encR_len).ext E36
  have r4 := (o4.rows encR_len).ext (E5.trans E6)
  have hSR : call K f_law0_SameRecords [v3, v4] G6 = some (.bool true, G6) := by rw [sameRecords_ok _ _ _ _ _ r3 r4, decide_eq_true rfl]
  have hST : call K f_law4_sameTxns [v5, v6] G6 = some (.bool true, G6) := by rw [sameTxns_ok _ _ _ _ _ (o5.txns.ext E6) o6, decide_eq_true rfl]
  obtain ⟨r7, G7, c7, n7, f7, _⟩ := spoilR_ok (n0 := G2.next) (H := G6) (v := v3) ((o3.ext E36).numR)
  have e3 := E3.next; have e4 := E4.next; have e5 := E5.next; have e6 := E6.next; have e2 := E2.next
  have E27 : Ext G2 G7 := ⟨by omega, fun b hb => by
    rw [f7 b (o3.notIn hb)]; exact ((E3.trans E36).blk b hb)⟩
  obtain ⟨vs, D, hD, od, oe⟩ := o5
  have hfar : ∀ b, G4.next ≤ b → G7.blk b = G6.blk b := fun b hb => f7 b (o3.below.notIn (by omega))
  have od7 : Own encV 1 D G7 v5 vs := (od.ext E6).frame (by omega) fun b h1 h2 _ => hfar b (by omega)
  have oe7 : ∀ (i : Nat) (hi : i < vs.length), NumC G4.next 2 0 G7 vs[i] ∧ BelowB vs[i] D := fun i hi => by
    obtain ⟨x, h1, h2⟩ := oe.get (List.getElem?_eq_getElem hi)
    exact ⟨((h2.1.ext E6).frame (by omega) fun b h1 h2 _ => hfar b (by omega)).numI, h2.2⟩
  obtain ⟨q5, d5, h5, _⟩ := od.slc
  subst h5
  simp [c1, c2, c3, c4, c5, c6, hSR, hST, c7]
  refine wp_nxt (wp_for (fun d e G => ∃ i : Nat, d = vs.length - i ∧ i ≤ vs.length ∧ e 13 = .slice q5 vs.length d5 ∧ e 21 = .int .i64 (i : Int) ∧ e 0 = .slice p xs.length c ∧ e 1 = .slice p' rs.length c' ∧ e 7 = v1 ∧ e 8 = v2 ∧ Ext G2 G ∧ Own encV 1 D G (.slice q5 vs.length d5) vs ∧ ∀ (i : Nat) (hi : i < vs.length), NumC G4.next 2 0 G vs[i]) vs.length ⟨0, by simp, by simp, by simp, by simp, by simp, by simp, by simp, by simp, E27, od7, fun i hi => (oe7 i hi).1⟩ ?_)
  rintro d e G ⟨i, rfl, hi, h13, h21, h0, h1, h7, h8, hE, hO, hN⟩
  by_cases hlt : i < vs.length
  · obtain ⟨b, o, hp, hbn, k0⟩ := (hO.rows encV_len).at1 hlt
    cases hp
    obtain ⟨r8, G8, c8, n8, f8, g8⟩ := spoilI_ok (hN i hlt)
    have hbel := (oe7 i hlt).2
    have hvl := hO.lim
    have hlow : ∀ k, k < G4.next → G8.blk k = G.blk k := fun k hk => f8 k (fun a n c e => by
      rcases hN i hlt with hh | ⟨b', n', c', B', e', g1, _⟩
      · rw [hh] at e; cases e
      · rw [e'] at e; cases e; simp only; omega)
    simp at k0
    simp [c_law4_Logs_l13, h13, h21, hlt, k0, c8]
    exact ⟨vs.length - (i + 1), by omega, i + 1, rfl, hlt, wrap_succ (by omega), h0, h1, h7, h8, ⟨by have := hE.next; omega, fun k hk => by rw [hlow k (by omega)]; exact hE.blk k hk⟩, hO.frame (by omega) fun k h1 h2 _ => f8 k (hbel.notIn h1), fun j hj => g8 _ (hN j hj)⟩
  · obtain rfl : i = vs.length := by omega
    have hKI := keptI_ok v1 (.slice p xs.length c) xs H.roAll.next G (o1.ext (E2.trans hE)) (ha.roAll.ext (E1.trans (E2.trans hE)))
    have hKT := keptS_ok v2 (.slice p' rs.length c') rs G1.next G (o2.ext hE) (hb.roAll.ext (E1.trans (E2.trans hE)))
    simp [c_law4_Logs_l13, h13, h21, h0, h1, h7, h8, hKI, hKT, awake_ok]
end Go.AM
