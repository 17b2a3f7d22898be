import Derived.Test.YtiiliffoclejlaaR6CodeL
import Derived.Test.YtiiliffoclejlaaR6J7
/- The law Plans: true. -/
namespace Go.AM
open Go.Proofs
set_option linter.unusedVariables false
set_option linter.unusedSimpArgs false
set_option maxRecDepth 100000
attribute [-simp] ByteArray.size_eq_zero_iff
theorem freshR_size (p : Pg) : ∀ s ∈ (freshR p).2.1.text, s.size ≤ 1000000 := fun s hs => by
  rw [freshR] at hs
  split at hs
  · rename_i hr
    have := (pgRoom_of hr).2.2.2.2.1 s hs
    omega
  · cases hs
theorem comm_size (p : Pg) (is : List Img) : ∀ s ∈ (comm p is).2.1.text, s.size ≤ 1000000 := fun s hs => by
  rw [comm] at hs
  split at hs
  · rename_i h
    obtain ⟨hr, hi⟩ := h
    have h5 := (pgRoom_of hr).2.2.2.2.1
    split at hs
    · have := h5 s hs; omega
    · have hb : (baseP p is).text = p.text := by unfold baseP; split <;> rfl
      have : s.size ≤ 96 := applyI_size (fun x hx => (imOk_mem hi x hx).2) (b := p.text) h5 s (by rw [← hb]; exact hs)
      omega
  · cases hs
def plansTail : IC := (.seq (.reg c_law8_Plans_r8) (.seq (.reg c_law8_Plans_r9) (.seq (.reg c_law8_Plans_r10) (.seq (.reg c_law8_Plans_r11) (.seq (.reg c_law8_Plans_r12) .ret)))))
def plansCode : IFn := ⟨(.seq (.reg c_law8_Plans_r0) (.seq (.reg c_law8_Plans_r1) (.seq (.reg c_law8_Plans_r2) (.seq (.reg c_law8_Plans_r3) (.seq (.reg c_law8_Plans_r4) (.seq (.reg c_law8_Plans_r5) (.seq (.seq (.regd c_law8_Plans_r6 [(36, 37)]) (.cond (.t 95) (.seq (.reg c_law8_Plans_r7) .ret) .skip)) plansTail))))))), 115, [.tmp 4]⟩
theorem fc_plans : fnAt Try.prog f_law8_Plans = some plansCode := fc_law8_Plans
/-- steps and a pager that are handed out -/
structure Out (A F : Heap) (lim : Nat) (sv tv : Value) (ss : List Stp) (q : Pg) : Prop where
  s : Own encSt 3 A.next F sv ss
  t : OwnZ encS 1 A.next F tv q.text
  sep : ∀ b, ¬ NotIn sv b → NotIn tv b
  fs : ∀ b, lim ≤ b → NotIn sv b
  ft : ∀ b, lim ≤ b → NotIn tv b
theorem plans_law (tv iv : Value) (p : Pg) (is : List Img) (H : Heap) (hT : Strs H tv p.text) (hI : Imgs H iv is) (hl : (p.text.length + 2) * 16 ≤ 140737488355328) (hi : (is.length + 2) * 24 ≤ 140737488355328) : call K f_law8_Plans [pgV p tv, iv] H = some (.bool true, H) := by
  refine of_wpf (open_pure rfl fc_plans rfl (Nat.le_of_ble_eq_true rfl) ?_)
  obtain ⟨qt, kt, rfl⟩ := hT.slice
  obtain ⟨A0, hA0⟩ : ∃ A0, A0 = H.roAll.add (rowBlk 5 [.int .i64 p.hn, .int .i64 p.hs, .int .i64 p.next, .int .i64 p.used, .slice qt p.text.length kt]) := ⟨_, rfl⟩
  have E0 : Ext H.roAll A0 := by rw [hA0]; exact (Ext.refl _).add _
  have b0 : A0.blk H.next = some (rowBlk 5 [.int .i64 p.hn, .int .i64 p.hs, .int .i64 p.next, .int .i64 p.used, .slice qt p.text.length kt]) := by rw [hA0]; simp [Heap.add]
  have n0 : A0.next = H.next + 1 := by rw [hA0]; simp
  have cp : ∀ G, Ext A0 G → G.cell H.next = (rowBlk 5 [.int .i64 p.hn, .int .i64 p.hs, .int .i64 p.next, .int .i64 p.used, .slice qt p.text.length kt]).at_ := fun G hG => by funext o; simp only [Heap.cell, hG.blk _ (show H.next < A0.next by omega), b0]
  have T0 : Strs A0 (.slice qt p.text.length kt) p.text := hT.roAll.ext E0
  obtain ⟨_, G1, c1, E1, t1, rfl, o1⟩ := copyP_ok p _ A0 T0 hl
  obtain ⟨q1, k1, rfl⟩ := (o1.rows encS_len).slice
  obtain ⟨lv, G2, c2, E2, L2⟩ := lendI_ok iv is G1 ((hI.roAll.ext E0).ext E1) hi
  obtain ⟨pl, kl, rfl⟩ := (L2.rows encI_len).slice
  obtain ⟨q1', k1', A1, hq1, hA1, nA1, X1, F1⟩ := stageP (p := p) ((o1.rows encS_len).ext E2) (n := p.text.length) rfl
  obtain ⟨rfl, _, rfl⟩ := Value.slice.inj hq1
  obtain ⟨⟨x0, x1, x2, x3, x4⟩, T1⟩ := F1 A1 (Ext.refl _)
  have E01 : Ext A0 A1 := E1.trans (E2.trans X1)
  -- plan.Fresh
  obtain ⟨_, G3, u3, E3, s3, t3, rfl, oS3, oT3, sep3⟩ := fresh_ok p _ A1 T1
  obtain ⟨ps3, ks3, rfl⟩ := (oS3.rows encSt_len).slice
  obtain ⟨q3, k3, A2, rfl, hA2, nA2, X3, F3⟩ := stageP (p := (freshR p).2.1) (oT3.rows encS_len) (n := (freshR p).2.1.text.length) rfl
  have E12 : Ext A1 A2 := E3.trans X3
  -- ref1.Fresh
  obtain ⟨_, G4, u4, E4, s4, t4, rfl, oS4, oT4, sep4⟩ := rfresh_ok p _ A2 (T0.ext (E01.trans E12))
  obtain ⟨ps4, ks4, rfl⟩ := (oS4.rows encSt_len).slice
  obtain ⟨q4, k4, A3, rfl, hA3, nA3, X4, F4⟩ := stageP (p := (freshR p).2.1) (oT4.rows encS_len) (n := (freshR p).2.1.text.length) rfl
  have E23 : Ext A2 A3 := E4.trans X4
  -- plan.Commit
  have E13 : Ext A1 A3 := E12.trans E23
  obtain ⟨⟨y0, y1, y2, y3, y4⟩, T3⟩ := F1 A3 E13
  have L3 := L2.ext (X1.trans E13)
  obtain ⟨_, G5, u5, E5, s5, t5, rfl, oS5, oT5, sep5⟩ := pcommit_ok p _ _ is A3 T3 (L3.rows encI_len)
  obtain ⟨ps5, ks5, rfl⟩ := (oS5.rows encSt_len).slice
  obtain ⟨q5, k5, A4, rfl, hA4, nA4, X5, F5⟩ := stageP (p := (comm p is).2.1) (oT5.rows encS_len) (n := (comm p is).2.1.text.length) rfl
  have E34 : Ext A3 A4 := E5.trans X5
  -- ref1.Commit
  obtain ⟨_, G6, u6, E6, s6, t6, rfl, oS6, oT6, sep6⟩ := rcommit_ok p _ iv is A4 (T0.ext (E01.trans (E13.trans E34))) (((hI.roAll.ext E0).ext E01).ext (E13.trans E34))
  obtain ⟨ps6, ks6, rfl⟩ := (oS6.rows encSt_len).slice
  obtain ⟨q6, k6, A5, rfl, hA5, nA5, X6, F6⟩ := stageP (p := (comm p is).2.1) (oT6.rows encS_len) (n := (comm p is).2.1.text.length) rfl
  have E45 : Ext A4 A5 := E6.trans X6
  have E25 : Ext A2 A5 := E23.trans (E34.trans E45)
  have E35 : Ext A3 A5 := E34.trans E45
  have E15 : Ext A1 A5 := E12.trans E25
  -- they are alike
  obtain ⟨⟨f30, f31, f32, f33, f34⟩, V3⟩ := F3 A5 E25
  obtain ⟨⟨f40, f41, f42, f43, f44⟩, V4⟩ := F4 A5 E35
  obtain ⟨⟨f50, f51, f52, f53, f54⟩, V5⟩ := F5 A5 E45
  obtain ⟨⟨f60, f61, f62, f63, f64⟩, V6⟩ := F6 A5 (Ext.refl _)
  obtain ⟨⟨f10, f11, f12, f13, f14⟩, V1⟩ := F1 A5 E15
  have sm1 := sameSteps_ok _ _ _ _ A5 ((oS3.rows encSt_len).ext (X3.trans E25)) ((oS4.rows encSt_len).ext (X4.trans E35))
  have sm2 := samePg_ok _ _ _ _ A5 V3 V4
  have sm3 := sameSteps_ok _ _ _ _ A5 ((oS5.rows encSt_len).ext (X5.trans E45)) ((oS6.rows encSt_len).ext X6)
  have sm4 := samePg_ok _ _ _ _ A5 V5 V6
  rw [decide_eq_true rfl] at sm1 sm2 sm3 sm4
  have my1 := pmay_ok p _ A5 V1
  have my2 := rpmay_ok p _ A5 (T0.ext (E01.trans E15))
  obtain ⟨fv, Y1, z1, D1, R1⟩ := format_ok A5
  obtain ⟨gv, Y2, z2, D2, R2⟩ := rformat_ok Y1
  have sm5 := sameSteps_ok _ _ _ _ Y2 (R1.ext D2) R2
  rw [decide_eq_true rfl] at sm5
  have D5 : Ext A5 Y2 := D1.trans D2
  -- what is spoilt
  have e12 := E12.next; have e23 := E23.next; have e34 := E34.next; have e45 := E45.next; have d5 := D5.next
  have e3 := E3.next; have e5 := E5.next
  obtain ⟨_, S1, v1, P1⟩ := spoilSt_ok (oS3.ext (X3.trans (E25.trans D5)))
  have p1n := P1.next
  have oT3' : OwnZ encS 1 A1.next S1 (.slice q3 (freshR p).2.1.text.length k3) (freshR p).2.1.text := (oT3.ext (X3.trans (E25.trans D5))).frame p1n fun b _ hb hn => P1.blk b hb (Classical.byContradiction fun hx => hn (sep3 b hx))
  have F8 : ∀ o, S1.cell G3.next o = Y2.cell G3.next o := fun o => by
    simp only [Heap.cell, P1.blk G3.next (by omega) ((oS3.rows encSt_len).far (Nat.le_refl _))]
  obtain ⟨_, S2, v2, P2⟩ := spoilP_ok oT3' (freshR_size p)
  have p2n := P2.next
  have S2b : ∀ b, b < Y2.next → (A2.next ≤ b ∨ b < A1.next) → S2.blk b = Y2.blk b := fun b hb hor => by
    rw [P2.blk b (by omega) ?_, P1.blk b hb ?_]
    · rcases hor with h | h
      · exact (oS3.rows encSt_len).far (by omega)
      · exact oS3.notIn h
    · rcases hor with h | h
      · exact (oT3.rows encS_len).far (by omega)
      · exact oT3.notIn h
  have oS5' : Own encSt 3 A3.next S2 (.slice ps5 (comm p is).1.length ks5) (comm p is).1 := (oS5.ext (X5.trans (E45.trans D5))).frame (by omega) fun b hb hb2 _ => S2b b hb2 (.inl (by omega))
  have oT5' : OwnZ encS 1 A3.next S2 (.slice q5 (comm p is).2.1.text.length k5) (comm p is).2.1.text := (oT5.ext (X5.trans (E45.trans D5))).frame (by omega) fun b hb hb2 _ => S2b b hb2 (.inl (by omega))
  obtain ⟨_, S3, v3, P3⟩ := spoilSt_ok oS5'
  have p3n := P3.next
  have oT5'' := oT5'.frame p3n fun b _ hb hn => P3.blk b hb (Classical.byContradiction fun hx => hn (sep5 b hx))
  have F14 : ∀ o, S3.cell G5.next o = Y2.cell G5.next o := fun o => by
    simp only [Heap.cell, P3.blk G5.next (by omega) ((oS5.rows encSt_len).far (Nat.le_refl _)), S2b G5.next (by omega) (.inl (by omega))]
  obtain ⟨_, S4, v4, P4⟩ := spoilP_ok oT5'' (comm_size p is)
  have p4n := P4.next
  have X14 : Ext A1 S4 := ⟨by omega, fun b hb => by
    rw [P4.blk b (by omega) (oT5.notIn (by omega)), P3.blk b (by omega) (oS5.notIn (by omega)), S2b b (by omega) (.inr hb), (E15.trans D5).blk b hb]⟩
  -- at the end
  obtain ⟨⟨g0, g1, g2, g3, g4⟩, W1⟩ := F1 S4 X14
  have sm6 := samePg_ok p p _ _ S4 W1 (T0.ext (E01.trans X14))
  rw [decide_eq_true rfl] at sm6
  have kp := keptI_ok _ iv is G1.next S4 (L2.ext (X1.trans X14)) (((hI.roAll.ext E0).ext E01).ext X14)
  have cp0 := cp A0 (Ext.refl _)
  have cp2 := cp A2 (E01.trans E12)
  have cp4 := cp A4 (E01.trans (E13.trans E34))
  have cp5 := cp A5 (E01.trans E15)
  have cpS := cp S4 (E01.trans X14)
  obtain ⟨⟨h80, h81, h82, h83, h84⟩, _⟩ := F3 Y2 (E25.trans D5)
  obtain ⟨⟨h50, h51, h52, h53, h54⟩, _⟩ := F5 Y2 (E45.trans D5)
  have hbn : ∀ x : Bool, binV K.P .neq tyBool (.bool x) (.bool x) = some (.bool false) := fun x => by cases x <;> rfl
  generalize freshR p = FR at *
  generalize comm p is = CM at *
  simp only [pgV] at c1 u3 u4 u5 u6 sm2 sm4 sm6 my1 my2 v2 v4
  simp [plansCode, ← hA0, pgV, cp0, c1, c2, ← hA1, x0, x1, x2, x3, x4, u3, ← hA2, cp2, u4, ← hA3, y0, y1, y2, y3, y4, u5, ← hA4, cp4, u6, ← hA5]
  simp [run_regd_tr, finD_some, Chk, wanted, sm1, f30, f31, f32, f33, f34, f40, f41, f42, f43, f44, sm2, sm3, f50, f51, f52, f53, f54, f60, f61, f62, f63, f64, sm4, f10, f11, f12, f13, f14, cp5, my1, my2, hbn, z1, z2, sm5, plansTail, v1, F8, h80, h81, h82, h83, h84, v2, v3, F14, h50, h51, h52, h53, h54, v4, g0, g1, g2, g3, g4, cpS, sm6, kp, awake8_ok]
end Go.AM
