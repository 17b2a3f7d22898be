import Derived.Test.YtiiliffoclejlaaR6CodeL
import Derived.Test.YtiiliffoclejlaaR6Va
/- The law Disks: true. -/
namespace Go.AM
open Go.Proofs
set_option linter.unusedVariables false
set_option linter.unusedSimpArgs false
set_option maxRecDepth 100000
attribute [-simp] ByteArray.size_eq_zero_iff
theorem doR_size (d : Dk) (st : Stp) : ∀ s ∈ (doR d st).1, s.size ≤ 1000000 := fun s hs => by
  unfold doR doO at hs
  split at hs
  · rename_i hd
    obtain ⟨_, _, h3, h4⟩ := dOk_len hd
    have fin : ∀ s ∈ d.1, s.size ≤ 1000000 := fun s hs => by have := h3 s hs; omega
    have fin2 : ∀ s ∈ applyW d.1 d.2, s.size ≤ 1000000 := fun s hs => by have := applyW_64 d.2 d.1 h3 h4 s hs; omega
    split at hs
    · split at hs
      · exact fin s (by simpa using hs)
      · cases hs
    · split at hs
      · exact fin2 s (by simpa using hs)
      · cases hs
  · cases hs
theorem crR_size (d : Dk) (keep : ByteArray) (torn at_ : Int) : ∀ s ∈ (crR d keep torn at_).1, s.size ≤ 1000000 := fun s hs => by
  unfold crR at hs
  split at hs
  · rename_i h
    simp only [crOk, Bool.and_eq_true, decide_eq_true_eq] at h
    obtain ⟨⟨hd, h0⟩, h1⟩ := h
    obtain ⟨k1, _, k3, k4⟩ := dOk_len hd
    have := crN_64 (keep := keep) (torn := torn) (at_ := at_) k1 k3 k4 ⟨h0, h1⟩ _ s hs
    omega
  · cases hs
def dsTail : IC := (.seq (.reg c_law2_Disks_r10) (.seq (.reg c_law2_Disks_r11) (.seq (.reg c_law2_Disks_r12) .ret)))
def dsCode : IFn := ⟨(.seq (.reg c_law2_Disks_r0) (.seq (.reg c_law2_Disks_r1) (.seq (.reg c_law2_Disks_r2) (.seq (.reg c_law2_Disks_r3) (.seq (.reg c_law2_Disks_r4) (.seq (.reg c_law2_Disks_r5) (.seq (.reg c_law2_Disks_r6) (.seq (.reg c_law2_Disks_r7) (.seq (.seq (.regd c_law2_Disks_r8 [(35, 36)]) (.cond (.t 107) (.seq (.reg c_law2_Disks_r9) .ret) .skip)) dsTail))))))))), 123, [.tmp 12]⟩
theorem fc_ds : fnAt Try.prog f_law2_Disks = some dsCode := fc_law2_Disks
theorem disks_law (dv : Value) (d : Dk) (fl : Bool) (a : Int) (tx : ByteArray) (at_ : Int) (keep : ByteArray) (torn cut : Int) (H : Heap) (hD : DkR H dv d) (hl : (d.1.length + 2) * 16 ≤ 140737488355328 ∧ (d.2.length + 2) * 24 ≤ 140737488355328) :
    call K f_law2_Disks [dv, .agg #[.bool fl, .int .i64 a, .string tx], .int .i64 at_, .string keep, .int .i64 torn, .int .i64 cut] H = some (.bool true, H) := by
  refine of_wpf (open_pure rfl fc_ds rfl (Nat.le_of_ble_eq_true rfl) ?_)
  have hD' := hD
  obtain ⟨s, c, rfl, hs, hc⟩ := hD'
  obtain ⟨qs, ks, rfl⟩ := hs.slice
  obtain ⟨qc, kc, rfl⟩ := hc.slice
  obtain ⟨A0, hA0⟩ : ∃ A0, A0 = (H.roAll.add (rowBlk 2 [.slice qs d.1.length ks, .slice qc d.2.length kc])).add (rowBlk 3 [.bool fl, .int .i64 a, .string tx]) := ⟨_, rfl⟩
  have E0 : Ext H.roAll A0 := by rw [hA0]; exact ((Ext.refl _).add _).add _
  have b0 : A0.blk H.next = some (rowBlk 2 [.slice qs d.1.length ks, .slice qc d.2.length kc]) := by rw [hA0]; simp [Heap.add]
  have b1 : A0.blk (H.next + 1) = some (rowBlk 3 [.bool fl, .int .i64 a, .string tx]) := by rw [hA0]; simp [Heap.add]
  have n0 : A0.next = H.next + 2 := by rw [hA0]; simp
  have cp : ∀ G, Ext A0 G → G.cell H.next = (rowBlk 2 [.slice qs d.1.length ks, .slice qc d.2.length kc]).at_ := fun G hG => by funext o; simp only [Heap.cell, hG.blk _ (show H.next < A0.next by omega), b0]
  have cq : ∀ G, Ext A0 G → G.cell (H.next + 1) = (rowBlk 3 [.bool fl, .int .i64 a, .string tx]).at_ := fun G hG => by funext o; simp only [Heap.cell, hG.blk _ (show H.next + 1 < A0.next by omega), b1]
  have D0 : DkR A0 _ d := hD.roAll.ext E0
  obtain ⟨_, G1, c1, E1, o1⟩ := copyD_ok _ d A0 D0 hl.1 hl.2
  obtain ⟨p1, k1, q1, m1, A1, rfl, hA1, nA1, X1, F1⟩ := stageD o1.dk
  obtain ⟨x0, x1, D1⟩ := F1 A1 (Ext.refl _)
  have E01 : Ext A0 A1 := E1.trans X1
  have rd1 := readD_ok D1 at_
  have rd2 := rreadD_ok (D0.ext E01) at_
  -- Do
  obtain ⟨_, G2, u2, E2, v2, rfl, o2⟩ := do_ok _ d fl a tx A1 D1
  obtain ⟨p2, k2, q2, m2, A2, rfl, hA2, nA2, X2, F2⟩ := stageD o2.dk
  have E12 : Ext A1 A2 := E2.trans X2
  obtain ⟨_, G3, u3, E3, v3, rfl, o3⟩ := rdo_ok _ d fl a tx A2 (D0.ext (E01.trans E12))
  obtain ⟨p3, k3, q3, m3, A3, rfl, hA3, nA3, X3, F3⟩ := stageD o3.dk
  have E23 : Ext A2 A3 := E3.trans X3
  have E13 := E12.trans E23
  obtain ⟨y0, y1, D3⟩ := F1 A3 E13
  -- Crash
  obtain ⟨_, G4, u4, E4, v4, rfl, o4⟩ := crash_ok _ d keep torn cut A3 D3
  obtain ⟨p4, k4, q4, m4, A4, rfl, hA4, nA4, X4, F4⟩ := stageD o4.dk
  have E34 : Ext A3 A4 := E4.trans X4
  obtain ⟨_, G5, u5, E5, v5, rfl, o5⟩ := rcrash_ok _ d keep torn cut A4 (D0.ext (E01.trans (E13.trans E34)))
  obtain ⟨p5, k5, q5, m5, A5, rfl, hA5, nA5, X5, F5⟩ := stageD o5.dk
  have E45 : Ext A4 A5 := E5.trans X5
  have E35 := E34.trans E45
  have E25 := E23.trans E35
  have E15 := E12.trans E25
  obtain ⟨f20, f21, W2⟩ := F2 A5 E25
  obtain ⟨f30, f31, W3⟩ := F3 A5 E35
  obtain ⟨f40, f41, W4⟩ := F4 A5 E45
  obtain ⟨f50, f51, W5⟩ := F5 A5 (Ext.refl _)
  obtain ⟨f10, f11, W1⟩ := F1 A5 E15
  have sd1 := sameDisk_ok _ _ _ _ A5 W2 W3
  have sd2 := sameDisk_ok _ _ _ _ A5 W4 W5
  rw [decide_eq_true rfl] at sd1 sd2
  have my1 := mayD_ok W1
  have my2 := rmayD_ok (D0.ext (E01.trans E15))
  -- what is spoilt
  have e12 := E12.next; have e23 := E23.next; have e34 := E34.next; have e45 := E45.next; have e2 := E2.next; have e4 := E4.next
  obtain ⟨_, S1, v1, n1, P1⟩ := spoilD_ok (o2.ext (X2.trans E25)) (doR_size d _)
  have far2 : ∀ b, G2.next ≤ b → FarD (.agg #[.slice p2 (doR d (fl, a, tx)).1.length k2, .slice q2 (doR d (fl, a, tx)).2.length m2]) b := fun b hb => o2.far2 hb
  have o4' : OwnD A3.next S1 (.agg #[.slice p4 (crR d keep torn cut).1.length k4, .slice q4 (crR d keep torn cut).2.length m4]) (crR d keep torn cut) := (o4.ext (X4.trans E45)).frame n1 fun b hb hb2 _ => P1 b hb2 (far2 b (by omega))
  have c22 : ∀ o, S1.cell G4.next o = A5.cell G4.next o := fun o => by simp only [Heap.cell, P1 G4.next (by omega) (far2 _ (by omega))]
  obtain ⟨_, S2, v2, n2, P2⟩ := spoilD_ok o4' (crR_size d keep torn cut)
  have X12 : Ext A1 S2 := ⟨by omega, fun b hb => by rw [P2 b (by omega) (o4'.far (by omega)), P1 b (by omega) (o2.far hb), E15.blk b hb]⟩
  obtain ⟨g0, g1, T1⟩ := F1 S2 X12
  have sd3 := sameDisk_ok _ _ d d S2 T1 (D0.ext (E01.trans X12))
  rw [decide_eq_true rfl] at sd3
  obtain ⟨nv, G6, z6, D6, N6⟩ := new_ok S2
  obtain ⟨nv2, G7, z7, D7, N7⟩ := rnew_ok G6
  have sd4 := sameDisk_ok _ _ _ _ G7 (N6.ext D7) N7
  rw [decide_eq_true rfl] at sd4
  have cp0 := cp A0 (Ext.refl _)
  have cp1 := cp A1 E01
  have cp2 := cp A2 (E01.trans E12)
  have cp4 := cp A4 (E01.trans (E13.trans E34))
  have cp5 := cp A5 (E01.trans E15)
  have cpS := cp S2 (E01.trans X12)
  have cq1 := cq A1 E01
  have cq2 := cq A2 (E01.trans E12)
  have hbn : ∀ x : Bool, binV K.P .neq tyBool (.bool x) (.bool x) = some (.bool false) := fun x => by cases x <;> rfl
  generalize doR d (fl, a, tx) = DR at *
  generalize crR d keep torn cut = CR at *
  simp [dsCode, ← hA0, cp0, c1, ← hA1, x0, x1, rd1, cp1, rd2, cq1, u2, ← hA2, cp2, cq2, u3, ← hA3, y0, y1, u4, ← hA4, cp4, u5, ← hA5, run_regd_tr, finD_some, Chk, wanted, f20, f21, f30, f31, sd1, f40, f41, f50, f51, sd2, f10, f11, cp5, my1, my2, hbn, dsTail, v1, c22, v2, g0, g1, cpS, sd3, z6, z7, sd4, awake2_ok]
end Go.AM
