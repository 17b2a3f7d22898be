import Derived.Test.YtiiliffoclejlaaR6CodeL
import Derived.Test.YtiiliffoclejlaaR6J7
/- The law PlanFresh: true. -/
namespace Go.AM
open Go.Proofs
set_option linter.unusedVariables false
set_option linter.unusedSimpArgs false
set_option maxRecDepth 100000
attribute [-simp] ByteArray.size_eq_zero_iff
/-- a disk's box written anew, behind steps: what stands in a pager's box stays -/
theorem planFresh_law (fv : Value) (fs : List Img) (cut : Int) (keep : ByteArray) (torn at_ : Int) (H : Heap) (hF : Imgs H fv fs) : call K f_law8_PlanFresh [fv, .int .i64 cut, .string keep, .int .i64 torn, .int .i64 at_] H = some (.bool true, H) := by
  refine of_wpf (open_pure rfl fc_law8_PlanFresh rfl (Nat.le_of_ble_eq_true rfl) ?_)
  have mf := rimages_ok fv fs H.roAll hF.roAll
  cases hFo : imOk (-1) fs
  · simp [awake8_ok, mf, hFo]
  obtain ⟨v0, G1, va, G2, v3, G3, d0, c1, c2, c3, E1, E2, E3, D3, S0⟩ := new_store H.roAll
  obtain ⟨hl1, hl2⟩ := store_len S0
  obtain ⟨ps, kp, qs, kq, A3, rfl, hA3, nA3, X3, F3⟩ := stage1 D3 hl1 hl2
  obtain ⟨_, G4, c4, E4, t4, rfl, T4, hfar4⟩ := rblank_ok A3
  have hE4 : Ext H.roAll G4 := (E1.trans (E2.trans E3)).trans (X3.trans E4)
  have e4 := E4.next
  obtain ⟨q4, k4, rfl⟩ := T4.sliceN pgB_len
  have hb0 : pgB.hn = 0 := rfl
  have hb1 : pgB.next = 1 := rfl
  obtain ⟨hq1, hq2, hq3⟩ := comm_bounds pgB_room hFo
  obtain ⟨d', tss', hL, hS', he0⟩ := comm_store S0 pgB_room hFo
  obtain ⟨_, g1, u1, X1, st, t1, rfl, oS, oT, _⟩ := pcommit_ok pgB _ _ fs G4 T4 (hF.roAll.ext hE4)
  obtain ⟨m1, m2, m3, m4, m5⟩ := pgMay_of hS'.sound.may
  generalize comm pgB fs = C at *
  obtain ⟨ss, p, er⟩ := C
  simp only at *
  subst he0
  obtain ⟨pst, kst, rfl⟩ := (oS.rows encSt_len).slice
  obtain ⟨qt1, kt1, a1, rfl, ha1, na1, Y1, L1⟩ := stageP (oT.rows encS_len) m4
  have x1n := X1.next; have y1n := Y1.next
  have E31 : Ext A3 a1 := E4.trans (X1.trans Y1)
  obtain ⟨z0, z1, DZ⟩ := F3 a1 E31
  -- the commit's steps
  obtain ⟨_, g2, u2, X2, v2, rfl, D22, hor⟩ := done8_ok _ _ d0 ss a1 DZ ((oS.rows encSt_len).ext Y1)
  rw [hL.done.1] at u2 D22 hor
  simp only at u2 D22 hor
  have x2n := X2.next
  obtain ⟨n1, n2⟩ := store_len hS'
  have far5 := D3.far (Nat.le_refl _)
  have hfar := done_far (b := G3.next) DZ hor (by omega) (fun s c e => by
    obtain ⟨rfl, rfl⟩ : Value.slice ps 394 kp = s ∧ Value.slice qs 0 kq = c := by simpa using e
    exact far5)
  have bk2 : g2.blk G3.next = some (dkB (.slice ps 394 kp) (.slice qs 0 kq)) := by rw [(E31.trans X2).blk _ (by omega), hA3]; simp
  have ck2 : ∀ o, g2.cell G3.next o = (dkB (.slice ps 394 kp) (.slice qs 0 kq)).at_ o := fun o => by simp only [Heap.cell, bk2]
  obtain ⟨p2, k2, q2, m2', a2, rfl, ha2, na2, oth2, L2⟩ := stage4 (B := dkB (.slice ps 394 kp) (.slice qs 0 kq)) D22 (b := G3.next) (by omega) hfar n1 (n := 0) n2
  obtain ⟨z20, z21, D23⟩ := L2 a2 (Ext.refl _)
  -- the pager's box, from here on
  obtain ⟨⟨v10, v11, v12, v13, v14⟩, V1⟩ := L1 g2 X2
  have tfar : NotIn (.slice qt1 48 kt1) G3.next := oT.notIn (by omega)
  have hne : g1.next ≠ G3.next := by omega
  have cel14 : ∀ A', Ext a2 A' → (∀ o, A'.cell g1.next o = g2.cell g1.next o) ∧ Strs A' (.slice qt1 48 kt1) p.text := fun A' hE => by
    refine ⟨fun o => ?_, ?_⟩
    · rw [hE.cell (by omega)]; simp only [Heap.cell, oth2 _ hne]
    · refine Rows.ext ?_ hE
      rw [ha2]; exact V1.setB tfar _
  -- the fresh beginning
  obtain ⟨w2c, V2⟩ := cel14 a2 (Ext.refl _)
  have hr : pgRoom p = true := room_of hS'.sound.may (by omega) (by omega)
  obtain ⟨d2, hL2, hS2⟩ := fresh_store hS'.ok hS'.flat hS'.sound.toFound hr
  have hcr := fresh_cr hS' hr
  obtain ⟨_, g3, u3, X3', st3, t3, rfl, oS3, oT3, _⟩ := fresh_ok p _ a2 V2
  have hfr : freshR p = (freshS p, freshQ p, 0) := if_pos hr
  rw [hfr] at u3 oS3 oT3
  simp only at u3 oS3 oT3
  obtain ⟨pst3, kst3, rfl⟩ := (oS3.rows encSt_len).slice
  obtain ⟨qt3, kt3, a3, rfl, ha3, na3, Y3, L3⟩ := stageP (p := freshQ p) (oT3.rows encS_len) m4
  have x3n := X3'.next; have y3n := Y3.next
  have E23 : Ext a2 a3 := X3'.trans Y3
  obtain ⟨z30, z31, D33⟩ := L2 a3 E23
  obtain ⟨w3c, V3⟩ := cel14 a3 E23
  have hlen : (freshS p).length = 195 := freshS_len p
  obtain ⟨k, hk, hrem⟩ := umod cut 196 (by omega) (by omega)
  have hrem' : ∀ t, binV K.P .rem t (.int .u64 (IntKind.u64.wrap cut)) (.int .u64 196) = some (.int .u64 (k : Int)) := fun t => hrem
  have wu : IntKind.u64.wrap 196 = 196 := by decide
  have wi : IntKind.i64.wrap 196 = 196 := by decide
  have w3 : IntKind.i64.wrap (k : Int) = k := wrap_i64 (by omega) (by omega)
  rw [hlen] at u3
  obtain ⟨x, r, u, g5, a5, g6, a6, g7, a7, s2, c2', s3, c3', t7, Z⟩ := cr_run (R := fun _ r => r.text = p.text) D33 ((oS3.rows encSt_len).ext Y3) (show k ≤ (freshS p).length by omega) (hcr.at_ (show k ≤ (freshS p).length by omega) keep (torn % 256) (at_ % 64) (by omega)) (fun _ r h => by rw [h]; exact m4)
  obtain ⟨_, _, _, _, _, rfl, rfl⟩ := Z.shp2
  obtain ⟨_, _, _, _, _, rfl, rfl⟩ := Z.shp3
  obtain ⟨_, _, _, rfl⟩ := Z.shpt
  have hu := Z.cut; have u5 := Z.run; have hb5 := Z.blk2; have cb5 := Z.cel2; have ha5 := Z.h2; have z50 := Z.c20; have z51 := Z.c21
  have u6 := Z.crash; have ha6 := Z.h3; have z60 := Z.c30 a6 (Ext.refl _); have z61 := Z.c31 a6 (Ext.refl _); have u7 := Z.open_; have ha7 := Z.h4; have hor2 := Z.is
  rw [hlen] at hu
  obtain ⟨⟨w40, w41, w42, w43, w44⟩, S4⟩ := Z.c4 a7 (Ext.refl _)
  obtain ⟨⟨w30, w31, w32, w33, w34⟩, S3⟩ := L3 a3 (Ext.refl _)
  obtain ⟨⟨w70, w71, w72, w73, w74⟩, S7⟩ := L3 a7 Z.E
  obtain ⟨w7c, V7⟩ := cel14 a7 (E23.trans Z.E)
  have fn : ¬ (freshQ p).next < p.next + 200 := by show ¬ p.next + 200 < p.next + 200; omega
  have fu : ((freshQ p).used = 0) = True := eq_true rfl
  have st1 := sameTexts_ok _ _ _ _ a3 S3 V3
  rw [decide_eq_true (show (freshQ p).text = p.text from rfl)] at st1
  have st2 := sameTexts_ok _ _ _ _ a7 S4 V7
  have sm := samePg_ok r (freshQ p) _ _ a7 S4 S7
  have wp1 : IntKind.i64.wrap (p.next + 200) = p.next + 200 := wrap_i64 (by omega) (by omega)
  have ad1 := and255' torn
  have ad2 := and63' at_
  have hfin : k < 195 ∨ r = freshQ p := by
    rcases Nat.lt_or_ge k 195 with h | h
    · exact .inl h
    · refine .inr ?_
      have hx := Z.isx
      have hop := Z.op
      rw [show k = (freshS p).length by omega, List.take_length, hL2.done.1] at hx
      obtain rfl : d2 = x := by simpa using hx
      rw [(crR_flat Z.dokx hS2.flat keep (torn % 256) (at_ := at_ % 64) ⟨by omega, by omega⟩).1, openP_store hS2] at hop
      exact (by simpa using hop : freshQ p = r).symm
  simp only [pgV, pgB] at c4 u1
  simp only [pgV] at u3 u7 sm
  by_cases h : (k : Int) < 195
  · simp [awake8_ok, mf, hFo, c1, c2, c3, ← hA3, c4, u1, ← ha1, z0, z1, u2, bk2, ck2, ← ha2, z20, z21, w2c, v10, v11, v12, v13, v14, u3, ← ha3, w30, w31, w32, w33, w34, w3c, st1, fn, fu, wp1, hrem', wu, wi, w3, z30, z31, hu, u5, hb5, cb5, ← ha5, z50, z51, ad1, ad2, u6, ← ha6, z60, z61, u7, ← ha7, w40, w41, w42, w43, w44, w7c, st2, hor2, w70, w71, w72, w73, w74, sm, h]
  · have h2 : r = freshQ p := hfin.resolve_left (by omega)
    rw [decide_eq_true h2] at sm
    simp [awake8_ok, mf, hFo, c1, c2, c3, ← hA3, c4, u1, ← ha1, z0, z1, u2, bk2, ck2, ← ha2, z20, z21, w2c, v10, v11, v12, v13, v14, u3, ← ha3, w30, w31, w32, w33, w34, w3c, st1, fn, fu, wp1, hrem', wu, wi, w3, z30, z31, hu, u5, hb5, cb5, ← ha5, z50, z51, ad1, ad2, u6, ← ha6, z60, z61, u7, ← ha7, w40, w41, w42, w43, w44, w7c, st2, hor2, w70, w71, w72, w73, w74, sm, h]
end Go.AM
