import Derived.Test.YtiiliffoclejlaaR6CodeL
import Derived.Test.YtiiliffoclejlaaR6J7
/- The law PlanAgain: true. -/
namespace Go.AM
open Go.Proofs
set_option linter.unusedVariables false
set_option linter.unusedSimpArgs false
set_option maxRecDepth 100000
attribute [-simp] ByteArray.size_eq_zero_iff
/-- a transaction without its flush, and a crash that tears nothing: what is found may be gone on from -/
theorem again_found {d : Dk} {p : Pg} {tss : List (List Img)} {is : List Img} (h : Store d p tss) (hr : p.next ≤ 2147483000) (hi : imOk (-1) is = true) (hfit : p.used + 4 * is.length + 1 ≤ 200) (keep : ByteArray) :
    ∃ x, done8 d (recSt p.used (mkRecs is p.next) (mkRecs is p.next).length) = (x, true) ∧ dOk x = true ∧ dOk (crR x keep (-1) 0) = true ∧ crE x 0 = 0 ∧ (crR x keep (-1) 0).2 = [] ∧
      ∃ r, openV (vw (crR x keep (-1) 0)) = (r, 0) ∧ Found (vw (crR x keep (-1) 0)) r ∧ (r = p ∨ r = ⟨p.hn, p.hs, p.next + (mkRecs is p.next).length, p.used + (mkRecs is p.next).length, applyI p.text is⟩) := by
  obtain ⟨m1, m2, m3, m4, m5⟩ := pgMay_of h.sound.may
  have h48 := imOk_48 hi
  have hk : MkOk is p.next := ⟨hi, by omega, by omega⟩
  have hl := mkRecs_len hk
  have hu := h.sound.used
  have hS := h.sound
  have hd := h.ok
  have hc := h.flat
  obtain ⟨S, C⟩ := d
  simp only at hc
  subst hc
  have hw := logW_ok (u := lgN tss) hk (Nat.le_refl _) (by omega)
  have ha := logW_apart (lgN tss) (mkRecs is p.next) (mkRecs is p.next).length
  obtain ⟨e1, _, e3⟩ := done8_writes (logW (lgN tss) (mkRecs is p.next) (mkRecs is p.next).length) (S, []) [] hd hw (by rw [logW_len]; show 0 + _ ≤ 512; omega)
  simp only [List.nil_append, List.append_nil] at e1 e3
  obtain ⟨c1, c2, c3, c4, c5⟩ := crash_law keep (-1) 0 e3 ha hw ⟨by omega, by omega⟩
  refine ⟨_, by rw [hu, recSt_logW, e1]; rfl, e3, c1, c2, c5, ?_⟩
  have hold : ∀ i, i < 394 → (i < 2 + lgN tss ∨ 2 + lgN tss + (mkRecs is p.next).length ≤ i) → vw (crR (S, (logW (lgN tss) (mkRecs is p.next) (mkRecs is p.next).length).map wI) keep (-1) 0) i = vw (S, []) i := fun i hi hne => c3.old i hi fun w hw => by
    obtain ⟨j, hj, rfl⟩ := mem_logW.1 hw
    simp only; omega
  rcases crash_commit hS hr hi hfit (Nat.le_refl _) c3 with e | ⟨_, e⟩
  · refine ⟨p, e, { may := hS.may, head := ?_, other := ?_, seqs := ?_, clean := ?_ }, .inl rfl⟩
    · have hhn : (p.hn % 2).toNat < 2 := by omega
      rw [hold _ (by omega) (by omega)]; exact hS.head
    · have hhn : ((p.hn + 1) % 2).toNat < 2 := by omega
      rw [hold _ (by omega) (by omega)]; exact hS.other
    · intro i hi he
      by_cases hin : lgN tss ≤ i ∧ i < lgN tss + (mkRecs is p.next).length
      · have hm : (2 + lgN tss + (i - lgN tss), putP (txtR (recN (mkRecs is p.next) (i - lgN tss)))) ∈ logW (lgN tss) (mkRecs is p.next) (mkRecs is p.next).length := mem_logW.2 ⟨i - lgN tss, by omega, rfl⟩
        rcases c4 rfl _ hm with g | g
        · simp only [show 2 + lgN tss + (i - lgN tss) = 2 + i by omega] at g
          rw [lR_congr g] at he ⊢
          exact hS.seqs i hi he
        · simp only [show 2 + lgN tss + (i - lgN tss) = 2 + i by omega] at g
          have hrm := recN_law hk (i := i - lgN tss) (by omega)
          rw [lR, g, (getP_putP (txtR_size hrm.1)).1, getR_txt hrm.1]
          show (recN (mkRecs is p.next) (i - lgN tss)).1 < _
          rw [hrm.2]; omega
      · rw [lR_congr (hold (2 + i) (by omega) (by omega))] at he ⊢
        exact hS.seqs i hi he
    · intro i hi
      by_cases hin : 2 + lgN tss ≤ i ∧ i < 2 + lgN tss + (mkRecs is p.next).length
      · have hm : (2 + lgN tss + (i - (2 + lgN tss)), putP (txtR (recN (mkRecs is p.next) (i - (2 + lgN tss))))) ∈ logW (lgN tss) (mkRecs is p.next) (mkRecs is p.next).length := mem_logW.2 ⟨i - (2 + lgN tss), by omega, rfl⟩
        rcases c4 rfl _ hm with g | g
        · simp only [show 2 + lgN tss + (i - (2 + lgN tss)) = i by omega] at g
          rw [g]; exact hS.clean i hi
        · simp only [show 2 + lgN tss + (i - (2 + lgN tss)) = i by omega] at g
          exact .inr ⟨_, txtR_size (recN_law hk (i := i - (2 + lgN tss)) (by omega)).1, g⟩
      · rw [hold i hi (by omega)]; exact hS.clean i hi
  · have hs := commit_sound hS hr hi hfit (fun i hi => e i hi) hold
    exact ⟨_, hs.opened, hs.toFound, .inr rfl⟩
theorem planAgain_law (av bv : Value) (as_ bs : List Img) (keep : ByteArray) (cut : Int) (again : ByteArray) (H : Heap) (hA : Imgs H av as_) (hB : Imgs H bv bs) : call K f_law8_PlanAgain [av, bv, .string keep, .int .i64 cut, .string again] H = some (.bool true, H) := by
  refine of_wpf (open_pure rfl fc_law8_PlanAgain rfl (Nat.le_of_ble_eq_true rfl) ?_)
  have ma := rimages_ok av as_ H.roAll hA.roAll
  have mb := rimages_ok bv bs H.roAll hB.roAll
  cases hAo : imOk (-1) as_
  · simp [awake8_ok, ma, hAo]
  cases hBo : imOk (-1) bs
  · simp [awake8_ok, ma, mb, hAo, hBo]
  obtain ⟨pa, ka, rfl⟩ := hA.slice
  obtain ⟨pb, kb, rfl⟩ := hB.slice
  by_cases hane : as_ = []
  · subst hane
    simp only [List.length_nil] at ma
    simp [awake8_ok, ma, mb, hAo, hBo]
  by_cases hbne : bs = []
  · subst hbne
    simp only [List.length_nil] at mb
    simp [awake8_ok, ma, mb, hAo, hBo, hane]
  have ha48 := imOk_48 hAo
  have hb48 := imOk_48 hBo
  obtain ⟨v0, G1, va, G2, v3, G3, d0, c1, c2, c3, E1, E2, E3, D3, S0⟩ := new_store H.roAll
  obtain ⟨hl1, hl2⟩ := store_len S0
  obtain ⟨ps, kp, qs, kq, A3, rfl, hA3, nA3, X3, F3⟩ := stage1 D3 hl1 hl2
  obtain ⟨_, G4, c4, E4, t4, rfl, T4, hfar4⟩ := rblank_ok A3
  have hE4 : Ext H.roAll G4 := (E1.trans (E2.trans E3)).trans (X3.trans E4)
  obtain ⟨q4, k4, rfl⟩ := T4.sliceN pgB_len
  have hbn : pgB.next = 1 := rfl
  have hbu : pgB.used = 0 := rfl
  obtain ⟨d', tss', hL, hS', he0⟩ := comm_store S0 pgB_room hAo
  have hfit : pgB.used + 4 * as_.length + 1 ≤ 200 := by omega
  have hMk : MkOk as_ pgB.next := ⟨hAo, by omega, by omega⟩
  have hml := mkRecs_len hMk
  obtain ⟨n, hn⟩ : ∃ n, n = (mkRecs as_ pgB.next).length := ⟨_, rfl⟩
  have hss : (comm pgB as_).1 = recSt pgB.used (mkRecs as_ pgB.next) n ++ [flSt] := by
    have eB : baseP pgB as_ = pgB := if_neg (by omega)
    have eS : baseS pgB as_ = [] := if_neg (by omega)
    rw [comm, if_pos ⟨pgB_room, hAo⟩, if_neg hane]
    simp only [commS, eB, eS, commR, List.nil_append, hn]
  obtain ⟨x0, hx1, hx2, hx3, hx4, hx5, r0, hx6, hx7, hx8⟩ := again_found S0 (by omega) hAo hfit keep
  rw [← hn] at hx1
  have hsl : (comm pgB as_).1.length = n + 1 := by rw [hss, List.length_append, recSt_len]; rfl
  have htk : (comm pgB as_).1.take n = recSt pgB.used (mkRecs as_ pgB.next) n := by rw [hss, List.take_append_of_le_length (by rw [recSt_len]; omega), List.take_of_length_le (by rw [recSt_len]; omega)]
  obtain ⟨_, g1, u1, X1, st, t1, rfl, oS, oT, _⟩ := pcommit_ok pgB _ _ as_ G4 T4 (hA.roAll.ext hE4)
  obtain ⟨m1, m2, m3, m4, m5⟩ := pgMay_of hS'.sound.may
  rw [he0] at u1
  generalize hC : (comm pgB as_).1 = ss at *
  generalize (comm pgB as_).2.1 = p1 at *
  obtain ⟨pst, kst, rfl⟩ := (oS.rows encSt_len).slice
  obtain ⟨qt1, kt1, a1, rfl, ha1, na1, Y1, L1⟩ := stageP (oT.rows encS_len) m4
  have x1n := X1.next; have y1n := Y1.next
  have E31 : Ext A3 a1 := E4.trans (X1.trans Y1)
  obtain ⟨z0, z1, DZ⟩ := F3 a1 E31
  have hr0 : r0.hn = 0 ∧ r0.next ≤ 201 := by
    rcases hx8 with e | e
    · rw [e]; exact ⟨rfl, by decide⟩
    · rw [e]
      refine ⟨rfl, ?_⟩
      show pgB.next + ((mkRecs as_ pgB.next).length : Int) ≤ 201
      omega
  have hroom0 : pgRoom r0 = true := by
    have h1 := hx7.may
    exact room_of h1 (by omega) (by omega)
  obtain ⟨x, r, u, g2, a2, g3, a3, g4, a4, s2, c2', s3, c3', t4', Z⟩ := cr_run (keep := keep) (torn := -1) (at_ := 0) (R := fun x r => x = x0 ∧ r = r0) DZ ((oS.rows encSt_len).ext Y1) (show n ≤ ss.length by omega) ⟨x0, by rw [htk]; exact hx1, hx2, hx3, hx4, r0, hx6, rfl, rfl⟩ (fun x r h => by rw [h.2]; exact (pgMay_of hx7.may).2.2.2.1)
  obtain ⟨rfl, rfl⟩ := Z.is
  obtain ⟨d2, hL2, hS2⟩ := fresh_store hx3 hx5 hx7 hroom0
  obtain ⟨p2, k2, q2, n2, m2', rfl, rfl⟩ := Z.shp2
  obtain ⟨p3, k3, q3, n3, m3', rfl, rfl⟩ := Z.shp3
  obtain ⟨_, _, _, rfl⟩ := Z.shpt
  have hu := Z.cut; have u2 := Z.run; have hb2 := Z.blk2; have cb2 := Z.cel2; have ha2 := Z.h2; have z20 := Z.c20; have z21 := Z.c21
  have u3 := Z.crash; have ha3 := Z.h3; have z30 := Z.c30 a3 (Ext.refl _); have z31 := Z.c31 a3 (Ext.refl _); have u4 := Z.open_; have ha4 := Z.h4
  obtain ⟨⟨w40, w41, w42, w43, w44⟩, S4⟩ := Z.c4 a4 (Ext.refl _)
  -- the fresh beginning
  obtain ⟨_, g5, u5, X5, st5, t5, rfl, oS5, oT5, _⟩ := fresh_ok r _ a4 S4
  rw [show freshR r = (freshS r, freshQ r, 0) from if_pos hroom0] at u5 oS5 oT5
  simp only at u5 oS5 oT5
  obtain ⟨pst5, kst5, rfl⟩ := (oS5.rows encSt_len).slice
  have hrt : (freshQ r).text.length = 48 := (pgMay_of hx7.may).2.2.2.1
  obtain ⟨qt5, kt5, a5, rfl, ha5, na5, Y5, L5⟩ := stageP (p := freshQ r) (oT5.rows encS_len) hrt
  obtain ⟨⟨w50, w51, w52, w53, w54⟩, S5⟩ := L5 a5 (Ext.refl _)
  have E45 : Ext a4 a5 := X5.trans Y5
  have z35 := Z.c30 a5 (Z.E34.trans E45)
  have z36 := Z.c31 a5 (Z.E34.trans E45)
  obtain ⟨_, g6, u6, X6, v6, rfl, D6, _⟩ := done8_ok _ _ _ (freshS r) a5 (Z.dk a5 (Z.E34.trans E45)) ((oS5.rows encSt_len).ext Y5)
  rw [hL2.done.1] at u6 D6
  simp only at u6 D6
  obtain ⟨n6, n6'⟩ := store_len hS2
  obtain ⟨p6, k6, q6, m6, a6, rfl, ha6, na6, Y6, L6⟩ := stage1 D6 n6 n6'
  obtain ⟨z60, z61, D66⟩ := L6 a6 (Ext.refl _)
  have E56 : Ext a5 a6 := X6.trans Y6
  -- the other commit
  obtain ⟨⟨w60, w61, w62, w63, w64⟩, S6⟩ := L5 a6 E56
  have hroom2 : pgRoom (freshQ r) = true := by
    refine room_of hS2.sound.may ?_ ?_
    · show r.hn + 1 ≤ _
      omega
    · show r.next + 200 ≤ _
      omega
  have hcr := comm_cr hS2 hroom2 hBo
  obtain ⟨d3, tss3, hL3, hS3, he3⟩ := comm_store hS2 hroom2 hBo
  have hlen3 := comm_len hroom2 hBo
  have hpos3 : 1 ≤ (comm (freshQ r) bs).1.length := by
    rw [comm, if_pos ⟨hroom2, hBo⟩, if_neg hbne]
    simp only [commS, List.length_append, List.length_singleton]; omega
  have E46 : Ext a4 a6 := E45.trans E56
  have EG6 : Ext G4 a6 := (X1.trans Y1).trans (Z.E.trans E46)
  obtain ⟨_, g7, u7, X7, st7, t7, rfl, oS7, oT7, _⟩ := pcommit_ok (freshQ r) _ _ bs a6 S6 (hB.roAll.ext (hE4.trans EG6))
  obtain ⟨_, _, _, m47, _⟩ := pgMay_of hS3.sound.may
  rw [he3] at u7
  generalize hC3 : (comm (freshQ r) bs).1 = us at *
  generalize (comm (freshQ r) bs).2.1 = p7 at *
  obtain ⟨pst7, kst7, rfl⟩ := (oS7.rows encSt_len).slice
  obtain ⟨qt7, kt7, a7, rfl, ha7, na7, Y7, L7⟩ := stageP (oT7.rows encS_len) m47
  have E67 : Ext a6 a7 := X7.trans Y7
  obtain ⟨⟨w70, w71, w72, w73, w74⟩, S7⟩ := L7 a7 (Ext.refl _)
  obtain ⟨z70, z71, D77⟩ := L6 a7 E67
  obtain ⟨k, hk, hrem⟩ := umod cut us.length (by omega) (by omega)
  have hrem' : ∀ t, binV K.P .rem t (.int .u64 (IntKind.u64.wrap cut)) (.int .u64 (us.length : Int)) = some (.int .u64 (k : Int)) := fun t => hrem
  have wu : IntKind.u64.wrap (us.length : Int) = us.length := u64_nat _ (by omega)
  have w3 : IntKind.i64.wrap (k : Int) = k := wrap_i64 (by omega) (by omega)
  have w0 : IntKind.i64.wrap ((ss.length : Int) - 1) = (n : Int) := by rw [wrap_i64 (by omega) (by omega)]; omega
  obtain ⟨x', o, u', g8, a8, g9, a9, g10, a10, s8, c8, s9, c9, t10, Y⟩ := cr_run (keep := again) (torn := -1) (at_ := 0) (R := fun _ o => o.text = (freshQ r).text ∨ o.text = p7.text) D77 ((oS7.rows encSt_len).ext Y7) (show k ≤ us.length by omega) (hcr.at_ (show k ≤ us.length by omega) again (-1) 0 (by omega)) (fun _ o h => by
    rcases h with h | h
    · rw [h]; exact hrt
    · rw [h]; exact m47)
  obtain ⟨p8, k8, q8, n8, m8', rfl, rfl⟩ := Y.shp2
  obtain ⟨p9, k9, q9, n9, m9', rfl, rfl⟩ := Y.shp3
  obtain ⟨_, _, _, rfl⟩ := Y.shpt
  have hu8 := Y.cut; have u8 := Y.run; have hb8 := Y.blk2; have cb8 := Y.cel2; have ha8 := Y.h2; have z80 := Y.c20; have z81 := Y.c21
  have u9 := Y.crash; have ha9 := Y.h3; have z90 := Y.c30 a9 (Ext.refl _); have z91 := Y.c31 a9 (Ext.refl _); have u10 := Y.open_; have ha10 := Y.h4; have hor := Y.is
  obtain ⟨⟨y0, y1, y2, y3, y4⟩, S10⟩ := Y.c4 a10 (Ext.refl _)
  obtain ⟨⟨_, _, _, _, y54⟩, S5'⟩ := L5 a10 (E56.trans (E67.trans Y.E))
  obtain ⟨⟨_, _, _, _, y74⟩, S7'⟩ := L7 a10 Y.E
  have st1 := sameTexts_ok _ _ _ _ a10 S10 S5'
  have st2 := sameTexts_ok _ _ _ _ a10 S10 S7'
  have l2 : ¬ (ss.length : Int) < 2 := by omega
  have l3 : ¬ (us.length : Int) < 1 := by omega
  simp only [pgV, pgB] at c4 u1
  simp only [pgV] at u4 u5 u7 u10
  by_cases h2 : o.text = (freshQ r).text
  · rw [decide_eq_true h2] at st1
    simp [awake8_ok, ma, mb, hAo, hBo, hane, hbne, c1, c2, c3, ← hA3, c4, u1, ← ha1, l2, z0, z1, w0, hu, u2, hb2, cb2, ← ha2, z20, z21, u3, ← ha3, z30, z31, u4, ← ha4, w40, w41, w42, w43, w44, u5, ← ha5, z35, z36, u6, ← ha6, w60, w61, w62, w63, w64, u7, ← ha7, l3, wu, hrem', w3, z70, z71, hu8, u8, hb8, cb8, ← ha8, z80, z81, u9, ← ha9, z90, z91, u10, ← ha10, y0, y1, y2, y3, y4, y54, y74, st1]
  · rw [decide_eq_false h2] at st1
    rw [decide_eq_true (hor.resolve_left h2)] at st2
    simp [awake8_ok, ma, mb, hAo, hBo, hane, hbne, c1, c2, c3, ← hA3, c4, u1, ← ha1, l2, z0, z1, w0, hu, u2, hb2, cb2, ← ha2, z20, z21, u3, ← ha3, z30, z31, u4, ← ha4, w40, w41, w42, w43, w44, u5, ← ha5, z35, z36, u6, ← ha6, w60, w61, w62, w63, w64, u7, ← ha7, l3, wu, hrem', w3, z70, z71, hu8, u8, hb8, cb8, ← ha8, z80, z81, u9, ← ha9, z90, z91, u10, ← ha10, y0, y1, y2, y3, y4, y54, y74, st1, st2]
end Go.AM
