import Derived.Test.YtiiliffoclejlaaR6J7
/- The law PlanCrash: true. -/
namespace Go.AM
open Go.Proofs
set_option linter.unusedVariables false
set_option linter.unusedSimpArgs false
set_option maxRecDepth 100000
attribute [-simp] ByteArray.size_eq_zero_iff
def crashTail : IC := (.seq (.reg c_law8_PlanCrash_r16) (.seq (.seq (.reg c_law8_PlanCrash_r17) (.cond (.t 107) (.seq (.reg c_law8_PlanCrash_r18) .ret) .skip)) (.seq (.reg c_law8_PlanCrash_r19) (.seq (.regd c_law8_PlanCrash_r20 []) (.seq (.reg c_law8_PlanCrash_r21) (.seq (.reg c_law8_PlanCrash_r22) (.seq (.seq (.reg c_law8_PlanCrash_r23) (.cond (.t 148) (.seq (.reg c_law8_PlanCrash_r24) .ret) .skip)) (.seq (.seq (.reg c_law8_PlanCrash_r25) (.cond (.t 152) (.seq (.reg c_law8_PlanCrash_r26) .ret) .skip)) (.seq (.reg c_law8_PlanCrash_r27) .ret)))))))))
def crashCode : IFn := ⟨(.seq (.reg c_law8_PlanCrash_r0) (.seq (.seq (.reg c_law8_PlanCrash_r1) (.cond (.t 36) (.seq (.reg c_law8_PlanCrash_r2) .ret) .skip)) (.seq (.seq (.reg c_law8_PlanCrash_r3) (.cond (.t 44) (.seq (.reg c_law8_PlanCrash_r4) .ret) .skip)) (.seq (.reg c_law8_PlanCrash_r5) (.seq (.reg c_law8_PlanCrash_r6) (.seq (.seq (.reg c_law8_PlanCrash_r7) (.block 0 (.loop c_law8_PlanCrash_l15))) crashTail)))))), 170, [.tmp 14]⟩
theorem fc_crash : fnAt Try.prog f_law8_PlanCrash = some crashCode := fc_law8_PlanCrash
theorem crash_tail {G : Heap} {e : Env} {b5 b7 : Nat} {B5 B7 : Blk} {d : Dk} {p : Pg} {tss : List (List Img)} {sv cv tv iv : Value} {is : List Img} {cut torn at_ : Int} {keep : ByteArray}
    (hb5 : G.blk b5 = some B5) (h50 : B5.at_ 0 = some sv) (h51 : B5.at_ 1 = some cv) (hP : PgB G b7 p.hn p.hs p.next p.used tv B7) (hD : DkR G (.agg #[sv, cv]) d) (hT : Strs G tv p.text) (hS : Store d p tss) (hr : pgRoom p = true) (hi : imOk (-1) is = true) (hI : Imgs G iv is)
    (l5 : b5 < G.next) (l7 : b7 < G.next) (k1 : e 1 = iv) (k3 : e 3 = .int .i64 cut) (k4 : e 4 = .string keep) (k5 : e 5 = .int .i64 torn) (k6 : e 6 = .int .i64 at_) (k15 : e 15 = .pointer (some ⟨b5, 0, none⟩)) (k16 : e 16 = .bool true) (k17 : e 17 = .pointer (some ⟨b7, 0, none⟩)) (k18 : e 18 = .int .i64 0) :
    wp (run K crashTail e G) fun x e' H' => x = .ret ∧ e' 14 = .bool true := by
  obtain ⟨_, g1, u1, X1, st, t1, rfl, oS, oT, _⟩ := pcommit_ok p tv iv is G hT hI
  have hcr := comm_cr hS hr hi
  obtain ⟨d', tss', hL, hS', he0⟩ := comm_store hS hr hi
  have hlen := comm_len hr hi
  obtain ⟨_, _, _, m4, _⟩ := pgMay_of hS'.sound.may
  generalize comm p is = C at *
  obtain ⟨ss, q, er⟩ := C
  simp only at *
  subst he0
  have rS := oS.rows encSt_len
  obtain ⟨pst, kst, rfl⟩ := rS.slice
  obtain ⟨pi, ki, rfl⟩ := hI.slice
  obtain ⟨qt, kt, rfl⟩ := hT.sliceN (pgMay_of hS.sound.may).2.2.2.1
  obtain ⟨qt1, kt1, a1, rfl, ha1, na1, Y1, L1⟩ := stageP (oT.rows encS_len) m4
  obtain ⟨l1, l2⟩ := store_len hS
  have hD' := hD
  obtain ⟨_, _, ee, D1, D2⟩ := hD
  obtain ⟨rfl, rfl⟩ : sv = _ ∧ cv = _ := by simpa using ee
  obtain ⟨qsv, ksv, rfl⟩ := D1.sliceN l1
  obtain ⟨qcv, kcv, rfl⟩ := D2.sliceN l2
  obtain ⟨k, hk, hrem⟩ := umod cut (ss.length + 1) (by omega) (by omega)
  have hrem' : ∀ t, binV K.P .rem t (.int .u64 (IntKind.u64.wrap cut)) (.int .u64 ((ss.length : Int) + 1)) = some (.int .u64 (k : Int)) := fun t => (by simpa using hrem : binV K.P .rem tyUint (.int .u64 (IntKind.u64.wrap cut)) (.int .u64 ((ss.length : Int) + 1)) = some (.int .u64 (k : Int)))
  have w1 : IntKind.i64.wrap ((ss.length : Int) + 1) = (ss.length : Int) + 1 := wrap_i64 (by omega) (by omega)
  have w2 : IntKind.u64.wrap ((ss.length : Int) + 1) = (ss.length : Int) + 1 := by simpa using u64_nat (ss.length + 1) (by omega)
  have w3 : IntKind.i64.wrap (k : Int) = k := wrap_i64 (by omega) (by omega)
  have E1 : Ext G a1 := X1.trans Y1
  have x1n := X1.next
  have y1n := Y1.next
  obtain ⟨x, r, u, g2, a2, g3, a3, g4, a4, s2, c2, s3, c3, t4, Z⟩ := cr_run (R := fun _ r => r.text = p.text ∨ r.text = q.text) (hD'.ext E1) (rS.ext Y1) (show k ≤ ss.length by omega) (hcr.at_ (show k ≤ ss.length by omega) keep (torn % 256) (at_ % 64) (by omega)) (fun _ r h => by
    rcases h with h | h
    · rw [h]; exact (pgMay_of hS.sound.may).2.2.2.1
    · rw [h]; exact m4)
  obtain ⟨_, _, _, _, _, rfl, rfl⟩ := Z.shp2
  obtain ⟨_, _, _, _, _, rfl, rfl⟩ := Z.shp3
  obtain ⟨_, _, _, rfl⟩ := Z.shpt
  have hu := Z.cut; have u2 := Z.run; have hb2 := Z.blk2; have cb2 := Z.cel2; have ha2 := Z.h2; have z20 := Z.c20; have z21 := Z.c21
  have u3 := Z.crash; have ha3 := Z.h3; have z30 := Z.c30 a3 (Ext.refl _); have z31 := Z.c31 a3 (Ext.refl _); have u4 := Z.open_; have ha4 := Z.h4; have hor2 := Z.is
  obtain ⟨⟨w40, w41, w42, w43, w44⟩, S4⟩ := Z.c4 a4 (Ext.refl _)
  obtain ⟨⟨w10, w11, w12, w13, w14⟩, S1⟩ := L1 a4 Z.E
  have E4 := E1.trans Z.E
  have st1 := sameTexts_ok _ _ _ _ a4 S4 (hT.ext E4)
  have st2 := sameTexts_ok _ _ _ _ a4 S4 S1
  have cP := hP.cell
  have p0 := hP.p0; have p1 := hP.p1; have p2' := hP.p2; have p3' := hP.p3; have p4 := hP.p4
  have c5 : a1.cell b5 = B5.at_ := by funext o; rw [E1.cell l5]; simp only [Heap.cell, hb5]
  have c7 : a4.cell b7 = B7.at_ := by funext o; rw [E4.cell l7]; simp only [Heap.cell, hP.blk]
  simp only [pgV] at u1 u4
  have ad1 := and255' torn
  have ad2 := and63' at_
  by_cases hkl : k = ss.length
  · have hx := Z.isx
    have hop := Z.op
    subst hkl
    rw [List.take_length, hL.done.1] at hx
    obtain rfl : d' = x := by simpa using hx
    rw [(crR_flat Z.dokx hS'.flat keep (torn % 256) (at_ := at_ % 64) ⟨by omega, by omega⟩).1, openP_store hS'] at hop
    obtain rfl : q = r := by simpa using hop
    simp [crashTail, k1, k3, k4, k5, k6, k15, k16, k17, k18, cP, p0, p1, p2', p3', p4, u1, ← ha1, w1, w2, hrem', w3, c5, h50, h51, hu, u2, hb2, cb2, ← ha2, z20, z21, ad1, ad2, u3, ← ha3, z30, z31, u4, ← ha4, w10, w11, w12, w13, w14, w40, w41, w42, w43, w44, st2]
  · by_cases h2 : r.text = p.text
    · rw [decide_eq_true h2] at st1
      simp [crashTail, k1, k3, k4, k5, k6, k15, k16, k17, k18, cP, p0, p1, p2', p3', p4, u1, ← ha1, w1, w2, hrem', w3, c5, h50, h51, hu, u2, hb2, cb2, ← ha2, z20, z21, ad1, ad2, u3, ← ha3, z30, z31, u4, ← ha4, w10, w11, w12, w13, w14, w40, w41, w42, w43, w44, hkl, st1, st2, c7]
    · rw [decide_eq_false h2] at st1
      rw [decide_eq_true (hor2.resolve_left h2)] at st2
      simp [crashTail, k1, k3, k4, k5, k6, k15, k16, k17, k18, cP, p0, p1, p2', p3', p4, u1, ← ha1, w1, w2, hrem', w3, c5, h50, h51, hu, u2, hb2, cb2, ← ha2, z20, z21, ad1, ad2, u3, ← ha3, z30, z31, u4, ← ha4, w10, w11, w12, w13, w14, w40, w41, w42, w43, w44, hkl, st1, st2, c7]
theorem planCrash_law (fv iv : Value) (fs is : List Img) (many cut : Int) (keep : ByteArray) (torn at_ : Int) (H : Heap) (hF : Imgs H fv fs) (hI : Imgs H iv is) : call K f_law8_PlanCrash [fv, iv, .int .i64 many, .int .i64 cut, .string keep, .int .i64 torn, .int .i64 at_] H = some (.bool true, H) := by
  refine of_wpf (open_pure rfl fc_crash rfl (Nat.le_of_ble_eq_true rfl) ?_)
  have mf := rimages_ok fv fs H.roAll hF.roAll
  have mi := rimages_ok iv is H.roAll hI.roAll
  cases hFo : imOk (-1) fs
  · simp [crashCode, awake8_ok, mf, hFo]
  cases hIo : imOk (-1) is
  · simp [crashCode, awake8_ok, mf, mi, hFo, hIo]
  obtain ⟨v0, G1, va, G2, v3, G3, d0, c1, c2, c3, E1, E2, E3, D3, S0⟩ := new_store H.roAll
  obtain ⟨hl1, hl2⟩ := store_len S0
  obtain ⟨ps, kp, qs, kq, A3, rfl, hA3, nA3, X3, F3⟩ := stage1 D3 hl1 hl2
  obtain ⟨z0, z1, DZ⟩ := F3 A3 (Ext.refl _)
  obtain ⟨_, G4, c4, E4, t4, rfl, oT4⟩ := ropen_ok _ d0 A3 DZ
  rw [openP_store S0] at c4 oT4
  have T4 := oT4.rows encS_len
  obtain ⟨q4, k4, A4, rfl, hA4, nA4, X4, F4⟩ := stageP (p := pgB) T4 pgB_len
  simp only [pgV, pgB] at c4 hA4
  obtain ⟨m, hm, hm16⟩ : ∃ m : Nat, bits .and .i64 many 7 = (m : Int) ∧ m ≤ 7 := ⟨(many % 8).toNat, by rw [and7']; omega, by omega⟩
  obtain ⟨pi, ki, rfl⟩ := hF.slice
  have e4 := E4.next
  have hE : Ext H.roAll A4 := (E1.trans (E2.trans E3)).trans (X3.trans (E4.trans X4))
  obtain ⟨⟨x0, x1⟩, DD⟩ : (A4.cell G3.next 0 = _ ∧ A4.cell G3.next 1 = _) ∧ DkR A4 _ d0 := ⟨⟨(F3 A4 (E4.trans X4)).1, (F3 A4 (E4.trans X4)).2.1⟩, (F3 A4 (E4.trans X4)).2.2⟩
  obtain ⟨⟨y0, y1, y2, y3, y4⟩, TT⟩ := F4 A4 (Ext.refl _)
  have b5 : A4.blk G3.next = some (((rowBlk 2 [.slice none 0 0, .slice none 0 0]).put 0 (.slice ps 394 kp)).put 1 (.slice qs 0 kq)) := by rw [(E4.trans X4).blk _ (by omega), hA3]; simp
  have b7 : A4.blk G4.next = some ((((((rowBlk 5 [.int .i64 0, .int .i64 0, .int .i64 0, .int .i64 0, .slice none 0 0]).put 0 (.int .i64 0)).put 1 (.int .i64 1)).put 2 (.int .i64 1)).put 3 (.int .i64 0)).put 4 (.slice q4 48 k4)) := by rw [hA4]; simp
  have far5 := D3.far (Nat.le_refl _)
  have far7 := D3.far (b := G4.next) (by omega)
  have tfar5 : NotIn (.slice q4 48 k4) G3.next := oT4.notIn (by omega)
  have tfar7 : NotIn (.slice q4 48 k4) G4.next := T4.far (Nat.le_refl _)
  simp [crashCode, awake8_ok, mf, mi, hFo, hIo, c1, c2, c3, ← hA3, z0, z1, c4, ← hA4]
  refine wp_nxt (wp_for (fun dd e G => ∃ (i : Nat) (d : Dk) (p : Pg) (tss : List (List Img)) (sv cv tv : Value) (B5 B7 : Blk), dd = m - i ∧ i ≤ m ∧ Ext H.roAll G ∧ G4.next < G.next ∧ G.blk G3.next = some B5 ∧ B5.ro = false ∧ B5.at_ 0 = some sv ∧ B5.at_ 1 = some cv ∧ PgB G G4.next p.hn p.hs p.next p.used tv B7 ∧
    DkR G (.agg #[sv, cv]) d ∧ Strs G tv p.text ∧ (NotIn sv G3.next ∧ NotIn cv G3.next ∧ NotIn tv G3.next) ∧ (NotIn sv G4.next ∧ NotIn cv G4.next ∧ NotIn tv G4.next) ∧ Store d p tss ∧ p.hn ≤ i ∧ p.next ≤ 1 + 400 * i ∧
    e 0 = .slice pi fs.length ki ∧ e 1 = iv ∧ e 2 = .int .i64 many ∧ e 3 = .int .i64 cut ∧ e 4 = .string keep ∧ e 5 = .int .i64 torn ∧ e 6 = .int .i64 at_ ∧ e 15 = .pointer (some ⟨G3.next, 0, none⟩) ∧ e 16 = .bool true ∧ e 17 = .pointer (some ⟨G4.next, 0, none⟩) ∧ e 18 = .int .i64 0 ∧ e 19 = .int .i64 (i : Int)) m
    ⟨0, d0, pgB, [], .slice ps 394 kp, .slice qs 0 kq, .slice q4 48 k4, _, _, by simp, by simp, hE, by omega, b5, by rfl, by simp, by simp, { blk := b7, ro := by rfl, p0 := by simp [pgB], p1 := by simp [pgB], p2 := by simp [pgB], p3 := by simp [pgB], p4 := by simp }, DD, TT, ⟨far5.1, far5.2, tfar5⟩, ⟨far7.1, far7.2, tfar7⟩, S0, by decide, by decide, by simp, by simp, by simp, by simp, by simp, by simp, by simp, by simp, by simp, by simp, by simp, by simp⟩ ?_)
  rintro dd e G ⟨i, d, p, tss, sv, cv, tv, B5, B7, rfl, hi, hEG', hng, hb5, hr5, h50, h51, hP, hD, hT, hf5, hf7, hS, hn1, hn2, k0, k1, k2, k3, k4, k5, k6, k15, k16, k17, k18, k19⟩
  have hr := room_of hS.sound.may (by omega) (by omega)
  have hHn : H.next ≤ G3.next := by have := (E1.trans (E2.trans E3)).next; simpa using this
  by_cases hlt : i < m
  · have w1 : (i : Int) < (m : Int) := by omega
    have w2 : IntKind.i64.wrap ((i : Int) + 1) = ((i + 1 : Nat) : Int) := wrap_succ (by omega)
    obtain ⟨hq1, hq2, hq3⟩ := comm_bounds hr hFo
    obtain ⟨d', tss', hL, hS', he0⟩ := comm_store hS hr hFo
    obtain ⟨_, g1, u1, X1, st, t1, rfl, oS, oT, _⟩ := pcommit_ok p tv _ fs G hT (hF.roAll.ext hEG')
    obtain ⟨m1, m2, m3, m4, m5⟩ := pgMay_of hS'.sound.may
    generalize comm p fs = C at *
    obtain ⟨ss, q, er⟩ := C
    simp only at *
    subst he0
    obtain ⟨pst, kst, rfl⟩ := (oS.rows encSt_len).slice
    obtain ⟨qt, kt, rfl⟩ := hT.sliceN (pgMay_of hS.sound.may).2.2.2.1
    obtain ⟨qt1, kt1, a1, rfl, ha1, na1, Y1, L1⟩ := stageP (oT.rows encS_len) m4
    obtain ⟨l1, l2⟩ := store_len hS
    have hD' := hD
    obtain ⟨_, _, ee, D1, D2⟩ := hD
    obtain ⟨rfl, rfl⟩ : sv = _ ∧ cv = _ := by simpa using ee
    obtain ⟨qsv, ksv, rfl⟩ := D1.sliceN l1
    obtain ⟨qcv, kcv, rfl⟩ := D2.sliceN l2
    obtain ⟨_, g2, u2, X2, v2, rfl, D22, hor⟩ := done8_ok _ _ d ss a1 (hD'.ext (X1.trans Y1)) ((oS.rows encSt_len).ext Y1)
    rw [hL.done.1] at u2 D22 hor
    obtain ⟨n1, n2⟩ := store_len hS'
    obtain ⟨qs2, ks2, qc2, kc2, a2, rfl, ha2, na2, Y2, L2⟩ := stage1 D22 n1 n2
    obtain ⟨w20, w21, D23⟩ := L2 a2 (Ext.refl _)
    have E13 : Ext a1 a2 := X2.trans Y2
    obtain ⟨⟨w10, w11, w12, w13, w14⟩, S1⟩ := L1 a2 E13
    have cP := hP.cell
    have p0 := hP.p0; have p1 := hP.p1; have p2 := hP.p2; have p3 := hP.p3; have p4 := hP.p4
    have x1n := X1.next; have y1n := Y1.next; have x2n := X2.next; have y2n := Y2.next
    have EGa1 : Ext G a1 := X1.trans Y1
    have EGa2 : Ext G a2 := EGa1.trans E13
    have c5 : a1.cell G3.next = B5.at_ := by funext o; rw [EGa1.cell (by omega)]; simp only [Heap.cell, hb5]
    have b52 : a2.blk G3.next = some B5 := by rw [EGa2.blk _ (by omega), hb5]
    have c52 : a2.cell G3.next = B5.at_ := by funext o; simp only [Heap.cell, b52]
    have b72 : a2.blk G4.next = some B7 := by rw [EGa2.blk _ (by omega), hP.blk]
    have c72 : a2.cell G4.next = B7.at_ := by funext o; simp only [Heap.cell, b72]
    have r7 := hP.ro
    have hne75 : ¬ G4.next = G3.next := by omega
    have hne57 : ¬ G3.next = G4.next := by omega
    have hq5 : ¬ g1.next = G3.next := by omega
    have hq7 : ¬ g1.next = G4.next := by omega
    simp only [pgV] at u1
    simp [c_law8_PlanCrash_l15, k0, k2, hm, w1, k15, k16, k17, k18, k19, cP, p0, p1, p2, p3, p4, u1, ← ha1, c5, h50, h51, u2, ← ha2, w10, w11, w12, w13, w14, w20, w21, b52, c52, hr5, b72, c72, r7, hne75, hne57, hq5, hq7, w2]
    have fd : ∀ k, k < G.next → NotIn (.slice qsv 394 ksv) k ∧ NotIn (.slice qcv 0 kcv) k → NotIn (.slice qs2 394 ks2) k ∧ NotIn (.slice qc2 0 kc2) k := fun k hk hh => by
      rcases hor with ⟨ev, _⟩ | ho
      · obtain ⟨ea, eb⟩ : Value.slice qs2 394 ks2 = .slice qsv 394 ksv ∧ Value.slice qc2 0 kc2 = .slice qcv 0 kcv := by simpa using ev
        rw [ea, eb]; exact hh
      · exact ho.far3 (by omega)
    have fd5 := fd _ (by omega) ⟨hf5.1, hf5.2.1⟩
    have fd7 := fd _ hng ⟨hf7.1, hf7.2.1⟩
    have ft5 : NotIn (.slice qt1 48 kt1) G3.next := oT.notIn (by omega)
    have ft7 : NotIn (.slice qt1 48 kt1) G4.next := oT.notIn hng
    refine ⟨m - (i + 1), by omega, i + 1, rfl, by omega, ((hEG'.trans EGa2).set (by simpa using hHn) _).set (by simp; omega) _, by omega, d'.1, d'.2, q, tss', .slice qt1 48 kt1, ⟨_, { blk := blk_set_self _ _ _, ro := r7, p0 := by simp, p1 := by simp, p2 := by simp, p3 := by simp, p4 := by simp }⟩, (D23.setB fd5.1 fd5.2 _).setB fd7.1 fd7.2 _, (S1.setB ft5 _).setB ft7 _, ⟨fd5.1, fd5.2, ft5⟩, ⟨fd7.1, fd7.2, ft7⟩, hS', by omega, by omega, k1, k3, k4, k5, k6, by omega⟩
  · obtain rfl : i = m := by omega
    simp [c_law8_PlanCrash_l15, k2, hm, k16, k18, k19]
    refine wp.mono (crash_tail (cut := cut) (torn := torn) (at_ := at_) (keep := keep) hb5 h50 h51 hP hD hT hS hr hIo (hI.roAll.ext hEG') (by omega) hng (by simp [k1]) (by simp [k3]) (by simp [k4]) (by simp [k5]) (by simp [k6]) (by simp [k15]) (by simp [k16]) (by simp [k17]) (by simp [k18])) ?_
    rintro _ e' H' ⟨rfl, h⟩
    simp [h]
end Go.AM
