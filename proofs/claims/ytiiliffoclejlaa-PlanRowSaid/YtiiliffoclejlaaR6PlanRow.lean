import Derived.Test.YtiiliffoclejlaaR6J7
/- The law PlanRow: true. -/
namespace Go.AM
open Go.Proofs
set_option linter.unusedVariables false
set_option linter.unusedSimpArgs false
set_option maxRecDepth 100000
attribute [-simp] ByteArray.size_eq_zero_iff
theorem planRow_law (iv : Value) (is : List Img) (many : Int) (H : Heap) (hI : Imgs H iv is) : call K f_law8_PlanRow [iv, .int .i64 many] H = some (.bool true, H) := by
  refine of_wpf (open_pure rfl fc_law8_PlanRow rfl (Nat.le_of_ble_eq_true rfl) ?_)
  have mi := rimages_ok iv is H.roAll hI.roAll
  by_cases hIo : imOk (-1) is = true
  · obtain ⟨v0, G1, va, G2, v3, G3, d0, c1, c2, c3, E1, E2, E3, D3, S0⟩ := new_store H.roAll
    obtain ⟨hl1, hl2⟩ := store_len S0
    obtain ⟨ps, kp, qs, kq, A3, rfl, hA3, nA3, X3, F3⟩ := stage1 D3 hl1 hl2
    obtain ⟨_, G4, c4, E4, t4, rfl, T4, hfar4⟩ := rblank_ok A3
    obtain ⟨q4, k4, A4, rfl, hA4, nA4, X4, F4⟩ := stageP T4 pgB_len
    simp only [pgV, pgB] at c4 hA4
    obtain ⟨m, hm, hm16⟩ : ∃ m : Nat, bits .and .i64 many 15 = (m : Int) ∧ m ≤ 15 := ⟨(many % 16).toNat, by rw [and15]; omega, by omega⟩
    obtain ⟨pi, ki, rfl⟩ := hI.slice
    have e4 := E4.next
    have hE : Ext H.roAll A4 := (E1.trans (E2.trans E3)).trans (X3.trans (E4.trans X4))
    have hEG : Ext G3 A4 := X3.trans (E4.trans X4)
    obtain ⟨⟨x0, x1⟩, DD⟩ : (A4.cell G3.next 0 = _ ∧ A4.cell G3.next 1 = _) ∧ DkR A4 _ d0 := ⟨⟨(F3 A4 (E4.trans X4)).1, (F3 A4 (E4.trans X4)).2.1⟩, (F3 A4 (E4.trans X4)).2.2⟩
    obtain ⟨⟨y0, y1, y2, y3, y4⟩, TT⟩ := F4 A4 (Ext.refl _)
    have b5 : A4.blk G3.next = some (((rowBlk 2 [.slice none 0 0, .slice none 0 0]).put 0 (.slice ps 394 kp)).put 1 (.slice qs 0 kq)) := by rw [(E4.trans X4).blk _ (by omega), hA3]; simp
    have b7 : A4.blk G4.next = some ((((((rowBlk 5 [.int .i64 0, .int .i64 0, .int .i64 0, .int .i64 0, .slice none 0 0]).put 0 (.int .i64 0)).put 1 (.int .i64 1)).put 2 (.int .i64 1)).put 3 (.int .i64 0)).put 4 (.slice q4 48 k4)) := by rw [hA4]; simp
    have far5 := D3.far (Nat.le_refl _)
    have far7 := D3.far (b := G4.next) (by omega)
    have tfar5 : NotIn (.slice q4 48 k4) G3.next := hfar4 _ (by omega)
    have tfar7 : NotIn (.slice q4 48 k4) G4.next := T4.far (Nat.le_refl _)
    simp [awake8_ok, mi, hIo, c1, c2, c3, ← hA3, c4, ← hA4]
    refine wp_nxt (wp_for (fun dd e G => ∃ (i : Nat) (d : Dk) (p : Pg) (tss : List (List Img)) (sv cv tv : Value) (B5 B7 : Blk), dd = m - i ∧ i ≤ m ∧ Ext H.roAll G ∧ G4.next < G.next ∧ G.blk G3.next = some B5 ∧ B5.ro = false ∧ B5.at_ 0 = some sv ∧ B5.at_ 1 = some cv ∧ PgB G G4.next p.hn p.hs p.next p.used tv B7 ∧
      DkR G (.agg #[sv, cv]) d ∧ Strs G tv p.text ∧ (NotIn sv G3.next ∧ NotIn cv G3.next ∧ NotIn tv G3.next) ∧ (NotIn sv G4.next ∧ NotIn cv G4.next ∧ NotIn tv G4.next) ∧ Store d p tss ∧ p.hn ≤ i ∧ p.next ≤ 1 + 400 * i ∧
      e 0 = .slice pi is.length ki ∧ e 1 = .int .i64 many ∧ e 5 = .pointer (some ⟨G3.next, 0, none⟩) ∧ e 6 = .bool true ∧ e 7 = .pointer (some ⟨G4.next, 0, none⟩) ∧ e 8 = .int .i64 (i : Int)) m
      ⟨0, d0, pgB, [], .slice ps 394 kp, .slice qs 0 kq, .slice q4 48 k4, _, _, by simp, by simp, hE, by omega, b5, by rfl, by simp, by simp, { blk := b7, ro := by rfl, p0 := by simp [pgB], p1 := by simp [pgB], p2 := by simp [pgB], p3 := by simp [pgB], p4 := by simp }, DD, TT, ⟨far5.1, far5.2, tfar5⟩, ⟨far7.1, far7.2, tfar7⟩, S0, by decide, by decide, by simp, by simp, by simp, by simp, by simp, by simp⟩ ?_)
    rintro dd e G ⟨i, d, p, tss, sv, cv, tv, B5, B7, rfl, hi, hEG', hng, hb5, hr5, h50, h51, hP, hD, hT, hf5, hf7, hS, hn1, hn2, k0, k1, k5, k6, k7, k8⟩
    by_cases hlt : i < m
    · have w1 : (i : Int) < (m : Int) := by omega
      have w2 : IntKind.i64.wrap ((i : Int) + 1) = ((i + 1 : Nat) : Int) := wrap_succ (by omega)
      have hr := room_of hS.sound.may (by omega) (by omega)
      obtain ⟨hq1, hq2, hq3⟩ := comm_bounds hr hIo
      obtain ⟨d', tss', hL, hS', he0⟩ := comm_store hS hr hIo
      obtain ⟨_, g1, u1, X1, st, t1, rfl, oS, oT, _⟩ := pcommit_ok p tv _ is G hT (hI.roAll.ext hEG')
      obtain ⟨m1, m2, m3, m4, m5⟩ := pgMay_of hS'.sound.may
      generalize comm p is = C at *
      obtain ⟨ss, q, er⟩ := C
      simp only at *
      subst he0
      obtain ⟨pst, kst, rfl⟩ := (oS.rows encSt_len).slice
      obtain ⟨qt, kt, rfl⟩ := hT.sliceN (pgMay_of hS.sound.may).2.2.2.1
      obtain ⟨qt1, kt1, a1, rfl, ha1, na1, Y1, L1⟩ := stageP (oT.rows encS_len) m4
      obtain ⟨l1, l2⟩ := store_len hS
      have hD' := hD
      obtain ⟨_, _, ee, D1, D2⟩ := hD
      obtain ⟨rfl, rfl⟩ : sv = _ ∧ cv = _ := by simpa using ee
      obtain ⟨qsv, ksv, rfl⟩ := D1.sliceN l1
      obtain ⟨qcv, kcv, rfl⟩ := D2.sliceN l2
      obtain ⟨_, g2, u2, X2, v2, rfl, D22, hor⟩ := done8_ok _ _ d ss a1 (hD'.ext (X1.trans Y1)) ((oS.rows encSt_len).ext Y1)
      rw [hL.done.1] at u2 D22 hor
      obtain ⟨n1, n2⟩ := store_len hS'
      obtain ⟨qs2, ks2, qc2, kc2, a2, rfl, ha2, na2, Y2, L2⟩ := stage1 D22 n1 n2
      obtain ⟨⟨z0, z1, z2⟩⟩ : Nonempty (PLift (a2.cell g2.next 0 = some (.slice qs2 394 ks2)) × PLift (a2.cell g2.next 1 = some (.slice qc2 0 kc2)) × PLift (DkR a2 (.agg #[.slice qs2 394 ks2, .slice qc2 0 kc2]) d')) := ⟨⟨⟨(L2 a2 (Ext.refl _)).1⟩, ⟨(L2 a2 (Ext.refl _)).2.1⟩, ⟨(L2 a2 (Ext.refl _)).2.2⟩⟩⟩
      obtain ⟨_, g3, u3, X3', t3, rfl, oT3⟩ := ropen_ok _ d' a2 z2.down
      rw [openP_store hS'] at u3 oT3
      obtain ⟨qt3, kt3, a3, rfl, ha3, na3, Y3, L3⟩ := stageP (p := q) (oT3.rows encS_len) m4
      have E12 := Y1.trans X2
      have E13 : Ext a1 a3 := X2.trans (Y2.trans (X3'.trans Y3))
      obtain ⟨⟨w10, w11, w12, w13, w14⟩, S1⟩ := L1 a3 E13
      obtain ⟨w20, w21, D23⟩ := L2 a3 (X3'.trans Y3)
      obtain ⟨⟨w30, w31, w32, w33, w34⟩, S3⟩ := L3 a3 (Ext.refl _)
      have sm := samePg_ok q q _ _ a3 S3 S1
      have cP := hP.cell
      have p0 := hP.p0; have p1 := hP.p1; have p2 := hP.p2; have p3 := hP.p3; have p4 := hP.p4
      have x1n := X1.next; have y1n := Y1.next; have x2n := X2.next; have y2n := Y2.next; have x3n := X3'.next; have y3n := Y3.next
      have EGa1 : Ext G a1 := X1.trans Y1
      have EGa3 : Ext G a3 := EGa1.trans E13
      have c5 : a1.cell G3.next = B5.at_ := by funext o; rw [EGa1.cell (by omega)]; simp only [Heap.cell, hb5]
      have b53 : a3.blk G3.next = some B5 := by rw [EGa3.blk _ (by omega), hb5]
      have c53 : a3.cell G3.next = B5.at_ := by funext o; simp only [Heap.cell, b53]
      have b73 : a3.blk G4.next = some B7 := by rw [EGa3.blk _ (by omega), hP.blk]
      have c73 : a3.cell G4.next = B7.at_ := by funext o; simp only [Heap.cell, b73]
      have r7 := hP.ro
      have hg200 : ¬ (200 : Int) < q.used := by omega
      have hne75 : ¬ G4.next = G3.next := by omega
      have hne57 : ¬ G3.next = G4.next := by omega
      have hq5 : ¬ g1.next = G3.next := by omega
      have hq7 : ¬ g1.next = G4.next := by omega
      simp only [pgV] at u1 u3 sm
      simp [c_law8_PlanRow_l17, k0, k1, hm, w1, k5, k6, k7, k8, cP, p0, p1, p2, p3, p4, u1, ← ha1, c5, h50, h51, u2, ← ha2, z0.down, z1.down, u3, ← ha3, w10, w11, w12, w13, w14, w20, w21, w30, w31, w32, w33, w34, sm, hg200, b53, c53, hr5, b73, c73, r7, hne75, hne57, hq5, hq7, w2]
      have fd : ∀ k, k < G.next → NotIn (.slice qsv 394 ksv) k ∧ NotIn (.slice qcv 0 kcv) k → NotIn (.slice qs2 394 ks2) k ∧ NotIn (.slice qc2 0 kc2) k := fun k hk hh => by
        rcases hor with ⟨ev, _⟩ | ho
        · obtain ⟨ea, eb⟩ : Value.slice qs2 394 ks2 = .slice qsv 394 ksv ∧ Value.slice qc2 0 kc2 = .slice qcv 0 kcv := by simpa using ev
          rw [ea, eb]; exact hh
        · exact ho.far3 (by omega)
      have fd5 := fd _ (by omega) ⟨hf5.1, hf5.2.1⟩
      have fd7 := fd _ hng ⟨hf7.1, hf7.2.1⟩
      have ft5 : NotIn (.slice qt1 48 kt1) G3.next := oT.notIn (by omega)
      have ft7 : NotIn (.slice qt1 48 kt1) G4.next := oT.notIn hng
      have hHn : H.next ≤ G3.next := by have := (E1.trans (E2.trans E3)).next; simpa using this
      have hl3 : (if (0 : Nat) = 0 then (0 : Nat) else 0) = 0 := rfl
      refine ⟨m - (i + 1), by omega, i + 1, rfl, by omega, ((hEG'.trans EGa3).set (by simpa using hHn) _).set (by simp; omega) _, by omega, d'.1, d'.2, q, tss', .slice qt1 48 kt1, ⟨_, { blk := blk_set_self _ _ _, ro := r7, p0 := by simp, p1 := by simp, p2 := by simp, p3 := by simp, p4 := by simp }⟩, (D23.setB fd5.1 fd5.2 _).setB fd7.1 fd7.2 _, (S1.setB ft5 _).setB ft7 _, ⟨fd5.1, fd5.2, ft5⟩, ⟨fd7.1, fd7.2, ft7⟩, hS', by omega, by omega, by omega⟩
    · obtain rfl : i = m := by omega
      simp [c_law8_PlanRow_l17, k1, hm, k6, k8]
  · have hIo' : imOk (-1) is = false := by simpa using hIo
    simp [awake8_ok, mi, hIo']
end Go.AM
