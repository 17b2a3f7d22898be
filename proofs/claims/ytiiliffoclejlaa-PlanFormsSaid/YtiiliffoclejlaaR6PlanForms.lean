import Derived.Test.YtiiliffoclejlaaR6CodeL
import Derived.Test.YtiiliffoclejlaaR6J7
/- The law PlanForms: true. -/
namespace Go.AM
open Go.Proofs
set_option linter.unusedVariables false
set_option linter.unusedSimpArgs false
set_option maxRecDepth 100000
attribute [-simp] ByteArray.size_eq_zero_iff
def pfTail : IC := (.seq (.reg c_law8_PlanForms_r29) (.seq (.reg c_law8_PlanForms_r30) (.seq (.reg c_law8_PlanForms_r31) (.seq (.reg c_law8_PlanForms_r32) (.seq (.reg c_law8_PlanForms_r33) .ret)))))
def pfCode : IFn := ⟨(.seq (.reg c_law8_PlanForms_r0) (.seq (.seq (.reg c_law8_PlanForms_r1) (.cond (.t 22) (.seq (.reg c_law8_PlanForms_r2) .ret) .skip)) (.seq (.reg c_law8_PlanForms_r3) (.seq (.reg c_law8_PlanForms_r4) (.seq (.reg c_law8_PlanForms_r5) (.seq (.reg c_law8_PlanForms_r6) (.seq (.seq (.reg c_law8_PlanForms_r7) (.block 0 (.seq (.reg c_law8_PlanForms_r8) (.cond (.t 35) (.reg c_law8_PlanForms_r9) (.seq (.reg c_law8_PlanForms_r10) (.cond (.t 41) (.reg c_law8_PlanForms_r11) (.seq (.reg c_law8_PlanForms_r12) (.cond (.t 47) (.reg c_law8_PlanForms_r13) (.seq (.reg c_law8_PlanForms_r14) (.cond (.t 52) (.reg c_law8_PlanForms_r15) (.seq (.reg c_law8_PlanForms_r16) (.cond (.t 57) (.reg c_law8_PlanForms_r17) (.seq (.reg c_law8_PlanForms_r18) (.cond (.t 62) (.reg c_law8_PlanForms_r19) (.seq (.reg c_law8_PlanForms_r20) (.cond (.t 68) (.regd c_law8_PlanForms_r21 []) (.seq (.reg c_law8_PlanForms_r22) (.cond (.t 77) (.seq (.reg c_law8_PlanForms_r23) (.reg c_law8_PlanForms_r24)) (.seq (.reg c_law8_PlanForms_r25) (.cond (.t 80) (.seq (.reg c_law8_PlanForms_r26) (.reg c_law8_PlanForms_r27)) (.reg c_law8_PlanForms_r28))))))))))))))))))))) pfTail))))))), 160, [.tmp 4]⟩
theorem fc_pf : fnAt Try.prog f_law8_PlanForms = some pfCode := fc_law8_PlanForms
theorem PgB.up {G G' : Heap} {b : Nat} {hn hs nx us : Int} {tv : Value} {PB : Blk} (h : PgB G b hn hs nx us tv PB) (hb : b < G.next) (hE : Ext G G') : PgB G' b hn hs nx us tv PB := h.of (hE.blk b hb)
theorem pf_tail {G : Heap} {e : Env} {b6 b7 : Nat} {B6 B7 : Blk} {pb : Pg} {t6 tb : Value} (hP6 : PgB G b6 0 1 1 0 t6 B6) (hT6 : Strs G t6 pgB.text) (hP : PgB G b7 pb.hn pb.hs pb.next pb.used tb B7) (hT : Strs G tb pb.text) (hr : pgRoom pb = false)
    (l6 : b6 < G.next) (l7 : b7 < G.next) (k6 : e 6 = .pointer (some ⟨b6, 0, none⟩)) (k7 : e 7 = .pointer (some ⟨b7, 0, none⟩)) (k8 : e 8 = .bool (pgMay pb)) :
    wp (run K pfTail e G) fun x e' H' => x = .ret ∧ e' 4 = .bool true := by
  obtain ⟨_, g1, u1, X1, s1, t1, rfl, oS1, oT1, _⟩ := fresh_ok pb tb G hT
  rw [show freshR pb = ([], pgO, 800) by rw [freshR, hr]; rfl] at u1 oS1 oT1
  obtain ⟨ps1, ks1, rfl⟩ := (oS1.rows encSt_len).sliceN (n := 0) rfl
  obtain ⟨q1, j1, a1, rfl, ha1, na1, Y1, L1⟩ := stageP (p := pgO) (oT1.rows encS_len) (n := 0) rfl
  have E1 : Ext G a1 := X1.trans Y1
  obtain ⟨_, g2, u2, X2, s2, t2, rfl, oS2, oT2, _⟩ := pcommit_ok pb tb (.slice none 0 0) [] a1 (hT.ext E1) Rows.nil
  rw [show comm pb [] = ([], pgO, 800) by rw [comm, if_neg (by simp [hr])]] at u2 oS2 oT2
  obtain ⟨ps2, ks2, rfl⟩ := (oS2.rows encSt_len).sliceN (n := 0) rfl
  obtain ⟨q2, j2, a2, rfl, ha2, na2, Y2, L2⟩ := stageP (p := pgO) (oT2.rows encS_len) (n := 0) rfl
  have E2 : Ext G a2 := E1.trans (X2.trans Y2)
  obtain ⟨B2, hB2⟩ : ∃ B2, B2 = a2.add (rowBlk 2 [.int .i64 2, .string ⟨#[]⟩, .int .i64 1, .string ⟨#[]⟩]) := ⟨_, rfl⟩
  have EB2 : Ext a2 B2 := by rw [hB2]; exact (Ext.refl _).add _
  have I2 : Imgs B2 (.slice (some ⟨a2.next, 0, none⟩) 2 5) [(2, ⟨#[]⟩), (1, ⟨#[]⟩)] := rows_blk _ (by simp) encI_len _ _ _ rfl (by omega) (by rw [hB2]; simp) fun j hj => by
    rw [hB2]; simp
  obtain ⟨_, g3, u3, X3, s3, t3, rfl, oS3, oT3, _⟩ := pcommit_ok pgB t6 _ [(2, ⟨#[]⟩), (1, ⟨#[]⟩)] B2 (hT6.ext (E2.trans EB2)) I2
  rw [show comm pgB [(2, ⟨#[]⟩), (1, ⟨#[]⟩)] = ([], pgO, 800) by rw [comm, if_neg (fun h => absurd h.2 (by decide))]] at u3 oS3 oT3
  obtain ⟨ps3, ks3, rfl⟩ := (oS3.rows encSt_len).sliceN (n := 0) rfl
  obtain ⟨q3, j3, a3, rfl, ha3, na3, Y3, L3⟩ := stageP (p := pgO) (oT3.rows encS_len) (n := 0) rfl
  have E3 : Ext G a3 := E2.trans (EB2.trans (X3.trans Y3))
  obtain ⟨_, g4, u4, X4, s4, t4, rfl, oS4, oT4, _⟩ := pcommit_ok pgB t6 (.slice none 0 0) [] a3 (hT6.ext E3) Rows.nil
  rw [show comm pgB [] = ([], pgB, 0) by rw [comm, if_pos ⟨pgB_room, rfl⟩, if_pos rfl]] at u4 oS4 oT4
  obtain ⟨ps4, ks4, rfl⟩ := (oS4.rows encSt_len).sliceN (n := 0) rfl
  obtain ⟨q4, j4, a4, rfl, ha4, na4, Y4, L4⟩ := stageP (p := pgB) (oT4.rows encS_len) pgB_len
  have E4 : Ext G a4 := E3.trans (X4.trans Y4)
  obtain ⟨⟨w40, w41, w42, w43, w44⟩, S4⟩ := L4 a4 (Ext.refl _)
  have my1 := pmay_ok pb tb a4 (hT.ext E4)
  have my2 := pmay_ok pgB t6 a4 (hT6.ext E4)
  rw [show pgMay pgB = true by kernel_rfl] at my2
  have sm := samePg_ok pgB pgB _ _ a4 S4 (hT6.ext E4)
  rw [decide_eq_true rfl] at sm
  obtain ⟨qt, kt, rfl⟩ := hT.slice
  obtain ⟨q6, k6', rfl⟩ := hT6.sliceN pgB_len
  have p0 := hP.p0; have p1 := hP.p1; have p2 := hP.p2; have p3 := hP.p3; have p4 := hP.p4
  have r0 := hP6.p0; have r1 := hP6.p1; have r2 := hP6.p2; have r3 := hP6.p3; have r4 := hP6.p4
  have cG := hP.cell
  have c1 := (hP.up l7 E1).cell
  have c4 := (hP.up l7 E4).cell
  have d2 := (hP6.up l6 E2).cell
  have d3 := (hP6.up l6 E3).cell
  have d4 := (hP6.up l6 E4).cell
  have hb4 : binV K.P .eql tyBool (.bool (pgMay pb)) (.bool (pgMay pb)) = some (.bool true) := by cases pgMay pb <;> rfl
  have w0 : IntKind.i64.wrap 0 = 0 := by decide
  simp only [pgV, pgB, pgO] at u1 u2 u3 u4 my1 my2 sm ha1 ha2 ha3 ha4 w40 w41 w42 w43 w44
  simp [pfTail, k6, k7, k8, cG, p0, p1, p2, p3, p4, u1, ← ha1, c1, u2, ← ha2, d2, r0, r1, r2, r3, r4, mkrowV, fillL, ← hB2, u3, ← ha3, d3, u4, ← ha4, c4, my1, d4, my2, hb4, w40, w41, w42, w43, w44, sm, w0]
theorem pand1023 (x : Int) : bits .and .i64 x 1023 = x % 1024 := and_mask x 10 (by decide)
theorem room_no {p : Pg} (h : pgMay p = false) : pgRoom p = false := by simp [pgRoom, h]
theorem planForms_law (which x : Int) (H : Heap) : call K f_law8_PlanForms [.int .i64 which, .int .i64 x] H = some (.bool true, H) := by
  refine of_wpf (open_pure rfl fc_pf rfl (Nat.le_of_ble_eq_true rfl) ?_)
  obtain ⟨d, hd, d1, d2⟩ : ∃ d : Nat, IntKind.i64.wrap (1 + bits .and .i64 x 1023) = (d : Int) ∧ 1 ≤ d ∧ d ≤ 1024 := by
    rw [pand1023, wrap_i64 (by omega) (by omega)]; exact ⟨(1 + x % 1024).toNat, by omega, by omega, by omega⟩
  have wneg : IntKind.i64.wrap (-(d : Int)) = -(d : Int) := wrap_i64 (by omega) (by omega)
  have w200 : IntKind.i64.wrap (200 + (d : Int)) = 200 + (d : Int) := wrap_i64 (by omega) (by omega)
  have w96 : IntKind.i64.wrap (96 + (d : Int)) = 96 + (d : Int) := wrap_i64 (by omega) (by omega)
  have wmx : IntKind.i64.wrap (2147483647 + (d : Int)) = 2147483647 + (d : Int) := wrap_i64 (by omega) (by omega)
  obtain ⟨k, hk, hrem⟩ := umod which 10 (by omega) (by omega)
  have hrem' : ∀ t, binV K.P .rem t (.int .u64 (IntKind.u64.wrap which)) (.int .u64 10) = some (.int .u64 (k : Int)) := fun t => hrem
  obtain ⟨_, G1, c1, E1, t1, rfl, T1, hf1⟩ := rblank_ok H.roAll
  obtain ⟨q1, k1, A1, rfl, hA1, nA1, X1, F1⟩ := stageP T1 pgB_len
  obtain ⟨⟨x0, x1, x2, x3, x4⟩, T1'⟩ := F1 A1 (Ext.refl _)
  obtain ⟨_, G2, c2, E2, t2, rfl, o2⟩ := copyP_ok pgB _ A1 T1' (by rw [pgB_len]; omega)
  have hOwn := o2.own (fun h => by have := pgB_len; rw [h] at this; simp at this)
  obtain ⟨q2, k2, A2, rfl, hA2, nA2, X2, F2⟩ := stageP (p := pgB) (o2.rows encS_len) pgB_len
  have hb6 : PgB A2 G1.next 0 1 1 0 (.slice q1 48 k1) _ := PgB.up { blk := by rw [hA1, blk_set_self], ro := rfl, p0 := by simp [pgB], p1 := by simp [pgB], p2 := by simp [pgB], p3 := by simp [pgB], p4 := by simp } (by omega) (E2.trans X2)
  obtain ⟨B7, hB7⟩ : ∃ B7, B7 = ((((((rowBlk 5 [.int .i64 0, .int .i64 0, .int .i64 0, .int .i64 0, .slice none 0 0]).put 0 (.int .i64 0)).put 1 (.int .i64 1)).put 2 (.int .i64 1)).put 3 (.int .i64 0)).put 4 (.slice q2 48 k2)) := ⟨_, rfl⟩
  have b7 : A2.blk G2.next = some B7 := by rw [hA2, blk_set_self, hB7]; rfl
  have r7 : B7.ro = false := by rw [hB7]; rfl
  have y0 : B7.at_ 0 = some (.int .i64 0) := by rw [hB7]; simp
  have y1 : B7.at_ 1 = some (.int .i64 1) := by rw [hB7]; simp
  have y2 : B7.at_ 2 = some (.int .i64 1) := by rw [hB7]; simp
  have y3 : B7.at_ 3 = some (.int .i64 0) := by rw [hB7]; simp
  have y4 : B7.at_ 4 = some (.slice q2 48 k2) := by rw [hB7]; simp
  have cB : A2.cell G2.next = B7.at_ := by funext o; simp only [Heap.cell, b7]
  have T6 : Strs A2 (.slice q1 48 k1) pgB.text := T1'.ext (E2.trans X2)
  have T7 : Strs A2 (.slice q2 48 k2) pgB.text := (o2.rows encS_len).ext X2
  have e2 := E2.next
  have n67 : G1.next ≠ G2.next := by omega
  have f6 : NotIn (.slice q1 48 k1) G2.next := (F1 G2 E2).2.far (Nat.le_refl _)
  have f7 : NotIn (.slice q2 48 k2) G2.next := (o2.rows encS_len).far (Nat.le_refl _)
  -- a number of the pager is another
  have numCase : ∀ (e : Env) (o : Nat) (y : Int) (pb : Pg), PgB (A2.set G2.next (some (B7.put o (.int .i64 y)))) G2.next pb.hn pb.hs pb.next pb.used (.slice q2 48 k2) (B7.put o (.int .i64 y)) → pb.text = pgB.text → pgRoom pb = false → e 6 = .pointer (some ⟨G1.next, 0, none⟩) → e 7 = .pointer (some ⟨G2.next, 0, none⟩) → e 8 = .bool (pgMay pb) →
      wp (run K pfTail e (A2.set G2.next (some (B7.put o (.int .i64 y))))) fun x e H' => isEnd x = true ∧ flat (e 4) = true ∧ e 4 = .bool true := fun e o y pb hP ht hr k6 k7 k8 => by
    refine wp.mono (pf_tail (hb6.of (blk_set_ne n67)) (T6.setB f6 _) hP (ht ▸ T7.setB f7 _) hr (by simp; omega) (by simp; omega) k6 k7 k8) ?_
    rintro _ e' H' ⟨rfl, h⟩
    simp [h]
  have nil0 : (⟨#[]⟩ : ByteArray).size = 0 := rfl
  simp only [pgV, pgB] at c1 c2 hA1 hA2 x0 x1 x2 x3
  match k, hk with
  | 0, _ =>
    simp [pfCode, awake8_ok, hd, c1, ← hA1, x0, x1, x2, x3, x4, c2, ← hA2, hrem', wneg, cB, y0, b7, r7]
    exact numCase _ 0 _ ⟨-(d : Int), 1, 1, 0, pgB.text⟩ { blk := blk_set_self _ _ _, ro := r7, p0 := by simp, p1 := by simp [y1], p2 := by simp [y2], p3 := by simp [y3], p4 := by simp [y4] } rfl (room_no (by simp [pgMay, hdMay]; omega)) (by simp) (by simp) (by simp [pgMay, hdMay]; omega)
  | 1, _ =>
    simp [pfCode, awake8_ok, hd, c1, ← hA1, x0, x1, x2, x3, x4, c2, ← hA2, hrem', wneg, cB, y1, b7, r7]
    exact numCase _ 1 _ ⟨0, -(d : Int), 1, 0, pgB.text⟩ { blk := blk_set_self _ _ _, ro := r7, p0 := by simp [y0], p1 := by simp, p2 := by simp [y2], p3 := by simp [y3], p4 := by simp [y4] } rfl (room_no (by simp [pgMay, hdMay]; omega)) (by simp) (by simp) (by simp [pgMay, hdMay]; omega)
  | 2, _ =>
    simp [pfCode, awake8_ok, hd, c1, ← hA1, x0, x1, x2, x3, x4, c2, ← hA2, hrem', wneg, cB, y2, b7, r7]
    exact numCase _ 2 _ ⟨0, 1, -(d : Int), 0, pgB.text⟩ { blk := blk_set_self _ _ _, ro := r7, p0 := by simp [y0], p1 := by simp [y1], p2 := by simp, p3 := by simp [y3], p4 := by simp [y4] } rfl (room_no (by simp [pgMay, hdMay]; omega)) (by simp) (by simp) (by simp [pgMay, hdMay]; omega)
  | 3, _ =>
    simp [pfCode, awake8_ok, hd, c1, ← hA1, x0, x1, x2, x3, x4, c2, ← hA2, hrem', wneg, cB, y3, b7, r7]
    exact numCase _ 3 _ ⟨0, 1, 1, -(d : Int), pgB.text⟩ { blk := blk_set_self _ _ _, ro := r7, p0 := by simp [y0], p1 := by simp [y1], p2 := by simp [y2], p3 := by simp, p4 := by simp [y4] } rfl (room_no (by simp [pgMay, hdMay]; omega)) (by simp) (by simp) (by simp [pgMay, hdMay]; omega)
  | 4, _ =>
    simp [pfCode, awake8_ok, hd, c1, ← hA1, x0, x1, x2, x3, x4, c2, ← hA2, hrem', w200, cB, y3, b7, r7]
    exact numCase _ 3 _ ⟨0, 1, 1, 200 + (d : Int), pgB.text⟩ { blk := blk_set_self _ _ _, ro := r7, p0 := by simp [y0], p1 := by simp [y1], p2 := by simp [y2], p3 := by simp, p4 := by simp [y4] } rfl (room_no (by simp [pgMay, hdMay]; omega)) (by simp) (by simp) (by simp [pgMay, hdMay]; omega)
  | 5, _ =>
    obtain ⟨u, hu, rU⟩ := T7.tail (hOwn.ext X2).esz 1 (by rw [pgB_len]; omega)
    have hu' : slvV A2 1 (.slice q2 48 k2) (some (.int .i64 1)) none none = some u := hu
    obtain ⟨qu, ku, rfl⟩ := rU.slice
    have nu : NotIn (.slice qu (pgB.text.drop 1).length ku) G2.next := by
      rcases hOwn.is with ⟨_, h⟩ | ⟨b, B, h1, h2, h3, _⟩
      · have := pgB_len; rw [h] at this; simp at this
      · cases h1
        have hne : b ≠ G2.next := by omega
        intro a n c e
        simp [slvV, bound] at hu'
        obtain ⟨_, _, h3, _⟩ := hu'
        rw [← h3] at e
        cases e
        exact fun h => hne h.symm
    simp [pfCode, awake8_ok, hd, c1, ← hA1, x0, x1, x2, x3, x4, c2, ← hA2, hrem', cB, y4, b7, r7, hu']
    refine wp.mono (pf_tail (pb := ⟨0, 1, 1, 0, pgB.text.drop 1⟩) (hb6.of (blk_set_ne n67)) (T6.setB f6 _) { blk := blk_set_self _ _ _, ro := r7, p0 := by simp [y0], p1 := by simp [y1], p2 := by simp [y2], p3 := by simp [y3], p4 := by simp } (rU.setB nu _) (room_no (by simp [pgMay, pgB_len])) (by simp; omega) (by simp; omega) (by simp) (by simp) (by simp [pgMay, pgB_len])) ?_
    rintro _ e' H' ⟨rfl, h⟩
    simp [h]
  | 6, _ =>
    obtain ⟨b, B, hv, hb1, hb2, hB, hro, hat, hup⟩ := hOwn.setS (k := 3) (by rw [pgB_len]; omega) (zer (96 + d))
    rw [pgB_len] at hv
    cases hv
    have hne : b ≠ G2.next := by omega
    have hne1 : G1.next ≠ b := by omega
    have hne2 : G2.next ≠ b := by omega
    have h1 : 96 + d ≤ 2 ^ 46 := by omega
    have h2 := row_fill1 A2 A2.next (96 + d) (96 + d) (.int .u8 0) rfl (Nat.le_refl _)
    have hB' : A2.blk b = some B := by rw [X2.blk _ hb2, hB]
    have hnb : ¬ b = A2.next := by omega
    have cA2 : A2.cell b = B.at_ := by funext o; simp only [Heap.cell, hB']
    have cB2 : (A2.add (fillB 1 (96 + d) [.int .u8 0])).cell b = B.at_ := by funext o; rw [((Ext.refl A2).add _).cell (by omega)]; simp only [Heap.cell, hB']
    have bB2 : (A2.add (fillB 1 (96 + d) [.int .u8 0])).blk b = some B := by rw [((Ext.refl A2).add _).blk _ (by omega), hB']
    have n96 : natOf (.int .i64 (96 + (d : Int))) = some (96 + d) := by rw [show (96 + (d : Int)) = ((96 + d : Nat) : Int) by omega]; exact natOf_cast _ _
    have hmz : pgMay ⟨0, 1, 1, 0, pgB.text.set 3 (zer (96 + d))⟩ = false := by
      simp only [pgMay, Bool.and_eq_false_iff]
      refine .inr ?_
      rw [List.all_eq_false]
      exact ⟨zer (96 + d), List.mem_iff_getElem.2 ⟨3, by simp [pgB], by simp⟩, by simp [zer_size]; omega⟩
    have hT' := (hup _ (X2.add (fillB 1 (96 + d) [.int .u8 0]))).rows encS_len
    simp [pfCode, awake8_ok, hd, c1, ← hA1, x0, x1, x2, x3, x4, c2, ← hA2, hrem', w96, cB, y4, b7, r7, n96, natOf_int, h1, h2, nums_rep, str_zero, hnb, hB', cA2, hat, hro]
    refine wp.mono (pf_tail (pb := ⟨0, 1, 1, 0, pgB.text.set 3 (zer (96 + d))⟩) (hb6.of (by rw [blk_set_ne hne1, blk_add, if_neg (by omega)])) ((T6.ext ((Ext.refl A2).add _)).setB (T1'.far hb1) _) { blk := by rw [blk_set_ne hne2, blk_add, if_neg (by omega), b7], ro := r7, p0 := y0, p1 := y1, p2 := y2, p3 := y3, p4 := y4 } (by simpa [pgB_len] using hT') (room_no hmz) (by simp; omega) (by simp; omega) (by simp) (by simp) (by simp [hmz])) ?_
    rintro _ e' H' ⟨rfl, h⟩
    simp [h]
  | 7, _ =>
    simp [pfCode, awake8_ok, hd, c1, ← hA1, x0, x1, x2, x3, x4, c2, ← hA2, hrem', cB, y2, b7, r7]
    exact numCase _ 2 _ ⟨0, 1, 2147482648, 0, pgB.text⟩ { blk := blk_set_self _ _ _, ro := r7, p0 := by simp [y0], p1 := by simp [y1], p2 := by simp, p3 := by simp [y3], p4 := by simp [y4] } rfl (by simp [pgRoom]) (by simp) (by simp) (by simp [pgMay, hdMay, pgB, nil0])
  | 8, _ =>
    simp [pfCode, awake8_ok, hd, c1, ← hA1, x0, x1, x2, x3, x4, c2, ← hA2, hrem', cB, y0, b7, r7]
    exact numCase _ 0 _ ⟨2147482648, 1, 1, 0, pgB.text⟩ { blk := blk_set_self _ _ _, ro := r7, p0 := by simp, p1 := by simp [y1], p2 := by simp [y2], p3 := by simp [y3], p4 := by simp [y4] } rfl (by simp [pgRoom]) (by simp) (by simp) (by simp [pgMay, hdMay, pgB, nil0])
  | 9, _ =>
    simp [pfCode, awake8_ok, hd, c1, ← hA1, x0, x1, x2, x3, x4, c2, ← hA2, hrem', wmx, cB, y2, b7, r7]
    exact numCase _ 2 _ ⟨0, 1, 2147483647 + (d : Int), 0, pgB.text⟩ { blk := blk_set_self _ _ _, ro := r7, p0 := by simp [y0], p1 := by simp [y1], p2 := by simp, p3 := by simp [y3], p4 := by simp [y4] } rfl (room_no (by simp [pgMay, hdMay]; omega)) (by simp) (by simp) (by simp [pgMay, hdMay]; omega)
end Go.AM
