import Derived.Test.YtiiliffoclejlaaR6J7
/- Law 7: what every program answers that is one; helpers. -/
namespace Go.AM
open Go.Proofs
set_option linter.unusedVariables false
set_option linter.unusedSimpArgs false
set_option maxRecDepth 100000
attribute [-simp] ByteArray.size_eq_zero_iff
/-- the first disk: new, and laid out, by the document's steps -/
theorem new_store7 (G : Heap) : ∃ v0 G1 va G2 v3 G3 d, call K f_ref1_NewDisk [] G = some (v0, G1) ∧ call K f_ref1_Format [] G1 = some (va, G2) ∧ call K f_law7_done [v0, va] G2 = some (v3, G3) ∧ Ext G G1 ∧ Ext G1 G2 ∧ Ext G2 G3 ∧ DkR G3 v3 d ∧ Store d pgB [] := by
  obtain ⟨v0, G1, c1, E1, D1⟩ := rnew_ok G
  obtain ⟨va, G2, c2, E2, R2⟩ := rformat_ok G1
  obtain ⟨d, hl, hs⟩ := format_store
  obtain ⟨v3, G3, c3, E3, D3, _⟩ := done7_ok v0 va newD formS G2 (D1.ext E2) R2
  rw [hl.done.2] at D3
  exact ⟨v0, G1, va, G2, v3, G3, d, c1, c2, c3, E1, E2, E3, D3, hs⟩
/-- a disk laid in a new box -/
theorem stageD {G : Heap} {v : Value} {d : Dk} (h : DkR G v d) :
    ∃ p k q m A, v = .agg #[.slice p d.1.length k, .slice q d.2.length m] ∧ A = (G.add (rowBlk 2 [.slice none 0 0, .slice none 0 0])).set G.next (some (((rowBlk 2 [.slice none 0 0, .slice none 0 0]).put 0 (.slice p d.1.length k)).put 1 (.slice q d.2.length m))) ∧ A.next = G.next + 1 ∧ Ext G A ∧
      ∀ A', Ext A A' → A'.cell G.next 0 = some (.slice p d.1.length k) ∧ A'.cell G.next 1 = some (.slice q d.2.length m) ∧ DkR A' (.agg #[.slice p d.1.length k, .slice q d.2.length m]) d := by
  obtain ⟨s, c, rfl, hs, hc⟩ := h
  obtain ⟨p, k, rfl⟩ := hs.slice
  obtain ⟨q, m, rfl⟩ := hc.slice
  refine ⟨p, k, q, m, _, rfl, rfl, rfl, bxH_ext G _ _, fun A' hE => ?_⟩
  have hb := (BoxD.new G (.slice p d.1.length k) (.slice q d.2.length m)).ext hE
  exact ⟨hb.c0, hb.c1, _, _, rfl, hs.ext ((bxH_ext G _ _).trans hE), hc.ext ((bxH_ext G _ _).trans hE)⟩
theorem best_none {a b : ByteArray} (h1 : getP a = ⟨#[]⟩) (h2 : getP b = ⟨#[]⟩) : bestH a b = (0, 0, 501) := by
  rw [bestH, hdOf_none h1, hdOf_none h2]; decide
theorem openP_newD : openP newD = (pgO, 501) := by
  rw [openP, if_pos newD_ok, openV, best_none (by rw [newD_view 0 (by omega), zer_pair]) (by rw [newD_view 1 (by omega), zer_pair])]
  rfl
theorem openP_nil : openP ([], []) = (pgO, 700) := if_neg (by decide)
theorem pgO_len : pgO.text.length = 0 := rfl
theorem awake7_ok (H : Heap) : call K f_law7_awake [] H = some (.bool true, H) := by
  refine of_wpf (open_pure rfl fc_law7_awake rfl (Nat.le_of_ble_eq_true rfl) ?_)
  obtain ⟨_, G1, c1, E1, t1, rfl, T1, _⟩ := oblank_ok H.roAll
  obtain ⟨q1, k1, A1, rfl, hA1, nA1, X1, F1⟩ := stageP T1 pgB_len
  obtain ⟨v2, G2, v3, G3, v4, G4, d0, c2, c3, c4, E2, E3, E4, D4, S0⟩ := new_store7 A1
  obtain ⟨hl1, hl2⟩ := store_len S0
  obtain ⟨ps, kp, qs, kq, A4, rfl, hA4, nA4, X4, F4⟩ := stage1 D4 hl1 hl2
  obtain ⟨z0, z1, DZ⟩ := F4 A4 (Ext.refl _)
  have E14 : Ext A1 A4 := E2.trans (E3.trans (E4.trans X4))
  obtain ⟨_, G5, c5, E5, t5, rfl, o5⟩ := oopen_ok _ d0 A4 DZ
  rw [openP_store S0] at c5 o5
  obtain ⟨q5, k5, A5, rfl, hA5, nA5, X5, F5⟩ := stageP (p := pgB) (o5.rows encS_len) pgB_len
  obtain ⟨⟨y0, y1, y2, y3, y4⟩, T5⟩ := F5 A5 (Ext.refl _)
  have E45 : Ext A4 A5 := E5.trans X5
  -- a commit
  obtain ⟨B5, hB5⟩ : ∃ B5, B5 = A5.add (rowBlk 2 [.int .i64 3, .string abc]) := ⟨_, rfl⟩
  have EB5 : Ext A5 B5 := by rw [hB5]; exact (Ext.refl _).add _
  have I5 : Imgs B5 (.slice (some ⟨A5.next, 0, none⟩) 1 3) [(3, abc)] := rows_blk _ (by simp) encI_len _ _ _ rfl (by omega) (by rw [hB5]; simp) fun j hj => by
    rw [hB5]; simp
  obtain ⟨d', tss', hL, hS', he0⟩ := comm_store (is := [(3, abc)]) S0 pgB_room (by decide)
  obtain ⟨_, G6, c6, E6, s6, t6, rfl, oS6, oT6, _⟩ := rcommit_ok pgB _ _ [(3, abc)] B5 (T5.ext EB5) I5
  obtain ⟨_, _, _, m4, _⟩ := pgMay_of hS'.sound.may
  generalize comm pgB [(3, abc)] = C at *
  obtain ⟨ss, p, er⟩ := C
  simp only at *
  subst he0
  obtain ⟨ps6, ks6, rfl⟩ := (oS6.rows encSt_len).slice
  obtain ⟨q6, k6, A6, rfl, hA6, nA6, X6, F6⟩ := stageP (p := p) (oT6.rows encS_len) m4
  have E56 : Ext A5 A6 := EB5.trans (E6.trans X6)
  obtain ⟨z60, z61, D6⟩ := F4 A6 (E45.trans E56)
  obtain ⟨v7, G7, c7, E7, D7, _⟩ := done7_ok _ _ d0 ss A6 D6 ((oS6.rows encSt_len).ext X6)
  rw [hL.done.2] at D7
  obtain ⟨_, G8, c8, E8, t8, rfl, o8⟩ := oopen_ok _ d' G7 D7
  rw [openP_store hS'] at c8 o8
  obtain ⟨q8, k8, A8, rfl, hA8, nA8, X8, F8⟩ := stageP (p := p) (o8.rows encS_len) m4
  have E68 : Ext A6 A8 := E7.trans (E8.trans X8)
  -- a new disk
  obtain ⟨v9, G9, c9, E9, D9⟩ := rnew_ok A8
  obtain ⟨_, G10, c10, E10, t10, rfl, o10⟩ := oopen_ok _ newD G9 D9
  rw [openP_newD] at c10 o10
  obtain ⟨q10, k10, A10, rfl, hA10, nA10, X10, F10⟩ := stageP (p := pgO) (o10.rows encS_len) pgO_len
  have E810 : Ext A8 A10 := E9.trans (E10.trans X10)
  -- no disk
  obtain ⟨_, G11, c11, E11, t11, rfl, o11⟩ := oopen_ok (.agg #[.slice none 0 0, .slice none 0 0]) ([], []) A10 ⟨_, _, rfl, Rows.nil, Rows.nil⟩
  rw [openP_nil] at c11 o11
  obtain ⟨q11, k11, A11, rfl, hA11, nA11, X11, F11⟩ := stageP (p := pgO) (o11.rows encS_len) pgO_len
  have E1011 : Ext A10 A11 := E11.trans X11
  have E811 : Ext A8 A11 := E810.trans E1011
  have E611 := E68.trans E811
  have E511 := E56.trans E611
  have E111 := E14.trans (E45.trans E511)
  obtain ⟨⟨w10, w11, w12, w13, w14⟩, W1⟩ := F1 A11 E111
  obtain ⟨_, G12, c12, E12, t12, rfl, T12, _⟩ := rblank_ok A11
  obtain ⟨q12, k12, rfl⟩ := T12.sliceN pgB_len
  obtain ⟨⟨u10, u11, u12, u13, u14⟩, U1⟩ := F1 G12 (E111.trans E12)
  obtain ⟨⟨u50, u51, u52, u53, u54⟩, U5⟩ := F5 G12 (E511.trans E12)
  obtain ⟨⟨u60, u61, u62, u63, u64⟩, U6⟩ := F6 G12 (E611.trans E12)
  obtain ⟨⟨u80, u81, u82, u83, u84⟩, U8⟩ := F8 G12 (E811.trans E12)
  have sm1 := samePg_ok pgB pgB _ _ G12 U1 T12
  have sm2 := samePg_ok pgB pgB _ _ G12 U5 U1
  have sm3 := samePg_ok p p _ _ G12 U8 U6
  rw [decide_eq_true rfl] at sm1 sm2 sm3
  simp only [pgV, pgB, pgO] at c1 c5 c6 c10 c11 c12 hA1 hA5 hA10 hA11 y0 y1 y2 y3 y4 w10 w11 w12 w13 u10 u11 u12 u13 u50 u51 u52 u53 sm1 sm2
  simp only [pgV] at c8 sm3
  simp only [abc] at hB5
  simp [c1, ← hA1, c2, c3, c4, ← hA4, z0, z1, c5, ← hA5, y0, y1, y2, y3, y4, mkrowV, fillL, ← hB5, c6, ← hA6, z60, z61, c7, c8, ← hA8, c9, c10, ← hA10, c11, ← hA11, run_regd_tr, finD_some, Chk, wanted, w10, w11, w12, w13, w14, c12, u10, u11, u12, u13, u14, u50, u51, u52, u53, u54, u60, u61, u62, u63, u64, u80, u81, u82, u83, u84, sm1, sm2, sm3]
end Go.AM
