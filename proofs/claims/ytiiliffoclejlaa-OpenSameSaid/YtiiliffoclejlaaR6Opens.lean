import Derived.Test.YtiiliffoclejlaaR6CodeL
import Derived.Test.YtiiliffoclejlaaR6Va
/- The law Opens: true. -/
namespace Go.AM
open Go.Proofs
set_option linter.unusedVariables false
set_option linter.unusedSimpArgs false
set_option maxRecDepth 100000
attribute [-simp] ByteArray.size_eq_zero_iff
theorem openP_size (d : Dk) : ∀ s ∈ (openP d).1.text, s.size ≤ 96 := fun s hs => by
  rw [openP] at hs
  split at hs
  · rw [openV] at hs
    split at hs
    · have h0 : ∀ s ∈ homes (vw d), s.size ≤ 96 := fun s hs => by
        obtain ⟨pg, _, rfl⟩ := List.mem_map.1 hs
        exact homeT_size _ _
      have key : ∀ (tss : List (List Img)) (b : List ByteArray), (∀ is ∈ tss, ∀ x ∈ is, iOk x) → (∀ s ∈ b, s.size ≤ 96) → ∀ s ∈ applyT b tss, s.size ≤ 96 := by
        intro tss
        induction tss with
        | nil => intro b _ hb; exact hb
        | cons is tss ih =>
          intro b ho hb
          rw [applyT, List.foldl_cons]
          exact ih _ (fun js hjs => ho js (by simp [hjs])) (applyI_size (fun x hx => (ho is (by simp) x hx).2) hb)
      exact key _ _ (scTxns_ok _ _) h0 s hs
    · cases hs
  · cases hs
theorem opens_law (dv : Value) (d : Dk) (H : Heap) (hD : DkR H dv d) (hl : (d.1.length + 2) * 16 ≤ 140737488355328 ∧ (d.2.length + 2) * 24 ≤ 140737488355328) : call K f_law7_Opens [dv] H = some (.bool true, H) := by
  refine of_wpf (open_pure rfl fc_law7_Opens rfl (Nat.le_of_ble_eq_true rfl) ?_)
  have hD' := hD
  obtain ⟨s, c, rfl, hs, hc⟩ := hD'
  obtain ⟨qs, ks, rfl⟩ := hs.slice
  obtain ⟨qc, kc, rfl⟩ := hc.slice
  obtain ⟨A0, hA0⟩ : ∃ A0, A0 = H.roAll.add (rowBlk 2 [.slice qs d.1.length ks, .slice qc d.2.length kc]) := ⟨_, rfl⟩
  have E0 : Ext H.roAll A0 := by rw [hA0]; exact (Ext.refl _).add _
  have b0 : A0.blk H.next = some (rowBlk 2 [.slice qs d.1.length ks, .slice qc d.2.length kc]) := by rw [hA0]; simp [Heap.add]
  have n0 : A0.next = H.next + 1 := by rw [hA0]; simp
  have cp : ∀ G, Ext A0 G → G.cell H.next = (rowBlk 2 [.slice qs d.1.length ks, .slice qc d.2.length kc]).at_ := fun G hG => by funext o; simp only [Heap.cell, hG.blk _ (show H.next < A0.next by omega), b0]
  have D0 : DkR A0 _ d := hD.roAll.ext E0
  obtain ⟨_, G1, c1, E1, o1⟩ := copyD_ok _ d A0 D0 hl.1 hl.2
  obtain ⟨p1, k1, q1, m1, A1, rfl, hA1, nA1, X1, F1⟩ := stageD o1.dk
  obtain ⟨x0, x1, D1⟩ := F1 A1 (Ext.refl _)
  have E01 : Ext A0 A1 := E1.trans X1
  obtain ⟨_, G2, u2, E2, t2, rfl, o2⟩ := oopen_ok _ d A1 D1
  obtain ⟨q2, k2, A2, rfl, hA2, nA2, X2, F2⟩ := stageP (p := (openP d).1) (o2.rows encS_len) (n := (openP d).1.text.length) rfl
  have E12 : Ext A1 A2 := E2.trans X2
  obtain ⟨_, G3, u3, E3, t3, rfl, o3⟩ := ropen_ok _ d A2 (D0.ext (E01.trans E12))
  obtain ⟨q3, k3, A3, rfl, hA3, nA3, X3, F3⟩ := stageP (p := (openP d).1) (o3.rows encS_len) (n := (openP d).1.text.length) rfl
  have E23 : Ext A2 A3 := E3.trans X3
  obtain ⟨⟨f20, f21, f22, f23, f24⟩, V2⟩ := F2 A3 E23
  obtain ⟨⟨f30, f31, f32, f33, f34⟩, V3⟩ := F3 A3 (Ext.refl _)
  have sm := samePg_ok _ _ _ _ A3 V2 V3
  rw [decide_eq_true rfl] at sm
  obtain ⟨_, S1, v1, P1⟩ := spoilP_ok (p := (openP d).1) (.inl (o2.ext (X2.trans E23)) : OwnZ encS 1 A1.next A3 _ _) (fun s hs => by have := openP_size d s hs; omega)
  have p1n := P1.next
  have e12 := E12.next; have e23 := E23.next
  have X14 : Ext A1 S1 := ⟨by omega, fun b hb => by rw [P1.blk b (by omega) (o2.notIn hb), (E12.trans E23).blk b hb]⟩
  obtain ⟨g0, g1, W1⟩ := F1 S1 X14
  have sd := sameDisk_ok _ _ d d S1 W1 (D0.ext (E01.trans X14))
  rw [decide_eq_true rfl] at sd
  obtain ⟨_, G5, z5, D5, t5, rfl, T5, _⟩ := oblank_ok S1
  obtain ⟨_, G6, z6, D6, t6, rfl, T6, _⟩ := rblank_ok G5
  have sm2 := samePg_ok pgB pgB _ _ G6 (T5.ext D6) T6
  rw [decide_eq_true rfl] at sm2
  have cp0 := cp A0 (Ext.refl _)
  have cp2 := cp A2 (E01.trans E12)
  have cpS := cp S1 (E01.trans X14)
  generalize openP d = OP at *
  simp only [pgV] at u2 u3 sm v1 sm2 z5 z6
  simp [← hA0, cp0, c1, ← hA1, x0, x1, u2, ← hA2, cp2, u3, ← hA3, f20, f21, f22, f23, f24, f30, f31, f32, f33, f34, sm, v1, g0, g1, cpS, sd, z5, z6, sm2, awake7_ok]
/-- what is opened without an error may be a pager, but for its numbers' end -/
theorem openP_may {d : Dk} (h : (openP d).2 = 0) (hn : (openP d).1.next ≤ 2147483647) : pgMay (openP d).1 = true := by
  have hsz := openP_size d
  rw [openP] at h hn hsz ⊢
  split at h
  · rename_i hd
    rw [if_pos hd] at hn hsz ⊢
    rw [openV] at h hn hsz ⊢
    split at h
    · rename_i hb
      rw [if_pos hb] at hn hsz ⊢
      have hm : hdMay (bestH (vw d 0) (vw d 1)).1 (bestH (vw d 0) (vw d 1)).2.1 := by
        have two : ∀ s, (hdOf s).2.2 = 0 → hdMay (hdOf s).1 (hdOf s).2.1 := fun s hs => by
          rcases getH_two (getP s) with ⟨_, h, _⟩ | h
          · exact h
          · rw [hdOf, h] at hs; cases hs
        rw [bestH, bestX] at hb ⊢
        split
        · rename_i h; exact two _ h.1
        · rename_i h
          split
          · rename_i h2; exact two _ h2
          · rename_i h2
            rw [if_neg h, if_neg h2] at hb; cases hb
      have hsc : scOk (logL (vw d)) (bestH (vw d 0) (vw d 1)).2.1 := ⟨hm.2, by rw [logL_len]; omega⟩
      have hu : (scRes (logL (vw d)) (bestH (vw d 0) (vw d 1)).2.1).used ≤ 0 + (logL (vw d)).length := scanGo_used _ _ _ (by decide)
      rw [logL_len] at hu
      simp only [openH, scNext, if_pos hsc] at hn hsz
      simp only [pgMay, openH, scNext, scUsed, if_pos hsc, Bool.and_eq_true, decide_eq_true_eq, List.all_eq_true]
      refine ⟨⟨⟨⟨⟨hm, ?_, by omega⟩, by omega⟩, by omega⟩, by rw [applyT_len, homes_len]⟩, hsz⟩
      have := hm.2.1; omega
    · rename_i hb; exact absurd h hb
  · cases h
theorem openP_err {d : Dk} (h : (openP d).2 ≠ 0) : (openP d).1 = pgO := by
  rw [openP] at h ⊢
  split
  · rename_i hd
    rw [if_pos hd] at h
    rw [openV] at h ⊢
    split
    · rename_i hb; rw [if_pos hb] at h; exact absurd rfl h
    · rfl
  · rfl
/-- a flush turns nothing that is opened -/
theorem openP_flush {d : Dk} (h : (openP d).2 = 0) : openP (done7 d [flSt]) = openP d := by
  have hd : dOk d = true := by
    rw [openP] at h
    split at h
    · assumption
    · cases h
  obtain ⟨S, C⟩ := d
  obtain ⟨e1, e2⟩ := doO_flush hd
  have e3 : done7 (S, C) [flSt] = (applyW S C, []) := by
    exact (done8_flush hd []).2.1
  rw [e3, openP, openP, if_pos e2, if_pos hd]
  have hv : ∀ i, vw (applyW S C, []) i = vw (S, C) i := vw_flush hd
  have : vw (applyW S C, []) = vw (S, C) := funext hv
  rw [this]
theorem openSame_law (dv : Value) (d : Dk) (H : Heap) (hD : DkR H dv d) (hl : (d.1.length + 2) * 16 ≤ 140737488355328 ∧ (d.2.length + 2) * 24 ≤ 140737488355328) : call K f_law7_OpenSame [dv] H = some (.bool true, H) := by
  refine of_wpf (open_pure rfl fc_law7_OpenSame rfl (Nat.le_of_ble_eq_true rfl) ?_)
  have hD' := hD
  obtain ⟨s, c, rfl, hs, hc⟩ := hD'
  obtain ⟨qs, ks, rfl⟩ := hs.slice
  obtain ⟨qc, kc, rfl⟩ := hc.slice
  obtain ⟨A0, hA0⟩ : ∃ A0, A0 = H.roAll.add (rowBlk 2 [.slice qs d.1.length ks, .slice qc d.2.length kc]) := ⟨_, rfl⟩
  have E0 : Ext H.roAll A0 := by rw [hA0]; exact (Ext.refl _).add _
  have b0 : A0.blk H.next = some (rowBlk 2 [.slice qs d.1.length ks, .slice qc d.2.length kc]) := by rw [hA0]; simp [Heap.add]
  have n0 : A0.next = H.next + 1 := by rw [hA0]; simp
  have cp : ∀ G, Ext A0 G → G.cell H.next = (rowBlk 2 [.slice qs d.1.length ks, .slice qc d.2.length kc]).at_ := fun G hG => by funext o; simp only [Heap.cell, hG.blk _ (show H.next < A0.next by omega), b0]
  have D0 : DkR A0 _ d := hD.roAll.ext E0
  obtain ⟨_, G1, u1, E1, t1, rfl, o1⟩ := oopen_ok _ d A0 D0
  obtain ⟨q1, k1, A1, rfl, hA1, nA1, X1, F1⟩ := stageP (p := (openP d).1) (o1.rows encS_len) (n := (openP d).1.text.length) rfl
  have E01 : Ext A0 A1 := E1.trans X1
  obtain ⟨⟨f10, f11, f12, f13, f14⟩, V1⟩ := F1 A1 (Ext.refl _)
  have cp0 := cp A0 (Ext.refl _)
  have cp1 := cp A1 E01
  by_cases he : (openP d).2 = 0
  · obtain ⟨B1, hB1⟩ : ∃ B1, B1 = A1.add (rowBlk 3 [.bool true, .int .i64 0, .string ⟨#[]⟩]) := ⟨_, rfl⟩
    have EB1 : Ext A1 B1 := by rw [hB1]; exact (Ext.refl _).add _
    have I1 : Rows encSt 3 B1 (.slice (some ⟨A1.next, 0, none⟩) 1 3) [flSt] := rows_blk _ (by simp) encSt_len _ _ _ rfl (by omega) (by rw [hB1]; simp) fun j hj => by
      rw [hB1]; simp [flSt]
    obtain ⟨v2, G2, u2, E2, D2, _⟩ := done7_ok _ _ d [flSt] B1 (D0.ext (E01.trans EB1)) I1
    obtain ⟨_, G3, u3, E3, t3, rfl, o3⟩ := oopen_ok _ _ G2 D2
    rw [openP_flush he] at u3 o3
    obtain ⟨q3, k3, A3, rfl, hA3, nA3, X3, F3⟩ := stageP (p := (openP d).1) (o3.rows encS_len) (n := (openP d).1.text.length) rfl
    have E13 : Ext A1 A3 := EB1.trans (E2.trans (E3.trans X3))
    obtain ⟨⟨f30, f31, f32, f33, f34⟩, V3⟩ := F3 A3 (Ext.refl _)
    obtain ⟨⟨g10, g11, g12, g13, g14⟩, W1⟩ := F1 A3 E13
    have sm := samePg_ok _ _ _ _ A3 W1 V3
    rw [decide_eq_true rfl] at sm
    have my := rpmay_ok _ _ A3 W1
    have hmay := openP_may he
    generalize openP d = OP at *
    obtain ⟨p, er⟩ := OP
    simp only at *
    subst he
    simp only [pgV] at u1 u3 sm my
    by_cases hnx : p.next ≤ 2147483647
    · rw [hmay hnx] at my
      have hn2 : ¬ (2147483647 : Int) < p.next := by omega
      simp [awake7_ok, ← hA0, cp0, u1, ← hA1, cp1, mkrowV, fillL, ← hB1, u2, u3, ← hA3, g10, g11, g12, g13, g14, f30, f31, f32, f33, f34, sm, hn2, my]
    · have hn2 : (2147483647 : Int) < p.next := by omega
      simp [awake7_ok, ← hA0, cp0, u1, ← hA1, cp1, mkrowV, fillL, ← hB1, u2, u3, ← hA3, g10, g11, g12, g13, g14, f30, f31, f32, f33, f34, sm, hn2]
  · have hp := openP_err he
    have sm := samePg_ok (openP d).1 pgO _ (.slice none 0 0) A1 V1 Rows.nil
    rw [decide_eq_true hp] at sm
    generalize openP d = OP at *
    simp only [pgV, pgO] at u1 sm
    simp [awake7_ok, ← hA0, cp0, u1, ← hA1, cp1, he, f10, f11, f12, f13, f14, sm]
end Go.AM
