import Derived.Test.YtiiliffoclejlaaR6CodeL
import Derived.Test.YtiiliffoclejlaaR6Vc
/- The law OpenHead: true. -/
namespace Go.AM
open Go.Proofs
set_option linter.unusedVariables false
set_option linter.unusedSimpArgs false
set_option maxRecDepth 100000
attribute [-simp] ByteArray.size_eq_zero_iff
/-- a copy of sectors in a new box, no cache -/
theorem copy_box {G : Heap} {q : Option Addr} {n : Nat} {S : List ByteArray} (hS : Strs G (.slice q 394 n) S) (hl : S.length = 394) :
    ∃ G0 G1 A b B, G0 = G.add (rowBlk 1 []) ∧ appE 1 16 (.slice (some ⟨G.next, 0, none⟩) 0 1) (.slice q 394 n) G0 = some (.slice (some ⟨b, 0, none⟩) 394 788, G1) ∧ A = (G1.add (rowBlk 2 [.slice none 0 0, .slice none 0 0])).set G1.next (some (((rowBlk 2 [.slice none 0 0, .slice none 0 0]).put 0 (.slice (some ⟨b, 0, none⟩) 394 788)).put 1 (.slice none 0 0))) ∧ Ext G A ∧
      G.next ≤ b ∧ b < G1.next ∧ A.blk b = some B ∧ B.ro = false ∧ A.cell b = B.at_ ∧ A.next = G1.next + 1 ∧ (∀ k, k < 394 → ∃ x, B.at_ k = some (.string x)) ∧ (∀ A', Ext A A' → A'.cell G1.next 0 = some (.slice (some ⟨b, 0, none⟩) 394 788) ∧ A'.cell G1.next 1 = some (.slice none 0 0)) ∧
      (∀ k (x : ByteArray), k < 394 → Strs (A.set b (some (B.put k (.string x)))) (.slice (some ⟨b, 0, none⟩) 394 788) (S.set k x)) := by
  obtain ⟨G0, hG0⟩ : ∃ G0, G0 = G.add (rowBlk 1 []) := ⟨_, rfl⟩
  have E0 : Ext G G0 := by rw [hG0]; exact (Ext.refl _).add _
  have n0 : G0.next = G.next + 1 := by rw [hG0]; rfl
  obtain ⟨v, G1, c1, E1, o1, f1⟩ := empty_app (n0 := G.next) (b := G.next) (hS.ext E0) encS_len encS_one (bytes := 16) (Nat.le_refl _) (by omega) (by omega) (by omega)
  have hO := o1.own (fun h => by rw [h] at hl; simp at hl)
  obtain ⟨b, B, hv, h1, h2, hB, hro, hat, hup⟩ := hO.blkOf encS_len (fun h => by rw [h] at hl; simp at hl)
  rw [hl] at hv
  subst hv
  obtain ⟨A, hA⟩ : ∃ A, A = (G1.add (rowBlk 2 [.slice none 0 0, .slice none 0 0])).set G1.next (some (((rowBlk 2 [.slice none 0 0, .slice none 0 0]).put 0 (.slice (some ⟨b, 0, none⟩) 394 788)).put 1 (.slice none 0 0))) := ⟨_, rfl⟩
  have XA : Ext G1 A := by rw [hA]; exact bxH_ext _ _ _
  have bB : A.blk b = some B := by rw [XA.blk _ h2, hB]
  refine ⟨G0, G1, A, b, B, hG0, c1, hA, E0.trans (E1.trans XA), h1, h2, bB, hro, by funext o; simp only [Heap.cell, bB], by rw [hA]; rfl, fun k hk => ⟨S[k]'(by omega), ?_⟩, fun A' hE => ?_, fun k x hk => ?_⟩
  · have := hat k (by omega) 0 (by omega); simpa using this
  · have hb : BoxD A G1.next (.slice (some ⟨b, 0, none⟩) 394 788) (.slice none 0 0) := by rw [hA]; exact BoxD.new G1 _ _
    exact ⟨(hb.ext hE).c0, (hb.ext hE).c1⟩
  · obtain ⟨b', B', hv', _, _, hB', _, _, hup'⟩ := (hO.ext XA).setS (k := k) (by omega) x
    rw [hl] at hv'
    cases hv'
    rw [bB] at hB'
    cases hB'
    exact (hup' A (Ext.refl _)).rows encS_len
theorem openHead_law (av : Value) (as_ : List Img) (at_ : Int) (H : Heap) (hA : Imgs H av as_) : call K f_law7_OpenHead [av, .int .i64 at_] H = some (.bool true, H) := by
  refine of_wpf (open_pure rfl fc_law7_OpenHead rfl (Nat.le_of_ble_eq_true rfl) ?_)
  have ma := rimages_ok av as_ H.roAll hA.roAll
  cases hAo : imOk (-1) as_
  · simp [awake7_ok, ma, hAo]
  obtain ⟨pa, ka, rfl⟩ := hA.slice
  obtain ⟨v0, G1, va, G2, v3, G3, d0, c1, c2, c3, E1, E2, E3, D3, S0⟩ := new_store7 H.roAll
  obtain ⟨hl1, hl2⟩ := store_len S0
  obtain ⟨ps, kp, qs, kq, A3, rfl, hA3, nA3, X3, F3⟩ := stage1 D3 hl1 hl2
  obtain ⟨_, G4, c4, E4, t4, rfl, T4, hfar4⟩ := rblank_ok A3
  have e4 := E4.next
  have hE3 : Ext H.roAll G3 := E1.trans (E2.trans E3)
  have hE4 : Ext H.roAll G4 := hE3.trans (X3.trans E4)
  obtain ⟨q4, k4, rfl⟩ := T4.sliceN pgB_len
  have hb0 : pgB.hn = 0 := rfl
  have hb1 : pgB.next = 1 := rfl
  obtain ⟨d', tss', hL, hS', he0⟩ := comm_store S0 pgB_room hAo
  obtain ⟨hq1, hq2, hq3⟩ := comm_bounds pgB_room hAo
  have hq0 := comm_hn hAo
  obtain ⟨_, g1, u1, X1, st, t1, rfl, oS, oT, _⟩ := rcommit_ok pgB _ _ as_ G4 T4 (hA.roAll.ext hE4)
  obtain ⟨m1, m2, m3, m4, m5⟩ := pgMay_of hS'.sound.may
  generalize comm pgB as_ = C at *
  obtain ⟨ss, p, er⟩ := C
  simp only at *
  subst he0
  obtain ⟨pst, kst, rfl⟩ := (oS.rows encSt_len).slice
  obtain ⟨qt, kt, rfl⟩ := (oT.rows encS_len).sliceN m4
  obtain ⟨A4, hA4⟩ : ∃ A4, A4 = (g1.add (rowBlk 5 [.int .i64 0, .int .i64 0, .int .i64 0, .int .i64 0, .slice none 0 0])).set g1.next (some (putPg (rowBlk 5 [.int .i64 0, .int .i64 0, .int .i64 0, .int .i64 0, .slice none 0 0]) p (.slice qt 48 kt))) := ⟨_, rfl⟩
  have DP4 := DP.init hE3 hA3 D3 (E4.trans X1) (oT.rows encS_len) (oT.notIn (by omega)) hA4
  have X4 : Ext g1 A4 := by rw [hA4]; exact ((Ext.refl _).add _).set (Nat.le_refl _) _
  obtain ⟨g5, q5, n5, r5, m5', A5, u5, b5, cb5, hA5, X5, DP5, _⟩ := DP4.done ((oS.rows encSt_len).ext X4) hL.done.2 (store_len hS').1 (store_len hS').2
  have hr : pgRoom p = true := room_of hS'.sound.may (by omega) (by omega)
  obtain ⟨d2, hL2, hS2⟩ := fresh_store hS'.ok hS'.flat hS'.sound.toFound hr
  obtain ⟨g6, q6, n6, _, r6, m6, A6, u6, b6, cb6, _, hA6, X6, _, DP6, R6⟩ := DP5.fresh hr
  obtain ⟨g7, q7, n7, r7, m7, A7, u7, b7, cb7, hA7, X7, DP7, hor⟩ := DP6.done R6 hL2.done.2 (store_len hS2).1 (store_len hS2).2
  obtain ⟨hl21, hl22⟩ := store_len hS2
  have hO : OwnD A6.next g7 (.agg #[.slice q7 394 n7, .slice r7 0 m7]) d2 := by
    rcases hor with ⟨_, _, e⟩ | h
    · have o1 := openP_store hS2
      rw [e, openP_store hS'] at o1
      have := congrArg (fun x => x.1.hn) o1
      simp only [freshQ] at this
      omega
    · exact h
  have c4d := DP4.cd; have c4p := DP4.cp; have c5d := DP5.cd; have c5p := DP5.cp; have c6d := DP6.cd; have c6p := DP6.cp; have c7d := DP7.cd; have c7p := DP7.cp
  simp only [pgV, pgB] at c4 u1
  simp only [pgV] at u6
  have e1 : A5.next = g5.next := by rw [hA5]; rfl
  have e2 : A6.next = g6.next := by rw [hA6]; rfl
  have e3 : A7.next = g7.next := by rw [hA7]; rfl
  have x5 := X5.next; have x6 := X6.next; have x7 := X7.next
  have ldd := DP7.ld; have ldp := DP7.lp
  obtain ⟨k, hk, hrem⟩ := umod at_ 200 (by omega) (by omega)
  have hrem' : ∀ t, binV K.P .rem t (.int .u64 (IntKind.u64.wrap at_)) (.int .u64 200) = some (.int .u64 (k : Int)) := fun t => hrem
  have w3 : IntKind.i64.wrap (k : Int) = k := wrap_i64 (by omega) (by omega)
  obtain ⟨i, hi⟩ : ∃ i, i = 2 + k := ⟨_, rfl⟩
  have wb : IntKind.i64.wrap (2 + (k : Int)) = (i : Int) := by rw [wrap_i64 (by omega) (by omega)]; omega
  -- a blank sector's text
  obtain ⟨A8, hA8⟩ : ∃ A8, A8 = A7.add (fillB 1 64 [.int .u8 0]) := ⟨_, rfl⟩
  have X8 : Ext A7 A8 := by rw [hA8]; exact (Ext.refl _).add _
  have hrow : A8.row A7.next 0 64 = some (List.replicate 64 (.int .u8 0)) := by rw [hA8]; exact row_fill1 A7 A7.next 64 64 (.int .u8 0) rfl (Nat.le_refl _)
  have hrow' : bytesO (A8.row A7.next 0 64) = some (.string (zer 64)) := by
    rw [hrow, bytesO_some, nums_rep]; show some (Value.string (strOfNums (List.replicate 64 0))) = _; rw [str_zero]
  have DP8 := DP7.ext X8
  have c8d := DP8.cd
  obtain ⟨_, _, ee, S8, C8⟩ := DP8.dk
  obtain ⟨rfl, rfl⟩ : Value.slice q7 394 n7 = _ ∧ Value.slice r7 0 m7 = _ := by simpa using ee
  -- x: without the first head
  obtain ⟨B0, B1, Bx, bx, Kx, hB0, ax, hBx, Ex, lx, lx2, kx, rox, ckx, nx, atx, cx, sx⟩ := copy_box S8 hl21
  obtain ⟨y0, hy0⟩ := atx 0 (by omega)
  obtain ⟨Ax, hAx⟩ : ∃ Ax, Ax = Bx.set bx (some (Kx.put 0 (.string (zer 64)))) := ⟨_, rfl⟩
  have Sx := sx 0 (zer 64) (by omega)
  rw [← hAx] at Sx
  have E8x : Ext A8 Ax := by rw [hAx]; exact Ex.set lx _
  have nAx : Ax.next = Bx.next := by rw [hAx]; rfl
  have bxc : Ax.cell B1.next 0 = some (.slice (some ⟨bx, 0, none⟩) 394 788) ∧ Ax.cell B1.next 1 = some (.slice none 0 0) := by
    rw [hAx, cell_set_ne (by omega), cell_set_ne (by omega)]; exact cx Bx (Ext.refl _)
  -- y: without both
  obtain ⟨C0, C1, By, by_, Ky, hC0, ay, hBy, Ey, ly, ly2, ky, roy, cky, ny, aty, cy, sy⟩ := copy_box Sx (by simpa using hl21)
  obtain ⟨y1, hy1⟩ := aty 1 (by omega)
  obtain ⟨Ay, hAy⟩ : ∃ Ay, Ay = By.set by_ (some (Ky.put 1 (.string (zer 64)))) := ⟨_, rfl⟩
  have Sy := sy 1 (zer 64) (by omega)
  rw [← hAy] at Sy
  have Exy : Ext Ax Ay := by rw [hAy]; exact Ey.set ly _
  have nAy : Ay.next = By.next := by rw [hAy]; rfl
  have byc : Ay.cell C1.next 0 = some (.slice (some ⟨by_, 0, none⟩) 394 788) ∧ Ay.cell C1.next 1 = some (.slice none 0 0) := by
    rw [hAy, cell_set_ne (by omega), cell_set_ne (by omega)]; exact cy By (Ext.refl _)
  -- z: without a sector of the log
  have DPy := (DP8.ext E8x).ext Exy
  have cyd := DPy.cd
  obtain ⟨_, _, ee, S9, C9⟩ := DPy.dk
  obtain ⟨rfl, rfl⟩ : Value.slice q7 394 n7 = _ ∧ Value.slice r7 0 m7 = _ := by simpa using ee
  obtain ⟨D0, D1, Bz, bz, Kz, hD0, az, hBz, Ez, lz, lz2, kz, roz, ckz, nz, atz, cz, sz⟩ := copy_box S9 hl21
  obtain ⟨y2, hy2⟩ := atz i (by omega)
  obtain ⟨Az, hAz⟩ : ∃ Az, Az = Bz.set bz (some (Kz.put i (.string (zer 64)))) := ⟨_, rfl⟩
  have Sz := sz i (zer 64) (by omega)
  rw [← hAz] at Sz
  have Eyz : Ext Ay Az := by rw [hAz]; exact Ez.set lz _
  have nAz : Az.next = Bz.next := by rw [hAz]; rfl
  have bzc : Az.cell D1.next 0 = some (.slice (some ⟨bz, 0, none⟩) 394 788) ∧ Az.cell D1.next 1 = some (.slice none 0 0) := by
    rw [hAz, cell_set_ne (by omega), cell_set_ne (by omega)]; exact cz Bz (Ext.refl _)
  have bxc' : Az.cell B1.next 0 = some (.slice (some ⟨bx, 0, none⟩) 394 788) ∧ Az.cell B1.next 1 = some (.slice none 0 0) := by
    rw [(Exy.trans Eyz).cell (by omega), (Exy.trans Eyz).cell (by omega)]; exact bxc
  have cB0 := (DP8.ext (show Ext A8 B0 by rw [hB0]; exact (Ext.refl _).add _)).cd
  have cC0 : C0.cell B1.next 0 = some (.slice (some ⟨bx, 0, none⟩) 394 788) := by rw [hC0, cell_add, if_neg (by omega)]; exact bxc.1
  have cD0 := (DPy.ext (show Ext Ay D0 by rw [hD0]; exact (Ext.refl _).add _)).cd
  have cBx := (cx Bx (Ext.refl _)).1
  have cBy := (cy By (Ext.refl _)).1
  have cBz := (cz Bz (Ext.refl _)).1
  -- what they are opened as
  have hhn : ((freshQ p).hn % 2).toNat = 1 := by show ((p.hn + 1) % 2).toNat = 1; omega
  have px := zero_open hS2 (i := 0) (by omega) (by omega)
  have py := zero_both hS2
  have pz := zero_open hS2 (i := i) (by omega) (by omega)
  have ql : (freshQ p).text.length = 48 := m4
  obtain ⟨_, g10, u10, X10, t10, rfl, o10⟩ := oopen_ok (.agg #[.slice (some ⟨bx, 0, none⟩) 394 788, .slice none 0 0]) (d2.1.set 0 (zer 64), []) Az ⟨_, _, rfl, Sx.ext (Exy.trans Eyz), Rows.nil⟩
  rw [px] at u10 o10
  obtain ⟨s10, l10, A10, rfl, hA10, n10, Y10, F10⟩ := stageP (p := freshQ p) (o10.rows encS_len) ql
  have E10 : Ext Az A10 := X10.trans Y10
  have byc' : A10.cell C1.next 0 = some (.slice (some ⟨by_, 0, none⟩) 394 788) ∧ A10.cell C1.next 1 = some (.slice none 0 0) := by
    rw [(Eyz.trans E10).cell (by omega), (Eyz.trans E10).cell (by omega)]; exact byc
  obtain ⟨_, g11, u11, X11, t11, rfl, o11⟩ := oopen_ok (.agg #[.slice (some ⟨by_, 0, none⟩) 394 788, .slice none 0 0]) ((d2.1.set 0 (zer 64)).set 1 (zer 64), []) A10 ⟨_, _, rfl, Sy.ext (Eyz.trans E10), Rows.nil⟩
  rw [py] at u11 o11
  obtain ⟨s11, l11, A11, rfl, hA11, n11, Y11, F11⟩ := stageP (p := pgO) (o11.rows encS_len) (n := 0) rfl
  have E11 : Ext A10 A11 := X11.trans Y11
  have bzc' : A11.cell D1.next 0 = some (.slice (some ⟨bz, 0, none⟩) 394 788) ∧ A11.cell D1.next 1 = some (.slice none 0 0) := by
    rw [(E10.trans E11).cell (by omega), (E10.trans E11).cell (by omega)]; exact bzc
  obtain ⟨_, g12, u12, X12, t12, rfl, o12⟩ := oopen_ok (.agg #[.slice (some ⟨bz, 0, none⟩) 394 788, .slice none 0 0]) (d2.1.set i (zer 64), []) A11 ⟨_, _, rfl, Sz.ext (E10.trans E11), Rows.nil⟩
  rw [pz] at u12 o12
  obtain ⟨s12, l12, A12, rfl, hA12, n12, Y12, F12⟩ := stageP (p := freshQ p) (o12.rows encS_len) ql
  have E12 : Ext A11 A12 := X12.trans Y12
  obtain ⟨⟨w0, w1, w2, w3', w4⟩, W⟩ := F10 A12 (E11.trans E12)
  obtain ⟨⟨v0', v1, v2, v3', v4⟩, V⟩ := F12 A12 (Ext.refl _)
  have DP12 := (DPy.ext Eyz).ext (E10.trans (E11.trans E12))
  have c12p := DP12.cp
  have sm1 := samePg_ok _ _ _ _ A12 W DP12.tx
  have sm2 := samePg_ok _ _ _ _ A12 V DP12.tx
  rw [decide_eq_true rfl] at sm1 sm2
  have hlt : i < 394 := by omega
  simp only [pgV, pgO] at u11 hA11
  simp only [pgV] at u10 u12 sm1 sm2
  simp [awake7_ok, ma, hAo, c1, c2, c3, ← hA3, c4, u1, ← hA4, c4d, u5, b5, cb5, ← hA5, c5p, u6, b6, cb6, ← hA6, c6d, u7, b7, cb7, ← hA7, c7d, natOf_int, ← hA8, ↓hrow', c8d, ← hB0, cB0, ax, ← hBx, cBx, kx, rox, ckx, hy0, ← hAx, bxc.1, bxc.2, ← hC0, cC0, ay, ← hBy, cBy, ky, roy, cky, hy1, ← hAy, cyd, ← hD0, cD0, az, ← hBz, cBz, hrem', w3, wb, hlt, kz, roz, ckz, hy2, ← hAz, bxc'.1, bxc'.2, u10, ← hA10, byc'.1, byc'.2, u11, ← hA11, bzc'.1, bzc'.2, u12, ← hA12, w0, w1, w2, w3', w4, v0', v1, v2, v3', v4, c12p, sm1, sm2]
end Go.AM
