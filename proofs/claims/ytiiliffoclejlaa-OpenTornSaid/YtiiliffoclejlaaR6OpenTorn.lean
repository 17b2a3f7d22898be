import Derived.Test.YtiiliffoclejlaaR6CodeL
import Derived.Test.YtiiliffoclejlaaR6Vc
/- The law OpenTorn: true. -/
namespace Go.AM
open Go.Proofs
set_option linter.unusedVariables false
set_option linter.unusedSimpArgs false
set_option maxRecDepth 100000
attribute [-simp] ByteArray.size_eq_zero_iff
def otTail : IC := (.seq (.reg c_law7_OpenTorn_r15) (.seq (.seq (.reg c_law7_OpenTorn_r16) (.cond (.t 78) (.seq (.reg c_law7_OpenTorn_r17) .ret) .skip)) (.seq (.seq (.reg c_law7_OpenTorn_r18) (.block 0 (.loop c_law7_OpenTorn_l23))) (.seq (.reg c_law7_OpenTorn_r24) .ret))))
def otCode : IFn := ⟨(.seq (.reg c_law7_OpenTorn_r0) (.seq (.seq (.reg c_law7_OpenTorn_r1) (.cond (.t 19) (.seq (.reg c_law7_OpenTorn_r2) .ret) .skip)) (.seq (.seq (.reg c_law7_OpenTorn_r3) (.cond (.t 22) (.seq (.reg c_law7_OpenTorn_r4) .ret) .skip)) (.seq (.reg c_law7_OpenTorn_r5) (.seq (.reg c_law7_OpenTorn_r6) (.seq (.reg c_law7_OpenTorn_r7) (.seq (.reg c_law7_OpenTorn_r8) (.seq (.reg c_law7_OpenTorn_r9) (.seq (.seq (.reg c_law7_OpenTorn_r10) (.cond (.t 48) (.seq (.reg c_law7_OpenTorn_r11) .ret) .skip)) (.seq (.reg c_law7_OpenTorn_r12) (.seq (.reg c_law7_OpenTorn_r13) (.seq (.regd c_law7_OpenTorn_r14 []) otTail)))))))))))), 105, [.tmp 6]⟩
theorem fc_ot : fnAt Try.prog f_law7_OpenTorn = some otCode := fc_law7_OpenTorn
theorem and3' (x : Int) : bits .and .i64 x 3 = x % 4 := and_mask x 2 (by decide)
theorem Strs.cell {H : Heap} {q : Option Addr} {n k : Nat} {xs : List ByteArray} (h : Strs H (.slice q n k) xs) {i : Nat} {x : ByteArray} (hi : xs[i]? = some x) : ∃ b o, q = some ⟨b, o, none⟩ ∧ b < H.next ∧ H.cell b (o + i) = some (.string x) ∧ i < n := by
  obtain ⟨hlt, hx⟩ := List.getElem?_eq_some_iff.1 hi
  obtain ⟨e, b, o, h1, h2, h3⟩ := h.at_ hlt
  refine ⟨b, o, h1, h2, ?_, by omega⟩
  have := h3 0 (by omega)
  simpa [hx] using this
/-- what is opened behind it, page by page -/
theorem ot_tail {G : Heap} {e : Env} {bd bp : Nat} {d3 : Dk} {s c t : Value} {r p : Pg} {k : Nat} (hk : k < 48) (hD : DkR G (.agg #[s, c]) d3) (ld : bd < G.next) (lp : bp < G.next) (cd0 : G.cell bd 0 = some s) (cd1 : G.cell bd 1 = some c) (cp4 : G.cell bp 4 = some t) (hT : Strs G t p.text) (hp : p.text.length = 48) (hs : ∃ q n k, s = .slice q n k) (hc : ∃ q n k, c = .slice q n k)
    (ho : openP d3 = (r, 0)) (hr : r.text.length = 48) (h1 : ∀ i, i < 48 → i ≠ k → r.text[i]? = p.text[i]?) (h2 : r.text[k]? = some ⟨#[]⟩) (k7 : e 7 = .pointer (some ⟨bd, 0, none⟩)) (k9 : e 9 = .pointer (some ⟨bp, 0, none⟩)) (k13 : e 13 = .int .i64 (k : Int)) :
    wp (run K otTail e G) fun x e' H' => x = .ret ∧ e' 6 = .bool true := by
  obtain ⟨_, _, _, rfl⟩ := hs
  obtain ⟨_, _, _, rfl⟩ := hc
  obtain ⟨_, g, u, X, t', rfl, o⟩ := oopen_ok _ d3 G hD
  rw [ho] at u o
  simp only at u o
  obtain ⟨q, n, A, rfl, hA, nA, Y, F⟩ := stageP (p := r) (o.rows encS_len) hr
  obtain ⟨⟨w0, w1, w2, w3, w4⟩, T⟩ := F A (Ext.refl _)
  have E : Ext G A := X.trans Y
  obtain ⟨qt, nt, rfl⟩ := hT.sliceN hp
  have hT' := hT.ext E
  have cp : A.cell bp 4 = some (.slice qt 48 nt) := by rw [E.cell lp]; exact cp4
  simp only [pgV] at u
  simp [otTail, k7, cd0, cd1, u, ← hA, w0, w1, w2, w3, w4]
  refine wp_nxt (wp_for (fun dd e G => ∃ i : Nat, dd = 48 - i ∧ i ≤ 48 ∧ G = A ∧ e 17 = .int .i64 (i : Int) ∧ e 13 = .int .i64 (k : Int) ∧ e 15 = .pointer (some ⟨g.next, 0, none⟩) ∧ e 9 = .pointer (some ⟨bp, 0, none⟩)) 48 ⟨0, by simp, by simp, rfl, by simp, by simp [k13], by simp, by simp [k9]⟩ ?_)
  rintro dd e G' ⟨i, rfl, hi, rfl, e17, e13, e15, e9⟩
  by_cases hlt : i < 48
  · have wi : (i : Int) < 48 := by omega
    have ws : IntKind.i64.wrap ((i : Int) + 1) = ((i + 1 : Nat) : Int) := wrap_succ (by omega)
    by_cases hik : i = k
    · subst hik
      simp [c_law7_OpenTorn_l23, e17, e13, wi, ws]
      exact ⟨48 - (i + 1), by omega, i + 1, rfl, by omega, by omega, e15, e9⟩
    · have hi1 := h1 i hlt hik
      obtain ⟨x, hx⟩ : ∃ x, p.text[i]? = some x := ⟨_, List.getElem?_eq_getElem (by omega)⟩
      rw [hx] at hi1
      obtain ⟨b1, o1, rfl, _, v1, _⟩ := Strs.cell T hi1
      obtain ⟨b2, o2, rfl, _, v2, _⟩ := Strs.cell hT' hx
      have hne : ¬ (i : Int) = (k : Int) := by omega
      simp [c_law7_OpenTorn_l23, e17, e13, e15, e9, wi, ws, hik, w4, cp, hlt, v1, v2]
      exact ⟨48 - (i + 1), by omega, i + 1, rfl, by omega, by omega⟩
  · obtain rfl : i = 48 := by omega
    obtain ⟨b1, o1, rfl, _, v1, _⟩ := Strs.cell T h2
    simp [c_law7_OpenTorn_l23, e17, e13, e15, w4, hk, v1]
theorem openTorn_law (av : Value) (as_ : List Img) (page at_ : Int) (H : Heap) (hA : Imgs H av as_) : call K f_law7_OpenTorn [av, .int .i64 page, .int .i64 at_] H = some (.bool true, H) := by
  refine of_wpf (open_pure rfl fc_ot rfl (Nat.le_of_ble_eq_true rfl) ?_)
  have ma := rimages_ok av as_ H.roAll hA.roAll
  cases hAo : imOk (-1) as_
  · simp [otCode, awake7_ok, ma, hAo]
  obtain ⟨pa, ka, rfl⟩ := hA.slice
  obtain ⟨v0, G1, va, G2, v3, G3, d0, c1, c2, c3, E1, E2, E3, D3, S0⟩ := new_store7 H.roAll
  obtain ⟨hl1, hl2⟩ := store_len S0
  obtain ⟨ps, kp, qs, kq, A3, rfl, hA3, nA3, X3, F3⟩ := stage1 D3 hl1 hl2
  obtain ⟨_, G4, c4, E4, t4, rfl, T4, hfar4⟩ := rblank_ok A3
  have e4 := E4.next
  have hE3 : Ext H.roAll G3 := E1.trans (E2.trans E3)
  have hE4 : Ext H.roAll G4 := hE3.trans (X3.trans E4)
  obtain ⟨q4, k4, rfl⟩ := T4.sliceN pgB_len
  have hb0 : pgB.hn = 0 := rfl
  have hb1 : pgB.next = 1 := rfl
  obtain ⟨d', tss', hL, hS', he0⟩ := comm_store S0 pgB_room hAo
  obtain ⟨hq1, hq2, hq3⟩ := comm_bounds pgB_room hAo
  have hq0 := comm_hn hAo
  obtain ⟨_, g1, u1, X1, st, t1, rfl, oS, oT, _⟩ := rcommit_ok pgB _ _ as_ G4 T4 (hA.roAll.ext hE4)
  obtain ⟨m1, m2, m3, m4, m5⟩ := pgMay_of hS'.sound.may
  generalize comm pgB as_ = C at *
  obtain ⟨ss, p, er⟩ := C
  simp only at *
  subst he0
  obtain ⟨pst, kst, rfl⟩ := (oS.rows encSt_len).slice
  obtain ⟨qt, kt, rfl⟩ := (oT.rows encS_len).sliceN m4
  obtain ⟨A4, hA4⟩ : ∃ A4, A4 = (g1.add (rowBlk 5 [.int .i64 0, .int .i64 0, .int .i64 0, .int .i64 0, .slice none 0 0])).set g1.next (some (putPg (rowBlk 5 [.int .i64 0, .int .i64 0, .int .i64 0, .int .i64 0, .slice none 0 0]) p (.slice qt 48 kt))) := ⟨_, rfl⟩
  have DP4 := DP.init hE3 hA3 D3 (E4.trans X1) (oT.rows encS_len) (oT.notIn (by omega)) hA4
  have X4 : Ext g1 A4 := by rw [hA4]; exact ((Ext.refl _).add _).set (Nat.le_refl _) _
  obtain ⟨g5, q5, n5, r5, m5', A5, u5, b5, cb5, hA5, X5, DP5, _⟩ := DP4.done ((oS.rows encSt_len).ext X4) hL.done.2 (store_len hS').1 (store_len hS').2
  have hr : pgRoom p = true := room_of hS'.sound.may (by omega) (by omega)
  obtain ⟨d2, hL2, hS2⟩ := fresh_store hS'.ok hS'.flat hS'.sound.toFound hr
  obtain ⟨g6, q6, n6, _, r6, m6, A6, u6, b6, cb6, _, hA6, X6, _, DP6, R6⟩ := DP5.fresh hr
  obtain ⟨g7, q7, n7, r7, m7, A7, u7, b7, cb7, hA7, X7, DP7, hor⟩ := DP6.done R6 hL2.done.2 (store_len hS2).1 (store_len hS2).2
  obtain ⟨hl21, hl22⟩ := store_len hS2
  have hO : OwnD A6.next g7 (.agg #[.slice q7 394 n7, .slice r7 0 m7]) d2 := by
    rcases hor with ⟨_, _, e⟩ | h
    · have o1 := openP_store hS2
      rw [e, openP_store hS'] at o1
      have := congrArg (fun x => x.1.hn) o1
      simp only [freshQ] at this
      omega
    · exact h
  have c4d := DP4.cd; have c4p := DP4.cp; have c5d := DP5.cd; have c5p := DP5.cp; have c6d := DP6.cd; have c6p := DP6.cp; have c7d := DP7.cd; have c7p := DP7.cp
  simp only [pgV, pgB] at c4 u1
  simp only [pgV] at u6
  have e1 : A5.next = g5.next := by rw [hA5]; rfl
  have e2 : A6.next = g6.next := by rw [hA6]; rfl
  have e3 : A7.next = g7.next := by rw [hA7]; rfl
  have x5 := X5.next; have x6 := X6.next; have x7 := X7.next
  have ldd := DP7.ld; have ldp := DP7.lp
  obtain ⟨k, hk, hrem⟩ := umod page 48 (by omega) (by omega)
  have hrem' : ∀ t, binV K.P .rem t (.int .u64 (IntKind.u64.wrap page)) (.int .u64 48) = some (.int .u64 (k : Int)) := fun t => hrem
  have w3 : IntKind.i64.wrap (k : Int) = k := wrap_i64 (by omega) (by omega)
  obtain ⟨j, hj, hj4⟩ : ∃ j : Nat, bits .and .i64 at_ 3 = (j : Int) ∧ j < 4 := ⟨(at_ % 4).toNat, by rw [and3']; omega, by omega⟩
  have wm : IntKind.i64.wrap (4 * (k : Int)) = 4 * (k : Int) := wrap_i64 (by omega) (by omega)
  have wa : IntKind.i64.wrap (202 + 4 * (k : Int)) = 202 + 4 * (k : Int) := wrap_i64 (by omega) (by omega)
  have wb : IntKind.i64.wrap (202 + 4 * (k : Int) + (j : Int)) = ((202 + 4 * k + j : Nat) : Int) := by rw [wrap_i64 (by omega) (by omega)]; omega
  obtain ⟨i, hi⟩ : ∃ i, i = 202 + 4 * k + j := ⟨_, rfl⟩
  rw [← hi] at wb
  obtain ⟨_, _, e, o1, o2, osep⟩ := hO
  obtain ⟨rfl, rfl⟩ : Value.slice q7 394 n7 = _ ∧ Value.slice r7 0 m7 = _ := by simpa using e
  have oS7 := o1.own (fun h => by rw [h] at hl21; simp at hl21)
  obtain ⟨b, B, hv, hb1, hb2, hB, hro, hat, hup⟩ := oS7.setS (k := i) (by omega) (zer 64)
  rw [hl21] at hv
  cases hv
  have nbd : G3.next ≠ b := fun e => DP7.nsd _ _ _ rfl e
  have nbp : g1.next ≠ b := fun e => DP7.nsp _ _ _ rfl e
  have hB7 : A7.blk b = some B := by rw [hA7, blk_set_ne (fun e => nbd e.symm), hB]
  obtain ⟨A8, hA8⟩ : ∃ A8, A8 = A7.add (fillB 1 64 [.int .u8 0]) := ⟨_, rfl⟩
  have X8 : Ext A7 A8 := by rw [hA8]; exact (Ext.refl _).add _
  have hn8 : A8.next = A7.next + 1 := by rw [hA8]; rfl
  have hB8 : A8.blk b = some B := by rw [X8.blk _ (by omega), hB7]
  have c8b : A8.cell b = B.at_ := by funext o; simp only [Heap.cell, hB8]
  have hrow : A8.row A7.next 0 64 = some (List.replicate 64 (.int .u8 0)) := by rw [hA8]; exact row_fill1 A7 A7.next 64 64 (.int .u8 0) rfl (Nat.le_refl _)
  have hrow' : bytesO (A8.row A7.next 0 64) = some (.string (zer 64)) := by
    rw [hrow, bytesO_some, nums_rep]; show some (Value.string (strOfNums (List.replicate 64 0))) = _; rw [str_zero]
  -- the disk with a blank sector
  obtain ⟨r, t1, t2, t3, t4'⟩ := torn_open hS2 hk hj4
  rw [← hi] at t1
  have Ss : Strs (A8.set b (some (B.put i (.string (zer 64))))) (.slice (some ⟨b, 0, none⟩) 394 (2 * 394)) (d2.1.set i (zer 64)) := by
    have oA7 : Own encS 1 A6.next A7 (.slice (some ⟨b, 0, none⟩) 394 (2 * 394)) d2.1 := by rw [hA7]; exact oS7.setB DP7.nsd _
    obtain ⟨b', B', hv', _, _, hB', _, _, hup'⟩ := oA7.setS (k := i) (by omega) (zer 64)
    rw [hl21] at hv'
    cases hv'
    rw [hB7] at hB'
    cases hB'
    have := (hup' A8 X8).rows encS_len
    exact this
  have hsn : ¬ NotIn (.slice (some ⟨b, 0, none⟩) 394 (2 * 394)) b := fun h => h _ _ _ rfl rfl
  have Cs : Imgs (A8.set b (some (B.put i (.string (zer 64))))) (.slice r7 0 m7) [] := by
    obtain ⟨_, _, e, _, h⟩ := DP7.dk
    obtain ⟨_, rfl⟩ : _ ∧ Value.slice r7 0 m7 = _ := by simpa using e
    rw [hS2.flat] at h
    exact (h.ext X8).setB (osep b hsn) _
  have Tt : Strs (A8.set b (some (B.put i (.string (zer 64))))) (.slice r6 48 m6) (freshQ p).text := (DP7.tx.ext X8).setB (DP6.tx.far hb1) _
  have cd8 : ∀ o, (A8.set b (some (B.put i (.string (zer 64))))).cell G3.next o = A7.cell G3.next o := fun o => by rw [cell_set_ne nbd, X8.cell ldd]
  have cp8 : ∀ o, (A8.set b (some (B.put i (.string (zer 64))))).cell g1.next o = A7.cell g1.next o := fun o => by rw [cell_set_ne nbp, X8.cell ldp]
  have hlt : i < 394 := by omega
  simp [otCode, awake7_ok, ma, hAo, c1, c2, c3, ← hA3, c4, u1, ← hA4, c4d, u5, b5, cb5, ← hA5, c5p, u6, b6, cb6, ← hA6, c6d, u7, b7, cb7, ← hA7, c7d, hrem', w3, wm, wa, hj, wb, natOf_int, ← hA8, ↓hrow', hlt, hB8, hro, c8b, hat]
  refine wp.mono (ot_tail (bd := G3.next) (bp := g1.next) (d3 := (d2.1.set i (zer 64), [])) hk ⟨_, _, rfl, Ss, Cs⟩ (by simp; omega) (by simp; omega) (by rw [cd8, c7d]; simp) (by rw [cd8, c7d]; simp) (by rw [cp8, c7p]; simp) Tt m4 ⟨_, _, _, rfl⟩ ⟨_, _, _, rfl⟩ t1 t2 t3 t4' (by simp) (by simp) (by simp)) ?_
  rintro _ e' H' ⟨rfl, h⟩
  simp [h]
end Go.AM
