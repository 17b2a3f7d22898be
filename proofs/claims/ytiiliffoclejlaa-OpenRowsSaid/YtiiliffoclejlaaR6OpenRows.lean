import Derived.Test.YtiiliffoclejlaaR6CodeL
import Derived.Test.YtiiliffoclejlaaR6Vc
/- The law OpenRows: true. -/
namespace Go.AM
open Go.Proofs
set_option linter.unusedVariables false
set_option linter.unusedSimpArgs false
set_option maxRecDepth 100000
attribute [-simp] ByteArray.size_eq_zero_iff
/-- an array of texts in a block -/
structure Arr (G : Heap) (b : Nat) (B : Blk) (W : List ByteArray) : Prop where
  blk : G.blk b = some B
  ro : B.ro = false
  lt : b < G.next
  len : W.length = 48
  at_ : ∀ i, i < 48 → B.at_ i = (W[i]?).map Value.string
theorem Arr.cell {G : Heap} {b : Nat} {B : Blk} {W : List ByteArray} (h : Arr G b B W) : G.cell b = B.at_ := by funext o; simp only [Heap.cell, h.blk]
theorem Arr.put {G : Heap} {b : Nat} {B : Blk} {W : List ByteArray} (h : Arr G b B W) {k : Nat} (hk : k < 48) (x : ByteArray) : Arr (G.set b (some (B.put k (.string x)))) b (B.put k (.string x)) (W.set k x) :=
  { blk := blk_set_self _ _ _, ro := h.ro, lt := by simpa using h.lt, len := by simpa using h.len, at_ := fun i hi => by
      rw [at_put]
      by_cases e : i = k
      · subst e; rw [if_pos rfl, List.getElem?_set_self (by rw [h.len]; exact hi)]; rfl
      · rw [if_neg e, h.at_ i hi, List.getElem?_set_ne (fun h => e h.symm)] }
def orTail2 : IC := (.seq (.seq (.reg c_law7_OpenRows_r19) (.block 0 (.loop c_law7_OpenRows_l23))) (.seq (.seq (.reg c_law7_OpenRows_r24) (.block 2 (.loop c_law7_OpenRows_l28))) (.seq (.seq (.reg c_law7_OpenRows_r29) (.block 4 (.loop c_law7_OpenRows_l34))) (.seq (.reg c_law7_OpenRows_r35) .ret))))
def orTail : IC := (.seq (.reg c_law7_OpenRows_r13) (.seq (.reg c_law7_OpenRows_r14) (.seq (.reg c_law7_OpenRows_r15) (.seq (.seq (.reg c_law7_OpenRows_r16) (.cond (.t 80) (.seq (.reg c_law7_OpenRows_r17) .ret) .skip)) (.seq (.reg c_law7_OpenRows_r18) orTail2)))))
def orCode : IFn := ⟨(.seq (.reg c_law7_OpenRows_r0) (.seq (.seq (.reg c_law7_OpenRows_r1) (.cond (.t 23) (.seq (.reg c_law7_OpenRows_r2) .ret) .skip)) (.seq (.seq (.reg c_law7_OpenRows_r3) (.cond (.t 31) (.seq (.reg c_law7_OpenRows_r4) .ret) .skip)) (.seq (.reg c_law7_OpenRows_r5) (.seq (.reg c_law7_OpenRows_r6) (.seq (.reg c_law7_OpenRows_r7) (.seq (.reg c_law7_OpenRows_r8) (.seq (.seq (.reg c_law7_OpenRows_r9) (.cond (.t 46) (.seq (.reg c_law7_OpenRows_r10) (.seq (.reg c_law7_OpenRows_r11) (.reg c_law7_OpenRows_r12))) .skip)) orTail)))))))), 131, [.tmp 6]⟩
theorem fc_or : fnAt Try.prog f_law7_OpenRows = some orCode := fc_law7_OpenRows
theorem Strs.cell' {H : Heap} {q : Option Addr} {n k : Nat} {xs : List ByteArray} (h : Strs H (.slice q n k) xs) {i : Nat} {x : ByteArray} (hi : xs[i]? = some x) : ∃ b o, q = some ⟨b, o, none⟩ ∧ b < H.next ∧ H.cell b (o + i) = some (.string x) ∧ i < n := by
  obtain ⟨hlt, hx⟩ := List.getElem?_eq_some_iff.1 hi
  obtain ⟨e, b, o, h1, h2, h3⟩ := h.at_ hlt
  refine ⟨b, o, h1, h2, ?_, by omega⟩
  have := h3 0 (by omega)
  simpa [hx] using this
theorem img_cell {H : Heap} {q : Option Addr} {n k : Nat} {is : List Img} (h : Imgs H (.slice q n k) is) {i : Nat} (hi : i < is.length) : ∃ b o, q = some ⟨b, o, none⟩ ∧ b < H.next ∧ H.cell b (o + i * 2) = some (.int .i64 is[i].1) ∧ H.cell b (o + i * 2 + 1) = some (.string is[i].2) := by
  obtain ⟨e, b, o, h1, h2, h3⟩ := h.at_ hi
  have a := h3 0 (by omega)
  have c := h3 1 (by omega)
  simp at a c
  exact ⟨b, o, h1, h2, a, c⟩
theorem or_tail2 {A G : Heap} {e : Env} {bx bp w : Nat} {B : Blk} {x : Pg} {W0 : List ByteArray} {tx tp av bv : Value} {as_ bs : List Img} (hw : w = A.next) (hE : Ext A G) (hA : Arr G w B W0) (ia : imOk (-1) as_ = true) (ib : imOk (-1) bs = true) (Ia : Imgs A av as_) (Ib : Imgs A bv bs)
    (lx : bx < A.next) (lp : bp < A.next) (cx : A.cell bx 0 = some (.int .i64 x.hn) ∧ A.cell bx 1 = some (.int .i64 x.hs) ∧ A.cell bx 2 = some (.int .i64 x.next) ∧ A.cell bx 3 = some (.int .i64 x.used) ∧ A.cell bx 4 = some tx) (cp : A.cell bp 0 = some (.int .i64 x.hn) ∧ A.cell bp 1 = some (.int .i64 x.hs) ∧ A.cell bp 2 = some (.int .i64 x.next) ∧ A.cell bp 3 = some (.int .i64 x.used) ∧ A.cell bp 4 = some tp)
    (Tx : Strs A tx x.text) (Tp : Strs A tp x.text) (hx : x.text.length = 48) (ht : x.text = applyI (applyI W0 as_) bs) (k0 : e 0 = av) (k1 : e 1 = bv) (k8 : e 8 = .pointer (some ⟨bp, 0, none⟩)) (k16 : e 16 = .pointer (some ⟨bx, 0, none⟩)) (k18 : e 18 = .pointer (some ⟨w, 0, none⟩)) :
    wp (run K orTail2 e G) fun x e' H' => x = .ret ∧ e' 6 = .bool true := by
  obtain ⟨qa, ka, rfl⟩ := Ia.slice
  obtain ⟨qb, kb, rfl⟩ := Ib.slice
  obtain ⟨qx, kx, rfl⟩ := Tx.sliceN hx
  obtain ⟨qp, kp, rfl⟩ := Tp.sliceN hx
  have ma := imOk_mem ia
  have mb := imOk_mem ib
  have l48 := imOk_48 ia
  have l48b := imOk_48 ib
  simp [orTail2]
  refine wp_nxt (wp_for (fun dd e G => ∃ (i : Nat) (B : Blk), dd = as_.length - i ∧ i ≤ as_.length ∧ Ext A G ∧ Arr G w B (applyI W0 (as_.take i)) ∧ e 0 = .slice qa as_.length ka ∧ e 1 = .slice qb bs.length kb ∧ e 8 = .pointer (some ⟨bp, 0, none⟩) ∧ e 16 = .pointer (some ⟨bx, 0, none⟩) ∧ e 18 = .pointer (some ⟨w, 0, none⟩) ∧ e 19 = .int .i64 (i : Int)) as_.length ⟨0, B, by simp, by simp, hE, hA, by simp [k0], by simp [k1], by simp [k8], by simp [k16], by simp [k18], by simp⟩ ?_)
  rintro dd e1 G1 ⟨i, B1, rfl, hi, hE1, hA1, j0, j1, j8, j16, j18, j19⟩
  by_cases hlt : i < as_.length
  · obtain ⟨b, o, rfl, hb, v1, v2⟩ := img_cell Ia hlt
    obtain ⟨k, hk, hk48⟩ : ∃ k : Nat, as_[i].1 = (k : Int) ∧ k < 48 := ⟨as_[i].1.toNat, by have := (ma _ (List.getElem_mem hlt)).1; omega, by have := (ma _ (List.getElem_mem hlt)).1; omega⟩
    rw [hk] at v1
    have w1 : IntKind.i64.wrap ((i : Int) + 1) = ((i + 1 : Nat) : Int) := wrap_succ (by omega)
    have u1 := hE1.cell (o := o + i * 2) hb
    have u2 := hE1.cell (o := o + i * 2 + 1) hb
    rw [v1] at u1
    rw [v2] at u2
    have cw := hA1.cell
    have hat := hA1.at_ k hk48
    rw [List.getElem?_eq_getElem (by rw [hA1.len]; exact hk48)] at hat
    simp only [Option.map_some] at hat
    have hst : applyI W0 (as_.take (i + 1)) = (applyI W0 (as_.take i)).set k as_[i].2 := by
      rw [applyI_take _ _ hlt, hk, Int.toNat_natCast]
    simp [c_law7_OpenRows_l23, j0, j1, j8, j16, j18, j19, hlt, u1, u2, hk48, hA1.blk, hA1.ro, cw, hat, w1]
    exact ⟨as_.length - (i + 1), by omega, i + 1, rfl, by omega, hE1.set (by omega) _, ⟨_, by rw [hst]; exact hA1.put hk48 _⟩, by omega⟩
  · obtain rfl : i = as_.length := by omega
    rw [List.take_length] at hA1
    simp [c_law7_OpenRows_l23, j0, j19]
    refine wp_nxt (wp_for (fun dd e G => ∃ (i : Nat) (B : Blk), dd = bs.length - i ∧ i ≤ bs.length ∧ Ext A G ∧ Arr G w B (applyI (applyI W0 as_) (bs.take i)) ∧ e 1 = .slice qb bs.length kb ∧ e 8 = .pointer (some ⟨bp, 0, none⟩) ∧ e 16 = .pointer (some ⟨bx, 0, none⟩) ∧ e 18 = .pointer (some ⟨w, 0, none⟩) ∧ e 20 = .int .i64 (i : Int)) bs.length ⟨0, B1, by simp, by simp, hE1, hA1, by simp [j1], by simp [j8], by simp [j16], by simp [j18], by simp⟩ ?_)
    rintro dd e2 G2 ⟨i, B2, rfl, hi, hE2, hA2, j1, j8, j16, j18, j20⟩
    by_cases hlt : i < bs.length
    · obtain ⟨b, o, rfl, hb, v1, v2⟩ := img_cell Ib hlt
      obtain ⟨k, hk, hk48⟩ : ∃ k : Nat, bs[i].1 = (k : Int) ∧ k < 48 := ⟨bs[i].1.toNat, by have := (mb _ (List.getElem_mem hlt)).1; omega, by have := (mb _ (List.getElem_mem hlt)).1; omega⟩
      rw [hk] at v1
      have w1 : IntKind.i64.wrap ((i : Int) + 1) = ((i + 1 : Nat) : Int) := wrap_succ (by omega)
      have u1 := hE2.cell (o := o + i * 2) hb
      have u2 := hE2.cell (o := o + i * 2 + 1) hb
      rw [v1] at u1
      rw [v2] at u2
      have cw := hA2.cell
      have hat := hA2.at_ k hk48
      rw [List.getElem?_eq_getElem (by rw [hA2.len]; exact hk48)] at hat
      simp only [Option.map_some] at hat
      have hst : applyI (applyI W0 as_) (bs.take (i + 1)) = (applyI (applyI W0 as_) (bs.take i)).set k bs[i].2 := by
        rw [applyI_take _ _ hlt, hk, Int.toNat_natCast]
      simp [c_law7_OpenRows_l28, j1, j8, j16, j18, j20, hlt, u1, u2, hk48, hA2.blk, hA2.ro, cw, hat, w1]
      exact ⟨bs.length - (i + 1), by omega, i + 1, rfl, by omega, hE2.set (by omega) _, ⟨_, by rw [hst]; exact hA2.put hk48 _⟩, by omega⟩
    · obtain rfl : i = bs.length := by omega
      rw [List.take_length, ← ht] at hA2
      simp [c_law7_OpenRows_l28, j1, j20]
      obtain ⟨x0, x1, x2, x3, x4⟩ := cx
      obtain ⟨p0, p1, p2, p3, p4⟩ := cp
      have gx : ∀ o, G2.cell bx o = A.cell bx o := fun o => hE2.cell lx
      have gp : ∀ o, G2.cell bp o = A.cell bp o := fun o => hE2.cell lp
      have sm := samePg_ok x x _ _ G2 (Tx.ext hE2) (Tp.ext hE2)
      rw [decide_eq_true rfl] at sm
      simp only [pgV] at sm
      have cw := hA2.cell
      refine wp_nxt (wp_for (fun dd e G => ∃ i : Nat, dd = 48 - i ∧ i ≤ 48 ∧ G = G2 ∧ e 8 = .pointer (some ⟨bp, 0, none⟩) ∧ e 16 = .pointer (some ⟨bx, 0, none⟩) ∧ e 18 = .pointer (some ⟨w, 0, none⟩) ∧ e 21 = .int .i64 (i : Int)) 48 ⟨0, by simp, by simp, rfl, by simp [j8], by simp [j16], by simp [j18], by simp⟩ ?_)
      rintro dd e3 G3 ⟨i, rfl, hi, rfl, i8, i16, i18, i21⟩
      by_cases hlt : i < 48
      · have wi : (i : Int) < 48 := by omega
        have ws : IntKind.i64.wrap ((i : Int) + 1) = ((i + 1 : Nat) : Int) := wrap_succ (by omega)
        obtain ⟨y, hy⟩ : ∃ y, x.text[i]? = some y := ⟨_, List.getElem?_eq_getElem (by omega)⟩
        obtain ⟨b1, o1, rfl, _, v1, _⟩ := Strs.cell' (Tx.ext hE2) hy
        have hat := hA2.at_ i hlt
        rw [hy] at hat
        simp only [Option.map_some] at hat
        simp [c_law7_OpenRows_l34, i8, i16, i18, i21, wi, ws, gx, x4, hlt, v1, cw, hat]
        exact ⟨48 - (i + 1), by omega, i + 1, rfl, by omega, by omega⟩
      · obtain rfl : i = 48 := by omega
        simp [c_law7_OpenRows_l34, i8, i16, i21, gx, gp, x0, x1, x2, x3, x4, p0, p1, p2, p3, p4, sm]
theorem or_tail {H0 G : Heap} {e : Env} {bd bp : Nat} {d : Dk} {p : Pg} {tss : List (List Img)} {s c t av bv : Value} {B5 B7 : Blk} {as_ bs : List Img} (h : DP H0 G bd bp d p s c t B5 B7) (hS : Store d p tss) (hr : pgRoom p = true) (ia : imOk (-1) as_ = true) (ib : imOk (-1) bs = true) (Ia : Imgs H0 av as_) (Ib : Imgs H0 bv bs)
    (ht : p.text = applyI (List.replicate 48 ⟨#[]⟩) as_) (hsh : ∃ q n r m, s = .slice q 394 n ∧ c = .slice r 0 m) (htt : ∃ q n, t = .slice q 48 n) (k0 : e 0 = av) (k1 : e 1 = bv) (k7 : e 7 = .pointer (some ⟨bd, 0, none⟩)) (k8 : e 8 = .pointer (some ⟨bp, 0, none⟩)) :
    wp (run K orTail e G) fun x e' H' => x = .ret ∧ e' 6 = .bool true := by
  obtain ⟨_, _, _, _, rfl, rfl⟩ := hsh
  obtain ⟨_, _, rfl⟩ := htt
  obtain ⟨qb, kb, rfl⟩ := Ib.slice
  obtain ⟨d', tss', hL, hS', he⟩ := comm_store hS hr ib
  have hct := comm_text hr ib
  obtain ⟨_, _, _, m4, _⟩ := pgMay_of hS'.sound.may
  obtain ⟨g1, q1, n1, r1, m1, A1, u1, b1, cb1, hA1, X1, _, DP1, R1⟩ := h.commit Ib m4 he
  obtain ⟨g2, q2, n2, r2, m2, A2, u2, b2, cb2, hA2, X2, DP2, _⟩ := DP1.done R1 hL.done.2 (store_len hS').1 (store_len hS').2
  obtain ⟨_, g3, u3, X3, t3, rfl, o3⟩ := oopen_ok _ d' A2 DP2.dk
  rw [openP_store hS'] at u3 o3
  simp only at u3 o3
  obtain ⟨q3, n3, A3, rfl, hA3, nA3, Y3, F3⟩ := stageP (p := (comm p bs).2.1) (o3.rows encS_len) m4
  obtain ⟨cx, Tx⟩ := F3 A3 (Ext.refl _)
  have DP3 := DP2.ext (X3.trans Y3)
  have cGd := h.cd; have cGp := h.cp; have c1d := DP1.cd; have c1p := DP1.cp; have c2d := DP2.cd; have c3p := DP3.cp
  have p0 := h.pg.p0; have p1 := h.pg.p1; have p2 := h.pg.p2; have p3 := h.pg.p3; have p4 := h.pg.p4
  have s0 := h.d0; have s1 := h.d1
  have r5 := h.rod; have r7 := h.pg.ro
  have x3 := X3.next
  obtain ⟨⟨w0, w1, w2, w3, w4⟩, _⟩ := F3 A3 (Ext.refl _)
  have l16 : g3.next < A3.next := by omega
  generalize hC : comm p bs = C at *
  obtain ⟨ss, x, er⟩ := C
  simp only at *
  subst he
  simp only [pgV] at u1 u3
  obtain ⟨A4, hA4⟩ : ∃ A4, A4 = A3.add (rowBlk 48 (List.replicate 48 (.string ⟨#[]⟩))) := ⟨_, rfl⟩
  have hA4' := hA4
  simp only [List.replicate] at hA4'
  have E4 : Ext A3 A4 := by rw [hA4]; exact (Ext.refl _).add _
  have arr : Arr A4 A3.next (rowBlk 48 (List.replicate 48 (.string ⟨#[]⟩))) (List.replicate 48 ⟨#[]⟩) := { blk := by rw [hA4]; simp [Heap.add], ro := rfl, lt := by rw [hA4]; simp, len := by simp, at_ := fun i hi => by rw [at_row, List.getElem?_replicate, List.getElem?_replicate, if_pos hi, if_pos hi]; rfl }
  simp [orTail, k1, k7, k8, cGp, p0, p1, p2, p3, p4, u1, b1, cb1, r7, ← hA1, c1d, s0, s1, u2, b2, cb2, r5, ← hA2, c2d, u3, ← hA3, w0, w1, w2, w3, w4, ← hA4']
  exact or_tail2 (bx := g3.next) (bp := bp) (x := x) rfl E4 arr ia ib (Ia.ext DP3.eb) (Ib.ext DP3.eb) l16 DP3.lp cx (by rw [c3p]; exact ⟨DP3.pg.p0, DP3.pg.p1, DP3.pg.p2, DP3.pg.p3, DP3.pg.p4⟩) Tx DP3.tx m4 (by rw [hct, ht]) (by simp [k0]) (by simp [k1]) (by simp [k8]) (by simp) (by simp)
theorem openRows_law (av bv : Value) (as_ bs : List Img) (fr : Bool) (H : Heap) (hA : Imgs H av as_) (hB : Imgs H bv bs) : call K f_law7_OpenRows [av, bv, .bool fr] H = some (.bool true, H) := by
  refine of_wpf (open_pure rfl fc_or rfl (Nat.le_of_ble_eq_true rfl) ?_)
  have ma := rimages_ok av as_ H.roAll hA.roAll
  have mb := rimages_ok bv bs H.roAll hB.roAll
  cases hAo : imOk (-1) as_
  · simp [orCode, awake7_ok, ma, hAo]
  cases hBo : imOk (-1) bs
  · simp [orCode, awake7_ok, ma, mb, hAo, hBo]
  obtain ⟨pa, ka, rfl⟩ := hA.slice
  obtain ⟨pb, kb, rfl⟩ := hB.slice
  obtain ⟨v0, G1, va, G2, v3, G3, d0, c1, c2, c3, E1, E2, E3, D3, S0⟩ := new_store7 H.roAll
  obtain ⟨hl1, hl2⟩ := store_len S0
  obtain ⟨ps, kp, qs, kq, A3, rfl, hA3, nA3, X3, F3⟩ := stage1 D3 hl1 hl2
  obtain ⟨_, G4, c4, E4, t4, rfl, T4, hfar4⟩ := rblank_ok A3
  have hE3 : Ext H.roAll G3 := E1.trans (E2.trans E3)
  obtain ⟨q4, k4, rfl⟩ := T4.sliceN pgB_len
  obtain ⟨A4, hA4⟩ : ∃ A4, A4 = (G4.add (rowBlk 5 [.int .i64 0, .int .i64 0, .int .i64 0, .int .i64 0, .slice none 0 0])).set G4.next (some (putPg (rowBlk 5 [.int .i64 0, .int .i64 0, .int .i64 0, .int .i64 0, .slice none 0 0]) pgB (.slice q4 48 k4))) := ⟨_, rfl⟩
  have DP4 := DP.init hE3 hA3 D3 E4 T4 (hfar4 _ (by omega)) hA4
  have hb0 : pgB.hn = 0 := rfl
  have hb1 : pgB.next = 1 := rfl
  have hbt : pgB.text = List.replicate 48 ⟨#[]⟩ := rfl
  obtain ⟨d', tss', hL, hS', he0⟩ := comm_store S0 pgB_room hAo
  obtain ⟨hq1, hq2, hq3⟩ := comm_bounds pgB_room hAo
  have hct := comm_text pgB_room hAo
  rw [hbt] at hct
  obtain ⟨m1, m2, m3, m4, m5⟩ := pgMay_of hS'.sound.may
  have hr : pgRoom (comm pgB as_).2.1 = true := room_of hS'.sound.may (by omega) (by omega)
  obtain ⟨g5, q5, n5, r5, m5', A5, u5, b5, cb5, hA5, X5, _, DP5, R5⟩ := DP4.commit hA.roAll m4 he0
  obtain ⟨g6, q6, n6, r6, m6, A6, u6, b6, cb6, hA6, X6, DP6, _⟩ := DP5.done R5 hL.done.2 (store_len hS').1 (store_len hS').2
  generalize comm pgB as_ = C at *
  obtain ⟨ss, p, er⟩ := C
  simp only at *
  subst he0
  have c4p := DP4.cp; have c5d := DP5.cd
  cases fr
  · simp only [pgV, pgB] at c4 u5 hA4 c4p b5 cb5 hA5
    simp [orCode, awake7_ok, ma, mb, hAo, hBo, c1, c2, c3, ← hA3, c4, ← hA4, c4p, u5, b5, cb5, ← hA5, c5d, u6, b6, cb6, ← hA6]
    refine wp.mono (or_tail (bd := G3.next) (bp := G4.next) DP6 hS' hr hAo hBo hA.roAll hB.roAll hct ⟨_, _, _, _, rfl, rfl⟩ ⟨_, _, rfl⟩ (by simp) (by simp) (by simp) (by simp)) ?_
    rintro _ e' H' ⟨rfl, h⟩
    simp [h]
  · obtain ⟨d2, hL2, hS2⟩ := fresh_store hS'.ok hS'.flat hS'.sound.toFound hr
    obtain ⟨_, g7, u7, X7, st7, t7, rfl, oS7, oT7, _⟩ := rfresh_ok p _ A6 DP6.tx
    rw [show freshR p = (freshS p, freshQ p, 0) from if_pos hr] at u7 oS7 oT7
    simp only at u7 oS7 oT7
    obtain ⟨q7, n7, rfl⟩ := (oS7.rows encSt_len).sliceN (freshS_len p)
    have ql : (freshQ p).text.length = 48 := m4
    obtain ⟨r7, m7, A7, rfl, hA7, nA7, Y7, F7⟩ := stageP (p := freshQ p) (oT7.rows encS_len) ql
    have DP7 := DP6.ext (X7.trans Y7)
    obtain ⟨g8, q8, n8, r8, m8, A8, u8, b8, cb8, hA8, X8, DP8, _⟩ := DP7.done ((oS7.rows encSt_len).ext Y7) hL2.done.2 (store_len hS2).1 (store_len hS2).2
    obtain ⟨⟨w0, w1, w2, w3, w4⟩, T8⟩ := F7 g8 X8
    have x7 := X7.next; have x8 := X8.next
    have l6d := DP6.ld; have l6p := DP6.lp
    have hne : g7.next ≠ G3.next := by omega
    have c8 : ∀ o, A8.cell g7.next o = g8.cell g7.next o := fun o => by rw [hA8, cell_set_ne hne]
    have T8' : Strs A8 (.slice r7 48 m7) (freshQ p).text := by rw [hA8]; exact T8.setB (oT7.notIn l6d) _
    have DP9 := DP8.setP T8' (oT7.notIn l6d) (oT7.notIn l6p)
    have c6p := DP6.cp; have c7d := DP7.cd
    have b8p := DP8.pg.blk
    have c8p := DP8.cp
    have r8p := DP8.pg.ro
    have hr2 : pgRoom (freshQ p) = true := room_of hS2.sound.may (by show p.hn + 1 ≤ _; omega) (by show p.next + 200 ≤ _; omega)
    obtain ⟨A9, hA9⟩ : ∃ A9, A9 = A8.set G4.next (some (putPg (putPg (putPg (rowBlk 5 [.int .i64 0, .int .i64 0, .int .i64 0, .int .i64 0, .slice none 0 0]) pgB (.slice q4 48 k4)) p (.slice r5 48 m5')) (freshQ p) (.slice r7 48 m7))) := ⟨_, rfl⟩
    rw [← hA9] at DP9
    simp only [pgV, pgB] at c4 u5 hA4 c4p b5 cb5 hA5 c6p b8p c8p hA9
    simp only [pgV] at u7
    simp [orCode, awake7_ok, ma, mb, hAo, hBo, c1, c2, c3, ← hA3, c4, ← hA4, c4p, u5, b5, cb5, ← hA5, c5d, u6, b6, cb6, ← hA6, c6p, u7, ← hA7, c7d, u8, b8, cb8, ← hA8, c8, w0, w1, w2, w3, w4, b8p, c8p, ← hA9]
    refine wp.mono (or_tail (bd := G3.next) (bp := G4.next) DP9 hS2 hr2 hAo hBo hA.roAll hB.roAll hct ⟨_, _, _, _, rfl, rfl⟩ ⟨_, _, rfl⟩ (by simp) (by simp) (by simp) (by simp)) ?_
    rintro _ e' H' ⟨rfl, h⟩
    simp [h]
end Go.AM
