/- The law DiskForms: true. -/
import Derived.Test.YtiiliffoclejlaaR6DiskSubset
namespace Go.AM
open Go.Proofs
set_option linter.unusedVariables false
set_option linter.unusedSimpArgs false
set_option maxRecDepth 100000
attribute [-simp] ByteArray.size_eq_zero_iff
def formsTail : IC := (.seq (.reg c_law2_DiskForms_r28) (.seq (.reg c_law2_DiskForms_r29) (.seq (.reg c_law2_DiskForms_r30) (.seq (.regd c_law2_DiskForms_r31 [(0, 4)]) (.seq (.reg c_law2_DiskForms_r32) (.seq (.reg c_law2_DiskForms_r33) (.seq (.reg c_law2_DiskForms_r34) (.seq (.reg c_law2_DiskForms_r35) .ret))))))))
def formsCode : IFn := ⟨(.seq (.reg c_law2_DiskForms_r0) (.seq (.seq (.reg c_law2_DiskForms_r1) (.cond (.t 25) (.seq (.reg c_law2_DiskForms_r2) .ret) .skip)) (.seq (.reg c_law2_DiskForms_r3) (.seq (.reg c_law2_DiskForms_r4) (.seq (.seq (.reg c_law2_DiskForms_r5) (.cond (.t 33) (.seq (.reg c_law2_DiskForms_r6) .ret) .skip)) (.seq (.reg c_law2_DiskForms_r7) (.seq (.reg c_law2_DiskForms_r8) (.seq (.seq (.reg c_law2_DiskForms_r9) (.block 0 (.seq (.reg c_law2_DiskForms_r10) (.cond (.t 57) (.reg c_law2_DiskForms_r11) (.seq (.reg c_law2_DiskForms_r12) (.cond (.t 63) (.regd c_law2_DiskForms_r13 []) (.seq (.reg c_law2_DiskForms_r14) (.cond (.t 73) (.reg c_law2_DiskForms_r15) (.seq (.reg c_law2_DiskForms_r16) (.cond (.t 81) (.reg c_law2_DiskForms_r17) (.seq (.reg c_law2_DiskForms_r18) (.cond (.t 89) (.reg c_law2_DiskForms_r19) (.seq (.reg c_law2_DiskForms_r20) (.cond (.t 94) (.regd c_law2_DiskForms_r21 [(1, 2)]) (.seq (.reg c_law2_DiskForms_r22) (.seq (.reg c_law2_DiskForms_r23) (.block 1 (.loop c_law2_DiskForms_l27)))))))))))))))))) formsTail)))))))), 191, [.tmp 4]⟩
theorem fc_forms : fnAt Try.prog f_law2_DiskForms = some formsCode := fc_law2_DiskForms
attribute [simp] formsCode
theorem stage0 {G : Heap} {v : Value} {d : Dk} (h : DkR G v d) {n1 n2 : Nat} (h1 : d.1.length = n1) (h2 : d.2.length = n2) :
    ∃ p k q m A, v = .agg #[.slice p n1 k, .slice q n2 m] ∧ A = (G.add (rowBlk 2 [.slice none 0 0, .slice none 0 0])).set G.next (some (((rowBlk 2 [.slice none 0 0, .slice none 0 0]).put 0 (.slice p n1 k)).put 1 (.slice q n2 m))) ∧ A.next = G.next + 1 ∧ Ext G A := by
  obtain ⟨s, c, rfl, hs, hc⟩ := h
  obtain ⟨p, k, rfl⟩ := hs.sliceN h1
  obtain ⟨q, m, rfl⟩ := hc.sliceN h2
  exact ⟨p, k, q, m, _, rfl, rfl, rfl, bxH_ext G _ _⟩
theorem stage02 {A G : Heap} {v : Value} {d : Dk} (hE : Ext (A.add (rowBlk 2 [.slice none 0 0, .slice none 0 0])) G) (h : DkR G v d) {n1 n2 : Nat} (h1 : d.1.length = n1) (h2 : d.2.length = n2) :
    ∃ p k q m A2, v = .agg #[.slice p n1 k, .slice q n2 m] ∧ G.blk A.next = some (rowBlk 2 [.slice none 0 0, .slice none 0 0]) ∧ (∀ o, G.cell A.next o = (rowBlk 2 [.slice none 0 0, .slice none 0 0]).at_ o) ∧ A2 = G.set A.next (some (((rowBlk 2 [.slice none 0 0, .slice none 0 0]).put 0 (.slice p n1 k)).put 1 (.slice q n2 m))) ∧ Ext A A2 := by
  obtain ⟨s, c, rfl, hs, hc⟩ := h
  obtain ⟨p, k, rfl⟩ := hs.sliceN h1
  obtain ⟨q, m, rfl⟩ := hc.sliceN h2
  have hbk : G.blk A.next = some (rowBlk 2 [.slice none 0 0, .slice none 0 0]) := by rw [hE.blk _ (by simp), blk_add, if_pos rfl]
  exact ⟨p, k, q, m, _, rfl, hbk, fun o => by simp only [Heap.cell, hbk], rfl, (((Ext.refl A).add _).trans hE).set (Nat.le_refl _) _⟩
theorem do_bad {d : Dk} {s : Stp} (h : doO d s = none) : doR d s = ([], []) ∧ doE d s = 200 := ⟨by rw [doR, h]; rfl, by rw [doE, h]; rfl⟩
theorem doO_bad {d : Dk} (s : Stp) (h : dOk d = false) : doO d s = none := by unfold doO; rw [if_neg (by simp [h])]
theorem cr_bad {d : Dk} (keep : ByteArray) (torn at_ : Int) (h : crOk d at_ = false) : crR d keep torn at_ = ([], []) ∧ crE d at_ = 200 := ⟨by rw [crR, if_neg (by simp [h])], by rw [crE, if_neg (by simp [h])]⟩
theorem forms_tail (e : Env) (G H0 : Heap) (d : Nat) (hd : 1 ≤ d ∧ d ≤ 1024) (kg kb ks : Nat) (pg : Option Addr) (ng : Nat) (qg : Option Addr) (mg : Nat) (s c : Value) (D : Dk)
    (h5 : e 5 = .int .i64 (d : Int)) (h6 : e 6 = .pointer (some ⟨kg, 0, none⟩)) (h7 : e 7 = .pointer (some ⟨kb, 0, none⟩)) (h8 : e 8 = .pointer (some ⟨ks, 0, none⟩))
    (hg : BoxD G kg (.slice pg 394 ng) (.slice qg 0 mg)) (Dg : DkR G (.agg #[.slice pg 394 ng, .slice qg 0 mg]) newD) (hb : BoxD G kb s c) (Db : DkR G (.agg #[s, c]) D) (hD : dOk D = false)
    (hs : ks < G.next ∧ G.cell ks 0 = some (.bool false) ∧ G.cell ks 1 = some (.int .i64 3) ∧ G.cell ks 2 = some (.string (sec 1))) :
    wp (run K formsTail e G) fun x e H' => isEnd x = true ∧ flat (e 4) = true ∧ e 4 = .bool true := by
  have hdk := Db
  obtain ⟨s', c', e', Sb, Cb⟩ := hdk
  cases e'
  obtain ⟨ps, ms, rfl⟩ := Sb.slice
  obtain ⟨pc, mc, rfl⟩ := Cb.slice
  have a0 := hb.c0
  have a1 := hb.c1
  have r1 := readD_ok Db 0
  have hrd : rdE D 0 = 200 := by rw [rdE, if_neg (by simp [rdOk, hD])]
  rw [hrd] at r1
  obtain ⟨_, G1, c1, E1, _, rfl, o1⟩ := do_ok _ _ false 3 (sec 1) G Db
  obtain ⟨f1, f2⟩ := do_bad (doO_bad (false, 3, sec 1) hD)
  rw [f1] at o1; rw [f2] at c1
  obtain ⟨p1, k1, q1, m1, A1, rfl, hA1, n1, X1⟩ := stage0 o1.dk (n1 := 0) (n2 := 0) rfl rfl
  have E01 := E1.trans X1
  have b0 := (hb.ext E01).c0
  have b1 := (hb.ext E01).c1
  obtain ⟨_, G2, c2, E2, _, rfl, o2⟩ := crash_ok _ _ ⟨#[]⟩ (-1) 0 A1 (Db.ext E01)
  obtain ⟨f1, f2⟩ := cr_bad (d := D) ⟨#[]⟩ (-1) 0 (by simp [crOk, hD])
  rw [f1] at o2; rw [f2] at c2
  obtain ⟨p2, k2, q2, m2, A2, rfl, hA2, n2, X2⟩ := stage0 o2.dk (n1 := 0) (n2 := 0) rfl rfl
  have E02 := E01.trans (E2.trans X2)
  have g20 := (hg.ext E02).c0
  have g21 := (hg.ext E02).c1
  have wneg : IntKind.i64.wrap (-(d : Int)) = -(d : Int) := wrap_i64 (by omega) (by omega)
  have w64 : IntKind.i64.wrap (64 + (d : Int)) = 64 + (d : Int) := wrap_i64 (by omega) (by omega)
  obtain ⟨_, G3, c3, E3, _, rfl, o3⟩ := do_ok _ newD false (-(d : Int)) (sec 1) (A2.add (rowBlk 2 [.slice none 0 0, .slice none 0 0])) ((Dg.ext E02).ext ((Ext.refl _).add _))
  have x3 : doO newD (false, -(d : Int), sec 1) = none := by
    unfold doO; rw [if_pos newD_ok, if_pos rfl, if_neg]
    rintro ⟨h, _⟩
    simp [wOk] at h; omega
  obtain ⟨f1, f2⟩ := do_bad x3
  rw [f1] at o3; rw [f2] at c3
  obtain ⟨p3, k3, q3, m3, A3, rfl, b3, cb3, hA3, X3⟩ := stage02 E3 o3.dk (n1 := 0) (n2 := 0) rfl rfl
  have E03 := E02.trans X3
  have g30 := (hg.ext E03).c0
  have g31 := (hg.ext E03).c1
  obtain ⟨_, G4, c4, E4, _, rfl, o4⟩ := do_ok _ newD true 1 ⟨#[]⟩ A3 (Dg.ext E03)
  have x4 : doO newD (true, 1, ⟨#[]⟩) = none := by
    unfold doO; rw [if_pos newD_ok, if_neg (by simp), if_neg (by simp)]
  obtain ⟨f1, f2⟩ := do_bad x4
  rw [f1] at o4; rw [f2] at c4
  obtain ⟨p4, k4, q4, m4, A4, rfl, hA4, n4, X4⟩ := stage0 o4.dk (n1 := 0) (n2 := 0) rfl rfl
  have E04 := E03.trans (E4.trans X4)
  have g40 := (hg.ext E04).c0
  have g41 := (hg.ext E04).c1
  obtain ⟨_, G5, c5, E5, _, rfl, o5⟩ := crash_ok _ _ ⟨#[]⟩ (-1) (64 + (d : Int)) A4 (Dg.ext E04)
  obtain ⟨f1, f2⟩ := cr_bad (d := newD) ⟨#[]⟩ (-1) (64 + (d : Int)) (by simp [crOk]; omega)
  rw [f1] at o5; rw [f2] at c5
  obtain ⟨p5, k5, q5, m5, A5, rfl, hA5, n5, X5⟩ := stage0 o5.dk (n1 := 0) (n2 := 0) rfl rfl
  have E05 := E04.trans (E5.trans X5)
  have g50 := (hg.ext E05).c0
  have g51 := (hg.ext E05).c1
  have b50 := (hb.ext E05).c0
  have b51 := (hb.ext E05).c1
  have r5 := readD_ok (Dg.ext E05) (-(d : Int))
  have hrd5 : rdE newD (-(d : Int)) = 200 := by rw [rdE, if_neg (by simp [rdOk]; omega)]
  rw [hrd5] at r5
  have my1 := mayD_ok (Db.ext E05)
  have my2 := mayD_ok (Dg.ext E05)
  rw [hD] at my1
  rw [newD_ok] at my2
  have zz : ¬ kg = A2.next := by have := hg.lt; have := E02.next; omega
  simp [formsTail, h5, h6, h7, h8, a0, a1, r1, hs, c1, ← hA1, b0, b1, c2, ← hA2, g20, g21, wneg, w64, sector_ok, run_regd_tr, finD_some, Chk, wanted, zz, c3, b3, cb3, ← hA3, g30, g31, c4, ← hA4, g40, g41, c5, ← hA5, g50, g51, b50, b51, r5, my1, my2]
theorem Rows.empty {α : Type} {enc : α → List Value} {sz : Nat} {H H' : Heap} {v : Value} (h : Rows enc sz H v ([] : List α)) (hn : H.next ≤ H'.next) : Rows enc sz H' v ([] : List α) := by
  obtain ⟨l, p, c, rfl, hp⟩ := h
  refine ⟨l, p, c, rfl, hp.imp id ?_⟩
  rintro ⟨b, o, rfl, h2, h3, h4⟩
  exact ⟨b, o, rfl, by omega, h3, fun i hi => by simp at hi⟩
theorem dOk_len0 {d : Dk} (h : d.1.length ≠ 394) : dOk d = false := by
  simp [dOk, h]
theorem dOk_cache {S : List ByteArray} {w : Img} (h : wOk w = false) : dOk (S, [w]) = false := by
  simp [dOk, h]
theorem forms_law (which x : Int) (H : Heap) : call K f_law2_DiskForms [.int .i64 which, .int .i64 x] H = some (.bool true, H) := by
  refine of_wpf (open_pure rfl fc_forms rfl (Nat.le_of_ble_eq_true rfl) ?_)
  obtain ⟨d, hd, d1, d2⟩ : ∃ d : Nat, IntKind.i64.wrap (1 + bits .and .i64 x 1023) = (d : Int) ∧ 1 ≤ d ∧ d ≤ 1024 := by
    rw [and1023, wrap_i64 (by omega) (by omega)]; exact ⟨(1 + x % 1024).toNat, by omega, by omega, by omega⟩
  have wneg : IntKind.i64.wrap (-(d : Int)) = -(d : Int) := wrap_i64 (by omega) (by omega)
  have w393 : IntKind.i64.wrap (393 + (d : Int)) = 393 + (d : Int) := wrap_i64 (by omega) (by omega)
  obtain ⟨k, hk, hrem⟩ := umod which 7 (by omega) (by omega)
  have hrem' : ∀ t, binV K.P .rem t (.int .u64 (IntKind.u64.wrap which)) (.int .u64 7) = some (.int .u64 (k : Int)) := fun t => hrem
  obtain ⟨_, G1, c1, E1, D1⟩ := new_ok H.roAll
  obtain ⟨p1, k1, q1, m1, A1, rfl, hA1, n1, X1, F1⟩ := stage1 D1 newD_len (n := 0) rfl
  obtain ⟨a10, a11, D1'⟩ := F1 A1 (Ext.refl _)
  obtain ⟨_, G2, c2, E2, o2⟩ := copyD_ok _ newD A1 D1' (by rw [newD_len]; omega) (by simp [newD])
  obtain ⟨s7, t7, rfl, O7, T7, hap⟩ := o2
  have hOwn := O7.own (fun h => by have := newD_len; rw [h] at this; simp at this)
  obtain ⟨b7, B7, hv7, hb7, hb7', hB7, hro7, hes7, hat7⟩ : ∃ b B, s7 = .slice (some ⟨b, 0, none⟩) 394 788 ∧ A1.next ≤ b ∧ b < G2.next ∧ G2.blk b = some B ∧ B.ro = false ∧ B.esz = 1 ∧ ∀ j, j < newD.1.length * 1 → B.at_ j = (newD.1.flatMap encS)[j]? := by
    rcases hOwn.is with ⟨_, h⟩ | ⟨b, B, h1, h2⟩
    · have := newD_len; rw [h] at this; simp at this
    · exact ⟨b, B, by rw [h1, newD_len], h2⟩
  have hT := T7.rows encI_len
  obtain ⟨q7, m7, hv7'⟩ := hT.sliceN (n := 0) rfl
  obtain ⟨kb, hkb⟩ : ∃ kb, kb = G2.next := ⟨_, rfl⟩
  have nS : NotIn s7 kb := by subst hkb; exact hOwn.below.notIn (Nat.le_refl _)
  have nT : NotIn t7 kb := by subst hkb; exact T7.below.notIn (Nat.le_refl _)
  obtain ⟨A2, hA2⟩ : ∃ A2, A2 = (G2.add (rowBlk 2 [.slice none 0 0, .slice none 0 0])).set G2.next (some (((rowBlk 2 [.slice none 0 0, .slice none 0 0]).put 0 (.slice (some ⟨b7, 0, none⟩) 394 788)).put 1 (.slice q7 0 m7))) := ⟨_, rfl⟩
  have X2 : Ext G2 A2 := by rw [hA2]; exact bxH_ext _ _ _
  have n2 : A2.next = G2.next + 1 := by rw [hA2]; rfl
  obtain ⟨A3, hA3⟩ : ∃ A3, A3 = (A2.add (rowBlk 3 [.bool false, .int .i64 0, .string ⟨#[]⟩])).set A2.next (some ((((rowBlk 3 [.bool false, .int .i64 0, .string ⟨#[]⟩]).put 0 (.bool false)).put 1 (.int .i64 3)).put 2 (.string (sec 1)))) := ⟨_, rfl⟩
  have X3 : Ext A2 A3 := by rw [hA3]; exact ((Ext.refl _).add _).set (Nat.le_refl _) _
  have n3 : A3.next = A2.next + 1 := by rw [hA3]; rfl
  have hg3 : BoxD A3 G1.next (.slice p1 394 k1) (.slice q1 0 m1) := by
    have : BoxD A1 G1.next (.slice p1 394 k1) (.slice q1 0 m1) := by rw [hA1]; exact BoxD.new _ _ _
    exact this.ext (E2.trans (X2.trans X3))
  have Dg3 : DkR A3 (.agg #[.slice p1 394 k1, .slice q1 0 m1]) newD := D1'.ext (E2.trans (X2.trans X3))
  have hb3 : BoxD A3 kb s7 t7 := by
    have : BoxD A2 kb s7 t7 := by rw [hA2, hv7, hv7', hkb]; exact BoxD.new _ _ _
    exact this.ext X3
  have hBx := hb3.is
  obtain ⟨Bx, hBx, hrx, hx0, hx1⟩ := hBx
  have S3 : Strs A3 s7 newD.1 := (hOwn.rows encS_len).ext (X2.trans X3)
  have T3 : Imgs A3 t7 [] := hT.ext (X2.trans X3)
  have hst : A3.blk A2.next = some ((((rowBlk 3 [.bool false, .int .i64 0, .string ⟨#[]⟩]).put 0 (.bool false)).put 1 (.int .i64 3)).put 2 (.string (sec 1))) := by rw [hA3, blk_set_self]
  have hstc : ∀ {G' : Heap}, A3.next ≤ G'.next → G'.blk A2.next = A3.blk A2.next → (A2.next < G'.next ∧ G'.cell A2.next 0 = some (.bool false) ∧ G'.cell A2.next 1 = some (.int .i64 3) ∧ G'.cell A2.next 2 = some (.string (sec 1))) := fun hn hb => by
    rw [hst] at hb
    exact ⟨by omega, by simp [Heap.cell, hb], by simp [Heap.cell, hb], by simp [Heap.cell, hb]⟩
  have c70 := hb3.c0
  have c71 := hb3.c1
  have hl1 := E2.next
  have hl2 := E1.next
  have nkb : ¬ A2.next = kb := by omega
  have ngb : ¬ G1.next = kb := by omega
  have x394 : (nSec : Int) = 394 := rfl
  rw [hv7] at c70 c2
  rw [hv7'] at c71 c2
  rw [← hkb] at hA2
  -- what is behind each case
  have fin : ∀ (e : Env) (G' : Heap) (s' c' : Value) (D' : Dk), e 5 = .int .i64 (d : Int) → e 6 = .pointer (some ⟨G1.next, 0, none⟩) → e 7 = .pointer (some ⟨kb, 0, none⟩) → e 8 = .pointer (some ⟨A2.next, 0, none⟩) → A3.next ≤ G'.next → (∀ b, b < A3.next → b ≠ kb → b ≠ b7 → G'.blk b = A3.blk b) → BoxD G' kb s' c' → DkR G' (.agg #[s', c']) D' → dOk D' = false →
      wp (run K formsTail e G') fun x e H' => isEnd x = true ∧ flat (e 4) = true ∧ e 4 = .bool true := fun e G' s' c' D' h5 h6 h7 h8 hn hbl hb' hD' hok =>
    forms_tail e G' H d ⟨d1, d2⟩ G1.next kb A2.next p1 k1 q1 m1 s' c' D' h5 h6 h7 h8 ⟨by omega, by rw [hbl _ (by omega) ngb (by omega)]; exact hg3.is⟩ (D1.ext ⟨by omega, fun b hb => by rw [hbl b (by omega) (by omega) (by omega)]; exact (X1.trans (E2.trans (X2.trans X3))).blk b hb⟩) hb' hD' hok (hstc hn (hbl _ (by omega) nkb (by omega)))
  have nk3 : ¬ kb = A3.next := by omega
  have hB3 : A3.blk b7 = some B7 := by rw [(X2.trans X3).blk _ hb7']; exact hB7
  have hOwn3 := hOwn.ext (X2.trans X3)
  have cacheCase : ∀ (e : Env) (a : Int) (t : ByteArray), wOk (a, t) = false → e 5 = .int .i64 (d : Int) → e 6 = .pointer (some ⟨G1.next, 0, none⟩) → e 7 = .pointer (some ⟨kb, 0, none⟩) → e 8 = .pointer (some ⟨A2.next, 0, none⟩) → wp (run K formsTail e ((A3.add (rowBlk 2 [.int .i64 a, .string t])).set kb (some (Bx.put 1 (.slice (some ⟨A3.next, 0, none⟩) 1 3))))) fun x e H' => isEnd x = true ∧ flat (e 4) = true ∧ e 4 = .bool true := fun e a t hw h5 h6 h7 h8 => by
    refine fin e _ s7 (.slice (some ⟨A3.next, 0, none⟩) 1 3) (newD.1, [(a, t)]) h5 h6 h7 h8 (by simp) (fun b hb h1 h2 => by rw [blk_set_ne h1, blk_add, if_neg (by omega)]) ⟨by simp; omega, _, blk_set_self _ _ _, hrx, by simp [hx0], by simp⟩ ⟨_, _, rfl, (S3.ext ((Ext.refl _).add _)).set nS _, ?_⟩ (dOk_cache hw)
    refine Rows.set ?_ (fun a n c e => by cases e; simp only; omega) _
    exact rows_blk [(a, t)] (by simp) encI_len _ _ _ rfl (by omega) (by simp) fun j hj => by
      match j, hj with
      | 0, _ => simp
      | 1, _ => simp
  match k, hk with
  | 0, _ =>
    have hes : A3.eszIs b7 1 = true := by simp [Heap.eszIs, hB3, hes7]
    have hsl : slvV A3 1 (.slice (some ⟨b7, 0, none⟩) 394 788) (some (.int .i64 1)) none none = some (.slice (some ⟨b7, 1, none⟩) 393 786) := by
      simp [slvV, bound, hes]
    simp [awake2_ok, hd, c1, ← hA1, a10, a11, c2, ← hkb, ← hA2, sector_ok, ← hA3, hrem', c70, c71, hBx, hrx, hsl]
    refine fin _ _ (.slice (some ⟨b7, 1, none⟩) 393 786) t7 (newD.1.drop 1, []) (by simp) (by simp) (by simp) (by simp) (by simp) (fun b hb h1 h2 => by rw [blk_set_ne h1]) ⟨by simp; omega, _, blk_set_self _ _ _, hrx, by simp, by simp [hx1]⟩ ⟨_, _, rfl, ?_, T3.set nT _⟩ (dOk_len0 (by simp [newD, nSec_eq]))
    refine Rows.set ?_ (fun a n c e => by cases e; simp only; exact fun e => nS _ _ _ hv7 e) _
    refine ⟨by rw [List.length_drop, newD_len]; omega, some ⟨b7, 1, none⟩, 786, by rw [List.length_drop, newD_len], .inr ⟨b7, 1, rfl, by omega, by rw [List.length_drop, newD_len]; omega, fun i hi j hj => ?_⟩⟩
    rw [List.length_drop, newD_len] at hi
    obtain ⟨b', o', hp', _, hc'⟩ := (hv7 ▸ S3 : Strs A3 (.slice (some ⟨b7, 0, none⟩) 394 788) newD.1).at1 (i := i + 1) (by rw [newD_len]; omega)
    cases hp'
    obtain rfl : j = 0 := by omega
    rw [show 1 + i * 1 + 0 = 0 + (i + 1) by omega, hc']
    simp
  | 1, _ =>
    obtain ⟨b', B', hv', _, _, hB', hro', hat', hup'⟩ := hOwn3.blkOf encS_len (fun h => by have := newD_len; rw [h] at this; simp at this)
    have hbb : b' = b7 := by rw [hv7] at hv'; cases hv'; rfl
    subst hbb
    rw [hB3] at hB'
    cases hB'
    have hn5 : 5 < newD.1.length := by rw [newD_len]; omega
    have h5s : newD.1[5] = zer 64 := by simp [newD]
    have ha5 := hat' 5 hn5 0 (by omega)
    rw [h5s] at ha5
    simp at ha5
    have hup := hup' 5 0 hn5 (by omega) ((zer 64).extract 1 64) (.string ((zer 64).extract 1 64)) (fun r hr => by
      obtain rfl : r = 0 := by omega
      rfl)
    have hsls : slsV (zer 64) (some (.int .i64 1)) none = some (.string ((zer 64).extract 1 64)) := by simp [slsV, bound, zer_size]
    have cB : ∀ o, A3.cell b' o = B7.at_ o := fun o => by simp only [Heap.cell, hB3]
    simp [awake2_ok, hd, c1, ← hA1, a10, a11, c2, ← hkb, ← hA2, sector_ok, ← hA3, hrem', c70, c71, natOf_int, cB, ha5, hsls, hB3, hro7]
    have nkb7 : kb ≠ b' := by omega
    refine fin _ _ s7 t7 (newD.1.set 5 ((zer 64).extract 1 64), []) (by simp) (by simp) (by simp) (by simp) (by simp) (fun b hb h1 h2 => by rw [blk_set_ne h2]) ⟨by simp; omega, Bx, by rw [blk_set_ne nkb7]; exact hBx, hrx, hx0, hx1⟩ ⟨_, _, rfl, hup.rows encS_len, T3.set (fun a n c e => ?_) _⟩ ?_
    · have := hap b' (fun h => h _ _ _ hv7 rfl) _ _ _ e; exact this
    · simp only [dOk, Bool.and_eq_false_iff]
      refine .inl (.inr ?_)
      rw [List.all_eq_false]
      refine ⟨(zer 64).extract 1 64, List.mem_iff_getElem.2 ⟨5, by simp [newD, nSec_eq], by simp⟩, ?_⟩
      rw [size_extract, zer_size]; simp
  | 2, _ =>
    simp [awake2_ok, hd, c1, ← hA1, a10, a11, c2, ← hkb, ← hA2, sector_ok, ← hA3, hrem', c70, c71, hBx, hrx, wneg, nkb, nk3]
    exact cacheCase _ _ _ (by simp [wOk]; omega) (by simp) (by simp) (by simp) (by simp)
  | 3, _ =>
    simp [awake2_ok, hd, c1, ← hA1, a10, a11, c2, ← hkb, ← hA2, sector_ok, ← hA3, hrem', c70, c71, hBx, hrx, w393, nkb, nk3]
    exact cacheCase _ _ _ (by simp [wOk]; omega) (by simp) (by simp) (by simp) (by simp)
  | 4, _ =>
    simp [awake2_ok, hd, c1, ← hA1, a10, a11, c2, ← hkb, ← hA2, sector_ok, ← hA3, hrem', c70, c71, hBx, hrx, nkb, nk3]
    exact cacheCase _ _ _ (by decide) (by simp) (by simp) (by simp) (by simp)
  | 5, _ =>
    have hA := (hOwn3.ext ((Ext.refl A3).add (rowBlk 1 [.string (sec 0)]))).app encS_len (bytes := 16) (k := 1) [.string (sec 0)] (by omega) rfl (by rw [newD_len]; omega) (by rw [newD_len]; omega)
    rw [hv7, newD_len] at hA
    simp at hA
    have kk : ∀ X b, b ≠ b7 → (killB (.slice (some ⟨b7, 0, none⟩) 394 788) X).blk b = X.blk b := fun X b hb => blk_killB (fun a n c e => by cases e; exact hb)
    have nkb7 : kb ≠ b7 := by omega
    have k1 : (killB (.slice (some ⟨b7, 0, none⟩) 394 788) (A3.add (rowBlk 1 [.string (sec 0)]))).blk kb = some Bx := by rw [kk _ _ nkb7, blk_add, if_neg nk3]; exact hBx
    have k2 : ∀ o, (killB (.slice (some ⟨b7, 0, none⟩) 394 788) (A3.add (rowBlk 1 [.string (sec 0)]))).cell kb o = Bx.at_ o := fun o => by simp only [Heap.cell, k1]
    have nk4 : ¬ kb = A3.next + 1 := by omega
    simp [awake2_ok, hd, c1, ← hA1, a10, a11, c2, ← hkb, ← hA2, sector_ok, ← hA3, hrem', c70, c71, run_regd_tr, finD_some, Chk, wanted, hA, k1, k2, hx0, hx1, hrx, nk3, nk4]
    have hz := Own.new' (enc := encS) (sz := 1) (n0 := A3.next) (b := A3.next + 1) (H := killB (.slice (some ⟨b7, 0, none⟩) 394 788) (A3.add (rowBlk 1 [.string (sec 0)]))) (xs := newD.1 ++ [sec 0]) (by simp) (by omega) (by simp [newD, nSec_eq]) rfl
    have hz2 := hz.rows encS_len
    rw [show (newD.1 ++ [sec 0]).length = 395 by simp [newD, nSec_eq]] at hz2
    simp only [List.flatMap_append, List.flatMap_cons, List.flatMap_nil, List.append_nil] at hz2
    exact fin _ _ (.slice (some ⟨A3.next + 1, 0, none⟩) 395 790) t7 (newD.1 ++ [sec 0], []) (by simp) (by simp) (by simp) (by simp) (by simp; omega) (fun b hb h1 h2 => by rw [blk_set_ne h1, blk_add, if_neg (by simp; omega), kk _ _ h2, blk_add, if_neg (by omega)]) ⟨by simp; omega, _, blk_set_self _ _ _, hrx, by simp, by simp [hx1]⟩ ⟨_, _, rfl, hz2.set (fun a n c e => by cases e; simp only; omega) _, T3.empty (by simp; omega)⟩ (dOk_len0 (by simp [newD, nSec_eq]))
  | 6, _ =>
    obtain ⟨M, hM⟩ : ∃ M : Nat, M = 513 := ⟨_, rfl⟩
    obtain ⟨A4, hA4⟩ : ∃ A4, A4 = (A3.add (fillB 2 513 [.int .i64 0, .string ⟨#[]⟩])).set kb (some (Bx.put 1 (.slice (some ⟨A3.next, 0, none⟩) 513 1027))) := ⟨_, rfl⟩
    have b4 : A4.blk A3.next = some (fillB 2 513 [.int .i64 0, .string ⟨#[]⟩]) := by rw [hA4, blk_set_ne (fun e => nk3 e.symm), blk_add, if_pos rfl]
    have n4 : A4.next = A3.next + 1 := by rw [hA4]; rfl
    have bk4 : A4.blk kb = some (Bx.put 1 (.slice (some ⟨A3.next, 0, none⟩) 513 1027)) := by rw [hA4, blk_set_self]
    have bs4 : A4.blk A2.next = A3.blk A2.next := by rw [hA4, blk_set_ne nkb, blk_add, if_neg (by omega)]
    simp [awake2_ok, hd, c1, ← hA1, a10, a11, c2, ← hkb, ← hA2, sector_ok, ← hA3, hrem', c70, c71, natOf_int, hBx, hrx, nk3, ← hA4]
    refine wp_nxt (wp_unblock (wp_for (fun d' e G => ∃ (i : Nat) (B : Blk), d' = M - i ∧ i ≤ M ∧ G.next = A4.next ∧ (∀ b, b ≠ A3.next → G.blk b = A4.blk b) ∧ G.blk A3.next = some B ∧ B.ro = false ∧ (∀ j, j < M → B.at_ (j * 2) = some (.int .i64 (if j < i then 3 else 0)) ∧ B.at_ (j * 2 + 1) = some (.string (if j < i then sec 1 else ⟨#[]⟩))) ∧ e 5 = .int .i64 (d : Int) ∧ e 6 = .pointer (some ⟨G1.next, 0, none⟩) ∧ e 7 = .pointer (some ⟨kb, 0, none⟩) ∧ e 8 = .pointer (some ⟨A2.next, 0, none⟩) ∧ e 9 = .int .i64 (i : Int)) M ⟨0, fillB 2 513 [.int .i64 0, .string ⟨#[]⟩], by omega, by omega, rfl, fun _ _ => rfl, b4, rfl, fun j hj => ⟨by simp; omega, by simp; omega⟩, by simp, by simp, by simp, by simp, by simp⟩ ?_))
    rintro d' e G ⟨i, B, rfl, hi, hGn, hGb, hB, hro, hat, h5, h6, h7, h8, h9⟩
    have gk : G.blk kb = some (Bx.put 1 (.slice (some ⟨A3.next, 0, none⟩) 513 1027)) := by rw [hGb _ nk3]; exact bk4
    have gs : G.blk A2.next = A3.blk A2.next := by rw [hGb _ (by omega)]; exact bs4
    obtain ⟨_, s0, s1, s2⟩ := hstc (G' := G) (by omega) gs
    have ck : ∀ o, G.cell kb o = (Bx.put 1 (.slice (some ⟨A3.next, 0, none⟩) 513 1027)).at_ o := fun o => by simp only [Heap.cell, gk]
    have cB : ∀ o, G.cell A3.next o = B.at_ o := fun o => by simp only [Heap.cell, hB]
    by_cases hlt : i < M
    · have g1 : (i : Int) < 513 := by omega
      have g2 : i < 513 := by omega
      obtain ⟨t0, t1⟩ := hat i hlt
      simp [c_law2_DiskForms_l27, h5, h6, h7, h8, h9, ck, g1, g2, s1, s2, hB, hro, cB, t0, t1]
      refine ⟨M - (i + 1), by omega, i + 1, rfl, hlt, hGn, fun b hb => by rw [if_neg hb]; exact hGb b hb, fun j hj => ⟨?_, ?_⟩, wrap_succ (by omega)⟩
      · rw [if_neg (by omega)]
        by_cases hji : j = i
        · subst hji; simp
        · rw [if_neg (by omega), (hat j hj).1]
          by_cases hj2 : j < i
          · rw [if_pos hj2, if_pos (by omega)]
          · rw [if_neg hj2, if_neg (by omega)]
      · by_cases hji : j = i
        · subst hji; simp
        · rw [if_neg (by omega), if_neg (by omega), (hat j hj).2]
          by_cases hj2 : j < i
          · rw [if_pos hj2, if_pos (by omega)]
          · rw [if_neg hj2, if_neg (by omega)]
    · obtain rfl : i = M := by omega
      have g1 : ¬ (i : Int) < 513 := by omega
      simp [c_law2_DiskForms_l27, h5, h6, h7, h8, h9, ck, g1]
      refine fin _ _ s7 (.slice (some ⟨A3.next, 0, none⟩) 513 1027) (newD.1, List.replicate i (3, sec 1)) (by simp [h5]) (by simp [h6]) (by simp [h7]) (by simp [h8]) (by omega) (fun b hb h1 h2 => ?_) ⟨by omega, _, gk, hrx, by simp [hx0], by simp⟩ ⟨_, _, rfl, ?_, ?_⟩ ?_
      · rw [hGb b (by omega), hA4, blk_set_ne h1, blk_add, if_neg (by omega)]
      · have S4 : Strs A4 s7 newD.1 := by rw [hA4]; exact (S3.ext ((Ext.refl _).add _)).set nS _
        obtain ⟨l, p, c, e, hp⟩ := S4
        refine ⟨l, p, c, e, hp.imp id ?_⟩
        rintro ⟨b, o, rfl, h2, h3, h4⟩
        refine ⟨b, o, rfl, by omega, h3, fun i' hi' j' hj' => ?_⟩
        rw [← h4 i' hi' j' hj']
        have hbb : b = b7 := by rw [hv7] at e; cases e; rfl
        simp only [Heap.cell, hGb b (by omega)]
      · refine ⟨by simp; omega, some ⟨A3.next, 0, none⟩, 1027, by rw [List.length_replicate, hM], .inr ⟨A3.next, 0, rfl, by omega, by rw [List.length_replicate]; omega, fun i' hi' j' hj' => ?_⟩⟩
        rw [List.length_replicate] at hi'
        rw [cB, List.getElem_replicate]
        obtain ⟨t0, t1⟩ := hat i' hi'
        rw [if_pos hi'] at t0 t1
        match j', hj' with
        | 0, _ => rw [show 0 + i' * 2 + 0 = i' * 2 by omega, t0]; rfl
        | 1, _ => rw [show 0 + i' * 2 + 1 = i' * 2 + 1 by omega, t1]; rfl
      · simp only [dOk, Bool.and_eq_false_iff, List.length_replicate]
        exact .inl (.inl (.inr (by simp; omega)))
end Go.AM
