import Derived.Test.YtbgidagbogpfkaaR7CodeL
import Derived.Test.YtbgidagbogpfkaaR7Rj
/- The law Forests: true. -/
namespace Go.AM
open Go.Proofs
set_option linter.unusedVariables false
set_option linter.unusedSimpArgs false
set_option maxRecDepth 100000
attribute [-simp] ByteArray.size_eq_zero_iff Heap.store
/-! ### what answers with an error, and what may be -/
def Okq (q : List Inf × Int) : Prop := (q.2 ≠ 0 → q.1 = []) ∧ (q.2 = 0 → mayB q.1 = true)
theorem prepare_okq (xs : List Inf) (n p : ByteArray) (k : Int) : Okq (prepareS xs n p k) := by
  refine ⟨fun h => ?_, prepare_may⟩
  obtain ⟨q, hq⟩ : ∃ q, q = prepareS xs n p k := ⟨_, rfl⟩
  rw [← hq] at h ⊢
  unfold prepareS at hq
  repeat' split at hq
  all_goals subst hq
  all_goals first | rfl | exact absurd rfl h
theorem commit_okq (xs : List Inf) (n t : ByteArray) : Okq (commitS xs n t) := by
  refine ⟨fun h => ?_, fun h => by obtain ⟨_, _, _, hm, _⟩ := commit_law h; exact hm⟩
  obtain ⟨q, hq⟩ : ∃ q, q = commitS xs n t := ⟨_, rfl⟩
  rw [← hq] at h ⊢
  unfold commitS at hq
  repeat' split at hq
  all_goals subst hq
  all_goals first | rfl | exact absurd rfl h
theorem remove_okq (xs : List Inf) (n : ByteArray) : Okq (removeS xs n) := by
  refine ⟨fun h => ?_, fun h => (remove_law h).2.2.2.1⟩
  obtain ⟨q, hq⟩ : ∃ q, q = removeS xs n := ⟨_, rfl⟩
  rw [← hq] at h ⊢
  unfold removeS at hq
  repeat' split at hq
  all_goals subst hq
  all_goals first | rfl | exact absurd rfl h
theorem write_okq (xs : List Inf) (n p c : ByteArray) : Okq (writeS xs n p c) := by
  refine ⟨fun h => ?_, write_may⟩
  obtain ⟨q, hq⟩ : ∃ q, q = writeS xs n p c := ⟨_, rfl⟩
  rw [← hq] at h ⊢
  unfold writeS at hq
  repeat' split at hq
  all_goals subst hq
  all_goals first | rfl | exact absurd rfl h
theorem delete_okq (xs : List Inf) (n p : ByteArray) : Okq (deleteS xs n p) := by
  refine ⟨fun h => ?_, delete_may⟩
  obtain ⟨q, hq⟩ : ∃ q, q = deleteS xs n p := ⟨_, rfl⟩
  rw [← hq] at h ⊢
  unfold deleteS at hq
  repeat' split at hq
  all_goals subst hq
  all_goals first | rfl | exact absurd rfl h
theorem label_okq (xs : List Inf) (n l : ByteArray) : Okq (labelS xs n l) := by
  rcases named_case xs n [] with ⟨a1, e⟩ | ⟨a1, a2, e⟩ | ⟨a1, a2, a3, e⟩ | ⟨k, hk, a1, a2, a3, a4, a5, e⟩
  · simp [Okq, labelS, e]
  · simp [Okq, labelS, e]
  · simp [Okq, labelS, e]
  · by_cases b1 : 3 < l.size
    · simp [Okq, labelS, e, b1]
    · have hq : labelS xs n l = (xs.set k { xs[k] with label := l }, 0) := by
        simp only [labelS, e, a4]; rw [if_neg (by simp), if_neg b1, List.getElem?_eq_getElem hk]
      rw [hq]
      refine ⟨fun h => absurd rfl h, fun _ => may_set hk a1 ?_ rfl rfl rfl⟩
      have hib := (mayB_all a1).1 _ (List.getElem_mem hk)
      simp only [infB, Bool.and_eq_true, decide_eq_true_eq] at hib ⊢
      exact ⟨⟨hib.1.1, by omega⟩, hib.2⟩
theorem okq_small {q : List Inf × Int} (h : Okq q) {s : List (Inf × Value)} (hs : infs s = q.1) : s.length ≤ 6 ∧ ∀ p ∈ s, p.1.files.length ≤ 140737488355328 := by
  by_cases h0 : q.2 = 0
  · have hm := h.2 h0
    rw [← hs] at hm
    have := (mayB_all hm).2.2.2
    exact ⟨by simpa using this, fun p hp => ((may_z hm).1.inf p hp).2⟩
  · rw [h.1 h0] at hs
    have : s = [] := by cases s with | nil => rfl | cons a t => simp [infs] at hs
    subst this
    exact ⟨by simp, fun p hp => by cases hp⟩
/-- What an act of the program left: its own. -/
theorem ret_own {H G : Heap} {q : List Inf × Int} {r : Value} (h : Ret H q r G) (ho : Okq q) : ∃ u s, r = .tuple #[u, .int .i64 q.2] ∧ infs s = q.1 ∧ OwF H.next G u s := by
  by_cases h0 : q.2 = 0
  · obtain ⟨_, u, rfl, _, h2⟩ := h
    obtain ⟨s, h3, h4⟩ := h2 h0
    exact ⟨u, s, rfl, h3, h4⟩
  · have := ret_err h h0
    exact ⟨_, [], this, by rw [ho.1 h0]; rfl, ⟨Ow.nil, fun p hp => (by cases hp), fun p hp => (by cases hp), List.Pairwise.nil⟩⟩
/-- The blocks of one's own forest lie between two marks. -/
def InB (m : Nat) (v : Value) (rs : List (Inf × Value)) : Prop := (∀ b, blkV v = some b → b < m) ∧ ∀ p ∈ rs, ∀ b, blkV p.2 = some b → b < m
theorem OwF.inB {n0 : Nat} {G : Heap} {v : Value} {rs : List (Inf × Value)} (h : OwF n0 G v rs) : InB G.next v rs := ⟨fun b hb => (h.out.below b hb).2, fun p hp b hb => ((h.fils p hp).below b hb).2⟩
theorem OwF.frame {n0 m : Nat} {G H' : Heap} {v : Value} {rs : List (Inf × Value)} (h : OwF n0 G v rs) (hm : InB m v rs) (hn : G.next ≤ H'.next) (hb : ∀ b, n0 ≤ b → b < m → H'.blk b = G.blk b) : OwF n0 H' v rs :=
  ⟨h.out.frame hn fun b h1 => hb b (h.out.below b h1).1 (hm.1 b h1), fun p hp => (h.fils p hp).frame hn fun b h1 => hb b ((h.fils p hp).below b h1).1 (hm.2 p hp b h1), h.sep, h.dis⟩
/-- Written over: nothing outside the marks has turned. -/
theorem spoil_ok {n0 m : Nat} {G : Heap} {v : Value} {rs : List (Inf × Value)} (h : OwF n0 G v rs) (hm : InB m v rs) (hl : rs.length ≤ 6) : ∃ G', call K f_law0_SpoilInfos [v] G = some (.tuple #[], G') ∧ G'.next = G.next ∧ ∀ b, (b < n0 ∨ m ≤ b) → G'.blk b = G.blk b := by
  obtain ⟨r, G', h1, rfl, h2, h3⟩ := spoilInfos_ok v rs G h (by omega)
  refine ⟨G', h1, h2, fun b hb => h3 b (fun e => ?_) fun p hp e => ?_⟩
  · have := (h.out.below b e).1
    have := hm.1 b e
    omega
  · have := ((h.fils p hp).below b e).1
    have := hm.2 p hp b e
    omega
theorem forests_law (v : Value) (rs : List (Inf × Value)) (name other path content : ByteArray) (kind : Int) (H : Heap) (hF : Fo H v rs) (hz : FoZ rs ∧ FoW rs ∧ FoC rs) (hs1 : name.size ≤ 140737488351232) (hs2 : other.size ≤ 140737488351232) (hs3 : path.size ≤ 140737488351232) :
    call K f_law19_Forests [v, .string name, .string other, .string path, .string content, .int .i64 kind] H = some (.bool true, H) := by
  refine of_wpf (open_pure rfl fc_law19_Forests rfl (Nat.le_of_ble_eq_true rfl) ?_)
  have hF := hF.roAll
  generalize H.roAll = H0 at *
  obtain ⟨hz1, hz2, _⟩ := hz
  have n1 : name.size ≤ 140737488355328 := by omega
  have n2 : other.size ≤ 140737488355328 := by omega
  have n3 : path.size ≤ 140737488355328 := by omega
  obtain ⟨vx, G0, c0, E0, rx, ix, wx⟩ := lcopy_ok v rs H0 hF hz2
  -- the copy's bounds
  have zx : FoZ rx ∧ FoW rx := by
    have hlx : rx.length = rs.length := by rw [← infs_length rx, ix, infs_length]
    have hmm : ∀ p ∈ rx, ∃ q ∈ rs, p.1 = q.1 := fun p hp => by
      have : p.1 ∈ infs rs := by rw [← ix]; exact List.mem_map.2 ⟨p, hp, rfl⟩
      obtain ⟨q, hq, e⟩ := List.mem_map.1 this
      exact ⟨q, hq, e.symm⟩
    refine ⟨⟨by rw [hlx]; exact hz1.len, fun p hp => ?_⟩, ⟨by rw [hlx]; exact hz2.len, fun p hp => ?_⟩⟩
    · obtain ⟨q, hq, e⟩ := hmm p hp; rw [e]; exact hz1.inf q hq
    · obtain ⟨q, hq, e⟩ := hmm p hp; rw [e]; exact hz2.fil q hq
  have fx := wx.fo
  have fi := hF.ext E0
  obtain ⟨r1, G1, c1, R1⟩ := prepare_ok vx rx name other kind G0 fx zx.1 zx.2 n1 n2
  obtain ⟨r2, G2, c2, R2⟩ := rprepare_ok v rs name other kind G1 (fi.ext R1.1) hz1 hz2 n1 n2
  have X2 := R1.1.trans R2.1
  obtain ⟨r3, G3, c3, R3⟩ := commit_ok vx rx name other G2 (fx.ext X2) zx.1 zx.2 n1 n2
  have X3 := X2.trans R3.1
  obtain ⟨r4, G4, c4, R4⟩ := rcommit_ok v rs name other G3 (fi.ext X3) hz1 hz2 n1 n2
  have X4 := X3.trans R4.1
  obtain ⟨r5, G5, c5, R5⟩ := remove_ok vx rx name G4 (fx.ext X4) zx.1 zx.2 n1
  have X5 := X4.trans R5.1
  obtain ⟨r6, G6, c6, R6⟩ := rremove_ok v rs name G5 (fi.ext X5) hz1 hz2 n1
  have X6 := X5.trans R6.1
  obtain ⟨r7, G7, c7, R7⟩ := label_ok' vx rx name content G6 (fx.ext X6) zx.1 zx.2 n1
  have X7 := X6.trans R7.1
  obtain ⟨r8, G8, c8, R8⟩ := rlabel_ok v rs name content G7 (fi.ext X7) hz1 hz2 n1
  have X8 := X7.trans R8.1
  obtain ⟨r9, G9, c9, R9⟩ := write_ok vx rx name path content G8 (fx.ext X8) zx.1 zx.2 n1 n3
  have X9 := X8.trans R9.1
  obtain ⟨r10, G10, c10, R10⟩ := rwrite_ok v rs name path content G9 (fi.ext X9) hz1 hz2 n1 n3
  have X10 := X9.trans R10.1
  obtain ⟨r11, G11, c11, R11⟩ := delete_ok vx rx name path G10 (fx.ext X10) zx.1 zx.2 n1 n3
  have X11 := X10.trans R11.1
  obtain ⟨r12, G12, c12, R12⟩ := rdelete_ok v rs name path G11 (fi.ext X11) hz1 hz2 n1 n3
  have X12 := X11.trans R12.1
  rw [ix] at R1 R3 R5 R7 R9 R11
  have Y11 := R12.1
  have Y10 := R11.1.trans Y11
  have Y9 := R10.1.trans Y10
  have Y8 := R9.1.trans Y9
  have Y7 := R8.1.trans Y8
  have Y6 := R7.1.trans Y7
  have Y5 := R6.1.trans Y6
  have Y4 := R5.1.trans Y5
  have Y3 := R4.1.trans Y4
  have Y2 := R3.1.trans Y3
  have Y1 := R2.1.trans Y2
  have nx1 := R1.1.next
  have nx2 := R2.1.next
  have nx3 := R3.1.next
  have nx4 := Y3.next
  have nx8 := R9.1.next
  have nx9 := R10.1.next
  have nx10 := R11.1.next
  have nx11 := Y11.next
  have nxx : G3.next ≤ G8.next := ((((R4.1.trans R5.1).trans R6.1).trans R7.1).trans R8.1).next
  have q1 := prepare_okq (infs rs) name other kind
  have q2 := commit_okq (infs rs) name other
  have q3 := remove_okq (infs rs) name
  have q4 := label_okq (infs rs) name content
  have q5 := write_okq (infs rs) name path content
  have q6 := delete_okq (infs rs) name path
  obtain ⟨u1, s1, rfl, i1, o1⟩ := ret_own R1 q1
  obtain ⟨u3, s3, rfl, i3, o3⟩ := ret_own R3 q2
  obtain ⟨u5, s5, rfl, i5, o5⟩ := ret_own R5 q3
  obtain ⟨u7, s7, rfl, i7, o7⟩ := ret_own R7 q4
  obtain ⟨u9, s9, rfl, i9, o9⟩ := ret_own R9 q5
  obtain ⟨u11, s11, rfl, i11, o11⟩ := ret_own R11 q6
  obtain ⟨_, u2, s2, rfl, i2, o2⟩ := R2
  obtain ⟨_, u4, s4, rfl, i4, o4⟩ := R4
  obtain ⟨_, u6, s6, rfl, i6, o6⟩ := R6
  obtain ⟨_, u8, s8, rfl, i8, o8⟩ := R8
  obtain ⟨_, u10, s10, rfl, i10, o10⟩ := R10
  obtain ⟨_, u12, s12, rfl, i12, o12⟩ := R12
  have same : ∀ {ua ub : Value} {sa sb : List (Inf × Value)} {q : List Inf × Int}, Okq q → Fo G12 ua sa → Fo G12 ub sb → infs sa = q.1 → infs sb = q.1 → call K f_law0_SameInfos [ua, ub] G12 = some (.bool true, G12) := by
    intro ua ub sa sb q hq ha hb e1 e2
    obtain ⟨l1, l2⟩ := okq_small hq e1
    have := sameInfos_ok ua ub sa sb G12 ha hb l2 (by omega)
    rw [e1, e2] at this
    simpa using this
  have m1 := same q1 (o1.ext Y1).fo (o2.ext Y2) i1 i2
  have m2 := same q2 (o3.ext Y3).fo (o4.ext Y4) i3 i4
  have m3 := same q3 (o5.ext Y5).fo (o6.ext Y6) i5 i6
  have m4 := same q4 (o7.ext Y7).fo (o8.ext Y8) i7 i8
  have m5 := same q5 (o9.ext Y9).fo (o10.ext Y10) i9 i10
  have m6 := same q6 (o11.ext Y11).fo o12 i11 i12
  have my1 := may_ok vx rx G12 (fx.ext X12) zx.1
  have my2 := rmay_ok v rs G12 (fi.ext X12) hz1
  rw [ix] at my1
  -- written over
  obtain ⟨P1, d1, e1, b1⟩ := spoil_ok (o1.ext Y1) o1.inB (okq_small q1 i1).1
  obtain ⟨P2, d2, e2, b2⟩ := spoil_ok ((o3.ext Y3).frame o3.inB (by omega) fun b h1 h2 => b1 b (by omega)) o3.inB (okq_small q2 i3).1
  obtain ⟨P3, d3, e3, b3⟩ := spoil_ok ((o9.ext Y9).frame (H' := P2) o9.inB (by omega) fun b h1 h2 => by rw [b2 b (by omega), b1 b (by omega)]) o9.inB (okq_small q5 i9).1
  obtain ⟨P4, d4, e4, b4⟩ := spoil_ok ((o11.ext Y11).frame (H' := P3) o11.inB (by omega) fun b h1 h2 => by rw [b3 b (by omega), b2 b (by omega), b1 b (by omega)]) o11.inB (okq_small q6 i11).1
  have nx0 := X12.next
  have EP : Ext G0 P4 := ⟨by omega, fun b hb => by rw [b4 b (by omega), b3 b (by omega), b2 b (by omega), b1 b (by omega)]; exact X12.blk b hb⟩
  have fin := sameInfos_ok vx v rx rs P4 (fx.ext EP) (fi.ext EP) (fun p hp => (zx.1.inf p hp).2) zx.1.len
  rw [ix] at fin
  have aw := awake_ok P4
  obtain ⟨px, cx, rfl⟩ := fx.rows.slice
  obtain ⟨pv, cv, rfl⟩ := hF.rows.slice
  obtain ⟨p1, k1, rfl⟩ := o1.fo.rows.slice
  obtain ⟨p2, k2, rfl⟩ := o2.rows.slice
  obtain ⟨p3, k3, rfl⟩ := o3.fo.rows.slice
  obtain ⟨p4, k4, rfl⟩ := o4.rows.slice
  obtain ⟨p5, k5, rfl⟩ := o5.fo.rows.slice
  obtain ⟨p6, k6, rfl⟩ := o6.rows.slice
  obtain ⟨p7, k7, rfl⟩ := o7.fo.rows.slice
  obtain ⟨p8, k8, rfl⟩ := o8.rows.slice
  obtain ⟨p9, k9, rfl⟩ := o9.fo.rows.slice
  obtain ⟨p10, k10, rfl⟩ := o10.rows.slice
  obtain ⟨p11, k11, rfl⟩ := o11.fo.rows.slice
  obtain ⟨p12, k12, rfl⟩ := o12.rows.slice
  clear o1 o2 o3 o4 o5 o6 o7 o8 o9 o10 o11 o12 i1 i2 i3 i4 i5 i6 i7 i8 i9 i10 i11 i12 R1 R3 R5 R7 R9 R11 q1 q2 q3 q4 q5 q6 same
  generalize (prepareS (infs rs) name other kind).2 = z1 at *
  generalize (commitS (infs rs) name other).2 = z2 at *
  generalize (removeS (infs rs) name).2 = z3 at *
  generalize (labelS (infs rs) name content).2 = z4 at *
  generalize (writeS (infs rs) name path content).2 = z5 at *
  generalize (deleteS (infs rs) name path).2 = z6 at *
  generalize mayB (infs rs) = mb at *
  simp at fin
  have hbb : binV K.P .eql 4 (.bool mb) (.bool mb) = some (.bool true) := by cases mb <;> rfl
  simp [hbb, c0, c1, c2, c3, c4, c5, c6, c7, c8, c9, c10, c11, c12, m1, m2, m3, m4, m5, m6, my1, my2, d1, d2, d3, d4, fin, aw]
end Go.AM
