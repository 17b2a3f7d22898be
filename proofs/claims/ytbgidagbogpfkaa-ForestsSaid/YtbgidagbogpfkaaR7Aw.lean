import Derived.Test.YtbgidagbogpfkaaR7Z
/- The law's first question: is the forest awake? -/
namespace Go.AM
open Go.Proofs
set_option linter.unusedVariables false
set_option linter.unusedSimpArgs false
set_option maxRecDepth 100000
attribute [-simp] ByteArray.size_eq_zero_iff
/-- What an act that is done has left, in a later memory. -/
theorem ret_rows {H G H' G' : Heap} {q : List Inf × Int} {r : Value} (h : Ret H q r H') (h0 : q.2 = 0) (hE : Ext H' G') : ∃ u rs, r = .tuple #[u, .int .i64 0] ∧ infs rs = q.1 ∧ Fo G' u rs ∧ OwF H.next H' u rs := by
  obtain ⟨_, u, rfl, _, hok⟩ := h
  obtain ⟨rs, h1, h2⟩ := hok h0
  exact ⟨u, rs, by rw [h0], h1, (h2.ext hE).fo, h2⟩
theorem ret_err {H H' : Heap} {q : List Inf × Int} {r : Value} (h : Ret H q r H') (h0 : q.2 ≠ 0) : r = .tuple #[.slice none 0 0, .int .i64 q.2] := by
  obtain ⟨_, u, rfl, h1, _⟩ := h
  rw [h1 h0]
def zeroR : List (Inf × Value) := [(⟨⟨#[]⟩, 0, ⟨#[]⟩, ⟨#[]⟩, []⟩, .slice none 0 0)]
theorem zero_fo (H : Heap) : Fo (H.add (rowBlk 5 [.string ⟨#[]⟩, .int .i64 0, .string ⟨#[]⟩, .string ⟨#[]⟩, .slice none 0 0])) (.slice (some ⟨H.next, 0, none⟩) 1 3) zeroR := by
  refine ⟨rows_new encP_len (Nat.le_of_ble_eq_true rfl) rfl (by omega) (by simp) fun j hj => ?_, fun p hp => ?_⟩
  · rw [cell_add_new]; rfl
  · simp only [zeroR, List.mem_singleton] at hp
    subst hp
    exact Rows.nil
theorem zero_z : FoZ zeroR ∧ FoW zeroR := by
  have h : ∀ p ∈ zeroR, p = (⟨⟨#[]⟩, 0, ⟨#[]⟩, ⟨#[]⟩, []⟩, .slice none 0 0) := fun p hp => by simpa [zeroR] using hp
  have h2 : zeroR.length = 1 := rfl
  refine ⟨⟨by omega, fun p hp => ?_⟩, ⟨by omega, fun p hp => ?_⟩⟩
  · rw [h p hp]; exact ⟨⟨Nat.le_of_ble_eq_true rfl, fun f hf => by cases hf⟩, Nat.le_of_ble_eq_true rfl⟩
  · rw [h p hp]; exact Nat.le_of_ble_eq_true rfl
theorem fo_at {G : Heap} {u : Value} {rs : List (Inf × Value)} (h : Fo G u rs) {i : Nat} {x : Inf} (hx : (infs rs)[i]? = some x) : i < rs.length ∧ ∃ b o c fv, u = .slice (some ⟨b, o, none⟩) rs.length c ∧ G.cell b (o + i * 5) = some (.string x.name) ∧ G.cell b (o + i * 5 + 1) = some (.int .i64 x.kind) ∧
    G.cell b (o + i * 5 + 2) = some (.string x.parent) ∧ G.cell b (o + i * 5 + 3) = some (.string x.label) ∧ G.cell b (o + i * 5 + 4) = some fv ∧ Fils G fv x.files := by
  have hi : i < rs.length := by
    have := (List.getElem?_eq_some_iff.1 hx).1
    rwa [infs_length] at this
  have hx' : rs[i].1 = x := by
    simp only [infs, List.getElem?_map, List.getElem?_eq_getElem hi, Option.map_some] at hx
    exact Option.some.inj hx
  obtain ⟨p, c, rfl⟩ := h.rows.slice
  obtain ⟨b, o, rfl, hb, k0, k1, k2, k3, k4⟩ := h.rows.at5 hi
  have hf := h.fils _ (List.getElem_mem hi)
  rw [hx'] at hf
  subst hx'
  exact ⟨hi, b, o, c, rs[i].2, rfl, k0, k1, k2, k3, k4, hf⟩
theorem awake_ok (H : Heap) : call K f_law19_awake [] H = some (.bool true, H) := by
  refine of_wpf (open_pure rfl fc_law19_awake rfl (Nat.le_of_ble_eq_true rfl) ?_)
  obtain ⟨hz, hw⟩ := given_z H.roAll.next
  have hf := given_fo H.roAll
  have hg := given_ok H.roAll
  generalize hv0 : (Value.slice (some ⟨H.roAll.next + 2, 0, none⟩) 2 5) = v0 at *
  generalize givenH H.roAll = G0 at *
  obtain ⟨r1, G1, c1, R1⟩ := prepare_ok v0 _ ⟨#[118]⟩ tB 1 G0 hf hz hw (by decide) (by decide)
  obtain ⟨r2, G2, c2, R2⟩ := commit_ok v0 _ tW ⟨#[110, 101, 120, 116]⟩ G1 (hf.ext R1.1) hz hw (by decide) (by decide)
  obtain ⟨r3, G3, c3, R3⟩ := remove_ok v0 _ tB G2 ((hf.ext R1.1).ext R2.1) hz hw (by decide)
  obtain ⟨r4, G4, c4, R4⟩ := remove_ok v0 _ tW G3 (((hf.ext R1.1).ext R2.1).ext R3.1) hz hw (by decide)
  obtain ⟨r5, G5, c5, R5⟩ := write_ok v0 _ tW ⟨#[99]⟩ ⟨#[120]⟩ G4 ((((hf.ext R1.1).ext R2.1).ext R3.1).ext R4.1) hz hw (by decide) (by decide)
  have f5 := ((((hf.ext R1.1).ext R2.1).ext R3.1).ext R4.1).ext R5.1
  obtain ⟨r6, G6, c6, R6⟩ := delete_ok v0 _ tB ⟨#[97]⟩ G5 f5 hz hw (by decide) (by decide)
  obtain ⟨r7, G7, c7, R7⟩ := label_ok' v0 _ tB ⟨#[108, 97, 98]⟩ G6 (f5.ext R6.1) hz hw (by decide)
  obtain ⟨r8, G8, c8, R8⟩ := prepare_ok v0 _ ⟨#[118]⟩ tW 1 G7 ((f5.ext R6.1).ext R7.1) hz hw (by decide) (by decide)
  have hzf := zero_fo G8
  generalize hG9 : G8.add (rowBlk 5 [(.string ⟨#[]⟩ : Value), .int .i64 0, .string ⟨#[]⟩, .string ⟨#[]⟩, .slice none 0 0]) = G9 at *
  have E9 : Ext G8 G9 := by rw [← hG9]; exact (Ext.refl G8).add _
  obtain ⟨r9, G10, c9, R9⟩ := write_ok _ _ tW ⟨#[99]⟩ ⟨#[120]⟩ G9 hzf zero_z.1 zero_z.2 (by decide) (by decide)
  rw [given_infs] at R1 R2 R3 R4 R5 R6 R7 R8
  have X8 := E9.trans R9.1
  have X7 := R8.1.trans X8
  have X6 := R7.1.trans X7
  have X5 := R6.1.trans X6
  have X4 := R5.1.trans X5
  have X3 := R4.1.trans X4
  have X2 := R3.1.trans X3
  have X1 := R2.1.trans X2
  obtain ⟨u1, s1, rfl, i1, w1, _⟩ := ret_rows (G := G1) R1 aw1_e X1
  obtain ⟨u2, s2, rfl, i2, w2, _⟩ := ret_rows (G := G1) R2 aw2_e X2
  have e3 := ret_err R3 (by rw [aw3_e]; decide)
  obtain ⟨u4, s4, rfl, i4, w4, _⟩ := ret_rows (G := G1) R4 aw4_e X4
  obtain ⟨u5, s5, rfl, i5, w5, _⟩ := ret_rows (G := G1) R5 aw5_e X5
  have e6 := ret_err R6 (by rw [aw6_e]; decide)
  obtain ⟨u7, s7, rfl, i7, w7, _⟩ := ret_rows (G := G1) R7 aw7_e X7
  have e8 := ret_err R8 (by rw [aw8_e]; decide)
  have e9 := ret_err R9 (by rw [show infs zeroR = [⟨⟨#[]⟩, 0, ⟨#[]⟩, ⟨#[]⟩, []⟩] from rfl, aw9_e]; decide)
  rw [show infs zeroR = [⟨⟨#[]⟩, 0, ⟨#[]⟩, ⟨#[]⟩, []⟩] from rfl, aw9_e] at e9
  rw [aw3_e] at e3
  rw [aw6_e] at e6
  rw [aw8_e] at e8
  subst e3 e6 e8 e9
  have l1 : s1.length = 3 := by rw [← infs_length, i1]; decide +kernel
  have l2 : s2.length = 2 := by rw [← infs_length, i2]; decide +kernel
  have l4 : s4.length = 1 := by rw [← infs_length, i4]; decide +kernel
  have l5 : s5.length = 2 := by rw [← infs_length, i5]; decide +kernel
  have l7 : s7.length = 2 := by rw [← infs_length, i7]; decide +kernel
  obtain ⟨_, b1, o1, q1, g1, hu1, a10, a11, a12, a13, a14, m1⟩ := fo_at w1 (i := 1) (x := ⟨⟨#[118]⟩, 1, tB, ⟨#[]⟩, gF1.map unown⟩) (by rw [i1]; decide +kernel)
  obtain ⟨_, b2, o2, q2, g2, hu2, a20, a21, _, _, _, _⟩ := fo_at w2 (i := 1) (x := ⟨⟨#[110, 101, 120, 116]⟩, 2, tB, ⟨#[]⟩, gF2⟩) (by rw [i2]; decide +kernel)
  obtain ⟨_, b5, o5, q5, g5, hu5, _, _, _, _, a54, m5⟩ := fo_at w5 (i := 1) (x := ⟨tW, 0, tB, ⟨#[]⟩, gF2 ++ [⟨⟨#[99]⟩, ⟨#[120]⟩, true⟩]⟩) (by rw [i5]; decide +kernel)
  obtain ⟨_, b7, o7, q7, g7, hu7, _, _, _, a73, _, _⟩ := fo_at w7 (i := 0) (x := ⟨tB, 2, ⟨#[]⟩, ⟨#[108, 97, 98]⟩, gF1⟩) (by rw [i7]; decide +kernel)
  obtain ⟨p4, q4, hu4⟩ := w4.rows.slice
  obtain ⟨pf1, cf1, hg1⟩ := m1.slice
  obtain ⟨pf5, cf5, hg5⟩ := m5.slice
  subst hg1 hg5
  obtain ⟨bb, oo, rfl, _, _, _, z2⟩ := m1.at3 (i := 0) (by decide)
  have n1 : (gF1.map unown).length = 2 := rfl
  have n5 : (gF2 ++ [(⟨⟨#[99]⟩, ⟨#[120]⟩, true⟩ : Fil)]).length = 3 := rfl
  rw [l1] at hu1
  rw [l2] at hu2
  rw [l4] at hu4
  rw [l5] at hu5
  rw [l7] at hu7
  rw [n1] at a14
  rw [n5] at a54
  subst hu1 hu2 hu4 hu5 hu7
  have z2' : G10.cell bb (oo + 2) = some (.bool false) := z2
  have hmay := may_ok v0 _ G10 (((((f5.ext R6.1).ext R7.1).ext R8.1).ext E9).ext R9.1) hz
  rw [given_infs, given_may] at hmay
  subst hG9
  simp only [Nat.one_mul, Nat.zero_mul, Nat.add_zero] at a10 a11 a14 a20 a21 a54 a73
  simp [hg, c1, c2, c3, c4, c5, c6, c7, c8, c9, a10, a14, a20, a21, a54, a73, z2', hmay, natOf_int]
end Go.AM
