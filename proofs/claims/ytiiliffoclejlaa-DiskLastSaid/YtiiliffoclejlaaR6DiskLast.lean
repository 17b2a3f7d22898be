/- The law DiskLast: true. -/
import Derived.Test.YtiiliffoclejlaaR6DiskSubset
namespace Go.AM
open Go.Proofs
set_option linter.unusedVariables false
set_option linter.unusedSimpArgs false
set_option maxRecDepth 100000
attribute [-simp] ByteArray.size_eq_zero_iff
theorem look_snoc (S : List ByteArray) (C : List Img) (a : Int) (t : ByteArray) (j : Int) : lookD (S, C ++ [(a, t)]) j = if a = j then t else lookD (S, C) j := by
  simp only [lookD, lookC_snoc]
  split <;> rfl
theorem list_snoc {α : Type} : ∀ (n : Nat) (C : List α), C.length = n + 1 → ∃ D w, C = D ++ [w] ∧ D.length = n := fun n C h => by
  rcases List.eq_nil_or_concat C with rfl | ⟨D, w, rfl⟩
  · simp at h
  · exact ⟨D, w, List.concat_eq_append, by simpa using h⟩
theorem applyW_get (S : List ByteArray) (j : Nat) (hj : j < S.length) : ∀ (n : Nat) (C : List Img), C.length = n → (∀ w ∈ C, wOk w = true) → (applyW S C)[j]? = some (lookD (S, C) (j : Int))
  | 0, C, h, hw => by
    obtain rfl := List.eq_nil_of_length_eq_zero h
    show S[j]? = some (lookD (S, []) (j : Int))
    rw [lookD, lookC_nil, Int.toNat_natCast, List.getElem?_eq_getElem hj]; rfl
  | n + 1, C, h, hw => by
    obtain ⟨D, w, rfl, hD⟩ := list_snoc n C h
    have ih := applyW_get S j hj n D hD fun x hx => hw x (by simp [hx])
    obtain ⟨k, hk, hk2, hs⟩ := wOk_of (hw w (by simp))
    obtain ⟨wa, wt⟩ := w
    simp only at hk
    subst hk
    rw [look_snoc]
    unfold applyW at ih ⊢
    rw [List.foldl_append]
    show ((List.foldl (fun S w => S.set w.1.toNat w.2) S D).set (k : Int).toNat wt)[j]? = _
    rw [Int.toNat_natCast]
    by_cases hkj : k = j
    · subst hkj
      rw [if_pos rfl, List.getElem?_set_self]
      have := applyW_len D S
      unfold applyW at this
      omega
    · rw [List.getElem?_set_ne hkj, ih, if_neg (by omega)]
theorem look_flush {d : Dk} (hd : dOk d = true) {j : Nat} (hj : j < 394) : lookD (applyW d.1 d.2, []) (j : Int) = lookD d (j : Int) := by
  obtain ⟨h1, h2, h3, h4⟩ := dOk_len hd
  have := applyW_get d.1 j (by omega) d.2.length d.2 rfl h4
  rw [lookD, lookC_nil, Int.toNat_natCast]
  simp only [Option.getD_none]
  rw [this]; rfl
theorem look_new {j : Nat} (hj : j < 394) : lookD newD (j : Int) = sec 0 := by
  rw [lookD, newD, lookC_nil, Int.toNat_natCast, sec_zero]
  simp only [Option.getD_none]
  rw [List.getElem?_eq_getElem (by rw [List.length_replicate, nSec_eq]; omega)]; simp
theorem last_inner (lo : Nat) (e : Env) (G : Heap) (D : Dk) (wt : Nat → Int) (hV : VarD lo G lo D) (hok : dOk D = true) (hlk : ∀ j : Nat, j < 64 → lookD D (j : Int) = sec (wt j)) (hW : ∃ B, G.blk (lo + 1) = some B ∧ B.ro = false ∧ ∀ j, j < 64 → B.at_ j = some (.int .i64 (wt j)))
    (h5 : e 5 = .pointer (some ⟨lo, 0, none⟩)) (h6 : e 6 = .pointer (some ⟨lo + 1, 0, none⟩)) (h13 : e 13 = .int .i64 0) :
    wp (unblock 2 (run K (.loop c_law2_DiskLast_l24) e G)) fun x e' H' => x = .norm ∧ H' = G ∧ e' 0 = e 0 ∧ e' 1 = e 1 ∧ e' 5 = e 5 ∧ e' 6 = e 6 ∧ e' 7 = e 7 := by
  obtain ⟨P5, N5, Q5, M5, B5, D5, F50, F51⟩ := hV
  obtain ⟨BW, hBW, hrW, hW⟩ := hW
  have a50 := B5.c0
  have a51 := B5.c1
  refine wp_for (fun d e' G' => ∃ j : Nat, d = 64 - j ∧ j ≤ 64 ∧ G' = G ∧ e' 0 = e 0 ∧ e' 1 = e 1 ∧ e' 5 = e 5 ∧ e' 6 = e 6 ∧ e' 7 = e 7 ∧ e' 13 = .int .i64 (j : Int)) 64 ⟨0, by omega, by omega, rfl, rfl, rfl, rfl, rfl, rfl, h13⟩ ?_
  rintro d e' G' ⟨j, rfl, hj, rfl, k0, k1, k5, k6, k7, k13⟩
  rw [h5] at k5
  rw [h6] at k6
  by_cases hlt : j < 64
  · have c1 := readD_ok D5 (j : Int)
    obtain ⟨r1, r2⟩ := do_read hok (k := j) (by omega)
    rw [r1, r2, hlk j hlt] at c1
    have g1 : (j : Int) < 64 := by omega
    have cW : G'.cell (lo + 1) j = some (.int .i64 (wt j)) := by simp only [Heap.cell, hBW]; exact hW j hlt
    simp [c_law2_DiskLast_l24, k0, k1, k5, k6, k7, k13, g1, hlt, a50, a51, c1, cW, sector_ok, h5, h6]
    exact ⟨64 - (j + 1), by omega, j + 1, rfl, hlt, wrap_succ (by omega)⟩
  · obtain rfl : j = 64 := by omega
    simp [c_law2_DiskLast_l24, k0, k1, k5, k6, k7, k13, h5, h6]
theorem last_law (v : Value) (ats : List Int) (fls : Int) (H : Heap) (hv : Rows encN 1 H v ats) : call K f_law2_DiskLast [v, .int .i64 fls] H = some (.bool true, H) := by
  obtain ⟨p, c, rfl⟩ := hv.slice
  refine of_wpf (open_pure rfl fc_law2_DiskLast rfl (Nat.le_of_ble_eq_true rfl) ?_)
  obtain ⟨_, G1, c1, E1, D1⟩ := new_ok H.roAll
  obtain ⟨p5, k5, q5, m5, A0, rfl, hA0, n0, X0, F0⟩ := stage1 D1 newD_len (n := 0) rfl
  obtain ⟨lo, hlo⟩ : ∃ lo, lo = G1.next := ⟨_, rfl⟩
  obtain ⟨z64, hz64⟩ : ∃ z : List Value, z = List.replicate 64 (.int .i64 0) := ⟨_, rfl⟩
  obtain ⟨A, hA⟩ : ∃ A, A = A0.add (rowBlk 64 z64) := ⟨_, rfl⟩
  have EA : Ext A0 A := by rw [hA]; exact (Ext.refl _).add _
  obtain ⟨a50, a51, D5⟩ := F0 A EA
  have V5 : VarD lo A lo newD := by
    subst hlo
    refine ⟨p5, k5, q5, m5, ⟨by rw [hA]; simp; omega, _, by rw [hA, blk_add, if_neg (by omega), hA0, blk_set_self], rfl, rfl, rfl⟩, D5, D1.far (Nat.le_refl _), D1.far (by omega)⟩
  have W5 : ∃ B, A.blk (lo + 1) = some B ∧ B.ro = false ∧ ∀ j, j < 64 → B.at_ j = some (.int .i64 0) := by
    refine ⟨rowBlk 64 z64, by rw [hA, blk_add, if_pos (by omega)], rfl, fun j hj => ?_⟩
    rw [at_row, hz64, List.getElem?_replicate, if_pos hj]
  have hlim := hv.lim
  have hE0 := E1.trans (X0.trans EA)
  have hGn := E1.next
  simp only [next_roAll] at hGn
  have hzz : [Value.int IntKind.i64 0] = [Value.int IntKind.i64 0] := rfl
  have hf : ∀ L, L = z64 → A0.add (rowBlk 64 L) = A := fun L h => by rw [h, hA]
  simp [awake2_ok, c1, ← hA0]
  rw [hf _ (by rw [hz64]; rfl), ← hlo, show A0.next = lo + 1 by omega]
  refine wp_nxt (wp_for (fun d e G => ∃ (i : Nat) (D : Dk) (wt : Nat → Int), d = 40 - i ∧ i ≤ 40 ∧ i ≤ ats.length ∧ (∀ b, b < H.next → G.blk b = H.roAll.blk b) ∧ lo + 2 ≤ G.next ∧ VarD lo G lo D ∧ dOk D = true ∧ D.2.length ≤ i ∧ (∃ B, G.blk (lo + 1) = some B ∧ B.ro = false ∧ ∀ j, j < 64 → B.at_ j = some (.int .i64 (wt j))) ∧ (∀ j : Nat, j < 64 → lookD D (j : Int) = sec (wt j)) ∧ e 0 = .slice p ats.length c ∧ e 1 = .int .i64 fls ∧ e 5 = .pointer (some ⟨lo, 0, none⟩) ∧ e 6 = .pointer (some ⟨lo + 1, 0, none⟩) ∧ e 7 = .int .i64 (i : Int)) 40 ⟨0, newD, fun _ => 0, by omega, by omega, by omega, fun b hb => hE0.blk b (by simpa using hb), by rw [hA]; simp; omega, V5, newD_ok, by simp [newD], W5, fun j hj => look_new (by omega), by simp, by simp, by simp, by simp, by simp⟩ ?_)
  rintro d e G ⟨i, D, wt, rfl, hi, hia, hlow, hlt, V5, ok5, hDl, ⟨BW, hBW, hrW, hW⟩, hlk, h0, h1, h5, h6, h7⟩
  by_cases hgo : i < 40 ∧ i < ats.length
  · obtain ⟨hi40, hil⟩ := hgo
    obtain ⟨ba, oa, hp, hba, ka⟩ := hv.at1 hil
    generalize ats[i] = x at *
    subst hp
    simp at ka
    have kG : G.cell ba (oa + i) = some (.int .i64 x) := by
      have : G.cell ba (oa + i) = H.roAll.cell ba (oa + i) := by simp only [Heap.cell, hlow ba hba]
      rw [this, cell_roAll, ka]
    obtain ⟨w, hw, hw1, hw2⟩ : ∃ w : Nat, bits .and .i64 x 63 = (w : Int) ∧ x % 64 = (w : Int) ∧ w < 64 := ⟨(x % 64).toNat, by rw [and63]; omega, by omega, by omega⟩
    obtain ⟨i15, hi15, hi16⟩ : ∃ k : Nat, bits .and .i64 (i : Int) 15 = (k : Int) ∧ k < 16 := ⟨i % 16, by rw [show bits .and .i64 (i : Int) 15 = (i : Int) % 16 from and_mask _ 4 (by decide)]; omega, by omega⟩
    have hsh : ∀ t, binV K.P .shr t (.int .i64 fls) (.int .i64 (i15 : Int)) = some (.int .i64 (fls.fdiv (2 ^ (min i15 64)))) := fun t => binV_shr _ _ _ _ _ _
    generalize fls.fdiv (2 ^ (min i15 64)) = fs at hsh
    have w1 : IntKind.i64.wrap (1 + (i : Int)) = 1 + (i : Int) := wrap_i64 (by omega) (by omega)
    have w2 := wrap_succ (i := i) (by omega)
    have g1 : (i : Int) < 40 := by omega
    have hGn2 : H.next ≤ lo := by omega
    obtain ⟨P5, N5, Q5, M5, B5, D5, F50, F51⟩ := id V5
    have a50 := B5.c0
    have a51 := B5.c1
    -- the write
    obtain ⟨f1, f2, f3⟩ := do_write ok5 (k := w) (t := sec (1 + (i : Int))) (by omega) (sec_size _) (by omega)
    obtain ⟨_, G3, c3, E3, v9, rfl, o3⟩ := do_ok _ _ false (w : Int) (sec (1 + (i : Int))) _ (D5.ext ((Ext.refl G).add (rowBlk 2 [.slice none 0 0, .slice none 0 0])))
    rw [f1] at o3
    rw [f2] at c3
    obtain ⟨D9, hD9⟩ : ∃ D9 : Dk, D9 = (D.1, D.2 ++ [((w : Int), sec (1 + (i : Int)))]) := ⟨_, rfl⟩
    rw [← hD9] at o3 f3
    obtain ⟨p9, n9, q9, m9, A3, rfl, b3, cb3, hA3, n3, l3, X3, F3⟩ := stage2 E3 o3 (by rw [hD9]; exact (dOk_len ok5).1) (n := D9.2.length) rfl
    obtain ⟨c90, c91, D9r⟩ := F3 A3 (Ext.refl _)
    have B5' := B5.ext X3
    obtain ⟨Bk, hBk, hrk, hk0, hk1⟩ := B5'.is
    have ck0 := B5'.c0
    have ck1 := B5'.c1
    obtain ⟨A4, hA4⟩ : ∃ A4, A4 = A3.set lo (some ((Bk.put 0 (.slice p9 394 n9)).put 1 (.slice q9 D9.2.length m9))) := ⟨_, rfl⟩
    have V4 : VarD lo A4 lo D9 := by
      rw [hA4]; exact VarD.put (.inl rfl) (by omega) D9r (o3.far (by simp; omega)) (o3.far (by simp; omega)) hrk
    have hBW4 : A4.blk (lo + 1) = some BW := by rw [hA4, blk_set_ne (by omega), X3.blk _ (by omega)]; exact hBW
    obtain ⟨A5, hA5⟩ : ∃ A5, A5 = A4.set (lo + 1) (some (BW.put w (.int .i64 (1 + (i : Int))))) := ⟨_, rfl⟩
    have V5' : VarD lo A5 lo D9 := by rw [hA5]; exact V4.other (.inr rfl) (by omega) _
    have cW4 : A4.cell (lo + 1) w = some (.int .i64 (wt w)) := by simp only [Heap.cell, hBW4]; exact hW w hw2
    obtain ⟨wt', hwt'⟩ : ∃ wt' : Nat → Int, wt' = fun j => if j = w then 1 + (i : Int) else wt j := ⟨_, rfl⟩
    have hBW5 : A5.blk (lo + 1) = some (BW.put w (.int .i64 (1 + (i : Int)))) := by rw [hA5, blk_set_self]
    have hW5 : ∀ j, j < 64 → (BW.put w (.int .i64 (1 + (i : Int)))).at_ j = some (.int .i64 (wt' j)) := fun j hj => by
      rw [at_put, hwt']; simp only; split
      · rfl
      · exact hW j hj
    have hlk5 : ∀ j : Nat, j < 64 → lookD D9 (j : Int) = sec (wt' j) := fun j hj => by
      rw [hD9, look_snoc, hwt']; simp only
      by_cases hjw : j = w
      · subst hjw; rw [if_pos rfl, if_pos rfl]
      · rw [if_neg (by omega), if_neg hjw]; exact hlk j hj
    have low5 : ∀ b, b < H.next → A5.blk b = H.roAll.blk b := fun b hb => by
      rw [hA5, blk_set_ne (by omega), hA4, blk_set_ne (by omega), X3.blk b (by omega)]; exact hlow b hb
    have n5 : A5.next = A3.next := by rw [hA5, hA4]; rfl
    have hz1 : ¬ lo = G.next := by omega
    have hz2 : ¬ ba = G.next := by omega
    have fin : ∀ (G' : Heap) (D' : Dk), VarD lo G' lo D' → dOk D' = true → (∀ j : Nat, j < 64 → lookD D' (j : Int) = sec (wt' j)) → D'.2.length ≤ i + 1 → lo + 2 ≤ G'.next → (∀ b, b < H.next → G'.blk b = H.roAll.blk b) → (∃ B, G'.blk (lo + 1) = some B ∧ B.ro = false ∧ ∀ j, j < 64 → B.at_ j = some (.int .i64 (wt' j))) →
        ∃ d', d' < 40 - i ∧ ∃ i', d' = 40 - i' ∧ i' ≤ 40 ∧ i' ≤ ats.length ∧ (∀ b, b < H.next → G'.blk b = Option.map (fun B => ({ esz := B.esz, ro := true, at_ := B.at_ } : Blk)) (H.blk b)) ∧ lo + 2 ≤ G'.next ∧ ∃ a b, VarD lo G' lo (a, b) ∧ dOk (a, b) = true ∧ b.length ≤ i' ∧ ∃ x : Nat → Int, (∃ B, G'.blk (lo + 1) = some B ∧ B.ro = false ∧ ∀ j, j < 64 → B.at_ j = some (.int .i64 (x j))) ∧ (∀ j : Nat, j < 64 → lookD (a, b) (j : Int) = sec (x j)) ∧ IntKind.i64.wrap ((i : Int) + 1) = (i' : Int) :=
      fun G' D' q1 q2 q3 q4 q5 q6 q7 => ⟨40 - (i + 1), by omega, i + 1, rfl, by omega, hil, fun b hb => by rw [← blk_roAll]; exact q6 b hb, q5, D'.1, D'.2, q1, q2, q4, wt', q7, q3, w2⟩
    by_cases hfl : bits .and .i64 fs 1 = 1
    · -- .. and a flush
      have B9 : VarD lo A5 lo D9 := V5'
      obtain ⟨P9, N9, Q9, M9, B9, D9', F90, F91⟩ := id V5'
      have a90 := B9.c0
      have a91 := B9.c1
      obtain ⟨g1', g2, g3⟩ := do_flush f3
      obtain ⟨_, G6, c6, E6, v11, rfl, o6⟩ := do_ok _ _ true 0 ⟨#[]⟩ A5 D9'
      rw [g1'] at o6
      rw [g2] at c6
      obtain ⟨D10, hD10⟩ : ∃ D10 : Dk, D10 = (applyW D9.1 D9.2, []) := ⟨_, rfl⟩
      rw [← hD10] at o6 g3
      have hD102 : D10.2.length = 0 := by rw [hD10]; rfl
      obtain ⟨p10, n10, q10, m10, A6, rfl, hA6, n6, X6, F6⟩ := stage1 o6.dk (dOk_len g3).1 (n := 0) hD102
      obtain ⟨c100, c101, D10r⟩ := F6 A6 (Ext.refl _)
      have E56 := E6.trans X6
      have e6 := E6.next
      have B6' := B9.ext E56
      obtain ⟨Bj, hBj, hrj, hj0, hj1⟩ := B6'.is
      have cj0 := B6'.c0
      have cj1 := B6'.c1
      obtain ⟨A7, hA7⟩ : ∃ A7, A7 = A6.set lo (some ((Bj.put 0 (.slice p10 394 n10)).put 1 (.slice q10 0 m10))) := ⟨_, rfl⟩
      have V7 : VarD lo A7 lo D10 := by
        have hr : DkR A6 (.agg #[.slice p10 394 n10, .slice q10 D10.2.length m10]) D10 := by rw [hD102]; exact D10r
        have := VarD.put (lo := lo) (k := lo) (.inl rfl) (by omega) hr (by rw [hD102]; exact o6.far (by omega)) (by rw [hD102]; exact o6.far (by omega)) hrj
        rw [hD102] at this
        rw [hA7]; exact this
      have hBW7 : A7.blk (lo + 1) = some (BW.put w (.int .i64 (1 + (i : Int)))) := by rw [hA7, blk_set_ne (by omega), E56.blk _ (by omega)]; exact hBW5
      have low7 : ∀ b, b < H.next → A7.blk b = H.roAll.blk b := fun b hb => by
        rw [hA7, blk_set_ne (by omega), E56.blk b (by omega)]; exact low5 b hb
      have hlk7 : ∀ j : Nat, j < 64 → lookD D10 (j : Int) = sec (wt' j) := fun j hj => by
        rw [hD10, look_flush f3 (by omega)]; exact hlk5 j hj
      have n7 : A7.next = A6.next := by rw [hA7]; rfl
      simp [c_law2_DiskLast_l26, h0, h1, h5, h6, h7, g1, hil, kG, hw, w1, sector_ok, run_regd_tr, finD_some, Chk, wanted, a50, a51, hz1, c3, b3, cb3, ← hA3, c90, c91, hBk, hrk, ck0, ck1, ← hA4, hw2, hBW4, hrW, cW4, ← hA5, hi15, hsh, hfl, a90, a91, c6, ← hA6, c100, c101, hBj, hrj, cj0, cj1, ← hA7]
      refine wp_nxt (wp_unblock ((last_inner lo _ A7 D10 wt' V7 g3 hlk7 ⟨_, hBW7, hrW, hW5⟩ (by simp [h5]) (by simp [h6]) (by simp)).mono fun x e' H' hq => ?_))
      obtain ⟨rfl, rfl, q0, q1, q5, q6, q7⟩ := hq
      simp [h0, h1, h5, h6, h7] at q0 q1 q5 q6 q7
      simp [q0, q1, q5, q6, q7]
      exact fin _ D10 V7 g3 hlk7 (by omega) (by omega) low7 ⟨_, hBW7, hrW, hW5⟩
    ·
      simp [c_law2_DiskLast_l26, h0, h1, h5, h6, h7, g1, hil, kG, hw, w1, sector_ok, run_regd_tr, finD_some, Chk, wanted, a50, a51, hz1, c3, b3, cb3, ← hA3, c90, c91, hBk, hrk, ck0, ck1, ← hA4, hw2, hBW4, hrW, cW4, ← hA5, hi15, hsh, hfl]
      refine wp_nxt (wp_unblock ((last_inner lo _ A5 D9 wt' V5' f3 hlk5 ⟨_, hBW5, hrW, hW5⟩ (by simp [h5]) (by simp [h6]) (by simp)).mono fun x e' H' hq => ?_))
      obtain ⟨rfl, rfl, q0, q1, q5, q6, q7⟩ := hq
      simp [h0, h1, h5, h6, h7] at q0 q1 q5 q6 q7
      simp [q0, q1, q5, q6, q7]
      exact fin _ D9 V5' f3 hlk5 (by rw [hD9]; simp; omega) (by omega) low5 ⟨_, hBW5, hrW, hW5⟩
  · by_cases hil : i < ats.length
    · have g1 : ¬ (i : Int) < 40 := by omega
      simp [c_law2_DiskLast_l26, h0, h7, g1, hil]
    · simp [c_law2_DiskLast_l26, h0, h7, hil]
end Go.AM
