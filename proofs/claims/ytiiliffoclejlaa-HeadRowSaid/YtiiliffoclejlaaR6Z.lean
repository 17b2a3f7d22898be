/- Contracts: the document's steps of a disk. -/
import Derived.Test.YtiiliffoclejlaaR6Y
namespace Go.AM
open Go.Proofs
set_option linter.unusedVariables false
set_option linter.unusedSimpArgs false
set_option maxRecDepth 100000
attribute [-simp] ByteArray.size_eq_zero_iff
theorem OwnZ.app2 {α : Type} {enc : α → List Value} {sz n0 : Nat} {H : Heap} {v : Value} {xs : List α} (h : OwnZ enc sz n0 H v xs) (he : ∀ x, (enc x).length = sz) {bytes k : Nat} (ys : List Value) (hk : k ≠ 0) (hy : ys.all Value.oneCell' = true) (h1 : (xs.length + k) * bytes ≤ 2 ^ 47) (h2 : xs.length + k ≤ 2 ^ 47) :
    ∃ X : Heap, X.next = H.next ∧ (∀ b, NotIn v b → X.blk b = H.blk b) ∧ appV H sz bytes k v ys = some (.slice (some ⟨H.next, 0, none⟩) (xs.length + k) (2 * (xs.length + k)), X.add (rowBlk sz (xs.flatMap enc ++ ys))) := by
  rcases h with h | ⟨rfl, b, rfl, hb, hbn⟩
  · exact ⟨_, by simp, fun b hb => blk_killB hb, h.app he ys hk hy h1 h2⟩
  · refine ⟨H, rfl, fun b _ => rfl, ?_⟩
    unfold appV
    rw [if_neg hk]
    simp only [List.length_nil, Nat.zero_add] at h1 h2 ⊢
    rw [if_neg (by omega), if_pos ⟨h1, h2, hy⟩]
    simp
theorem rdo_ok (v : Value) (d : Dk) (fl : Bool) (at_ : Int) (tx : ByteArray) (H : Heap) (h : DkR H v d) :
    wpf (call K f_ref1_Do [v, .agg #[.bool fl, .int .i64 at_, .string tx]] H) fun r H' => Ext H H' ∧ ∃ v', r = .tuple #[v', .int .i64 (doE d (fl, at_, tx))] ∧ OwnD H.next H' v' (doR d (fl, at_, tx)) := by
  obtain ⟨s, c, rfl, hs, hc⟩ := h
  obtain ⟨S, C⟩ := d
  refine open_plain rfl fc_ref1_Do rfl (Nat.le_of_ble_eq_true rfl) ?_
  simp only at hs hc
  obtain ⟨ps, ks, rfl⟩ := hs.slice
  obtain ⟨pc, kc, rfl⟩ := hc.slice
  obtain ⟨G0, hG0⟩ : ∃ G0, G0 = ((H.add (rowBlk 2 [.slice ps S.length ks, .slice pc C.length kc])).add (rowBlk 3 [.bool fl, .int .i64 at_, .string tx])).add (rowBlk 2 [.slice none 0 0, .slice none 0 0]) := ⟨_, rfl⟩
  have E0 : Ext H G0 := by subst hG0; exact (((Ext.refl H).add _).add _).add _
  have n0 : G0.next = H.next + 3 := by subst hG0; simp
  have x1 : ¬ H.next = H.next + 1 := by omega
  have x2 : ¬ H.next = H.next + 1 + 1 := by omega
  have f0 : G0.blk H.next = some (rowBlk 2 [.slice ps S.length ks, .slice pc C.length kc]) := by subst hG0; simp [x1, x2]
  have f1 : G0.blk (H.next + 1) = some (rowBlk 3 [.bool fl, .int .i64 at_, .string tx]) := by subst hG0; simp
  have f2 : G0.blk (H.next + 1 + 1) = some (rowBlk 2 [.slice none 0 0, .slice none 0 0]) := by subst hG0; simp
  have blkE : ∀ {G : Heap}, Ext G0 G → (G.blk H.next = some (rowBlk 2 [.slice ps S.length ks, .slice pc C.length kc]) ∧ G.blk (H.next + 1) = some (rowBlk 3 [.bool fl, .int .i64 at_, .string tx]) ∧ G.blk (H.next + 1 + 1) = some (rowBlk 2 [.slice none 0 0, .slice none 0 0])) := fun hE =>
    ⟨by rw [hE.blk _ (by omega)]; exact f0, by rw [hE.blk _ (by omega)]; exact f1, by rw [hE.blk _ (by omega)]; exact f2⟩
  have c0 : ∀ o, G0.cell H.next o = (rowBlk 2 [.slice ps S.length ks, .slice pc C.length kc]).at_ o := fun o => by simp only [Heap.cell, f0]
  have c1 : ∀ o, G0.cell (H.next + 1) o = (rowBlk 3 [.bool fl, .int .i64 at_, .string tx]).at_ o := fun o => by simp only [Heap.cell, f1]
  have c2 : ∀ o, G0.cell (H.next + 1 + 1) o = (rowBlk 2 [.slice none 0 0, .slice none 0 0]).at_ o := fun o => by simp only [Heap.cell, f2]
  have hmay := rdskMay_ok _ _ (S, C) G0 (hs.ext E0) (hc.ext E0)
  have bad : ∀ B, Ext H (G0.set (H.next + 1 + 1) B) := fun B => E0.set (by omega) _
  by_cases hd : dOk (S, C) = true
  · obtain ⟨hl1, hl2, hsz, hw⟩ := dOk_len hd
    simp only at hl1 hl2 hsz hw
    obtain ⟨_, G1, k1, E1, s1, s2, rfl, o1, o2, oa⟩ := rcopyD_ok (.agg #[.slice ps S.length ks, .slice pc C.length kc]) (S, C) G0 ⟨_, _, rfl, hs.ext E0, hc.ext E0⟩ (by simp only; omega) (by simp only; omega)
    simp only at o1 o2
    obtain ⟨b0, b1, b2⟩ := blkE E1
    have d0 : ∀ o, G1.cell H.next o = (rowBlk 2 [.slice ps S.length ks, .slice pc C.length kc]).at_ o := fun o => by simp only [Heap.cell, b0]
    have d1 : ∀ o, G1.cell (H.next + 1) o = (rowBlk 3 [.bool fl, .int .i64 at_, .string tx]).at_ o := fun o => by simp only [Heap.cell, b1]
    have e2 := E1.next
    obtain ⟨p1, m1, hr1⟩ := (o1.rows encS_len).slice
    obtain ⟨p2, m2, hr2⟩ := (o2.rows encI_len).slice
    have hbel1 := o1.below
    have hbel2 := o2.below
    have z1 : ¬ H.next = G1.next := by omega
    have z2 : ¬ H.next + 1 = G1.next := by omega
    have z3 : ¬ H.next + 1 + 1 = G1.next := by omega
    cases fl with
    | false =>
      by_cases hw2 : wOk (at_, tx) = true
      · by_cases h512 : C.length = 512
        · have h512' : (512 : Int) ≤ (C.length : Int) := by omega
          have e1 : doO (S, C) (false, at_, tx) = none := by simp [doO, hd, hw2, h512]
          simp [← hG0, x1, x2, hmay, hd, c0, c1, c2, f2, hw2, h512', doE, doR, e1]
          exact ⟨bad _, OwnD.nil⟩
        · have h512' : ¬ (512 : Int) ≤ (C.length : Int) := by omega
          have e1 : doO (S, C) (false, at_, tx) = some (S, C ++ [(at_, tx)]) := by simp [doO, hd, hw2, h512]
          obtain ⟨G2, hG2⟩ : ∃ G2, G2 = ((G1.add (rowBlk 2 [.slice none 0 0, .slice none 0 0])).set G1.next (some (((rowBlk 2 [.slice none 0 0, .slice none 0 0]).put 0 s1).put 1 s2))).add (rowBlk 2 [.int .i64 at_, .string tx]) := ⟨_, rfl⟩
          have n2 : G2.next = G1.next + 2 := by subst hG2; simp
          have E2 : ∀ b, b < G1.next → G2.blk b = G1.blk b := fun b hb => by
            subst hG2; rw [blk_add, if_neg (by simp; omega), blk_set_ne (by omega), blk_add, if_neg (by omega)]
          have o2' : OwnZ encI 2 G0.next G2 s2 C := o2.frame (by omega) fun b _ hb _ => E2 b hb
          have o1' : OwnZ encS 1 G0.next G2 s1 S := o1.frame (by omega) fun b _ hb _ => E2 b hb
          obtain ⟨X, nX, EX, k3⟩ := o2'.app2 encI_len (bytes := 24) (k := 1) [.int .i64 at_, .string tx] (by omega) rfl (by omega) (by omega)
          have g1 : G2.blk G1.next = some (((rowBlk 2 [.slice none 0 0, .slice none 0 0]).put 0 s1).put 1 s2) := by subst hG2; simp
          have gX1 : X.blk G1.next = some (((rowBlk 2 [.slice none 0 0, .slice none 0 0]).put 0 s1).put 1 s2) := by rw [EX _ (hbel2.notIn (Nat.le_refl _))]; exact g1
          have gX2 : X.blk (H.next + 1 + 1) = some (rowBlk 2 [.slice none 0 0, .slice none 0 0]) := by rw [EX _ (o2.notIn (by omega)), E2 _ (by omega)]; exact b2
          have cX1 : ∀ o, X.cell G1.next o = (((rowBlk 2 [.slice none 0 0, .slice none 0 0]).put 0 s1).put 1 s2).at_ o := fun o => by simp only [Heap.cell, gX1]
          have cX2 : ∀ o, X.cell (H.next + 1 + 1) o = (rowBlk 2 [.slice none 0 0, .slice none 0 0]).at_ o := fun o => by simp only [Heap.cell, gX2]
          have tB : G2.blk (G1.next + 1) = some (rowBlk 2 [.int .i64 at_, .string tx]) := by subst hG2; simp
          have tc : ∀ o, G2.cell (G1.next + 1) o = (rowBlk 2 [.int .i64 at_, .string tx]).at_ o := fun o => by simp only [Heap.cell, tB]
          have y1 : ¬ G1.next = G2.next := by omega
          have y2 : ¬ H.next + 1 + 1 = G2.next := by omega
          subst hr1
          subst hr2
          simp [← hG0, x1, x2, hmay, hd, c0, c1, c2, f2, hw2, h512', doE, doR, e1, k1, d0, d1, z1, z2, z3, ← hG2, tc, k3, cX1, cX2, gX1, gX2, nX, y1, y2]
          have hEX : Ext H X := ⟨by have := E0.next; omega, fun b hb => by rw [EX b (o2.notIn (by omega)), E2 b (by omega), E1.blk b (by omega), E0.blk b hb]⟩
          have hfar : ∀ b, ¬ NotIn (.slice p1 S.length m1) b → b < G1.next := fun b hb => Nat.lt_of_not_le fun hh => hb (hbel1.notIn hh)
          refine ⟨((hEX.add _).set (by omega) _).set (by omega) _, _, _, rfl, ?_, ?_, ?_⟩
          · refine (o1.frame (H' := _) (by simp; omega) fun b hb1 hb2 hb3 => ?_).low (by omega)
            rw [blk_set_ne (by omega), blk_set_ne (by omega), blk_add, if_neg (by omega), EX b (oa b hb3), E2 b (by omega)]
          · have hz := Own.new' (enc := encI) (sz := 2) (n0 := G2.next) (b := G2.next) (H := X) (xs := C ++ [(at_, tx)]) nX.symm (Nat.le_refl _) (by simp; omega) rfl
            have hz2 := hz.set (k := G1.next) (by omega) (some ((((rowBlk 2 [.slice none 0 0, .slice none 0 0]).put 0 (.slice p1 S.length m1)).put 1 (.slice p2 C.length m2)).put 1 (.slice (some ⟨G2.next, 0, none⟩) (C.length + 1) (2 * (C.length + 1)))))
            have := hz2.set (k := H.next + 1 + 1) (by omega) (some (((rowBlk 2 [.slice none 0 0, .slice none 0 0]).put 0 (.slice p1 S.length m1)).put 1 (.slice (some ⟨G2.next, 0, none⟩) (C.length + 1) (2 * (C.length + 1)))))
            exact .inl (by simpa using this.low (m := H.next) (by omega))
          · intro b hb a n cc e
            cases e
            have := hfar b hb
            simp only; omega
      · have e1 : doO (S, C) (false, at_, tx) = none := by simp [doO, hd, hw2]
        have hw2' : wOk (at_, tx) = false := by simpa using hw2
        simp [← hG0, x1, x2, hmay, hd, c0, c1, c2, f2, hw2', doE, doR, e1]
        exact ⟨bad _, OwnD.nil⟩
    | true =>
      by_cases hz : at_ = 0 ∧ tx.size = 0
      · obtain ⟨rfl, hz⟩ := hz
        have e1 : doO (S, C) (true, 0, tx) = some (applyW S C, []) := by simp [doO, hd, hz]
        have hOwn := o1.own (fun h => by rw [h] at hl1; simp at hl1)
        subst hr1
        subst hr2
        simp [← hG0, x1, x2, hmay, hd, c0, c1, c2, f2, hz, doE, doR, e1, k1, d0, d1, z1, z2, z3]
        refine wp_nxt (wp_for (fun k e G => ∃ (i : Nat) (B6 : Blk), k = C.length - i ∧ i ≤ C.length ∧ Ext G0 G ∧ G1.next < G.next ∧ G.blk G1.next = some B6 ∧ B6.ro = false ∧ B6.at_ 0 = some (.slice p1 S.length m1) ∧ B6.at_ 1 = some (.slice p2 C.length m2) ∧ Own encS 1 G0.next G (.slice p1 S.length m1) (applyW S (C.take i)) ∧ e 7 = .int .i64 (i : Int) ∧ e 6 = .pointer (some ⟨G1.next, 0, none⟩) ∧ e 4 = .pointer (some ⟨H.next + 1 + 1, 0, none⟩) ∧ e 2 = .pointer (some ⟨H.next, 0, none⟩)) C.length ⟨0, ((rowBlk 2 [.slice none 0 0, .slice none 0 0]).put 0 (.slice p1 S.length m1)).put 1 (.slice p2 C.length m2), by omega, by omega, (E1.add _).set (by omega) _, by simp, by simp, rfl, by simp, by simp, ?_, by simp, by simp, by simp, by simp⟩ ?_)
        · rw [List.take_zero]
          exact (hOwn.ext ((Ext.refl G1).add _)).setB (hbel1.notIn (Nat.le_refl _)) _
        · rintro k e G ⟨i, B6, rfl, hi, hE, hlt6, hB6, hro6, a60, a61, hO, h7, h6, h4, h2⟩
          have cB : ∀ o, G.cell G1.next o = B6.at_ o := fun o => by simp only [Heap.cell, hB6]
          obtain ⟨g0, g1, g2⟩ := blkE hE
          have cg0 : ∀ o, G.cell H.next o = (rowBlk 2 [.slice ps S.length ks, .slice pc C.length kc]).at_ o := fun o => by simp only [Heap.cell, g0]
          have cg2 : ∀ o, G.cell (H.next + 1 + 1) o = (rowBlk 2 [.slice none 0 0, .slice none 0 0]).at_ o := fun o => by simp only [Heap.cell, g2]
          by_cases hlt : i < C.length
          · obtain ⟨bC, oC, hpC, hbC, kk0, kk1⟩ := hc.at2 hlt
            have hwi := wOk_of (hw C[i] (List.getElem_mem _))
            have htk := applyW_take S C hlt
            generalize C[i] = w at *
            obtain ⟨wa, wt⟩ := w
            obtain ⟨kw, rfl, hkw, _⟩ := hwi
            subst hpC
            simp at kk0 kk1 htk
            have hEH := E0.trans hE
            rw [← hEH.cell (o := _) hbC] at kk0 kk1
            have hla : (applyW S (C.take i)).length = S.length := applyW_len _ _
            obtain ⟨b, B, hv, hbn, hbn2, hB, hro, hat, hup⟩ := hO.blkOf encS_len (fun h => by rw [h] at hla; simp at hla; omega)
            rw [hla] at hv
            have hv1 : p1 = some ⟨b, 0, none⟩ := by cases hv; rfl
            subst hv1
            have hat0 := hat kw (by omega) 0 (by omega)
            have hnew := hup kw 0 (by omega) (by omega) wt (.string wt) (fun r hr => by
              obtain rfl : r = 0 := by omega
              rfl)
            rw [← htk] at hnew
            have zb6 : ¬ G1.next = b := fun e => by
              have hh := hbel1
              have := hh _ _ _ rfl
              simp only at this; omega
            have hkS : kw < S.length := by omega
            have cb : ∀ o, G.cell b o = B.at_ o := fun o => by simp only [Heap.cell, hB]
            simp at hat0
            simp [c_ref1_Do_l11, h7, h6, h4, h2, hlt, cg0, kk0, kk1, cB, a60, a61, hkS, hB, hro, hat0, natOf_int, cb]
            refine ⟨C.length - (i + 1), by omega, i + 1, rfl, hlt, hE.set hbn _, by omega, B6, by rw [if_neg zb6]; exact hB6, hro6, a60, a61, ?_, wrap_succ (by omega)⟩
            rw [Nat.mul_one, Nat.add_zero] at hnew
            exact hnew
          · obtain rfl : i = C.length := by omega
            rw [List.take_length] at hO
            have z4 : ¬ H.next + 1 + 1 = G1.next := by omega
            simp [c_ref1_Do_l11, h7, h6, h4, h2, cg0, cB, a60, a61, cg2, g2, hB6, hro6, z4]
            exact ⟨((E0.trans hE).set (by omega) _).set (by omega) _, _, _, rfl, .inl (((hO.setB (hbel1.notIn (Nat.le_refl _)) _).set (by omega) _).low (by omega)), OwnZ.nil, fun b _ => notIn_nil⟩
      · have e1 : doO (S, C) (true, at_, tx) = none := by simp [doO, hd, hz]
        by_cases ha : at_ = 0
        · subst ha
          have ht : ¬ tx.size = 0 := by omega
          simp [← hG0, x1, x2, hmay, hd, c0, c1, c2, f2, ht, doE, doR, e1]
          exact ⟨E0.set (by omega) _, OwnD.nil⟩
        · simp [← hG0, x1, x2, hmay, hd, c0, c1, c2, f2, ha, doE, doR, e1]
          exact ⟨E0.set (by omega) _, OwnD.nil⟩
  · have hd' : dOk (S, C) = false := by simpa using hd
    have e1 : doO (S, C) (fl, at_, tx) = none := by simp [doO, hd]
    simp [← hG0, x1, x2, hmay, hd', c0, c1, c2, f2, doE, doR, e1]
    exact ⟨bad _, OwnD.nil⟩
end Go.AM
