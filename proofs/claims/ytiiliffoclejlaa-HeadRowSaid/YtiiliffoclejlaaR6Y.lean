/- Contracts: steps of a disk. -/
import Derived.Test.YtiiliffoclejlaaR6X
namespace Go.AM
open Go.Proofs
set_option linter.unusedVariables false
set_option linter.unusedSimpArgs false
set_option maxRecDepth 100000
attribute [-simp] ByteArray.size_eq_zero_iff
abbrev Stp := Bool × Int × ByteArray
def applyW (S : List ByteArray) (C : List Img) : List ByteArray := C.foldl (fun S w => S.set w.1.toNat w.2) S
theorem applyW_len (C : List Img) : ∀ S, (applyW S C).length = S.length := by
  unfold applyW
  induction C with
  | nil => exact fun S => rfl
  | cons w C ih => intro S; rw [List.foldl_cons, ih, List.length_set]
theorem applyW_take (S : List ByteArray) (C : List Img) {i : Nat} (h : i < C.length) : applyW S (C.take (i + 1)) = (applyW S (C.take i)).set C[i].1.toNat C[i].2 := by
  unfold applyW; rw [List.take_succ_eq_append_getElem h, List.foldl_append]; rfl
def doO (d : Dk) (s : Stp) : Option Dk :=
  if dOk d = true then
    if s.1 = false then (if wOk s.2 = true ∧ d.2.length ≠ 512 then some (d.1, d.2 ++ [s.2]) else none)
    else if s.2.1 = 0 ∧ s.2.2.size = 0 then some (applyW d.1 d.2, []) else none
  else none
def doR (d : Dk) (s : Stp) : Dk := (doO d s).getD ([], [])
def doE (d : Dk) (s : Stp) : Int := if (doO d s).isSome then 0 else 200
theorem dOk_len {d : Dk} (h : dOk d = true) : d.1.length = 394 ∧ d.2.length ≤ 512 ∧ (∀ s ∈ d.1, s.size = 64) ∧ ∀ w ∈ d.2, wOk w = true := by
  simp only [dOk, Bool.and_eq_true, decide_eq_true_eq, List.all_eq_true] at h
  exact ⟨h.1.1.1, h.1.1.2, h.1.2, h.2⟩
theorem wOk_of {w : Img} (h : wOk w = true) : ∃ k : Nat, w.1 = k ∧ k < 394 ∧ w.2.size = 64 := by
  simp only [wOk, decide_eq_true_eq] at h
  obtain ⟨k, hk⟩ := Int.eq_ofNat_of_zero_le h.1.1
  exact ⟨k, hk, by omega, h.2⟩
theorem take_len_le {α : Type} {C : List α} (i : Nat) (hi : i ≤ C.length) : C.take i = C → True := fun _ => trivial
theorem do_ok (v : Value) (d : Dk) (fl : Bool) (at_ : Int) (tx : ByteArray) (H : Heap) (h : DkR H v d) :
    wpf (call K f_disk_Do [v, .agg #[.bool fl, .int .i64 at_, .string tx]] H) fun r H' => Ext H H' ∧ ∃ v', r = .tuple #[v', .int .i64 (doE d (fl, at_, tx))] ∧ OwnD H.next H' v' (doR d (fl, at_, tx)) := by
  obtain ⟨s, c, rfl, hs, hc⟩ := h
  obtain ⟨S, C⟩ := d
  refine open_plain rfl fc_disk_Do rfl (Nat.le_of_ble_eq_true rfl) ?_
  simp only at hs hc
  obtain ⟨ps, ks, rfl⟩ := hs.slice
  obtain ⟨pc, kc, rfl⟩ := hc.slice
  obtain ⟨G0, hG0⟩ : ∃ G0, G0 = ((H.add (rowBlk 2 [.slice ps S.length ks, .slice pc C.length kc])).add (rowBlk 3 [.bool fl, .int .i64 at_, .string tx])).add (rowBlk 2 [.slice none 0 0, .slice none 0 0]) := ⟨_, rfl⟩
  have E0 : Ext H G0 := by subst hG0; exact (((Ext.refl H).add _).add _).add _
  have n0 : G0.next = H.next + 3 := by subst hG0; simp
  have x1 : ¬ H.next = H.next + 1 := by omega
  have x2 : ¬ H.next = H.next + 1 + 1 := by omega
  have f0 : G0.blk H.next = some (rowBlk 2 [.slice ps S.length ks, .slice pc C.length kc]) := by subst hG0; simp [x1, x2]
  have f1 : G0.blk (H.next + 1) = some (rowBlk 3 [.bool fl, .int .i64 at_, .string tx]) := by subst hG0; simp
  have f2 : G0.blk (H.next + 1 + 1) = some (rowBlk 2 [.slice none 0 0, .slice none 0 0]) := by subst hG0; simp
  have blkE : ∀ {G : Heap}, Ext G0 G → (G.blk H.next = some (rowBlk 2 [.slice ps S.length ks, .slice pc C.length kc]) ∧ G.blk (H.next + 1) = some (rowBlk 3 [.bool fl, .int .i64 at_, .string tx]) ∧ G.blk (H.next + 1 + 1) = some (rowBlk 2 [.slice none 0 0, .slice none 0 0])) := fun hE =>
    ⟨by rw [hE.blk _ (by omega)]; exact f0, by rw [hE.blk _ (by omega)]; exact f1, by rw [hE.blk _ (by omega)]; exact f2⟩
  have c0 : ∀ o, G0.cell H.next o = (rowBlk 2 [.slice ps S.length ks, .slice pc C.length kc]).at_ o := fun o => by simp only [Heap.cell, f0]
  have c1 : ∀ o, G0.cell (H.next + 1) o = (rowBlk 3 [.bool fl, .int .i64 at_, .string tx]).at_ o := fun o => by simp only [Heap.cell, f1]
  have c2 : ∀ o, G0.cell (H.next + 1 + 1) o = (rowBlk 2 [.slice none 0 0, .slice none 0 0]).at_ o := fun o => by simp only [Heap.cell, f2]
  have hmay := dskMay_ok _ _ (S, C) G0 (hs.ext E0) (hc.ext E0)
  have bad : ∀ B, Ext H (G0.set (H.next + 1 + 1) B) := fun B => E0.set (by omega) _
  by_cases hd : dOk (S, C) = true
  · obtain ⟨hl1, hl2, hsz, hw⟩ := dOk_len hd
    simp only at hl1 hl2 hsz hw
    cases fl with
    | false =>
      by_cases hw2 : wOk (at_, tx) = true
      · by_cases h512 : C.length = 512
        · have h512' : (C.length : Int) = 512 := by omega
          have e1 : doO (S, C) (false, at_, tx) = none := by simp [doO, hd, hw2, h512]
          simp [← hG0, x1, x2, hmay, hd, c0, c1, c2, f2, hw2, h512', doE, doR, e1]
          exact ⟨bad _, OwnD.nil⟩
        · have h512' : ¬ (C.length : Int) = 512 := by omega
          have e1 : doO (S, C) (false, at_, tx) = some (S, C ++ [(at_, tx)]) := by simp [doO, hd, hw2, h512]
          have E0' := (Ext.refl G0).add (rowBlk 2 [.int .i64 at_, .string tx])
          obtain ⟨r1, G1, k1, E1, o1⟩ := cloneS_ok _ S (G0.add (rowBlk 2 [.int .i64 at_, .string tx])) ((hs.ext E0).ext E0') (by omega)
          obtain ⟨r2, G2, k2, E2, o2⟩ := cloneW_ok _ C G1 (((hc.ext E0).ext E0').ext E1) (by omega)
          obtain ⟨X, nX, EX, k3⟩ := o2.app encI_len (bytes := 24) (k := 1) [.int .i64 at_, .string tx] (by omega) rfl (by omega) (by omega)
          have EX1 := EX G1 (Nat.le_refl _) E2
          obtain ⟨b0, b1, b2⟩ := blkE (E0'.trans E1)
          obtain ⟨b0', b1', b2'⟩ := blkE ((E0'.trans E1).trans E2)
          obtain ⟨q0, q1, q2⟩ := blkE ((E0'.trans E1).trans EX1)
          have d0 : ∀ o, G1.cell H.next o = (rowBlk 2 [.slice ps S.length ks, .slice pc C.length kc]).at_ o := fun o => by simp only [Heap.cell, b0]
          have d1 : ∀ o, G1.cell (H.next + 1) o = (rowBlk 3 [.bool false, .int .i64 at_, .string tx]).at_ o := fun o => by simp only [Heap.cell, b1]
          have d1' : ∀ o, G2.cell (H.next + 1) o = (rowBlk 3 [.bool false, .int .i64 at_, .string tx]).at_ o := fun o => by simp only [Heap.cell, b1']
          have d2 : ∀ o, X.cell (H.next + 1 + 1) o = (rowBlk 2 [.slice none 0 0, .slice none 0 0]).at_ o := fun o => by simp only [Heap.cell, q2]
          have e2 := E1.next
          have e3 := E2.next
          simp [n0] at e2
          have bT : G2.blk (H.next + 3) = some (rowBlk 2 [.int .i64 at_, .string tx]) := by rw [E2.blk _ (by omega), E1.blk _ (by simp; omega), blk_add, if_pos n0.symm]
          have d3 : ∀ o, G2.cell (H.next + 3) o = (rowBlk 2 [.int .i64 at_, .string tx]).at_ o := fun o => by simp only [Heap.cell, bT]
          obtain ⟨p1, m1, hr1⟩ := (o1.rows encS_len).slice
          obtain ⟨p2, m2, hr2⟩ := (o2.rows encI_len).slice
          have z1 : ¬ H.next + 1 + 1 = G2.next := by omega
          have z2 : ¬ H.next + 1 = G2.next := by omega
          have z3 : ¬ H.next + 1 + 1 = G0.next := by omega
          have z4 : ¬ H.next + 1 = G0.next := by omega
          have z5 : ¬ H.next = G0.next := by omega
          have hfar : ∀ b, ¬ NotIn r1 b → b < G1.next := fun b hb => Nat.lt_of_not_le fun hh => hb (o1.below.notIn hh)
          have hO1 : OwnZ encS 1 H.next (X.add (rowBlk 2 (C.flatMap encI ++ [.int .i64 at_, .string tx]))) r1 S := ((o1.low (by simp; omega)).ext EX1).ext ((Ext.refl X).add _)
          have hr1' : r1 = .slice p1 S.length m1 := hr1
          subst hr1
          subst hr2
          simp [← hG0, x1, x2, hmay, hd, c0, c1, c2, f2, hw2, h512', doE, doR, e1, run_regd_tr, finD_some, Chk, wanted, k1, k2, k3, d0, d1, d1', d2, d3, q2, nX, z1, z2, z3, z4, z5, x1, x2, n0]
          refine ⟨((E0.trans (E0'.trans (E1.trans EX1))).add _).set (by omega) _, _, _, rfl, ?_, ?_, ?_⟩
          · exact hO1.frame (by simp) fun b hb1 hb2 hb3 => blk_set_ne fun e => hb3 (by subst e; exact o1.notIn (by simp; omega))
          · refine .inl ?_
            have hz := Own.new' (enc := encI) (sz := 2) (n0 := G2.next) (b := G2.next) (H := X) (xs := C ++ [(at_, tx)]) nX.symm (Nat.le_refl _) (by simp; omega) rfl
            have := hz.set (k := H.next + 1 + 1) (by omega) (some (((rowBlk 2 [.slice none 0 0, .slice none 0 0]).put 0 (.slice p1 S.length m1)).put 1 (.slice (some ⟨G2.next, 0, none⟩) (C.length + 1) (2 * (C.length + 1)))))
            simpa using this.low (m := H.next) (by omega)
          · intro b hb a n cc e
            cases e
            have := hfar b hb
            simp only; omega
      · have e1 : doO (S, C) (false, at_, tx) = none := by simp [doO, hd, hw2]
        have hw2' : wOk (at_, tx) = false := by simpa using hw2
        simp [← hG0, x1, x2, hmay, hd, c0, c1, c2, f2, hw2', doE, doR, e1]
        exact ⟨bad _, OwnD.nil⟩
    | true =>
      by_cases hz : at_ = 0 ∧ tx.size = 0
      · obtain ⟨rfl, hz⟩ := hz
        have e1 : doO (S, C) (true, 0, tx) = some (applyW S C, []) := by simp [doO, hd, hz]
        obtain ⟨r1, G1, k1, E1, o1⟩ := cloneS_ok _ S G0 (hs.ext E0) (by omega)
        obtain ⟨b0, b1, b2⟩ := blkE E1
        have d0 : ∀ o, G1.cell H.next o = (rowBlk 2 [.slice ps S.length ks, .slice pc C.length kc]).at_ o := fun o => by simp only [Heap.cell, b0]
        have e2 := E1.next
        have hOwn := o1.own (fun h => by rw [h] at hl1; simp at hl1)
        obtain ⟨p1, m1, hr1⟩ := (o1.rows encS_len).slice
        subst hr1
        have z1 : ¬ H.next = G1.next := by omega
        simp [← hG0, x1, x2, hmay, hd, c0, c1, c2, f2, hz, doE, doR, e1, k1, d0, z1]
        have hbel := hOwn.below
        refine wp_nxt (wp_for (fun k e G => ∃ (i : Nat) (B6 : Blk), k = C.length - i ∧ i ≤ C.length ∧ Ext G0 G ∧ G1.next < G.next ∧ G.blk G1.next = some B6 ∧ B6.ro = false ∧ B6.at_ 0 = some (.slice p1 S.length m1) ∧ B6.at_ 1 = some (.slice none 0 0) ∧ Own encS 1 G0.next G (.slice p1 S.length m1) (applyW S (C.take i)) ∧ e 48 = .slice pc C.length kc ∧ e 49 = .int .i64 (C.length : Int) ∧ e 50 = .int .i64 (i : Int) ∧ e 6 = .pointer (some ⟨G1.next, 0, none⟩) ∧ e 4 = .pointer (some ⟨H.next + 1 + 1, 0, none⟩)) C.length ⟨0, ((rowBlk 2 [.slice none 0 0, .slice none 0 0]).put 0 (.slice p1 S.length m1)).put 1 (.slice none 0 0), by omega, by omega, (E1.add _).set (by omega) _, by simp, by simp, rfl, by simp, by simp, ?_, by simp, by simp, by simp, by simp, by simp⟩ ?_)
        · rw [List.take_zero]
          exact (hOwn.ext ((Ext.refl G1).add _)).setB (hbel.notIn (Nat.le_refl _)) _
        · rintro k e G ⟨i, B6, rfl, hi, hE, hlt6, hB6, hro6, a60, a61, hO, h48, h49, h50, h6, h4⟩
          have cB : ∀ o, G.cell G1.next o = B6.at_ o := fun o => by simp only [Heap.cell, hB6]
          obtain ⟨g0, g1, g2⟩ := blkE hE
          have cg2 : ∀ o, G.cell (H.next + 1 + 1) o = (rowBlk 2 [.slice none 0 0, .slice none 0 0]).at_ o := fun o => by simp only [Heap.cell, g2]
          by_cases hlt : i < C.length
          · obtain ⟨bC, oC, hpC, hbC, kk0, kk1⟩ := hc.at2 hlt
            have hwi := wOk_of (hw C[i] (List.getElem_mem _))
            have htk := applyW_take S C hlt
            generalize C[i] = w at *
            obtain ⟨wa, wt⟩ := w
            obtain ⟨kw, rfl, hkw, _⟩ := hwi
            subst hpC
            simp at kk0 kk1 htk
            have hEH := E0.trans hE
            rw [← hEH.cell (o := _) hbC] at kk0 kk1
            have zb : ¬ bC = G.next := by have := hEH.next; omega
            have z6 : ¬ G1.next = G.next := by omega
            have hO2 := (hO.ext ((Ext.refl G).add (rowBlk 2 [.int .i64 0, .string ⟨#[]⟩]))).setB (k := G.next) (hO.below.notIn (Nat.le_refl _)) (some (((rowBlk 2 [.int .i64 0, .string ⟨#[]⟩]).put 0 (.int .i64 (kw : Int))).put 1 (.string wt)))
            have hla : (applyW S (C.take i)).length = S.length := applyW_len _ _
            obtain ⟨b, B, hv, hbn, hbn2, hB, hro, hat, hup⟩ := hO2.blkOf encS_len (fun h => by rw [h] at hla; simp at hla; omega)
            rw [hla] at hv
            have hv1 : p1 = some ⟨b, 0, none⟩ := by cases hv; rfl
            subst hv1
            have hat0 := hat kw (by omega) 0 (by omega)
            have hnew := hup kw 0 (by omega) (by omega) wt (.string wt) (fun r hr => by
              obtain rfl : r = 0 := by omega
              rfl)
            rw [← htk] at hnew
            have zb6 : ¬ G1.next = b := fun e => by
              have hh := hbel
              have := hh _ _ _ rfl
              simp only at this; omega
            have hkS : kw < S.length := by omega
            have hbG : ¬ b = G.next := fun e => by
              have := hO.below _ _ _ rfl
              simp only at this; omega
            rw [blk_set_ne hbG, blk_add, if_neg hbG] at hB
            have cb : ∀ o, G.cell b o = B.at_ o := fun o => by simp only [Heap.cell, hB]
            simp at hat0
            simp [c_disk_Do_l15, h48, h49, h50, h6, h4, hlt, kk0, kk1, zb, z6, cB, a60, a61, hkS, hB, hro, hat0, natOf_int, hbG, cb]
            refine ⟨C.length - (i + 1), by omega, i + 1, rfl, hlt, (((hE.add _).set (by have := hE.next; omega) _).set hbn _), by omega, B6, by rw [if_neg zb6]; exact hB6, hro6, a60, a61, ?_, wrap_succ (by omega)⟩
            rw [Nat.mul_one, Nat.add_zero] at hnew
            exact hnew
          · obtain rfl : i = C.length := by omega
            rw [List.take_length] at hO
            simp [c_disk_Do_l15, h49, h50, h6, h4, cB, a60, a61, cg2, g2]
            exact ⟨(E0.trans hE).set (by omega) _, _, _, rfl, .inl ((hO.set (by omega) _).low (by omega)), OwnZ.nil, fun b _ => notIn_nil⟩
      · have e1 : doO (S, C) (true, at_, tx) = none := by simp [doO, hd, hz]
        have hz2 : ¬ at_ = 0 ∨ ¬ tx.size = 0 := by omega
        simp [← hG0, x1, x2, hmay, hd, c0, c1, c2, f2, hz2, doE, doR, e1]
        exact ⟨E0.set (by omega) _, OwnD.nil⟩
  · have hd' : dOk (S, C) = false := by simpa using hd
    have e1 : doO (S, C) (fl, at_, tx) = none := by simp [doO, hd]
    simp [← hG0, x1, x2, hmay, hd', c0, c1, c2, f2, doE, doR, e1]
    exact ⟨bad _, OwnD.nil⟩
end Go.AM
