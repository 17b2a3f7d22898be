/- Contracts: crashes. -/
import Derived.Test.YtiiliffoclejlaaR6Z
namespace Go.AM
open Go.Proofs
set_option linter.unusedVariables false
set_option linter.unusedSimpArgs false
set_option maxRecDepth 100000
attribute [-simp] ByteArray.size_eq_zero_iff
def oddK (keep : ByteArray) (i : Nat) : Bool := decide (i < keep.size) && decide (bt keep i % 2 = 1)
def crStep (keep : ByteArray) (torn at_ : Int) (S : List ByteArray) (i : Nat) (w : Img) : List ByteArray :=
  if (i : Int) = torn then S.set w.1.toNat (tornR (S[w.1.toNat]?.getD ⟨#[]⟩) w.2 at_) else if oddK keep i = true then S.set w.1.toNat w.2 else S
def crN (keep : ByteArray) (torn at_ : Int) (S : List ByteArray) (C : List Img) : Nat → List ByteArray
  | 0 => S
  | i + 1 => match C[i]? with
    | some w => crStep keep torn at_ (crN keep torn at_ S C i) i w
    | none => crN keep torn at_ S C i
theorem crStep_len (keep : ByteArray) (torn at_ : Int) (S : List ByteArray) (i : Nat) (w : Img) : (crStep keep torn at_ S i w).length = S.length := by
  unfold crStep; split
  · simp
  · split <;> simp
theorem crN_len (keep : ByteArray) (torn at_ : Int) (S : List ByteArray) (C : List Img) : ∀ i, (crN keep torn at_ S C i).length = S.length
  | 0 => rfl
  | i + 1 => by
    simp only [crN]
    cases C[i]? with
    | none => exact crN_len keep torn at_ S C i
    | some w => simp only; rw [crStep_len]; exact crN_len keep torn at_ S C i
theorem crN_succ (keep : ByteArray) (torn at_ : Int) (S : List ByteArray) (C : List Img) {i : Nat} (h : i < C.length) : crN keep torn at_ S C (i + 1) = crStep keep torn at_ (crN keep torn at_ S C i) i C[i] := by
  simp only [crN]; rw [List.getElem?_eq_getElem h]
def crOk (d : Dk) (at_ : Int) : Bool := dOk d && decide (0 ≤ at_) && decide (at_ ≤ 64)
def crR (d : Dk) (keep : ByteArray) (torn at_ : Int) : Dk := if crOk d at_ then (crN keep torn at_ d.1 d.2 d.2.length, []) else ([], [])
def crE (d : Dk) (at_ : Int) : Int := if crOk d at_ then 0 else 200
theorem rem2_u8 (t : TypeId) (s : ByteArray) (i : Int) : binV K.P .rem t (.int .u8 (bt s i)) (.int .u8 2) = some (.int .u8 (bt s i % 2)) := by
  rw [binV_rem _ _ _ _ _ (by omega), Int.tmod_eq_emod_of_nonneg (bt_range s i).1]
theorem and1_u8 (x : Int) (h0 : 0 ≤ x) (h1 : x ≤ 255) : bits .and .u8 x 1 = x % 2 := by
  obtain ⟨n, rfl⟩ := Int.eq_ofNat_of_zero_le h0
  have : ∀ n : Fin 256, bits .and .u8 ((n.val : Nat) : Int) 1 = ((n.val : Nat) : Int) % 2 := by decide +kernel
  exact this ⟨n, by omega⟩
theorem crash_ok (v : Value) (d : Dk) (keep : ByteArray) (torn at_ : Int) (H : Heap) (h : DkR H v d) :
    wpf (call K f_disk_Crash [v, .string keep, .int .i64 torn, .int .i64 at_] H) fun r H' => Ext H H' ∧ ∃ v', r = .tuple #[v', .int .i64 (crE d at_)] ∧ OwnD H.next H' v' (crR d keep torn at_) := by
  obtain ⟨s, c, rfl, hs, hc⟩ := h
  obtain ⟨S, C⟩ := d
  refine open_plain rfl fc_disk_Crash rfl (Nat.le_of_ble_eq_true rfl) ?_
  simp only at hs hc
  obtain ⟨ps, ks, rfl⟩ := hs.slice
  obtain ⟨pc, kc, rfl⟩ := hc.slice
  obtain ⟨G0, hG0⟩ : ∃ G0, G0 = (H.add (rowBlk 2 [.slice ps S.length ks, .slice pc C.length kc])).add (rowBlk 2 [.slice none 0 0, .slice none 0 0]) := ⟨_, rfl⟩
  have E0 : Ext H G0 := by subst hG0; exact ((Ext.refl H).add _).add _
  have n0 : G0.next = H.next + 2 := by subst hG0; simp
  have x1 : ¬ H.next = H.next + 1 := by omega
  have f0 : G0.blk H.next = some (rowBlk 2 [.slice ps S.length ks, .slice pc C.length kc]) := by subst hG0; simp [x1]
  have f2 : G0.blk (H.next + 1) = some (rowBlk 2 [.slice none 0 0, .slice none 0 0]) := by subst hG0; simp
  have blkE : ∀ {G : Heap}, Ext G0 G → (G.blk H.next = some (rowBlk 2 [.slice ps S.length ks, .slice pc C.length kc]) ∧ G.blk (H.next + 1) = some (rowBlk 2 [.slice none 0 0, .slice none 0 0])) := fun hE =>
    ⟨by rw [hE.blk _ (by omega)]; exact f0, by rw [hE.blk _ (by omega)]; exact f2⟩
  have c0 : ∀ o, G0.cell H.next o = (rowBlk 2 [.slice ps S.length ks, .slice pc C.length kc]).at_ o := fun o => by simp only [Heap.cell, f0]
  have c2 : ∀ o, G0.cell (H.next + 1) o = (rowBlk 2 [.slice none 0 0, .slice none 0 0]).at_ o := fun o => by simp only [Heap.cell, f2]
  have hmay := dskMay_ok _ _ (S, C) G0 (hs.ext E0) (hc.ext E0)
  have bad : ∀ B, Ext H (G0.set (H.next + 1) B) := fun B => E0.set (by omega) _
  by_cases hok : crOk (S, C) at_ = true
  · have hok' := hok
    simp only [crOk, Bool.and_eq_true, decide_eq_true_eq] at hok'
    obtain ⟨⟨hd, ha1⟩, ha2⟩ := hok'
    obtain ⟨hl1, hl2, hsz, hw⟩ := dOk_len hd
    simp only at hl1 hl2 hsz hw
    obtain ⟨r1, G1, k1, E1, o1⟩ := cloneS_ok _ S G0 (hs.ext E0) (by omega)
    obtain ⟨b0, b2⟩ := blkE E1
    have d0 : ∀ o, G1.cell H.next o = (rowBlk 2 [.slice ps S.length ks, .slice pc C.length kc]).at_ o := fun o => by simp only [Heap.cell, b0]
    have e2 := E1.next
    have hOwn := o1.own (fun h => by rw [h] at hl1; simp at hl1)
    obtain ⟨p1, m1, hr1⟩ := (o1.rows encS_len).slice
    subst hr1
    have z1 : ¬ H.next = G1.next := by omega
    have a1 : ¬ at_ < 0 := by omega
    have a2 : ¬ 64 < at_ := by omega
    simp [← hG0, x1, hmay, hd, c0, c2, f2, a1, a2, k1, d0, z1, crR, crE, hok]
    have hbel := hOwn.below
    refine wp_nxt (wp_for (fun k e G => ∃ (i : Nat) (B6 : Blk), k = C.length - i ∧ i ≤ C.length ∧ Ext G0 G ∧ G1.next < G.next ∧ G.blk G1.next = some B6 ∧ B6.ro = false ∧ B6.at_ 0 = some (.slice p1 S.length m1) ∧ B6.at_ 1 = some (.slice none 0 0) ∧ Own encS 1 G0.next G (.slice p1 S.length m1) (crN keep torn at_ S C i) ∧ e 31 = .slice pc C.length kc ∧ e 32 = .int .i64 (C.length : Int) ∧ e 33 = .int .i64 (i : Int) ∧ e 10 = .pointer (some ⟨G1.next, 0, none⟩) ∧ e 8 = .pointer (some ⟨H.next + 1, 0, none⟩) ∧ e 1 = .string keep ∧ e 2 = .int .i64 torn ∧ e 3 = .int .i64 at_) C.length ⟨0, ((rowBlk 2 [.slice none 0 0, .slice none 0 0]).put 0 (.slice p1 S.length m1)).put 1 (.slice none 0 0), by omega, by omega, (E1.add _).set (by omega) _, by simp, by simp, rfl, by simp, by simp, ?_, by simp, by simp, by simp, by simp, by simp, by simp, by simp, by simp⟩ ?_)
    · exact (hOwn.ext ((Ext.refl G1).add _)).setB (hbel.notIn (Nat.le_refl _)) _
    · rintro k e G ⟨i, B6, rfl, hi, hE, hlt6, hB6, hro6, a60, a61, hO, h31, h32, h33, h10, h8, hk1, hk2, hk3⟩
      have cB : ∀ o, G.cell G1.next o = B6.at_ o := fun o => by simp only [Heap.cell, hB6]
      obtain ⟨g0, g2⟩ := blkE hE
      have cg2 : ∀ o, G.cell (H.next + 1) o = (rowBlk 2 [.slice none 0 0, .slice none 0 0]).at_ o := fun o => by simp only [Heap.cell, g2]
      by_cases hlt : i < C.length
      · obtain ⟨bC, oC, hpC, hbC, kk0, kk1⟩ := hc.at2 hlt
        have hwi := wOk_of (hw C[i] (List.getElem_mem _))
        have htk := crN_succ keep torn at_ S C hlt
        generalize C[i] = w at *
        obtain ⟨wa, wt⟩ := w
        obtain ⟨kw, rfl, hkw, _⟩ := hwi
        subst hpC
        simp at kk0 kk1 
        have hEH := E0.trans hE
        rw [← hEH.cell (o := _) hbC] at kk0 kk1
        have zb : ¬ bC = G.next := by have := hEH.next; omega
        have z6 : ¬ G1.next = G.next := by omega
        have hO2 := (hO.ext ((Ext.refl G).add (rowBlk 2 [.int .i64 0, .string ⟨#[]⟩]))).setB (k := G.next) (hO.below.notIn (Nat.le_refl _)) (some (((rowBlk 2 [.int .i64 0, .string ⟨#[]⟩]).put 0 (.int .i64 (kw : Int))).put 1 (.string wt)))
        have hla : (crN keep torn at_ S C i).length = S.length := crN_len _ _ _ _ _ _
        obtain ⟨b, B, hv, hbn, hbn2, hB, hro, hat, hup⟩ := hO2.blkOf encS_len (fun h => by rw [h] at hla; simp at hla; omega)
        rw [hla] at hv
        have hv1 : p1 = some ⟨b, 0, none⟩ := by cases hv; rfl
        subst hv1
        have hkl : kw < (crN keep torn at_ S C i).length := by omega
        have hat0 := hat kw hkl 0 (by omega)
        have hnew := fun x' => hup kw 0 hkl (by omega) x' (.string x') (fun r hr => by
          obtain rfl : r = 0 := by omega
          rfl)
        have zb6 : ¬ G1.next = b := fun e => by
          have hh := hbel
          have := hh _ _ _ rfl
          simp only at this; omega
        have hkS : kw < S.length := by omega
        have hbG : ¬ b = G.next := fun e => by
          have := hO.below _ _ _ rfl
          simp only at this; omega
        rw [blk_set_ne hbG, blk_add, if_neg hbG] at hB
        have cb : ∀ o, G.cell b o = B.at_ o := fun o => by simp only [Heap.cell, hB]
        have hgk : (crN keep torn at_ S C i)[kw]?.getD ⟨#[]⟩ = (crN keep torn at_ S C i)[kw] := by rw [List.getElem?_eq_getElem hkl]; rfl
        simp only [crStep, Int.toNat_natCast, hgk] at htk
        generalize (crN keep torn at_ S C i)[kw] = old at *
        simp at hat0
        have hs1 := wrap_succ (i := i) (by omega)
        have hEn := hE.next
        by_cases ht : (i : Int) = torn
        · rw [if_pos ht] at htk
          have hn2 := hnew (tornR old wt at_)
          rw [← htk, Nat.mul_one, Nat.add_zero] at hn2
          subst ht
          simp [c_disk_Crash_l13, h31, h32, h33, h10, h8, hk1, hk2, hk3, hlt, kk0, kk1, zb, z6, cB, a60, a61, hkS, hB, hro, hat0, natOf_int, hbG, cb, torn_ok]
          exact ⟨C.length - (i + 1), by omega, i + 1, rfl, hlt, ((hE.add _).set (by omega) _).set hbn _, by omega, B6, by rw [if_neg zb6]; exact hB6, hro6, a60, a61, hn2, hs1⟩
        · rw [if_neg ht] at htk
          by_cases ho : oddK keep i = true
          · rw [if_pos ho] at htk
            have hn2 := hnew wt
            rw [← htk, Nat.mul_one, Nat.add_zero] at hn2
            simp only [oddK, Bool.and_eq_true, decide_eq_true_eq] at ho
            simp [c_disk_Crash_l13, h31, h32, h33, h10, h8, hk1, hk2, hk3, hlt, kk0, kk1, zb, z6, cB, a60, a61, hkS, hB, hro, hat0, natOf_int, hbG, cb, ht, ho, rem2_u8]
            exact ⟨C.length - (i + 1), by omega, i + 1, rfl, hlt, ((hE.add _).set (by omega) _).set hbn _, by omega, B6, by rw [if_neg zb6]; exact hB6, hro6, a60, a61, hn2, hs1⟩
          · rw [if_neg ho] at htk
            by_cases hks : i < keep.size
            · have hbt : ¬ bt keep i % 2 = 1 := fun hh => ho (by simp [oddK, hks, hh])
              simp [c_disk_Crash_l13, h31, h32, h33, h10, h8, hk1, hk2, hk3, hlt, kk0, kk1, zb, z6, cB, a60, a61, hkS, hB, hro, hat0, natOf_int, hbG, cb, ht, hks, hbt, rem2_u8]
              exact ⟨C.length - (i + 1), by omega, i + 1, rfl, hlt, (hE.add _).set (by omega) _, by omega, B6, hB6, hro6, a60, a61, by rw [htk]; exact hO2, hs1⟩
            · simp [c_disk_Crash_l13, h31, h32, h33, h10, h8, hk1, hk2, hk3, hlt, kk0, kk1, zb, z6, cB, a60, a61, hkS, hB, hro, hat0, natOf_int, hbG, cb, ht, hks]
              exact ⟨C.length - (i + 1), by omega, i + 1, rfl, hlt, (hE.add _).set (by omega) _, by omega, B6, hB6, hro6, a60, a61, by rw [htk]; exact hO2, hs1⟩
      · obtain rfl : i = C.length := by omega
        simp [c_disk_Crash_l13, h32, h33, h10, h8, cB, a60, a61, cg2, g2]
        exact ⟨(E0.trans hE).set (by omega) _, _, _, rfl, .inl ((hO.set (by omega) _).low (by omega)), OwnZ.nil, fun b _ => notIn_nil⟩
  · have hok' : crOk (S, C) at_ = false := by simpa using hok
    by_cases hd : dOk (S, C) = true
    · by_cases ha : at_ < 0
      · simp [← hG0, x1, hmay, hd, c0, c2, f2, ha, crR, crE, hok']
        exact ⟨bad _, OwnD.nil⟩
      · have ha2 : 64 < at_ := by simp [crOk, hd] at hok'; omega
        simp [← hG0, x1, hmay, hd, c0, c2, f2, ha, ha2, crR, crE, hok']
        exact ⟨bad _, OwnD.nil⟩
    · have hd' : dOk (S, C) = false := by simpa using hd
      simp [← hG0, x1, hmay, hd', c0, c2, f2, crR, crE, hok']
      exact ⟨bad _, OwnD.nil⟩
end Go.AM
