/- Contracts: the document's scan. -/
import Derived.Test.YteamlnogjjgdoaaR3LogEmpty
namespace Go.AM
open Go.Proofs
set_option linter.unusedVariables false
set_option linter.unusedSimpArgs false
set_option maxRecDepth 100000
attribute [-simp] ByteArray.size_eq_zero_iff
@[simp] theorem rget_ok (s : ByteArray) (H : Heap) : call K f_ref1_GetRecord [.string s] H = some (valR (getR s), H) := by
  refine of_wpf (open_pure rfl fc_ref1_GetRecord rfl (Nat.le_of_ble_eq_true rfl) ?_)
  have w : ∀ i, IntKind.i64.wrap (bt s i) = bt s i := fun i => wrap_i64 (by have := bt_range s i; omega) (by have := bt_range s i; omega)
  have hr := bt_range s 6
  unfold getR valR
  by_cases h1 : s.size = 32
  · by_cases h2 : bt s 6 ≤ 24
    · obtain ⟨k, hk⟩ := Int.eq_ofNat_of_zero_le (show 0 ≤ 8 + bt s 6 by omega)
      have e1 : IntKind.i64.wrap (8 + bt s 6) = (k : Int) := by rw [wrap_i64 (by omega) (by omega)]; exact hk
      have e0 : (8 + bt s 6).toNat = k := by omega
      have e2 : 8 ≤ k ∧ k ≤ 32 := by omega
      have e3 : slsV s (some (.int .i64 8)) (some (.int .i64 (k : Int))) = some (.string (s.extract 8 k)) := by simp [slsV, bound, natOf, h1, e2]
      have h2' : ¬ 24 < bt s 6 := by omega
      by_cases h3 : RMay (num4 s) (bt s 4) (bt s 5) (s.extract 8 k)
      · by_cases h4 : recOf (num4 s) (bt s 4) (bt s 5) (s.extract 8 k) = s
        · simp [h1, h2, h2', w, natOf, e0, e1, e3, recAt, putR, h3, h4]
        · simp [h1, h2, h2', w, natOf, e0, e1, e3, recAt, putR, h3, h4]
      · simp [h1, h2, h2', w, natOf, e0, e1, e3, recAt, putR, h3]
    · have h2' : 24 < bt s 6 := by omega
      simp [h1, h2, h2', w, natOf]
  · have h1' : ¬ ((s.size : Int) = 32) := by omega
    simp [h1, h1']
def oneGo (seq : Int) : List Img → Nat → List ByteArray → Option (List Img × Nat)
  | _, _, [] => none
  | is, k, t :: ts =>
    if (getR t).2.2.2.2 = 0 ∧ (getR t).1 = seq + k then
      if (getR t).2.2.1 = 4 ∧ k % 4 = 0 then some (is, k + 1)
      else if (getR t).2.2.1 = ((k % 4 : Nat) : Int) then
        match is.getLast? with
        | none => if k % 4 = 0 then oneGo seq (is ++ [((getR t).2.1, (getR t).2.2.2.1)]) (k + 1) ts else none
        | some x =>
          if k % 4 = 0 then (if (getR t).2.1 ≤ x.1 then none else oneGo seq (is ++ [((getR t).2.1, (getR t).2.2.2.1)]) (k + 1) ts)
          else if x.1 ≠ (getR t).2.1 ∨ ((getR t).2.2.2.1.size ≠ 0 ∧ x.2.size ≠ k % 4 * 24) then none
          else oneGo seq (is.dropLast ++ [((getR t).2.1, x.2 ++ (getR t).2.2.2.1)]) (k + 1) ts
      else none
    else none
structure OneInv (is : List Img) (k : Nat) : Prop where
  some_ : k % 4 ≠ 0 → is ≠ []
  len : is.length ≤ k
  size : ∀ x ∈ is, x.2.size ≤ 24 * k
def oneOut (r : Option (List Img × Nat)) (n0 : Nat) (H : Heap) (v : Value) : Prop := match r with
  | some (is, n) => ∃ v', v = .tuple #[v', .int .i64 (n : Int)] ∧ Own encI 2 n0 H v' is
  | none => v = .tuple #[.slice none 0 0, .int .i64 0]
theorem one_ok (v : Value) (rs : List ByteArray) (seq : Int) (H : Heap) (h : Strs H v rs) (hs : 1 ≤ seq ∧ seq ≤ 9223372036854775000) (hlen : rs.length ≤ 200) :
    wpf (call K f_ref1_one [v, .int .i64 seq] H) fun r H' => Ext H H' ∧ oneOut (oneGo seq [] 0 rs) H.next H' r := by
  obtain ⟨p, c, rfl⟩ := h.slice
  refine open_plain rfl fc_ref1_one rfl (Nat.le_of_ble_eq_true rfl) ?_
  simp
  refine wp_nxt (wp_for (fun d e G => ∃ (k : Nat) (is : List Img), d = rs.length - k ∧ k ≤ rs.length ∧ Ext H G ∧ e 0 = .slice p rs.length c ∧ e 1 = .int .i64 seq ∧ e 7 = .int .i64 (k : Int) ∧ Own encI 2 H.next G (e 6) is ∧ OneInv is k ∧ oneGo seq is k (rs.drop k) = oneGo seq [] 0 rs) rs.length ⟨0, [], by simp, by simp, Ext.refl _, by simp, by simp, by simp, by simp [Own.nil], ⟨by simp, by simp, by simp⟩, rfl⟩ ?_)
  rintro d e G ⟨k, is, rfl, hk, hE, h0, h1, h7, ho, hI, hres⟩
  by_cases hlt : k < rs.length
  · obtain ⟨b, o, rfl, hb, e0⟩ := h.at1 hlt
    rw [List.drop_eq_getElem_cons hlt] at hres
    simp only [oneGo] at hres
    have hm := @getR_may rs[k]
    generalize rs[k] = tx at *
    have hn := hE.next
    have n1 : b ≠ G.next := by omega
    rw [← hE.cell (o := _) hb] at e0
    have w1 := wrap_succ (i := k) (by omega)
    have w2 : IntKind.i64.wrap (seq + (k : Int)) = seq + (k : Int) := wrap_i64 (by omega) (by omega)
    have hE2 : ∀ B f, Ext G ((G.add B).set G.next f) := fun B f => ((Ext.refl G).add B).set (Nat.le_refl _) f
    generalize hg : getR tx = x at *
    obtain ⟨q, pg, t, d, er⟩ := x
    simp only at hres hm
    simp at e0
    obtain ⟨m, hm4⟩ : ∃ m : Nat, m = k % 4 := ⟨_, rfl⟩
    have w4 : binV K.P .rem 3 (.int .i64 (k : Int)) (.int .i64 4) = some (.int .i64 (m : Int)) := by
      rw [binV_rem _ _ _ _ _ (by omega), Int.tmod_eq_emod_of_nonneg (by omega)]; congr 2; omega
    rw [← hm4] at hres
    have hcell : ∀ (e : Env), True := fun _ => trivial
    by_cases c1 : er = 0
    · subst c1
      have hmay := hm rfl
      by_cases c2 : q = seq + k
      · rw [if_pos ⟨rfl, c2⟩] at hres
        subst c2
        have hdz : d.size ≤ 24 := RMay_size hmay
        by_cases c3 : t = 4 ∧ m = 0
        · obtain ⟨rfl, hm0⟩ := c3
          subst hm0
          rw [if_pos ⟨rfl, rfl⟩] at hres
          rw [← hres]
          have nt : ∀ w', e 6 ≠ .tuple w' := fun w' hw => by
            obtain ⟨p, c, hv, _⟩ := ho.slc; rw [hw] at hv; cases hv
          obtain ⟨p6, c6, h6, _⟩ := ho.slc
          rw [h6] at ho
          simp [c_ref1_one_l19, h0, h1, h7, h6, hlt, e0, hg, valR, n1, w1, w2, w4, oneOut]
          exact ⟨hE.trans (hE2 _ _), ho.ext (hE2 _ _)⟩
        · rw [if_neg c3] at hres
          by_cases c4 : t = (m : Int)
          · rw [if_pos c4] at hres
            subst c4
            have m4 : m < 4 := by omega
            have m4' : ¬ (m : Int) = 4 := by omega
            have hlen1 := hI.len
            obtain ⟨n, hn0⟩ : ∃ n, is.length = n := ⟨_, rfl⟩
            obtain ⟨p6, c6, h6, _⟩ := ho.slc
            rw [h6] at ho
            rw [hn0] at h6 ho
            -- a new image
            have hA : ∀ B f X, appV (((G.add B).set G.next f).add X) 2 24 1 (.slice p6 n c6) [.int .i64 pg, .string d] = some (.slice (some ⟨G.next + 1 + 1, 0, none⟩) (n + 1) (2 * (n + 1)), (killB (.slice p6 n c6) (((G.add B).set G.next f).add X)).add (rowBlk 2 ((is ++ [((pg, d) : Img)]).flatMap encI))) := fun B f X => by
              rw [((ho.ext (hE2 B f)).ext ((Ext.refl _).add X)).app encI_len _ (by omega) rfl (by omega) (by omega)]
              simp [hn0]
            have grow : ∀ B f X, m = 0 → Ext H ((killB (.slice p6 n c6) (((G.add B).set G.next f).add X)).add (rowBlk 2 (is.flatMap encI ++ [.int .i64 pg, .string d]))) ∧ Own encI 2 H.next ((killB (.slice p6 n c6) (((G.add B).set G.next f).add X)).add (rowBlk 2 (is.flatMap encI ++ [.int .i64 pg, .string d]))) (.slice (some ⟨G.next + 1 + 1, 0, none⟩) (n + 1) (2 * (n + 1))) (is ++ [(pg, d)]) ∧ OneInv (is ++ [(pg, d)]) (k + 1) := fun B f X hm0 => by
              refine ⟨((ho.ext (hE2 B f)).ext_kill (Nat.le_refl _) ((hE.trans (hE2 B f)).add X)).add _, ?_, ⟨fun _ => by simp, by simp; omega, fun y hy => ?_⟩⟩
              · have hz := Own.new' (enc := encI) (sz := 2) (n0 := H.next) (b := G.next + 1 + 1) (H := killB (.slice p6 n c6) (((G.add B).set G.next f).add X)) (xs := is ++ [(pg, d)]) (by simp) (by omega) (by simp; omega) rfl
                simpa [hn0] using hz
              · rcases List.mem_append.1 hy with hy | hy
                · have := hI.size y hy; omega
                · have e := List.mem_singleton.1 hy; subst e; show d.size ≤ _; omega
            by_cases m0 : m = 0
            · subst m0
              rcases List.eq_nil_or_concat is with hnil | ⟨ini, x, hcc⟩
              · have hgl : is.getLast? = none := by rw [hnil]; rfl
                have hn0' : ¬ 0 < n := by rw [← hn0, hnil]; simp
                rw [hgl] at hres
                simp at hres
                simp [c_ref1_one_l19, h0, h1, h7, h6, hlt, e0, hg, valR, n1, w1, w2, w4, hn0', hA]
                exact ⟨rs.length - (k + 1), by omega, k + 1, rfl, hlt, (grow _ _ _ rfl).1, by simp, is ++ [(pg, d)], (grow _ _ _ rfl).2.1, (grow (rowBlk 0 []) none (rowBlk 0 []) rfl).2.2, hres⟩
              · rw [List.concat_eq_append] at hcc
                obtain ⟨x1, x2⟩ := x
                obtain ⟨b2, B2, hv2, hbE, hbn, hB2, hro2, hat, hup⟩ := ho.blkOf encI_len (by rw [hcc]; simp)
                have hni : n = ini.length + 1 := by rw [← hn0, hcc]; simp
                have hx : is[ini.length]'(by omega) = (x1, x2) := by simp [hcc]
                have a0 := hat ini.length (by omega) 0 (by omega)
                rw [hx] at a0
                simp at a0
                rw [hn0] at hv2
                cases hv2
                have hgl : is.getLast? = some (x1, x2) := by rw [hcc]; simp
                have hn0' : 0 < n := by omega
                have hmn : ini.length < n := by omega
                have w5 : IntKind.i64.wrap ((n : Int) - 1) = (ini.length : Int) := by rw [wrap_i64 (by omega) (by omega)]; omega
                have nb : b2 ≠ G.next := by omega
                have hcb : ∀ o, G.cell b2 o = B2.at_ o := fun o => by simp only [Heap.cell, hB2]
                rw [hgl] at hres
                simp at hres
                by_cases hle : pg ≤ x1
                · rw [if_pos hle] at hres
                  rw [← hres]
                  simp [c_ref1_one_l19, h0, h1, h7, h6, hlt, e0, hg, valR, n1, w1, w2, w4, hn0', hmn, w5, nb, hcb, a0, hle, oneOut]
                  exact hE.trans (hE2 _ _)
                · rw [if_neg hle] at hres
                  simp [c_ref1_one_l19, h0, h1, h7, h6, hlt, e0, hg, valR, n1, w1, w2, w4, hn0', hmn, w5, nb, hcb, a0, hle, hA]
                  exact ⟨rs.length - (k + 1), by omega, k + 1, rfl, hlt, (grow _ _ _ rfl).1, by simp, is ++ [(pg, d)], (grow _ _ _ rfl).2.1, (grow (rowBlk 0 []) none (rowBlk 0 []) rfl).2.2, hres⟩
            · rw [hm4] at m0
              rcases List.eq_nil_or_concat is with hnil | ⟨ini, x, hcc⟩
              · exact absurd hnil (hI.some_ m0)
              · rw [← hm4] at m0
                rw [List.concat_eq_append] at hcc
                obtain ⟨x1, x2⟩ := x
                obtain ⟨b2, B2, hv2, hbE, hbn, hB2, hro2, hat, hup⟩ := ho.blkOf encI_len (by rw [hcc]; simp)
                have hni : n = ini.length + 1 := by rw [← hn0, hcc]; simp
                have hx : is[ini.length]'(by omega) = (x1, x2) := by simp [hcc]
                have a0 := hat ini.length (by omega) 0 (by omega)
                have a1 := hat ini.length (by omega) 1 (by omega)
                rw [hx] at a0 a1
                simp at a0 a1
                rw [hn0] at hv2
                cases hv2
                have hgl : is.getLast? = some (x1, x2) := by rw [hcc]; simp
                have hdl : is.dropLast = ini := by rw [hcc]; simp
                have hmn : ini.length < n := by omega
                have m0p : 0 < m := by omega
                have w5 : IntKind.i64.wrap ((n : Int) - 1) = (ini.length : Int) := by rw [wrap_i64 (by omega) (by omega)]; omega
                obtain ⟨z, hz⟩ : ∃ z : Nat, z = m * 24 := ⟨_, rfl⟩
                have w6 : IntKind.i64.wrap ((m : Int) * 24) = (z : Int) := by rw [wrap_i64 (by omega) (by omega)]; omega
                rw [← hz] at hres
                have nb : b2 ≠ G.next := by omega
                have hcb : ∀ o, G.cell b2 o = B2.at_ o := fun o => by simp only [Heap.cell, hB2]
                have x2s := hI.size (x1, x2) (by rw [hcc]; simp)
                simp only at x2s
                have w7 : binV K.P .add 9 (.string x2) (.string d) = some (.string (x2 ++ d)) := binV_sadd _ _ _ _ (by omega)
                rw [hgl, hdl] at hres
                simp [m0] at hres
                have updo : ∀ B f, x1 = pg → Ext H (((G.add B).set G.next f).set b2 (some (B2.put (ini.length * 2 + 1) (.string (x2 ++ d))))) ∧ Own encI 2 H.next (((G.add B).set G.next f).set b2 (some (B2.put (ini.length * 2 + 1) (.string (x2 ++ d))))) (.slice (some ⟨b2, 0, none⟩) n (2 * n)) (ini ++ [(pg, x2 ++ d)]) ∧ OneInv (ini ++ [(pg, x2 ++ d)]) (k + 1) := fun B f hpg => by
                  subst hpg
                  refine ⟨(hE.trans (hE2 B f)).set hbE _, ?_, ⟨fun _ => by simp, by simp; omega, fun y hy => ?_⟩⟩
                  · obtain ⟨b3, B3, hv3, _, _, hB3, _, _, hup3⟩ := (ho.ext (hE2 B f)).blkOf encI_len (by rw [hcc]; simp)
                    rw [hn0] at hv3
                    cases hv3
                    rw [(hE2 B f).blk b2 hbn, hB2] at hB3
                    cases hB3
                    have hO := hup3 ini.length 1 (by omega) (by omega) (x1, x2 ++ d) (.string (x2 ++ d)) (fun r hr => by
                      rw [hx]; match r, hr with
                      | 0, _ => rfl
                      | 1, _ => rfl)
                    have hset : is.set ini.length (x1, x2 ++ d) = ini ++ [(x1, x2 ++ d)] := by rw [hcc]; simp
                    rw [hset] at hO
                    exact hO
                  · rcases List.mem_append.1 hy with hy | hy
                    · have := hI.size y (by rw [hcc]; exact List.mem_append_left _ hy); omega
                    · have e := List.mem_singleton.1 hy; subst e; show (x2 ++ d).size ≤ _; rw [size_append]; omega
                by_cases c5 : x1 = pg
                · by_cases c6 : d.size = 0
                  · simp [c5, c6] at hres
                    have c5' := c5.symm
                    simp [c_ref1_one_l19, h0, h1, h7, h6, hlt, e0, hg, valR, n1, w1, w2, w4, m0, m0p, m4', hmn, w5, w6, w7, nb, hcb, hB2, hro2, a0, a1, c5, c6]
                    exact ⟨rs.length - (k + 1), by omega, k + 1, rfl, hlt, (updo _ _ c5).1, by simp, ini ++ [(pg, x2 ++ d)], (updo _ _ c5).2.1, (updo (rowBlk 0 []) none c5).2.2, hres⟩
                  · by_cases c7 : x2.size = z
                    · simp [c5, c6, c7] at hres
                      simp [c_ref1_one_l19, h0, h1, h7, h6, hlt, e0, hg, valR, n1, w1, w2, w4, m0, m0p, m4', hmn, w5, w6, w7, nb, hcb, hB2, hro2, a0, a1, c5, c6, c7]
                      exact ⟨rs.length - (k + 1), by omega, k + 1, rfl, hlt, (updo _ _ c5).1, by simp, ini ++ [(pg, x2 ++ d)], (updo _ _ c5).2.1, (updo (rowBlk 0 []) none c5).2.2, hres⟩
                    · simp [c5, c6, c7] at hres
                      rw [← hres]
                      simp [c_ref1_one_l19, h0, h1, h7, h6, hlt, e0, hg, valR, n1, w1, w2, w4, m0, m0p, m4', hmn, w5, w6, w7, nb, hcb, a0, a1, c5, c6, c7, oneOut]
                      exact hE.trans (hE2 _ _)
                · simp [c5] at hres
                  rw [← hres]
                  have c5' : ¬ pg = x1 := fun e => c5 e.symm
                  simp [c_ref1_one_l19, h0, h1, h7, h6, hlt, e0, hg, valR, n1, w1, w2, w4, m0, m0p, m4', hmn, w5, w6, nb, hcb, a0, a1, c5, c5', oneOut]
                  exact hE.trans (hE2 _ _)
          · rw [if_neg c4] at hres
            rw [← hres]
            have c3' : t = 4 → ¬ m = 0 := fun h1 h2 => c3 ⟨h1, h2⟩
            by_cases t4 : t = 4
            · have := c3' t4
              subst t4
              simp [c_ref1_one_l19, h0, h1, h7, hlt, e0, hg, valR, n1, w1, w2, w4, oneOut, c4, this]
              exact hE.trans (hE2 _ _)
            · simp [c_ref1_one_l19, h0, h1, h7, hlt, e0, hg, valR, n1, w1, w2, w4, oneOut, c4, t4]
              exact hE.trans (hE2 _ _)
      · rw [if_neg (fun hh => c2 hh.2)] at hres
        rw [← hres]
        simp [c_ref1_one_l19, h0, h1, h7, hlt, e0, hg, valR, n1, w2, c2, oneOut]
        exact hE.trans (hE2 _ _)
    · rw [if_neg (fun hh => c1 hh.1)] at hres
      rw [← hres]
      simp [c_ref1_one_l19, h0, h1, h7, hlt, e0, hg, valR, n1, c1, oneOut]
      exact hE.trans (hE2 _ _)
  · obtain rfl : k = rs.length := by omega
    rw [List.drop_length] at hres
    rw [← hres]
    simp [c_ref1_one_l19, h0, h1, h7, oneGo, oneOut]
    exact hE
end Go.AM
