/- Contracts: the document's Scan. -/
import Derived.Test.YteamlnogjjgdoaaR3J
namespace Go.AM
open Go.Proofs
set_option linter.unusedVariables false
set_option linter.unusedSimpArgs false
set_option maxRecDepth 100000
attribute [-simp] ByteArray.size_eq_zero_iff
def EszOk (H : Heap) (sz : Nat) (v : Value) : Prop := ∀ b o n c, v = .slice (some ⟨b, o, none⟩) n c → n = 0 ∨ H.eszIs b sz = true
theorem EszOk.ext {H H' : Heap} {sz : Nat} {b o n c : Nat} (h : EszOk H sz (.slice (some ⟨b, o, none⟩) n c)) (hb : b < H.next) (he : Ext H H') : EszOk H' sz (.slice (some ⟨b, o, none⟩) n c) := by
  intro b' o' n' c' e
  cases e
  refine (h _ _ _ _ rfl).imp id fun h => ?_
  unfold Heap.eszIs at h ⊢
  rw [he.blk _ hb]; exact h
theorem Rows.tail {α : Type} {enc : α → List Value} {sz : Nat} {H : Heap} {v : Value} {xs : List α} (h : Rows enc sz H v xs) (hz : EszOk H sz v) (k : Nat) (hk : k ≤ xs.length) : ∃ u, slvV H sz v (some (.int .i64 (k : Int))) none none = some u ∧ Rows enc sz H u (xs.drop k) := by
  obtain ⟨hl, p, c, rfl, hp⟩ := h
  rcases hp with ⟨rfl, rfl, rfl⟩ | ⟨b, o, rfl, h2, h3, h4⟩
  · obtain rfl : k = 0 := by simpa using hk
    exact ⟨.slice none 0 0, rfl, Rows.nil⟩
  · have hzz : (k == 0 || H.eszIs b sz) = true := by
      rcases hz _ _ _ _ rfl with h0 | h0
      · have : k = 0 := by omega
        simp [this]
      · simp [h0]
    refine ⟨.slice (some ⟨b, o + k * sz, none⟩) (xs.length - k) (2 * (c / 2 - k) + c % 2), ?_, ?_⟩
    · simp [slvV, bound, hk, h3, hzz]
    · refine ⟨by rw [List.length_drop]; omega, _, _, by rw [List.length_drop], .inr ⟨b, _, rfl, h2, by rw [List.length_drop]; omega, fun i hi j hj => ?_⟩⟩
      rw [List.length_drop] at hi
      have := h4 (k + i) (by omega) j hj
      rw [show o + (k + i) * sz + j = o + k * sz + i * sz + j by rw [Nat.add_mul]; omega] at this
      rw [this, List.getElem_drop]
theorem rscan_ok (v : Value) (rs : List ByteArray) (seq : Int) (H : Heap) (h : Strs H v rs) (hz : EszOk H 1 v) :
    wpf (call K f_ref1_Scan [v, .int .i64 seq] H) fun r H' => Ext H H' ∧ ∃ v', r = .tuple #[v', .int .i64 (scNext rs seq), .int .i64 (scUsed rs seq : Int), .int .i64 (scErr rs seq)] ∧ Txns H' v' (scTxns rs seq) := by
  obtain ⟨p, c, rfl⟩ := h.slice
  have hl := h.lim
  refine open_plain rfl fc_ref1_Scan rfl (Nat.le_of_ble_eq_true rfl) ?_
  have nilT : Txns H (.slice none 0 0) [] := ⟨[], Rows.nil, trivial⟩
  by_cases k2 : 1 ≤ seq ∧ seq ≤ 2147483647
  · by_cases k3 : rs.length ≤ 200
    · have hok : scOk rs seq := ⟨k2, k3⟩
      have k4 : ¬ (200 : Int) < (rs.length : Int) := by omega
      simp [k2, k4]
      refine wp_for (fun d e G => ∃ (a : Nat) (tss : List (List Img)) (vs : List Value) (D : Nat) (fl : Bool), d = rs.length - a ∧ a ≤ rs.length ∧ Ext H G ∧ e 0 = .slice p rs.length c ∧ e 1 = .int .i64 seq ∧ e 9 = .int .i64 (a : Int) ∧ H.next ≤ D ∧ D ≤ G.next ∧ Own encV 1 D G (e 8) vs ∧ All2 (fun v xs => Own encI 2 H.next G v xs ∧ BelowB v D) vs tss ∧ tss.length ≤ a ∧ scanGo seq ⟨tss, a, [], 0, fl⟩ a (rs.drop a) = scRes rs seq) rs.length ⟨0, [], [], H.next, false, by simp, by simp, Ext.refl _, by simp, by simp, by simp, Nat.le_refl _, Nat.le_refl _, by simp [Own.nil], trivial, by simp, rfl⟩ ?_
      rintro d e G ⟨a, tss, vs, D, fl, rfl, ha, hE, h0, h1, h9, hD1, hD2, ho, hA, htl, hres⟩
      have hzG : EszOk G 1 (.slice p rs.length c) := by
        intro b' o' n' c' e'
        cases e'
        rcases h.is with ⟨p2, c2, e2, hp⟩
        cases e2
        rcases hp with ⟨hh, _⟩ | ⟨b3, o3, e3, hb3, _⟩
        · cases hh
        · cases e3
          exact hz.ext hb3 hE _ _ _ _ rfl
      obtain ⟨u, hu, hur⟩ := (h.ext hE).tail hzG a ha
      have w1 : IntKind.i64.wrap (seq + (a : Int)) = seq + (a : Int) := wrap_i64 (by omega) (by omega)
      obtain ⟨r, G1, c1, E1, ho1⟩ := one_ok u (rs.drop a) (seq + (a : Int)) G hur (by omega) (by rw [List.length_drop]; omega)
      obtain ⟨g1, g2⟩ := agree (seq := seq) (a := a) (rs.drop a) ⟨tss, a, [], 0, fl⟩ [] 0 ⟨rfl, rfl, fun hh => absurd rfl hh, fun hh => absurd rfl hh⟩
      rw [Nat.add_zero, hres] at g1 g2
      cases hone : oneGo (seq + (a : Int)) [] 0 (rs.drop a) with
      | none =>
        rw [hone] at ho1
        simp only [oneOut] at ho1
        subst ho1
        obtain ⟨z1, z2⟩ := g2 hone
        obtain ⟨q, d, h8, _⟩ := ho.slc
        simp only at z1 z2
        have n4 : scNext rs seq = seq + a := by rw [scNext, if_pos hok, z2]
        have u4 : scUsed rs seq = a := by rw [scUsed, if_pos hok, z2]
        have e4 : scErr rs seq = 0 := by rw [scErr, if_pos hok]
        have t4 : scTxns rs seq = tss := by rw [scTxns, if_pos hok, z1]
        rw [h8] at ho
        simp [c_ref1_Scan_l10, h0, h1, h9, hu, w1, c1, h8, n4, u4, e4, t4]
        exact ⟨hE.trans E1, vs, (ho.rows encV_len).ext E1, hA.mono fun v xs hx => (hx.1.rows encI_len).ext E1⟩
      | some x =>
        obtain ⟨is, n⟩ := x
        rw [hone] at ho1
        simp only [oneOut] at ho1
        obtain ⟨v2, rfl, o2⟩ := ho1
        obtain ⟨j, fl2, e1, e2, e3⟩ := g1 is n hone
        rw [List.length_drop] at e2
        have hn1 := E1.next
        have hvl := hA.length
        obtain ⟨q, d, hq2, _⟩ := o2.slc
        subst hq2
        have nn : ¬ ((n : Int) = 0) := by omega
        have nn' : ¬ n = 0 := by omega
        have w2 : IntKind.i64.wrap ((a : Int) + (n : Int)) = ((a + n : Nat) : Int) := by rw [wrap_i64 (by omega) (by omega)]; omega
        simp at w2
        have hA2 : ∀ X, appV (G1.add X) 1 24 1 (e 8) [.slice q is.length d] = some (.slice (some ⟨G1.next + 1, 0, none⟩) (vs.length + 1) (2 * (vs.length + 1)), (killB (e 8) (G1.add X)).add (rowBlk 1 ((vs ++ [Value.slice q is.length d]).flatMap encV))) := fun X => by
          rw [((ho.ext E1).ext ((Ext.refl _).add X)).app encV_len _ (by omega) rfl (by omega) (by omega)]
          simp
        simp [c_ref1_Scan_l10, h0, h1, h9, hu, w1, c1, nn, nn', w2, hA2]
        have fr : ∀ X Y u us m, Own encI 2 H.next G1 u us → BelowB u G1.next → (∀ b, b < G1.next → ¬ NotIn u b → NotIn (e 8) b) → m = G1.next → Own encI 2 H.next ((killB (e 8) (G1.add X)).add Y) u us ∧ BelowB u m := fun X Y u us m h1 h2 h3 hm => by
          subst hm
          refine ⟨(Own.frame h1 (H' := killB (e 8) (G1.add X)) (by simp) fun b hb hb2 hb3 => ?_).ext ((Ext.refl _).add _), h2⟩
          rw [blk_killB (h3 b hb2 hb3), blk_add, if_neg (by omega)]
        have hz := Own.new' (enc := encV) (sz := 1) (n0 := G1.next) (b := G1.next + 1) (H := killB (e 8) (G1.add (rowBlk 1 [.slice q is.length d]))) (xs := vs ++ [.slice q is.length d]) (by simp) (by omega) (by simp; omega) rfl
        have hrest : scanGo seq ⟨tss ++ [is], a + n, [], 0, fl2⟩ (a + n) (rs.drop (a + n)) = scRes rs seq := by
          rw [e3, List.drop_drop, show a + (j + 1) = a + n by omega]
        refine ⟨rs.length - (a + n), by omega, a + n, rfl, by omega, ((ho.ext E1).ext_kill hD1 ((hE.trans E1).add _)).add _, by simp, tss ++ [is], vs ++ [.slice q is.length d], G1.next, by omega, by omega, by simpa using hz, ?_, by simp; omega, ?_⟩
        · refine All2.append ?_ ⟨?_, trivial⟩
          · exact hA.mono fun u us hx => fr _ _ u us _ (hx.1.ext E1) (hx.2.mono (by omega)) (fun b hb hb2 => Classical.byContradiction fun hb3 => hb2 (hx.2.notIn (Nat.le_of_not_lt fun hb4 => hb3 (ho.notIn hb4)))) rfl
          · exact fr _ _ _ is _ (o2.low (by omega)) o2.below (fun b hb hb2 => ho.below.notIn (Nat.le_of_not_lt fun hb4 => hb2 (o2.notIn hb4))) rfl
        · cases fl2
          · exact .inl hrest
          · exact .inr hrest
    · have hok : ¬ scOk rs seq := fun hk => k3 hk.2
      have k4 : (200 : Int) < (rs.length : Int) := by omega
      simp [k2, k4, scNext, scUsed, scErr, scTxns, hok, Ext.refl, nilT]
  · have hok : ¬ scOk rs seq := fun hk => k2 hk.1
    simp [k2, scNext, scUsed, scErr, scTxns, hok, Ext.refl, nilT]
end Go.AM
