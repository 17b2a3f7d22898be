/- The law LogEmpty: true. -/
import Derived.Test.YteamlnogjjgdoaaR3LogParts
namespace Go.AM
open Go.Proofs
set_option linter.unusedVariables false
set_option linter.unusedSimpArgs false
set_option maxRecDepth 100000
attribute [-simp] ByteArray.size_eq_zero_iff
/-- k commits of nothing. -/
def emptyTx : Nat → List ByteArray
  | 0 => []
  | k + 1 => emptyTx k ++ (mkRecs [] (1 + (k : Int))).map txtR
theorem mkOk_nil {k : Nat} (h : k ≤ 1000) : MkOk [] (1 + (k : Int)) := ⟨rfl, by omega, by simp; omega⟩
theorem emptyTx_len : ∀ k, k ≤ 1000 → (emptyTx k).length = k
  | 0, _ => rfl
  | k + 1, h => by rw [emptyTx, List.length_append, emptyTx_len k (by omega), List.length_map, mkRecs_len (mkOk_nil (by omega))]; simp
theorem scan_empty : ∀ (k : Nat) (ts : List ByteArray), k ≤ 1000 → ∃ fl, scanGo 1 sc0 0 (emptyTx k ++ ts) = scanGo 1 ⟨List.replicate k [], k, [], 0, fl⟩ k ts
  | 0, ts, _ => ⟨false, rfl⟩
  | k + 1, ts, h => by
    obtain ⟨fl, e⟩ := scan_empty k ((mkRecs [] (1 + (k : Int))).map txtR ++ ts) (by omega)
    obtain ⟨fl2, e2⟩ := scanGo_txn (seq := 1) (S := ⟨List.replicate k [], k, [], 0, fl⟩) (i := k) (ts := ts) rfl rfl rfl (mkOk_nil (k := k) (by omega))
    refine ⟨fl2, ?_⟩
    rw [emptyTx, List.append_assoc, e, e2]
    simp [List.replicate_succ']
theorem OwnT.len {n0 H v xss} (h : OwnT n0 H v xss) : lenO v = some (.int .i64 (xss.length : Int)) := by
  obtain ⟨vs, D, _, h1, h2⟩ := h
  rw [h1.len, h2.length]
theorem encS_one (x : ByteArray) : (encS x).all Value.oneCell' = true := rfl
theorem umod (x : Int) (m : Nat) (h0 : 0 < m) (h1 : m ≤ 1000000) : ∃ k : Nat, k < m ∧ binV K.P .rem 47 (.int .u64 (IntKind.u64.wrap x)) (.int .u64 (m : Int)) = some (.int .u64 (k : Int)) := by
  have hw : IntKind.u64.wrap x = x % 18446744073709551616 := by simp [IntKind.wrap, IntKind.bits, IntKind.signed]
  refine ⟨((x % 18446744073709551616) % (m : Int)).toNat, ?_, ?_⟩
  · have := Int.emod_lt_of_pos (x % 18446744073709551616) (show (0 : Int) < m by omega)
    have := Int.emod_nonneg (x % 18446744073709551616) (show (m : Int) ≠ 0 by omega)
    omega
  · rw [binV_rem _ _ _ _ _ (by omega), hw, Int.tmod_eq_emod_of_nonneg (by omega)]
    congr 2
    have := Int.emod_nonneg (x % 18446744073709551616) (show (m : Int) ≠ 0 by omega)
    omega
theorem u64_nat (m : Nat) (h : m ≤ 1000000) : IntKind.u64.wrap (m : Int) = m := by simp [IntKind.wrap, IntKind.bits, IntKind.signed]; omega
/-- A slice's first elements. -/
theorem Own.cut {α : Type} {enc : α → List Value} {sz n0 : Nat} {H : Heap} {v : Value} {xs : List α} (h : Own enc sz n0 H v xs) (he : ∀ x, (enc x).length = sz) (k : Nat) (hk : k ≤ xs.length) : ∃ u, slvV H sz v none (some (.int .i64 (k : Int))) none = some u ∧ Rows enc sz H u (xs.take k) := by
  rcases h.is with ⟨rfl, rfl⟩ | ⟨b, B, rfl, h2, h3, h4, h5, h6, h7⟩
  · obtain rfl : k = 0 := by simpa using hk
    exact ⟨.slice none 0 0, rfl, Rows.nil⟩
  · refine ⟨.slice (some ⟨b, 0, none⟩) k (2 * xs.length), ?_, ?_⟩
    · simp [slvV, bound, hk]
    · have hr := h.rows he
      obtain ⟨hl, p, c, e, hp⟩ := hr
      cases e
      have hlen : (xs.take k).length = k := by rw [List.length_take]; omega
      refine ⟨by omega, some ⟨b, 0, none⟩, 2 * xs.length, by rw [hlen], .inr ⟨b, 0, rfl, h3, by omega, fun i hi j hj => ?_⟩⟩
      rcases hp with ⟨hn, _⟩ | ⟨b', o', e', _, _, h8⟩
      · cases hn
      · cases e'
        rw [h8 i (by omega) j hj]
        simp
theorem logEmpty_ok (va : Value) (xs : List Img) (many cut : Int) (H : Heap) (ha : Imgs H va xs) : call K f_law4_LogEmpty [.int .i64 many, va, .int .i64 cut] H = some (.bool true, H) := by
  obtain ⟨p, c, rfl⟩ := ha.slice
  refine of_wpf (open_pure rfl fc_law4_LogEmpty rfl (Nat.le_of_ble_eq_true rfl) ?_)
  obtain ⟨k, hk, hk7⟩ : ∃ k : Nat, bits .and .i64 many 7 = (k : Int) ∧ k ≤ 7 := by
    rw [and7]; exact ⟨(many % 8).toNat, by omega, by omega⟩
  simp [awake_ok, hk]
  refine wp_nxt (wp_for (fun d e G => ∃ i : Nat, d = k - i ∧ i ≤ k ∧ Ext H.roAll G ∧ e 1 = .slice p xs.length c ∧ e 2 = .int .i64 cut ∧ e 7 = .int .i64 (k : Int) ∧ e 9 = .int .i64 (i : Int) ∧ Own encS 1 H.next G (e 8) (emptyTx i)) k ⟨0, by simp [Ext.refl, Own.nil, emptyTx]⟩ ?_)
  rintro d e G ⟨i, rfl, hi, hE, h1, h2, h7, h9, ho⟩
  by_cases hlt : i < k
  · have w1 : IntKind.i64.wrap (1 + (i : Int)) = 1 + (i : Int) := wrap_i64 (by omega) (by omega)
    obtain ⟨_, G1, c1, E1, v1, rfl, o1⟩ := make_ok (.slice none 0 0) [] (1 + (i : Int)) G Rows.nil
    have k1 := mkOk_nil (k := i) (by omega)
    have m1 : mkErr [] (1 + (i : Int)) = 0 := by rw [mkErr, if_pos k1]
    have hl1 := mkRecs_len k1
    obtain ⟨t2, G2, c2, E2, o2⟩ := texts_ok v1 _ G1 (o1.rows encR_len) (by rw [hl1]; simp)
    have hA := (ho.ext (E1.trans E2)).appR (o2.rows encS_len) encS_len encS_one (bytes := 16) (by simp [hl1]) (by rw [emptyTx_len i (by omega)]; simp [hl1]; omega) (by rw [emptyTx_len i (by omega)]; simp [hl1]; omega)
    have hn := hE.next
    have hn1 := E1.next
    have hn2 := E2.next
    have hz := Own.new' (enc := encS) (sz := 1) (n0 := H.next) (b := G2.next) (H := killB (e 8) G2) (xs := emptyTx (i + 1)) (by simp) (by simp at hn; omega) (by rw [emptyTx_len _ (by omega)]; omega) rfl
    rw [show emptyTx i ++ List.map txtR (mkRecs [] (1 + (i : Int))) = emptyTx (i + 1) from rfl] at hA
    simp [c_law4_LogEmpty_l12, h7, h9, hlt, w1, c1, m1, c2, hA]
    exact ⟨k - (i + 1), by omega, i + 1, rfl, hlt, ((ho.ext (E1.trans E2)).ext_kill (A := H.roAll) (Nat.le_refl _) (hE.trans (E1.trans E2))).add _, h1, h2, wrap_succ (by omega), hz⟩
  · obtain rfl : i = k := by omega
    have w1 : IntKind.i64.wrap (1 + (i : Int)) = 1 + (i : Int) := wrap_i64 (by omega) (by omega)
    obtain ⟨_, G1, c1, E1, v1, rfl, o1⟩ := make_ok _ xs (1 + (i : Int)) G (ha.roAll.ext hE)
    by_cases k1 : MkOk xs (1 + (i : Int))
    · have m1 : mkErr xs (1 + (i : Int)) = 0 := by rw [mkErr, if_pos k1]
      have hx := mkOk_len k1
      have hl1 := mkRecs_len k1
      obtain ⟨m, hm⟩ : ∃ m : Nat, m = 4 * xs.length + 1 := ⟨_, rfl⟩
      rw [← hm] at hl1
      have l1 := o1.len
      rw [hl1] at l1
      obtain ⟨t2, G2, c2, E2, o2⟩ := texts_ok v1 _ G1 (o1.rows encR_len) (by omega)
      obtain ⟨r, hr, hrem⟩ := umod cut m (by omega) (by omega)
      have wm := u64_nat m (by omega)
      have wr : IntKind.i64.wrap (r : Int) = r := wrap_i64 (by omega) (by omega)
      obtain ⟨u, hu, hur⟩ := o2.cut encS_len r (by simp [hl1]; omega)
      have hge : ¬ (m : Int) < 1 := by omega
      have hn := hE.next
      have hn1 := E1.next
      have hn2 := E2.next
      obtain ⟨v3, G3, c3, o3, E3⟩ := (ho.ext (E1.trans E2)).appAny (by simp at hn; omega) hur encS_len encS_one (bytes := 16) (by rw [emptyTx_len i (by omega)]; simp [hl1]; omega) (by rw [emptyTx_len i (by omega)]; simp [hl1]; omega)
      obtain ⟨_, G4, c4, E4, v4, rfl, o4⟩ := scan_ok v3 _ 1 G3 (o3.rows encS_len)
      have kS : scOk (emptyTx i ++ ((mkRecs xs (1 + (i : Int))).map txtR).take r) 1 := ⟨by omega, by rw [List.length_append, emptyTx_len i (by omega)]; simp [hl1]; omega⟩
      obtain ⟨fl, hs⟩ := scan_empty i (((mkRecs xs (1 + (i : Int))).map txtR).take r) (by omega)
      obtain ⟨hd, hu2⟩ := scanGo_cut (seq := 1) (S := ⟨List.replicate i [], i, [], 0, fl⟩) (i := i) (k := r) k1 (by omega)
      have z1 : (scRes (emptyTx i ++ ((mkRecs xs (1 + (i : Int))).map txtR).take r) 1).done = List.replicate i [] := by rw [scRes, hs, hd]
      have z2 : (scRes (emptyTx i ++ ((mkRecs xs (1 + (i : Int))).map txtR).take r) 1).used = i := by rw [scRes, hs, hu2]
      have n4 : scNext (emptyTx i ++ ((mkRecs xs (1 + (i : Int))).map txtR).take r) 1 = 1 + i := by rw [scNext, if_pos kS, z2]
      have u4 : scUsed (emptyTx i ++ ((mkRecs xs (1 + (i : Int))).map txtR).take r) 1 = i := by rw [scUsed, if_pos kS, z2]
      have e4 : scErr (emptyTx i ++ ((mkRecs xs (1 + (i : Int))).map txtR).take r) 1 = 0 := by rw [scErr, if_pos kS]
      have l4 := o4.len
      rw [scTxns, if_pos kS, z1, List.length_replicate] at l4
      simp [c_law4_LogEmpty_l12, h1, h2, h7, h9, w1, c1, m1, l1, hge, c2, wm, hrem, wr, hu, c3, c4, n4, u4, e4, l4]
    · have m1 : mkErr xs (1 + (i : Int)) = 400 := by rw [mkErr, if_neg k1]
      have l1 := o1.len
      rw [mkRecs, if_neg k1] at l1
      simp [c_law4_LogEmpty_l12, h1, h2, h7, h9, w1, c1, m1, l1]
end Go.AM
