/- The law HeadRow: true. -/
import Derived.Test.YtiiliffoclejlaaR6Pb
namespace Go.AM
open Go.Proofs
set_option linter.unusedVariables false
set_option linter.unusedSimpArgs false
set_option maxRecDepth 100000
attribute [-simp] ByteArray.size_eq_zero_iff
theorem putP_inj {a b : ByteArray} (ha : a.size = 32) (hb : b.size = 32) (h : putP a = putP b) : a = b := by
  rw [← (getP_putP ha).1, h, (getP_putP hb).1]
theorem putP_back {b : ByteArray} (hb : b.size = 32) : (putP b).extract 32 64 = inv b := by
  rw [putP, if_pos hb]
  apply L_inj
  rw [L_extract, L_append, List.drop_left' (by rw [L_length, hb])]
  exact List.take_of_length_le (by rw [L_length, inv_size, hb]; decide)
theorem inv_inj {a b : ByteArray} (h : inv a = inv b) : a = b := by
  apply L_inj
  have := congrArg L h
  rw [L_inv, L_inv] at this
  have e := congrArg (List.map fun x : UInt8 => 255 - x) this
  rw [List.map_map, List.map_map] at e
  have f : ((fun x : UInt8 => 255 - x) ∘ fun b => 255 - b) = id := by
    funext x
    show 255 - (255 - x) = x
    have h := x.toNat_lt
    apply UInt8.toNat_inj.1
    rw [UInt8.toNat_sub, UInt8.toNat_sub]
    simp
    omega
  rwa [f, List.map_id, List.map_id] at e
/-- a sector half written: the new one, the old one, or none -/
theorem torn_pair {a b : ByteArray} (ha : a.size = 32) (hb : b.size = 32) {c : Nat} (hc : c ≤ 64) {t : ByteArray} (ht : t = (putP a).extract 0 c ++ (putP b).extract c 64) : t = putP a ∨ t = putP b ∨ getP t = ⟨#[]⟩ ∧ getPE t = 100 := by
  by_cases h0 : getPE t = 0
  · obtain ⟨u, hu, e⟩ := (getPE_iff t).1 h0
    have za := putP_size ha; have zb := putP_size hb; have zu := putP_size hu
    by_cases hc2 : c ≤ 32
    · refine .inr (.inl ?_)
      have e1 : t.extract 32 64 = (putP b).extract 32 64 := by
        apply L_inj
        rw [L_extract, L_extract, ht, L_append, L_extract, L_extract, List.drop_append, List.drop_of_length_le (by simp; omega), List.nil_append, List.drop_take, List.drop_drop, List.take_take]
        simp only [List.length_take, List.length_drop, L_length, za]
        rw [show min (c - 0) (64 - 0) = c by omega, show c + (32 - c) = 32 by omega, show min (64 - 32) (64 - c - (32 - c)) = 64 - 32 by omega]
      rw [e, putP_back hu, putP_back hb] at e1
      rw [e, inv_inj e1]
    · refine .inl ?_
      have e1 : t.extract 0 32 = (putP a).extract 0 32 := by
        apply L_inj
        rw [L_extract, L_extract, ht, L_append, L_extract, List.drop_zero, List.drop_zero, List.take_append_of_le_length (by simp [L_length, za]; omega), List.take_take]
        rw [show min (32 - 0) (c - 0) = 32 - 0 by omega]
      rw [e, putP, if_pos hu, putP, if_pos ha, ext_left hu, ext_left ha] at e1
      rw [e, e1]
  · refine .inr (.inr ⟨?_, (getPE_two t).resolve_left h0⟩)
    rw [getPE] at h0
    rw [getP]
    split at h0
    · exact absurd rfl h0
    · rename_i h; exact if_neg h
theorem hdOf_none {t : ByteArray} (h : getP t = ⟨#[]⟩) : hdOf t = (0, 0, 500) := by
  rw [hdOf, h]; kernel_rfl
theorem awake5_ok (H : Heap) : call K f_law5_awake [] H = some (.bool true, H) := by
  refine of_wpf (open_pure rfl fc_law5_awake rfl (Nat.le_of_ble_eq_true rfl) ?_)
  have m : hdMay 1 258 := by decide
  have e1 : putH 1 258 = headOf 1 258 := if_pos m
  have e2 : putHE 1 258 = 0 := if_pos m
  have e3 : getH (headOf 1 258) = (1, 258, 0) := getH_headOf m
  have e4 : putP (headOf 1 258) = putP (headOf 1 258) := rfl
  have g1 : ∀ H, call K f_head_Get [.string (headOf 1 258)] H = some (.tuple #[.agg #[.int .i64 1, .int .i64 258], .int .i64 0], H) := fun H => by rw [hget_ok, e3]; rfl
  have z : hdOf ⟨#[]⟩ = (0, 0, 500) := hdOf_none rfl
  have b1 : ∀ H, call K f_head_Best [.string ⟨#[]⟩, .string (putP (headOf 1 258))] H = some (.tuple #[.agg #[.int .i64 1, .int .i64 258], .int .i64 0], H) := fun H => by
    rw [hbest_ok, bestH, z, hdOf_put m]; rfl
  have b2 : ∀ H, call K f_head_Best [.string ⟨#[]⟩, .string ⟨#[]⟩] H = some (.tuple #[.agg #[.int .i64 0, .int .i64 0], .int .i64 501], H) := fun H => by
    rw [hbest_ok, bestH, z]; rfl
  have e5 : putHE 0 0 = 500 := by decide
  have sz := headOf_size 1 258
  have a1 : slsV (headOf 1 258) none (some (.int .i64 12)) = some (.string ((headOf 1 258).extract 0 12)) := by simp [slsV, bound, natOf_int, sz]
  have a2 : (headOf 1 258).extract 0 12 = ⟨#[99, 114, 121, 111, 0, 0, 0, 1, 0, 0, 1, 2]⟩ := by kernel_rfl
  simp [e1, e2, g1, b1, b2, e5, sz, a1, a2, cellsEq, m]
/-- the sector that a head is laid down as -/
def hsec (st : Int) (j : Nat) : ByteArray := putP (headOf (j : Int) (st + j))
def slotV (st : Int) (i p : Nat) : ByteArray := if i ≤ p then ⟨#[]⟩ else hsec st (if (i - 1) % 2 = p then i - 1 else i - 2)
theorem slotV_same (st : Int) (i p : Nat) (h : i % 2 = p) : slotV st (i + 1) p = hsec st i := by
  unfold slotV
  rw [if_neg (by omega), Nat.add_sub_cancel, if_pos h]
theorem slotV_other (st : Int) (i p : Nat) (h : i % 2 ≠ p) (hp : p < 2) : slotV st (i + 1) p = slotV st i p := by
  unfold slotV
  by_cases h0 : i ≤ p
  · rw [if_pos h0, if_pos (by omega)]
  · rw [if_neg h0, if_neg (by omega), Nat.add_sub_cancel, if_neg h, if_pos (by omega)]
    congr 1
theorem hsec_size (st : Int) (j : Nat) : (hsec st j).size = 64 := putP_size (headOf_size _ _)
theorem and1 (x : Int) : bits .and .i64 x 1 = x % 2 := and_mask x 1 (by decide)
theorem and15 (x : Int) : bits .and .i64 x 15 = x % 16 := and_mask x 4 (by decide)
/-- what the last round leaves: the last head, or the one ahead of it -/
def RowEnd (st : Int) (k : Nat) (x y : ByteArray) : Prop := ∃ n : Int, (n = k ∨ n = (k : Int) - 1) ∧ bestH x y = (n, st + n, 0)
theorem bestX_hi {n m s t : Int} (h : m ≤ n) : bestX (n, s, 0) (m, t, 0) = (n, s, 0) := by unfold bestX; simp [h]
theorem bestX_lo {n m s t : Int} (h : n < m) : bestX (n, s, 0) (m, t, 0) = (m, t, 0) := by
  have : ¬ m ≤ n := by omega
  unfold bestX; simp [this]
theorem bestX_l {n s : Int} : bestX (n, s, 0) (0, 0, 500) = (n, s, 0) := by unfold bestX; simp
theorem bestX_r {n s : Int} : bestX (0, 0, 500) (n, s, 0) = (n, s, 0) := by unfold bestX; simp
theorem last_best {st : Int} (hst : 1 ≤ st ∧ st ≤ 65536) {k : Nat} (hk : 1 ≤ k ∧ k ≤ 16) {x : ByteArray} (hx : hdOf x = ((k : Int), st + k, 0) ∨ 2 ≤ k ∧ (hdOf x = (((k - 2 : Nat) : Int), st + (k - 2 : Nat), 0) ∨ hdOf x = (0, 0, 500))) :
    RowEnd st k x (hsec st (k - 1)) ∧ RowEnd st k (hsec st (k - 1)) x := by
  have ho : hdOf (hsec st (k - 1)) = (((k - 1 : Nat) : Int), st + (k - 1 : Nat), 0) := hdOf_put ⟨by omega, by omega⟩
  have e : ((k - 1 : Nat) : Int) = (k : Int) - 1 := by omega
  unfold RowEnd bestH
  rw [ho]
  rcases hx with hx | ⟨h2, hx | hx⟩
  · rw [hx]
    exact ⟨⟨k, .inl rfl, bestX_hi (by omega)⟩, ⟨k, .inl rfl, bestX_lo (by omega)⟩⟩
  · rw [hx]
    exact ⟨⟨(k : Int) - 1, .inr rfl, by rw [bestX_lo (by omega), e]⟩, ⟨(k : Int) - 1, .inr rfl, by rw [bestX_hi (by omega), e]⟩⟩
  · rw [hx]
    exact ⟨⟨(k : Int) - 1, .inr rfl, by rw [bestX_r, e]⟩, ⟨(k : Int) - 1, .inr rfl, by rw [bestX_l, e]⟩⟩
theorem headRow_law (many at_ start : Int) (H : Heap) : call K f_law5_HeadRow [.int .i64 many, .int .i64 at_, .int .i64 start] H = some (.bool true, H) := by
  refine of_wpf (open_pure rfl fc_law5_HeadRow rfl (Nat.le_of_ble_eq_true rfl) ?_)
  obtain ⟨c, hc, hrem⟩ := umod at_ 65 (by omega) (by omega)
  have hrem' : ∀ t, binV K.P .rem t (.int .u64 (IntKind.u64.wrap at_)) (.int .u64 65) = some (.int .u64 (c : Int)) := fun t => hrem
  have wc : IntKind.i64.wrap (c : Int) = c := wrap_i64 (by omega) (by omega)
  obtain ⟨k, hk, hk1⟩ : ∃ k : Nat, IntKind.i64.wrap (1 + bits .and .i64 many 15) = (k : Int) ∧ 1 ≤ k ∧ k ≤ 16 := by
    refine ⟨(1 + many % 16).toNat, ?_, by omega, by omega⟩
    rw [and15, wrap_i64 (by omega) (by omega)]; omega
  obtain ⟨st, hst, hst1⟩ : ∃ st : Int, IntKind.i64.wrap (1 + bits .and .i64 start 65535) = st ∧ 1 ≤ st ∧ st ≤ 65536 := by
    refine ⟨_, rfl, ?_⟩
    rw [and65535, wrap_i64 (by omega) (by omega)]; omega
  simp [awake5_ok, hk]
  refine wp_nxt (wp_for (fun d e G => ∃ (i : Nat) (B : Blk) (x y : ByteArray), d = k + 1 - i ∧ i ≤ k + 1 ∧ G.next = H.next + 1 ∧ G.blk H.next = some B ∧ B.ro = false ∧ B.at_ 0 = some (.string x) ∧ B.at_ 1 = some (.string y) ∧
    (i ≤ k → x = slotV st i 0 ∧ y = slotV st i 1) ∧ (i = k + 1 → RowEnd st k x y) ∧ e 1 = .int .i64 at_ ∧ e 2 = .int .i64 start ∧ e 7 = .int .i64 (k : Int) ∧ e 8 = .pointer (some ⟨H.next, 0, none⟩) ∧ e 9 = .int .i64 (i : Int)) (k + 1)
    ⟨0, rowBlk 2 [.string ⟨#[]⟩, .string ⟨#[]⟩], ⟨#[]⟩, ⟨#[]⟩, by simp, by simp, by simp, by simp, by simp, by simp, by simp, fun _ => ⟨rfl, rfl⟩, by simp, by simp, by simp, by simp, by simp [ptr], by simp⟩ ?_)
  rintro d e G ⟨i, B, x, y, rfl, hi, hn, hB, hro, hx, hy, hs, hend, h1, h2, h7, h8, h9⟩
  have hcb : ∀ o, G.cell H.next o = B.at_ o := fun o => by simp only [Heap.cell, hB]
  by_cases hle : i ≤ k
  · have w1 : (i : Int) ≤ k := by omega
    have w2 : IntKind.i64.wrap (st + (i : Int)) = st + i := wrap_i64 (by omega) (by omega)
    have w3 : IntKind.i64.wrap ((i : Int) + 1) = (i : Int) + 1 := wrap_i64 (by omega) (by omega)
    have m : hdMay (i : Int) (st + i) := ⟨by omega, by omega⟩
    have e1 : putH (i : Int) (st + i) = headOf (i : Int) (st + i) := if_pos m
    have e2 : putHE (i : Int) (st + i) = 0 := if_pos m
    have e3 : putP (headOf (i : Int) (st + i)) = hsec st i := rfl
    have e4 : ((hsec st i).size : Int) = 64 := by rw [hsec_size]; rfl
    have ei : bits .and .i64 (i : Int) 1 = ((i % 2 : Nat) : Int) := by rw [and1]; omega
    obtain ⟨p, hp, hp2⟩ : ∃ p, i % 2 = p ∧ p < 2 := ⟨_, rfl, by omega⟩
    rw [hp] at ei
    obtain ⟨rfl, rfl⟩ := hs hle
    have hat : B.at_ p = some (.string (slotV st i p)) := by
      rcases p with _ | _ | p
      · exact hx
      · exact hy
      · omega
    by_cases hlt : i < k
    · have w4 : ¬ (i : Int) = k := by omega
      have w5 : i ≠ k := by omega
      simp [c_law5_HeadRow_l16, h1, h2, h7, h8, h9, w1, hle, hst, w2, w3, e1, e2, e3, e4, w4, w5, ei, hp2, hB, hro, hcb, hat]
      refine ⟨k + 1 - (i + 1), by omega, i + 1, rfl, by omega, hn, slotV st (i + 1) 0, ?_, slotV st (i + 1) 1, ?_, fun _ => ⟨rfl, rfl⟩, fun h => by omega, by omega⟩
      · by_cases h0 : 0 = p
        · rw [if_pos h0, slotV_same st i 0 (by omega)]
        · rw [if_neg h0, slotV_other st i 0 (by omega) (by omega), hx]
      · by_cases h0 : 1 = p
        · rw [if_pos h0, slotV_same st i 1 (by omega)]
        · rw [if_neg h0, slotV_other st i 1 (by omega) (by omega), hy]
    · obtain rfl : i = k := by omega
      have ho : ∀ q, q < 2 → q ≠ p → slotV st i q = hsec st (i - 1) := fun q hq hqp => by
        unfold slotV; rw [if_neg (by omega), if_pos (by omega)]
      have fin : ∀ X : ByteArray, (hdOf X = ((i : Int), st + i, 0) ∨ 2 ≤ i ∧ (hdOf X = (((i - 2 : Nat) : Int), st + (i - 2 : Nat), 0) ∨ hdOf X = (0, 0, 500))) → ∃ x0, (if 0 = p then some (Value.string X) else B.at_ 0) = some (.string x0) ∧ ∃ x1, (if 1 = p then some (Value.string X) else B.at_ 1) = some (.string x1) ∧ RowEnd st i x0 x1 := fun X hX => by
        obtain ⟨l1, l2⟩ := last_best hst1 hk1 hX
        by_cases h0 : p = 0
        · subst h0
          exact ⟨X, if_pos rfl, hsec st (i - 1), by rw [if_neg (by omega), hy, ho 1 (by omega) (by omega)], l1⟩
        · have h1 : p = 1 := by omega
          subst h1
          exact ⟨hsec st (i - 1), by rw [if_neg (by omega), hx, ho 0 (by omega) (by omega)], X, if_pos rfl, l2⟩
      have hself : hdOf (hsec st i) = ((i : Int), st + i, 0) := hdOf_put m
      by_cases h2k : 2 ≤ i
      · have es : slotV st i p = hsec st (i - 2) := by unfold slotV; rw [if_neg (by omega), if_neg (by omega)]
        rw [es] at hat
        have ez : (hsec st (i - 2)).size = 64 := hsec_size _ _
        have ez2 : (hsec st i).size = 64 := hsec_size _ _
        have a1 : slsV (hsec st i) none (some (.int .i64 (c : Int))) = some (.string ((hsec st i).extract 0 c)) := by
          have : c ≤ 64 := by omega
          simp [slsV, bound, ez2, this]
        have a2 : slsV (hsec st (i - 2)) (some (.int .i64 (c : Int))) none = some (.string ((hsec st (i - 2)).extract c 64)) := by
          have : c ≤ 64 := by omega
          simp [slsV, bound, ez, this]
        have a3 : binV K.P .add tyStr (.string ((hsec st i).extract 0 c)) (.string ((hsec st (i - 2)).extract c 64)) = some (.string ((hsec st i).extract 0 c ++ (hsec st (i - 2)).extract c 64)) := binV_sadd _ _ _ _ (by rw [size_extract, size_extract, ez, ez2]; omega)
        have ht := torn_pair (a := headOf (i : Int) (st + i)) (b := headOf ((i - 2 : Nat) : Int) (st + (i - 2 : Nat))) (headOf_size _ _) (headOf_size _ _) (c := c) (by omega) (t := (hsec st i).extract 0 c ++ (hsec st (i - 2)).extract c 64) rfl
        generalize (hsec st i).extract 0 c ++ (hsec st (i - 2)).extract c 64 = X at a3 ht
        have hX : hdOf X = ((i : Int), st + i, 0) ∨ 2 ≤ i ∧ (hdOf X = (((i - 2 : Nat) : Int), st + (i - 2 : Nat), 0) ∨ hdOf X = (0, 0, 500)) := by
          rcases ht with rfl | rfl | ht
          · exact .inl hself
          · exact .inr ⟨h2k, .inl (hdOf_put ⟨by omega, by omega⟩)⟩
          · exact .inr ⟨h2k, .inr (hdOf_none ht.1)⟩
        obtain ⟨x0, f0, x1, f1, hE⟩ := fin X hX
        simp [c_law5_HeadRow_l16, h1, h2, h7, h8, h9, hst, w2, w3, e1, e2, e3, e4, ei, hp2, hB, hro, hcb, hat, hrem', wc, a1, a2, a3, ez]
        exact ⟨i + 1, by omega, by omega, hn, x0, f0, x1, f1, fun h => by omega, fun _ => hE, by omega⟩
      · obtain rfl : i = 1 := by omega
        obtain rfl : p = 1 := by omega
        have es : slotV st 1 1 = ⟨#[]⟩ := rfl
        rw [es] at hat
        obtain ⟨x0, f0, x1, f1, hE⟩ := fin (hsec st 1) (.inl hself)
        have ei' : bits .and .i64 1 1 = 1 := by decide
        simp at w2 e1 e2 e3 e4 f0 f1 h9 h7
        simp [c_law5_HeadRow_l16, h1, h2, h7, h8, h9, hst, w2, w3, e1, e2, e3, e4, ei', hp2, hB, hro, hcb, hat]
        exact ⟨2, rfl, by omega, hn, slotV st 1 0, hx, fun h => by omega, fun _ => (last_best hst1 hk1 (.inl hself)).2, by decide⟩
  · obtain rfl : i = k + 1 := by omega
    obtain ⟨n, hn2, hb⟩ := hend rfl
    have c1 : ∀ H, call K f_head_Best [.string x, .string y] H = some (.tuple #[.agg #[.int .i64 n, .int .i64 (st + n)], .int .i64 0], H) := fun H => by rw [hbest_ok, hb]; rfl
    have w1 : ¬ ((k + 1 : Nat) : Int) ≤ k := by omega
    have w2 : IntKind.i64.wrap ((k : Int) - 1) = (k : Int) - 1 := wrap_i64 (by omega) (by omega)
    have w3 : IntKind.i64.wrap (st + n) = st + n := wrap_i64 (by omega) (by omega)
    have w4 : ¬ ((k : Int) + 1 ≤ k) := by omega
    rcases hn2 with rfl | rfl
    · simp [c_law5_HeadRow_l16, h7, h8, h9, w4, hcb, hx, hy, c1, hn, h2, hst, w3]
    · have w5 : ¬ ((k : Int) - 1 = k) := by omega
      simp [c_law5_HeadRow_l16, h7, h8, h9, w4, hcb, hx, hy, c1, hn, h2, hst, w2, w3, w5]
end Go.AM
