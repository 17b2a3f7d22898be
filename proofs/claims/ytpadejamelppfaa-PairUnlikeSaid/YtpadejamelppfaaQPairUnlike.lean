/- The pure side of PairUnlike: for all texts the printed function of the law answers true. -/
import Derived.Test.YtpadejamelppfaaOPairUnlikex2
import Derived.Test.YtpadejamelppfaaGen
set_option linter.unusedSimpArgs false
set_option linter.unusedVariables false
namespace Go.Proofs.Ytpadejamelppfaa.Pure
open Go.RowKit Go.Proofs.Gen Go.Proofs.Ytpadejamelppfaa.PPairUnlike Go.Proofs.YtpadejamelppfaaW.PrintWords Go.Proofs.YtpadejamelppfaaW.PrintLast
/-- a byte turned -/
def cpl (b : UInt8) : UInt8 := 255 - b
theorem cpl_inj : Function.Injective cpl := by
  intro a b h
  unfold cpl at h
  have : (255 : UInt8) - (255 - a) = 255 - (255 - b) := by rw [h]
  have e : ∀ x : UInt8, (255 : UInt8) - (255 - x) = x := fun x => by
    have h1 : ∀ n : Fin 256, (255 : UInt8) - (255 - UInt8.ofNat n.val) = UInt8.ofNat n.val := by decide +kernel
    simpa using h1 ⟨x.toNat, x.toNat_lt⟩
  rwa [e, e] at this
theorem map_inj_cpl : ∀ {a b : List UInt8}, a.map cpl = b.map cpl → a = b
  | [], [], _ => rfl
  | [], _ :: _, h => by simp at h
  | _ :: _, [], h => by simp at h
  | a :: x, b :: y, h => by
    simp only [List.map_cons, List.cons.injEq] at h
    rw [cpl_inj h.1, map_inj_cpl h.2]
theorem cpl_toNat (b : UInt8) : UInt8.ofNat (255 - (b.toNat : Int)).toNat = cpl b := by
  have h1 : ∀ n : Fin 256, UInt8.ofNat (255 - (n.val : Int)).toNat = cpl (UInt8.ofNat n.val) := by decide +kernel
  simpa using h1 ⟨b.toNat, b.toNat_lt⟩
def pairOf (s : ByteArray) : ByteArray := strOfNums (ByteRow.acc s 32)
theorem map_id_bytes (l : List UInt8) : (l.map fun b => (b.toNat : Int)).map (fun n => UInt8.ofNat n.toNat) = l := by
  rw [List.map_map]
  conv => rhs; rw [← List.map_id l]
  exact List.map_congr_left fun b _ => by simp
theorem L_pairOf (s : ByteArray) (h : s.size = 32) : L (pairOf s) = L s ++ (L s).map cpl := by
  unfold pairOf ByteRow.acc
  rw [L_strOfNums, List.map_append]
  have e1 : (bytesOf s).map (fun n => UInt8.ofNat n.toNat) = L s := map_id_bytes (L s)
  rw [e1, List.map_map]
  congr 1
  apply List.ext_getElem
  · simp [L_length, h]
  · intro j h1 h2
    simp only [List.length_map, L_length] at h2
    simp only [List.getElem_map, List.getElem_range, Function.comp]
    have hb : bt s (j : Nat) = ((L s)[j]'(by rw [L_length]; exact h2)).toNat := by
      rw [bt_L]; simp only [Int.toNat_natCast]; rw [List.getElem?_eq_getElem (by rw [L_length]; exact h2)]; rfl
    rw [hb, cpl_toNat]
theorem pairOf_size (s : ByteArray) (h : s.size = 32) : (pairOf s).size = 64 := by
  rw [← L_length, L_pairOf s h]; simp [L_length, h]
def pairPut (s : ByteArray) : ByteArray × Int := if s.size = 32 then (pairOf s, 0) else (⟨#[]⟩, 100)
theorem pair_Put_eq (s : ByteArray) : pair_Put.f s = some (pairPut s) := by
  unfold pair_Put.f pairPut pairOf
  by_cases h : s.size = 32
  · rw [if_pos (by omega), if_pos h]
  · rw [if_neg (by omega), if_neg h]
theorem extract_size (s : ByteArray) (h : s.size = 64) : (s.extract 0 32).size = 32 := by rw [size_extract]; omega
def pairGet (s : ByteArray) : ByteArray × Int := if s.size = 64 ∧ pairOf (s.extract 0 32) = s then (s.extract 0 32, 0) else (⟨#[]⟩, 100)
theorem pair_Get_eq (s : ByteArray) : pair_Get.f s = some (pairGet s) := by
  unfold pair_Get.f pairGet
  by_cases h : s.size = 64
  · have h1 : (32 : Int) ≤ s.size := by omega
    rw [if_pos (by omega), if_pos (by decide), if_pos h1, pair_Put_eq]
    simp only [Option.bind_some, pairPut, extract_size s h, if_true, eq_L]
    by_cases h2 : pairOf (s.extract 0 32) = s
    · rw [if_pos h2, if_pos ⟨h, h2⟩]
    · rw [if_neg h2, if_neg (fun q => h2 q.2)]
  · rw [if_neg (by omega), if_neg (fun q => h q.1)]
/-- whole: the second half is the first one turned. -/
theorem whole_iff (s : ByteArray) (h : s.size = 64) : pairOf (s.extract 0 32) = s ↔ ((L s).take 32).map cpl = (L s).drop 32 := by
  have e : L (s.extract 0 32) = (L s).take 32 := by rw [L_extract]; rfl
  constructor
  · intro q
    have := L_pairOf _ (extract_size s h)
    rw [q, e] at this
    have := congrArg (List.drop 32) this
    rw [List.drop_left' (by rw [List.length_take, L_length]; omega)] at this
    exact this.symm
  · intro q
    apply L_inj
    rw [L_pairOf _ (extract_size s h), e, q, List.take_append_drop]
theorem get_pairOf (s : ByteArray) (h : s.size = 32) : pairGet (pairOf s) = (s, 0) := by
  have e : (pairOf s).extract 0 32 = s := by
    apply L_inj; rw [L_extract, L_pairOf s h]
    simp only [List.drop_zero, Nat.sub_zero]
    exact List.take_left' (by rw [L_length]; exact h)
  unfold pairGet
  rw [e, if_pos ⟨pairOf_size s h, rfl⟩]
theorem pairOf_inj {s t : ByteArray} (h : s.size = 32) (h' : t.size = 32) (e : pairOf s = pairOf t) : s = t := by
  have := get_pairOf s h
  rw [e, get_pairOf t h'] at this
  exact (Prod.mk.inj this).1.symm
def torn (o n : ByteArray) (a : Int) : ByteArray × Int := if o.size = 64 ∧ n.size = 64 ∧ 0 ≤ a ∧ a ≤ 64 then (n.extract 0 a.toNat ++ o.extract a.toNat o.size, 0) else (⟨#[]⟩, 100)
theorem pair_Torn_eq (o n : ByteArray) (a : Int) : pair_Torn.f o n a = some (torn o n a) := by
  unfold pair_Torn.f torn
  by_cases h1 : o.size = 64
  · by_cases h2 : n.size = 64
    · rw [if_pos (by omega), if_pos (by omega)]
      by_cases h3 : a < 0
      · rw [if_pos h3, if_neg (by omega)]
      · rw [if_neg h3]
        by_cases h4 : a > 64
        · rw [if_pos h4, if_neg (by omega)]
        · rw [if_neg h4, if_pos (by omega), if_pos (by omega), if_pos (by omega), if_pos (by rw [size_extract, size_extract]; omega), if_pos (by omega)]
    · rw [if_pos (by omega), if_neg (by omega), if_neg (by omega)]
  · rw [if_neg (by omega), if_neg (by omega)]
/-- of two whole sectors a torn one is the old one, the new one, or none -/
theorem torn_law {x y : ByteArray} (hx : x.size = 32) (hy : y.size = 32) (i : Int) (h0 : 0 ≤ i) (h1 : i ≤ 64) :
    (torn (pairOf x) (pairOf y) i).1 = pairOf x ∨ (torn (pairOf x) (pairOf y) i).1 = pairOf y ∨ pairGet (torn (pairOf x) (pairOf y) i).1 = (⟨#[]⟩, 100) := by
  have sx := pairOf_size x hx
  have sy := pairOf_size y hy
  obtain ⟨m, rfl⟩ := Int.eq_ofNat_of_zero_le h0
  have hm : m ≤ 64 := by omega
  have e : (torn (pairOf x) (pairOf y) m).1 = (pairOf y).extract 0 m ++ (pairOf x).extract m (pairOf x).size := by
    unfold torn; rw [if_pos ⟨sx, sy, h0, h1⟩]; simp
  rw [e]
  generalize hc : (pairOf y).extract 0 m ++ (pairOf x).extract m (pairOf x).size = c
  have hcs : c.size = 64 := by rw [← hc, size_append, size_extract, size_extract]; omega
  have hL : L c = (L y ++ (L y).map cpl).take m ++ (L x ++ (L x).map cpl).drop m := by
    rw [← hc, L_append, L_extract, L_extract, L_pairOf x hx, L_pairOf y hy, sx]
    simp only [List.drop_zero, Nat.sub_zero]
    congr 1
    exact List.take_of_length_le (by simp [L_length, hx])
  by_cases hw : pairOf (c.extract 0 32) = c
  · have hw' := (whole_iff c hcs).1 hw
    have lx : (L x).length = 32 := by rw [L_length]; exact hx
    have ly : (L y).length = 32 := by rw [L_length]; exact hy
    rcases Nat.le_total m 32 with hm2 | hm2
    · left
      apply L_inj
      rw [L_pairOf x hx]
      have ed : (L c).drop 32 = (L x).map cpl := by
        rw [hL, List.drop_append, List.drop_of_length_le (by simp [ly]; omega), List.nil_append]
        rw [List.drop_drop]
        have : m + (32 - (List.take m (L y ++ List.map cpl (L y))).length) = 32 := by simp [ly]; omega
        rw [this]
        exact List.drop_left' lx
      rw [← List.take_append_drop 32 (L c), ed]
      rw [ed] at hw'
      rw [map_inj_cpl hw']
    · right; left
      apply L_inj
      rw [L_pairOf y hy]
      have et : (L c).take 32 = L y := by
        rw [hL, List.take_append_of_le_length (by simp [ly]; omega), List.take_take, Nat.min_eq_left hm2]
        exact List.take_left' ly
      rw [← List.take_append_drop 32 (L c), ← hw', et]
  · right; right
    unfold pairGet
    rw [if_neg (fun q => hw q.2)]
def half (s : ByteArray) : ByteArray := (s ++ strOfNums (List.replicate 32 0)).extract 0 32
theorem half_size (s : ByteArray) : (half s).size = 32 := by
  unfold half; rw [size_extract, size_append, size_strOfNums, List.length_replicate]; omega
theorem half_eq (s : ByteArray) (hs : s.size ≤ 140737488351232) : cryostatlaw1_half.f s = some (half s) := by
  unfold cryostatlaw1_half.f cryostatlaw1_zeros.f half
  have h1 : s.size + 32 ≤ 9223372036854775807 := by omega
  have h2 : (32 : Int) ≤ ((s.size + 32 : Nat) : Int) := by omega
  have e : Int.toNat 32 = 32 := rfl
  simp only [e]
  rw [if_pos (by decide), if_pos (by decide)]
  simp only [Option.bind_some]
  rw [if_pos (by rw [size_strOfNums, List.length_replicate]; exact h1), if_pos (by decide), if_pos (by rw [size_append, size_strOfNums, List.length_replicate]; exact h2)]
theorem awake_eq (k : Nat) (hk : 4 ≤ k) : cryostatlaw1_awake.f k = some true :=
  at_rounds (g := fun k => cryostatlaw1_awake.f k) (fun k => cryostatlaw1_awake.mono k) hk (by decide +kernel)
theorem xor_cpl (b : UInt8) : bits .xor .u8 (b.toNat : Int) ((cpl b).toNat : Int) = 255 := by
  have h1 : ∀ n : Fin 256, bits .xor .u8 ((UInt8.ofNat n.val).toNat : Int) ((cpl (UInt8.ofNat n.val)).toNat : Int) = 255 := by decide +kernel
  simpa using h1 ⟨b.toNat, b.toNat_lt⟩
theorem unlike_loop (s t x y a b : ByteArray) (ha : cryostatlaw1_half.f s = some a) (hb : cryostatlaw1_half.f t = some b) (la : a.size = 32) (lx : x.size = 64) (hx : L x = L a ++ (L a).map cpl)
    (hxy : (x.toList == y.toList) = (a.toList == b.toList)) :
    ∀ (d k j : Nat), 32 - j = d → j ≤ 32 → 2 * d + 2 ≤ k → cryostatlaw1_PairUnlike.l0 k s t x 0 y 0 a 0 (j : Int) = some true := by
  intro d
  induction d with
  | zero =>
    intro k j hd hj hk
    obtain ⟨k, rfl⟩ : ∃ m, k = m + 2 := ⟨k - 2, by omega⟩
    have c1 : (j : Int) < (x.size : Int) := by omega
    have c2 : ¬ (j : Int) < 32 := by omega
    simp only [cryostatlaw1_PairUnlike.l0]
    rw [if_pos c1, show decide ((j : Int) < 32) = false from decide_eq_false c2]
    simp only [cryostatlaw1_PairUnlike.j1, ha, hb, Option.bind_some, cryostatlaw0_Num.f]
    simp [hxy]
  | succ d ih =>
    intro k j hd hj hk
    obtain ⟨k, rfl⟩ : ∃ m, k = m + 2 := ⟨k - 2, by omega⟩
    have w1 : wrap64 (32 + (j : Int)) = 32 + (j : Int) := wrap64_id (by omega) (by omega)
    have w2 : wrap64 ((j : Int) + 1) = ((j + 1 : Nat) : Int) := wrap64_id (by omega) (by omega)
    have c1 : (j : Int) < (x.size : Int) := by omega
    have c2 : (j : Int) < 32 := by omega
    have c3 : (0 : Int) ≤ (j : Int) := by omega
    have c4 : (0 : Int) ≤ 32 + (j : Int) := by omega
    have c5 : 32 + (j : Int) < (x.size : Int) := by omega
    have c6 : (x.size : Int) = 64 := by omega
    have hj2 : j < (L a).length := by rw [L_length]; omega
    have b1 : bt x (j : Nat) = ((L a)[j]).toNat := by
      rw [bt_L, hx]; simp only [Int.toNat_natCast]; rw [List.getElem?_append_left hj2, List.getElem?_eq_getElem hj2]; rfl
    have b2 : bt x (32 + (j : Int)) = (cpl ((L a)[j])).toNat := by
      have e : (32 + (j : Int)).toNat = 32 + j := by omega
      rw [bt_L, hx, e, List.getElem?_append_right (by rw [L_length]; omega), L_length, la, Nat.add_sub_cancel_left, List.getElem?_map, List.getElem?_eq_getElem hj2]; rfl
    simp only [cryostatlaw1_PairUnlike.l0]
    rw [if_pos c1, show decide ((j : Int) < 32) = true from decide_eq_true c2]
    simp only [cryostatlaw1_PairUnlike.j1]
    rw [if_true, if_pos c6, if_pos c3, if_pos c1, w1, if_pos c4, if_pos c5, b1, b2, xor_cpl, if_pos (show (255 : Int) = 255 from rfl), w2]
    exact ih k (j + 1) (by omega) (by omega) (by omega)
theorem PairUnlike : cryostatlaw1_PairUnlike.Pure := by
  intro s t hs ht
  have h1 := half_size s
  have h2 := half_size t
  have p1 : pairPut (half s) = (pairOf (half s), 0) := by simp [pairPut, h1]
  have p2 : pairPut (half t) = (pairOf (half t), 0) := by simp [pairPut, h2]
  have s1 := pairOf_size _ h1
  have hL := L_pairOf _ h1
  have hxy : ((pairOf (half s)).toList == (pairOf (half t)).toList) = ((half s).toList == (half t).toList) := by
    rw [beq_L, beq_L, decide_eq_decide]
    exact ⟨fun q => pairOf_inj h1 h2 q, fun q => by rw [q]⟩
  have hg := get_pairOf _ h1
  have key := unlike_loop s t (pairOf (half s)) (pairOf (half t)) (half s) (half t) (half_eq s hs) (half_eq t ht) h1 s1 hL hxy 32 70 0 (by decide) (by decide) (by decide)
  refine ⟨70, ?_⟩
  unfold cryostatlaw1_PairUnlike.f
  rw [awake_eq _ (by decide), half_eq s hs, half_eq t ht]
  simp only [Option.bind_some, if_true, pair_Put_eq, p1, p2, pair_Get_eq, hg]
  exact key
end Go.Proofs.Ytpadejamelppfaa.Pure
