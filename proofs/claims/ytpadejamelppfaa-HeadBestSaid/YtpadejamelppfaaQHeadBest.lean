/- The pure side of HeadBest: for all heads and places the printed function of the law answers true. -/
import Derived.Test.YtpadejamelppfaaOHeadBestx5
import Derived.Test.YtpadejamelppfaaGen
set_option linter.unusedSimpArgs false
set_option linter.unusedVariables false
namespace Go.Proofs.Ytpadejamelppfaa.Pure
open Go.RowKit Go.Proofs.Gen Go.Proofs.Ytpadejamelppfaa.PHeadBest Go.Proofs.YtpadejamelppfaaW.PrintWords Go.Proofs.YtpadejamelppfaaW.PrintLast
theorem wrap_bt (s : ByteArray) (i : Int) : wrap64 (bt s i) = bt s i := by
  have := bt_range s i; exact wrap64_id (by omega) (by omega)
theorem seq_eq (q : Int) : record_Seq.f q = some (decide (1 ≤ q ∧ q ≤ 2147483647)) := by
  unfold record_Seq.f; split <;> simp <;> omega
def zer (n : Nat) : ByteArray := ⟨(List.replicate n (0 : UInt8)).toArray⟩
theorem zer_size (n : Nat) : (zer n).size = n := by simp [zer, ByteArray.size]
theorem L_zer (n : Nat) : L (zer n) = List.replicate n 0 := rfl
theorem repeat_zero (n : Nat) : (⟨(Lib.repeatL [0] n).toArray⟩ : ByteArray) = zer n := by
  have : ∀ n, Lib.repeatL ([0] : List UInt8) n = List.replicate n 0 := by
    intro n
    induction n with
    | zero => rfl
    | succ n ih => rw [Lib.repeatL, ih]; rfl
  rw [this]; rfl
theorem str_append (a b : List Int) : strOfNums a ++ strOfNums b = strOfNums (a ++ b) := by
  apply L_inj; simp [L_append, L_strOfNums]
/-- a number of four bytes -/
def num4 (s : ByteArray) : Int := bt s 0 * 16777216 + bt s 1 * 65536 + bt s 2 * 256 + bt s 3
theorem wraps_i64 (n : Int) (h0 : 0 ≤ n) (h1 : n < 2 ^ 62) : IntKind.i64.wrap n = n := by rw [IntKind.wrap_i64]; omega
theorem or4 (a b c d : Int) (ha : 0 ≤ a ∧ a ≤ 255) (hb : 0 ≤ b ∧ b ≤ 255) (hc : 0 ≤ c ∧ c ≤ 255) (hd : 0 ≤ d ∧ d ≤ 255) :
    bits .or .i64 (bits .or .i64 (bits .or .i64 (wrap64 (a * 16777216)) (wrap64 (b * 65536))) (wrap64 (c * 256))) d = a * 16777216 + b * 65536 + c * 256 + d := by
  rw [wrap64_id (by omega) (by omega), wrap64_id (by omega) (by omega), wrap64_id (by omega) (by omega)]
  rw [bits_join .i64 62 (by decide) wraps_i64 24 (a * 16777216) (b * 65536) (by omega) (by omega) (by omega) (by omega) (by omega) (by omega)]
  rw [bits_join .i64 62 (by decide) wraps_i64 16 (a * 16777216 + b * 65536) (c * 256) (by omega) (by omega) (by omega) (by omega) (by omega) (by omega)]
  rw [bits_join .i64 62 (by decide) wraps_i64 8 (a * 16777216 + b * 65536 + c * 256) d (by omega) (by omega) (by omega) (by omega) (by omega) (by omega)]
theorem record_Number_eq (s : ByteArray) (h : 4 ≤ s.size) : record_Number.f s = some (num4 s) := by
  unfold record_Number.f num4
  simp only [wrap_bt]
  rw [if_pos (by omega), if_pos (by omega), if_pos (by omega), if_pos (by omega), or4 _ _ _ _ (bt_range s 0) (bt_range s 1) (bt_range s 2) (bt_range s 3)]
theorem u8_mod {x : Int} (h0 : 0 ≤ x) (h1 : x ≤ 255) : (((UInt8.ofNat x.toNat).toNat : Nat) : Int) = x := by
  rw [UInt8.toNat_ofNat']; omega
/-- a byte turned -/
def cpl (b : UInt8) : UInt8 := 255 - b
theorem cpl_inj : Function.Injective cpl := by
  intro a b h
  unfold cpl at h
  have : (255 : UInt8) - (255 - a) = 255 - (255 - b) := by rw [h]
  have e : ∀ x : UInt8, (255 : UInt8) - (255 - x) = x := fun x => by
    have h1 : ∀ n : Fin 256, (255 : UInt8) - (255 - UInt8.ofNat n.val) = UInt8.ofNat n.val := by decide +kernel
    simpa using h1 ⟨x.toNat, x.toNat_lt⟩
  rwa [e, e] at this
theorem map_inj_cpl : ∀ {a b : List UInt8}, a.map cpl = b.map cpl → a = b
  | [], [], _ => rfl
  | [], _ :: _, h => by simp at h
  | _ :: _, [], h => by simp at h
  | a :: x, b :: y, h => by
    simp only [List.map_cons, List.cons.injEq] at h
    rw [cpl_inj h.1, map_inj_cpl h.2]
theorem cpl_toNat (b : UInt8) : UInt8.ofNat (255 - (b.toNat : Int)).toNat = cpl b := by
  have h1 : ∀ n : Fin 256, UInt8.ofNat (255 - (n.val : Int)).toNat = cpl (UInt8.ofNat n.val) := by decide +kernel
  simpa using h1 ⟨b.toNat, b.toNat_lt⟩
def pairOf (s : ByteArray) : ByteArray := strOfNums (ByteRow.acc s 32)
theorem map_id_bytes (l : List UInt8) : (l.map fun b => (b.toNat : Int)).map (fun n => UInt8.ofNat n.toNat) = l := by
  rw [List.map_map]
  conv => rhs; rw [← List.map_id l]
  exact List.map_congr_left fun b _ => by simp
theorem L_pairOf (s : ByteArray) (h : s.size = 32) : L (pairOf s) = L s ++ (L s).map cpl := by
  unfold pairOf ByteRow.acc
  rw [L_strOfNums, List.map_append]
  have e1 : (bytesOf s).map (fun n => UInt8.ofNat n.toNat) = L s := map_id_bytes (L s)
  rw [e1, List.map_map]
  congr 1
  apply List.ext_getElem
  · simp [L_length, h]
  · intro j h1 h2
    simp only [List.length_map, L_length] at h2
    simp only [List.getElem_map, List.getElem_range, Function.comp]
    have hb : bt s (j : Nat) = ((L s)[j]'(by rw [L_length]; exact h2)).toNat := by
      rw [bt_L]; simp only [Int.toNat_natCast]; rw [List.getElem?_eq_getElem (by rw [L_length]; exact h2)]; rfl
    rw [hb, cpl_toNat]
theorem pairOf_size (s : ByteArray) (h : s.size = 32) : (pairOf s).size = 64 := by
  rw [← L_length, L_pairOf s h]; simp [L_length, h]
def pairPut (s : ByteArray) : ByteArray × Int := if s.size = 32 then (pairOf s, 0) else (⟨#[]⟩, 100)
theorem pair_Put_eq (s : ByteArray) : pair_Put.f s = some (pairPut s) := by
  unfold pair_Put.f pairPut pairOf
  by_cases h : s.size = 32
  · rw [if_pos (by omega), if_pos h]
  · rw [if_neg (by omega), if_neg h]
theorem extract_size (s : ByteArray) (h : s.size = 64) : (s.extract 0 32).size = 32 := by rw [size_extract]; omega
def pairGet (s : ByteArray) : ByteArray × Int := if s.size = 64 ∧ pairOf (s.extract 0 32) = s then (s.extract 0 32, 0) else (⟨#[]⟩, 100)
theorem pair_Get_eq (s : ByteArray) : pair_Get.f s = some (pairGet s) := by
  unfold pair_Get.f pairGet
  by_cases h : s.size = 64
  · have h1 : (32 : Int) ≤ s.size := by omega
    rw [if_pos (by omega), if_pos (by decide), if_pos h1, pair_Put_eq]
    simp only [Option.bind_some, pairPut, extract_size s h, if_true, eq_L]
    by_cases h2 : pairOf (s.extract 0 32) = s
    · rw [if_pos h2, if_pos ⟨h, h2⟩]
    · rw [if_neg h2, if_neg (fun q => h2 q.2)]
  · rw [if_neg (by omega), if_neg (fun q => h q.1)]
/-- whole: the second half is the first one turned. -/
theorem whole_iff (s : ByteArray) (h : s.size = 64) : pairOf (s.extract 0 32) = s ↔ ((L s).take 32).map cpl = (L s).drop 32 := by
  have e : L (s.extract 0 32) = (L s).take 32 := by rw [L_extract]; rfl
  constructor
  · intro q
    have := L_pairOf _ (extract_size s h)
    rw [q, e] at this
    have := congrArg (List.drop 32) this
    rw [List.drop_left' (by rw [List.length_take, L_length]; omega)] at this
    exact this.symm
  · intro q
    apply L_inj
    rw [L_pairOf _ (extract_size s h), e, q, List.take_append_drop]
theorem get_pairOf (s : ByteArray) (h : s.size = 32) : pairGet (pairOf s) = (s, 0) := by
  have e : (pairOf s).extract 0 32 = s := by
    apply L_inj; rw [L_extract, L_pairOf s h]
    simp only [List.drop_zero, Nat.sub_zero]
    exact List.take_left' (by rw [L_length]; exact h)
  unfold pairGet
  rw [e, if_pos ⟨pairOf_size s h, rfl⟩]
theorem pairOf_inj {s t : ByteArray} (h : s.size = 32) (h' : t.size = 32) (e : pairOf s = pairOf t) : s = t := by
  have := get_pairOf s h
  rw [e, get_pairOf t h'] at this
  exact (Prod.mk.inj this).1.symm
def HMay (x y : Int) : Prop := (0 ≤ x ∧ x ≤ 2147483647) ∧ (1 ≤ y ∧ y ≤ 2147483647)
instance (x y : Int) : Decidable (HMay x y) := by unfold HMay; infer_instance
theorem head_May_eq (x y : Int) : head_May.f x y = some (decide (HMay x y)) := by
  have hdec : decide (HMay x y) = decide ((0 ≤ x ∧ x ≤ 2147483647) ∧ (1 ≤ y ∧ y ≤ 2147483647)) := rfl
  unfold head_May.f
  rw [seq_eq, hdec]
  by_cases h1 : x ≥ 0
  · by_cases h2 : x ≤ 2147483647
    · rw [if_pos h1, if_pos h2]; simp [h1, h2]
    · rw [if_pos h1, if_neg h2]; simp [h2]
  · rw [if_neg h1]; simp; omega
def nums12 (x y : Int) : List Int := [99, 114, 121, 111, x / 16777216 % 256, x / 65536 % 256, x / 256 % 256, x % 256, y / 16777216 % 256, y / 65536 % 256, y / 256 % 256, y % 256]
def headOf (x y : Int) : ByteArray := strOfNums (nums12 x y) ++ zer 20
theorem headOf_size (x y : Int) : (headOf x y).size = 32 := by
  unfold headOf; rw [size_append, size_strOfNums, zer_size]; rfl
theorem L_headOf (x y : Int) : L (headOf x y) = (nums12 x y).map (fun n => UInt8.ofNat n.toNat) ++ List.replicate 20 0 := by
  unfold headOf; rw [L_append, L_strOfNums, L_zer]
def putH (x y : Int) : ByteArray × Int := if HMay x y then (headOf x y, 0) else (⟨#[]⟩, 500)
theorem putH_yes {x y : Int} (h : HMay x y) : putH x y = (headOf x y, 0) := by simp [putH, h]
theorem putH_no {x y : Int} (h : ¬ HMay x y) : putH x y = (⟨#[]⟩, 500) := by simp [putH, h]
theorem cryo_eq : (⟨#[99, 114, 121, 111]⟩ : ByteArray) = strOfNums [99, 114, 121, 111] := by decide +kernel
theorem head_Put_eq (x y : Int) : head_Put.f x y = some (putH x y) := by
  unfold head_Put.f putH
  rw [head_May_eq]
  by_cases h : HMay x y
  · have e1 : ∀ z, record_Four.f z = some (strOfNums [z / 16777216 % 256, z / 65536 % 256, z / 256 % 256, z % 256]) := fun z => rfl
    have hs : ∀ z : Int, (strOfNums [z / 16777216 % 256, z / 65536 % 256, z / 256 % 256, z % 256]).size = 4 := fun z => by rw [size_strOfNums]; rfl
    simp only [h, decide_true, if_true, Option.bind_some, e1]
    rw [cryo_eq, str_append, str_append]
    have hs8 : (strOfNums ([99, 114, 121, 111] ++ [x / 16777216 % 256, x / 65536 % 256, x / 256 % 256, x % 256])).size = 8 := by rw [size_strOfNums]; rfl
    have hs12 : (strOfNums ([99, 114, 121, 111] ++ [x / 16777216 % 256, x / 65536 % 256, x / 256 % 256, x % 256] ++ [y / 16777216 % 256, y / 65536 % 256, y / 256 % 256, y % 256])).size = 12 := by rw [size_strOfNums]; rfl
    rw [if_pos (by rw [hs]; decide), if_pos (by rw [hs8, hs]; decide)]
    unfold record_Fill.f
    rw [if_pos (by rw [hs12]; decide), repeat_zero, hs12]
    rfl
  · simp [h]
theorem bts_headOf {x y : Int} (h : HMay x y) : num4 ((headOf x y).extract 4 32) = x ∧ num4 ((headOf x y).extract 8 32) = y := by
  have m : ∀ y : Int, 0 ≤ y % 256 ∧ y % 256 ≤ 255 := fun y => by omega
  have hL := L_headOf x y
  have q : ∀ z : Int, 0 ≤ z ∧ z ≤ 2147483647 → z / 16777216 % 256 * 16777216 + z / 65536 % 256 * 65536 + z / 256 % 256 * 256 + z % 256 = z := fun z hz => by omega
  have qx := q x h.1
  have qy := q y ⟨by have := h.2; omega, h.2.2⟩
  have e4 : L ((headOf x y).extract 4 32) = ((nums12 x y).map (fun n : Int => UInt8.ofNat n.toNat) ++ List.replicate 20 (0 : UInt8)).drop 4 := by
    rw [L_extract, hL]; exact List.take_of_length_le (by simp [nums12])
  have e8 : L ((headOf x y).extract 8 32) = ((nums12 x y).map (fun n : Int => UInt8.ofNat n.toNat) ++ List.replicate 20 (0 : UInt8)).drop 8 := by
    rw [L_extract, hL]; exact List.take_of_length_le (by simp [nums12])
  clear hL q
  constructor
  · have b0 : bt ((headOf x y).extract 4 32) 0 = x / 16777216 % 256 := by rw [bt_L, e4]; exact u8_mod (m _).1 (m _).2
    have b1 : bt ((headOf x y).extract 4 32) 1 = x / 65536 % 256 := by rw [bt_L, e4]; exact u8_mod (m _).1 (m _).2
    have b2 : bt ((headOf x y).extract 4 32) 2 = x / 256 % 256 := by rw [bt_L, e4]; exact u8_mod (m _).1 (m _).2
    have b3 : bt ((headOf x y).extract 4 32) 3 = x % 256 := by rw [bt_L, e4]; exact u8_mod (m _).1 (m _).2
    unfold num4; rw [b0, b1, b2, b3]; exact qx
  · have b0 : bt ((headOf x y).extract 8 32) 0 = y / 16777216 % 256 := by rw [bt_L, e8]; exact u8_mod (m _).1 (m _).2
    have b1 : bt ((headOf x y).extract 8 32) 1 = y / 65536 % 256 := by rw [bt_L, e8]; exact u8_mod (m _).1 (m _).2
    have b2 : bt ((headOf x y).extract 8 32) 2 = y / 256 % 256 := by rw [bt_L, e8]; exact u8_mod (m _).1 (m _).2
    have b3 : bt ((headOf x y).extract 8 32) 3 = y % 256 := by rw [bt_L, e8]; exact u8_mod (m _).1 (m _).2
    unfold num4; rw [b0, b1, b2, b3]; exact qy
def hx (s : ByteArray) : Int := num4 (s.extract 4 s.size)
def hy (s : ByteArray) : Int := num4 (s.extract 8 s.size)
def getH (s : ByteArray) : Int × Int × Int := if s.size = 32 ∧ putH (hx s) (hy s) = (s, 0) then (hx s, hy s, 0) else (0, 0, 500)
theorem head_Get_eq (s : ByteArray) : head_Get.f s = some (getH s) := by
  unfold head_Get.f getH
  by_cases h1 : s.size = 32
  · have a4 : 4 ≤ (s.extract 4 s.size).size := by rw [size_extract]; omega
    have a8 : 4 ≤ (s.extract 8 s.size).size := by rw [size_extract]; omega
    rw [if_pos (by omega), if_pos (by omega), record_Number_eq _ a4]
    simp only [Option.bind_some]
    rw [if_pos (by omega), record_Number_eq _ a8]
    simp only [Option.bind_some]
    rw [head_Put_eq]
    simp only [Option.bind_some]
    by_cases h3 : putH (hx s) (hy s) = (s, 0)
    · have h3' : putH (num4 (s.extract 4 s.size)) (num4 (s.extract 8 s.size)) = (s, 0) := h3
      rw [h3', if_pos (show ((s, (0 : Int)) : ByteArray × Int).2 = 0 from rfl), if_pos (show ((s, (0 : Int)) : ByteArray × Int).1.toList = s.toList from rfl), if_pos ⟨h1, h3⟩]; rfl
    · have h3' : ¬ putH (num4 (s.extract 4 s.size)) (num4 (s.extract 8 s.size)) = (s, 0) := h3
      by_cases h4 : (putH (num4 (s.extract 4 s.size)) (num4 (s.extract 8 s.size))).2 = 0
      · rw [if_pos h4, if_neg (fun q => h3' (Prod.ext ((eq_L _ _).1 q) h4)), if_neg (fun q => h3 q.2)]
      · rw [if_neg h4, if_neg (fun q => h3 q.2)]
  · rw [if_neg (by omega), if_neg (fun q => h1 q.1)]
theorem get_headOf {x y : Int} (h : HMay x y) : getH (headOf x y) = (x, y, 0) := by
  have hb := bts_headOf h
  have ex : hx (headOf x y) = x := by unfold hx; rw [headOf_size]; exact hb.1
  have ey : hy (headOf x y) = y := by unfold hy; rw [headOf_size]; exact hb.2
  unfold getH
  rw [ex, ey, if_pos ⟨headOf_size x y, putH_yes h⟩]
theorem headOf_inj {x y x' y' : Int} (h : HMay x y) (h' : HMay x' y') : headOf x y = headOf x' y' ↔ (x = x' ∧ y = y') := by
  constructor
  · intro e
    have a := get_headOf h
    rw [e, get_headOf h'] at a
    simp at a; simp [a]
  · rintro ⟨rfl, rfl⟩; rfl
def ofH (s : ByteArray) : Int × Int × Bool := ((getH (pairGet s).1).1, (getH (pairGet s).1).2.1, (getH (pairGet s).1).2.2 == 0)
theorem head_of_eq (s : ByteArray) : head_of.f s = some (ofH s) := by
  unfold head_of.f ofH
  rw [pair_Get_eq]; simp only [Option.bind_some]
  rw [head_Get_eq]; rfl
def best (a b : ByteArray) : Int × Int × Int :=
  if (ofH a).2.2 = true ∧ ((ofH b).2.2 = true → (ofH a).1 ≥ (ofH b).1) then ((ofH a).1, (ofH a).2.1, 0) else if (ofH b).2.2 = true then ((ofH b).1, (ofH b).2.1, 0) else (0, 0, 501)
theorem head_Best_eq (k : Nat) (a b : ByteArray) (hk : 1 ≤ k) : head_Best.f k a b = some (best a b) := by
  obtain ⟨k, rfl⟩ : ∃ m, k = m + 1 := ⟨k - 1, by omega⟩
  unfold head_Best.f best
  rw [head_of_eq, head_of_eq]
  simp only [Option.bind_some, head_Best.j0]
  generalize ofH a = u
  generalize ofH b = v
  obtain ⟨u1, u2, u3⟩ := u
  obtain ⟨v1, v2, v3⟩ := v
  cases u3 <;> cases v3 <;> simp
  by_cases h : v1 ≤ u1 <;> simp [h]
/-- a whole sector of a head is that head's -/
theorem of_sector {x y : Int} (h : HMay x y) : ofH (pairOf (headOf x y)) = (x, y, true) := by
  unfold ofH; rw [get_pairOf _ (headOf_size x y), get_headOf h]; rfl
theorem of_none {s : ByteArray} (h : pairGet s = (⟨#[]⟩, 100)) : ofH s = (0, 0, false) := by
  unfold ofH; rw [h]
  have : getH (⟨#[]⟩ : ByteArray) = (0, 0, 500) := by unfold getH; rw [if_neg (fun q => absurd q.1 (by decide))]
  rw [this]; rfl
theorem ref_PutPair_eq (s : ByteArray) : cryostatref1_PutPair.f s = some (pairPut s) := by
  unfold cryostatref1_PutPair.f pairPut pairOf
  by_cases h : s.size = 32
  · rw [if_pos (by omega), if_pos h]
  · rw [if_neg (by omega), if_neg h]
theorem awake_eq (k : Nat) (hk : 4 ≤ k) : cryostatlaw5_awake.f k = some true :=
  at_rounds (g := fun k => cryostatlaw5_awake.f k) (fun k => cryostatlaw5_awake.mono k) hk (by decide +kernel)
/-- a whole sector with one byte turned is none -/
theorem turned (y : ByteArray) (hy : y.size = 32) (m : Nat) (hm : m < 64) (b : UInt8) (c : ByteArray)
    (hc : L c = (L (pairOf y)).take m ++ [b] ++ (L (pairOf y)).drop (m + 1)) (hne : c ≠ pairOf y) : pairGet c = (⟨#[]⟩, 100) := by
  have ly : (L (pairOf y)).length = 64 := by rw [L_length, pairOf_size y hy]
  have hcs : c.size = 64 := by rw [← L_length, hc]; simp [ly]; omega
  unfold pairGet
  rw [if_neg]
  rintro ⟨_, hw⟩
  have hw' := (whole_iff c hcs).1 hw
  have hwy := (whole_iff (pairOf y) (pairOf_size y hy)).1 (by
    have := get_pairOf y hy
    unfold pairGet at this
    by_cases q : (pairOf y).size = 64 ∧ pairOf ((pairOf y).extract 0 32) = pairOf y
    · exact q.2
    · rw [if_neg q] at this; exact absurd (Prod.mk.inj this).2 (by decide))
  apply hne
  apply L_inj
  generalize L (pairOf y) = Y at *
  have hget : ∀ j, j ≠ m → (L c)[j]? = Y[j]? := fun j hj => by
    rw [hc]
    rcases Nat.lt_or_ge j m with h | h
    · rw [List.append_assoc, List.getElem?_append_left (by simp [ly]; omega), List.getElem?_take_of_lt h]
    · rw [List.getElem?_append_right (by simp [ly]; omega)]
      simp only [List.length_append, List.length_take, List.length_singleton, ly, List.getElem?_drop]
      congr 1; omega
  rcases Nat.lt_or_ge m 32 with h | h
  · have ed : (L c).drop 32 = Y.drop 32 := by
      apply List.ext_getElem?; intro j; rw [List.getElem?_drop, List.getElem?_drop]; exact hget _ (by omega)
    have et : (L c).take 32 = Y.take 32 := map_inj_cpl (by rw [hw', hwy, ed])
    rw [← List.take_append_drop 32 (L c), ed, et, List.take_append_drop]
  · have et : (L c).take 32 = Y.take 32 := by
      apply List.ext_getElem?; intro j
      rcases Nat.lt_or_ge j 32 with hj | hj
      · rw [List.getElem?_take_of_lt hj, List.getElem?_take_of_lt hj]; exact hget _ (by omega)
      · rw [List.getElem?_eq_none (by simp; omega), List.getElem?_eq_none (by simp; omega)]
    have ed : (L c).drop 32 = Y.drop 32 := by rw [← hw', ← hwy, et]
    rw [← List.take_append_drop 32 (L c), ed, et, List.take_append_drop]
set_option maxHeartbeats 2000000 in
theorem HeadBest (x y x' y' a : Int) (_ : (Lit.int .i64 x).wf = true) (_ : (Lit.int .i64 y).wf = true) (_ : (Lit.int .i64 x').wf = true) (_ : (Lit.int .i64 y').wf = true) (_ : (Lit.int .i64 a).wf = true) :
    ∃ k, cryostatlaw5_HeadBest.f k x y x' y' a = some true := by
  refine ⟨8, ?_⟩
  unfold cryostatlaw5_HeadBest.f
  rw [awake_eq _ (by omega), head_Put_eq, head_Put_eq]
  simp only [Option.bind_some, if_true, cryostatlaw0_Num.f]
  by_cases h : HMay x y
  · rw [putH_yes h, if_pos rfl]
    by_cases h' : HMay x' y'
    · rw [putH_yes h']
      have hne : (((0 : Int)) != 0) = false := rfl
      have s1 := headOf_size x y
      have s2 := headOf_size x' y'
      have p1 : pairPut (headOf x y) = (pairOf (headOf x y), 0) := by simp [pairPut, s1]
      have p2 : pairPut (headOf x' y') = (pairOf (headOf x' y'), 0) := by simp [pairPut, s2]
      have z1 := pairOf_size _ s1
      have z2 := pairOf_size _ s2
      simp only [hne, cryostatlaw5_HeadBest.j0, Bool.false_eq_true, if_false]
      rw [ref_PutPair_eq, ref_PutPair_eq, p1, p2]
      simp only [Option.bind_some]
      have z1' : ((pairOf (headOf x y)).size : Int) = 64 := by rw [z1]; rfl
      have z2' : (((pairOf (headOf x' y')).size : Int) != 64) = false := by rw [z2]; rfl
      rw [if_pos z1', z2']
      have hm : 0 ≤ a % 18446744073709551616 % 64 ∧ a % 18446744073709551616 % 64 < 64 := ⟨Int.emod_nonneg _ (by decide), Int.emod_lt_of_pos _ (by decide)⟩
      have hu := umod a 64 (by decide) (by decide)
      generalize a % 18446744073709551616 % 64 = i at hm hu
      obtain ⟨m, rfl⟩ := Int.eq_ofNat_of_zero_le hm.1
      have hm64 : m < 64 := by have := hm.2; omega
      have w1 : wrap64 (1 + (m : Int)) = ((m + 1 : Nat) : Int) := by rw [wrap64_id (by omega) (by omega)]; omega
      have o1 := of_sector h
      have o2 := of_sector h'
      have key : ∀ u v : Int, ((u, v) = if x' > x then (x', y') else (x, y)) → cryostatlaw5_HeadBest.j2 6 a (pairOf (headOf x y)) (pairOf (headOf x' y')) x y u v = some true := by
        intro u v huv
        simp only [cryostatlaw5_HeadBest.j2, hu, w1, Int.toNat_natCast, cryostatlaw0_Num.f]
        rw [head_Best_eq 5 _ _ (by omega)]
        simp only [Option.bind_some]
        generalize hcut : ((pairOf (headOf x' y')).extract 0 m ++ (⟨#[1]⟩ : ByteArray)) ++ (pairOf (headOf x' y')).extract (m + 1) (pairOf (headOf x' y')).size = cut
        rw [head_Best_eq 5 _ cut (by omega)]
        simp only [Option.bind_some]
        have q1 : (0 : Int) ≤ (m : Int) := by omega
        have q2 : (m : Int) ≤ ((pairOf (headOf x' y')).size : Int) := by rw [z2]; omega
        have q3 : ((pairOf (headOf x' y')).extract 0 m).size + 1 ≤ 9223372036854775807 := by rw [size_extract, z2]; omega
        have q4 : (0 : Int) ≤ ((m + 1 : Nat) : Int) := by omega
        have q5 : ((m + 1 : Nat) : Int) ≤ ((pairOf (headOf x' y')).size : Int) := by rw [z2]; omega
        have q6 : ((pairOf (headOf x' y')).extract 0 m ++ (⟨#[1]⟩ : ByteArray)).size + ((pairOf (headOf x' y')).extract (m + 1) (pairOf (headOf x' y')).size).size ≤ 9223372036854775807 := by
          rw [size_append, size_extract, size_extract, z2]; have : (⟨#[1]⟩ : ByteArray).size = 1 := rfl; omega
        rw [if_pos q1, if_pos q2, if_pos q3, if_pos q4, if_pos q5, if_pos q6]
        have b1 : best (pairOf (headOf x y)) (pairOf (headOf x' y')) = (u, v, 0) := by
          unfold best; rw [o1, o2]
          by_cases c : x' > x
          · have : ¬ x ≥ x' := by omega
            rw [if_pos c] at huv; obtain ⟨rfl, rfl⟩ := Prod.mk.inj huv
            simp [this]
          · have : x ≥ x' := by omega
            rw [if_neg c] at huv; obtain ⟨rfl, rfl⟩ := Prod.mk.inj huv
            simp [this]
        rw [b1]
        simp only [if_true, beq_self_eq_true, Bool.and_self]
        have hL : L cut = (L (pairOf (headOf x' y'))).take m ++ [1] ++ (L (pairOf (headOf x' y'))).drop (m + 1) := by
          have h2 : ((L (pairOf (headOf x' y'))).drop (m + 1)).take (64 - (m + 1)) = (L (pairOf (headOf x' y'))).drop (m + 1) := List.take_of_length_le (by rw [List.length_drop, L_length, z2]; exact Nat.le_refl _)
          have h3 : L (⟨#[1]⟩ : ByteArray) = [1] := rfl
          rw [← hcut, L_append, L_append, L_extract, L_extract, z2, h2, h3]
          simp only [List.drop_zero, Nat.sub_zero]
        by_cases c : cut = pairOf (headOf x' y')
        · have b2 : (best (pairOf (headOf x y)) cut).2.2 = 0 := by rw [c, b1]
          rw [if_pos b2, if_pos ((eq_L _ _).2 c)]
        · have hn := of_none (turned (headOf x' y') s2 m hm64 1 cut hL c)
          have b2 : best (pairOf (headOf x y)) cut = (x, y, 0) := by
            unfold best; rw [o1, hn]; simp
          rw [b2]; simp [eq_L, c]
      simp only [cryostatlaw5_HeadBest.j1, Bool.false_eq_true, if_false]
      by_cases c : x' > x
      · rw [if_pos c]; exact key x' y' (by rw [if_pos c])
      · rw [if_neg c]; exact key x y (by rw [if_neg c])
    · rw [putH_no h']
      have hne : (((500 : Int)) != 0) = true := rfl
      simp [hne, cryostatlaw5_HeadBest.j0, cryostatlaw0_Num.f, toList_L]
  · rw [putH_no h, if_neg (by decide)]
    by_cases h' : HMay x' y'
    · rw [putH_yes h']; simp [cryostatlaw5_HeadBest.j0, cryostatlaw0_Num.f, toList_L]
    · rw [putH_no h']; simp [cryostatlaw5_HeadBest.j0, cryostatlaw0_Num.f, toList_L]
end Go.Proofs.Ytpadejamelppfaa.Pure
