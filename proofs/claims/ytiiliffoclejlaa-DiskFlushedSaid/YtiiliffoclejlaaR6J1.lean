import Derived.Test.YtiiliffoclejlaaR6Code
import Derived.Test.YtiiliffoclejlaaAm2
section TextR6K0
/- The setting of the seat: which functions are pure, which contracts come from elsewhere. -/
namespace Go.AM
open Go.Proofs
set_option linter.unusedVariables false
set_option linter.unusedSimpArgs false
set_option maxRecDepth 100000
attribute [-simp] ByteArray.size_eq_zero_iff
abbrev Img := Int × ByteArray
abbrev encI : Img → List Value := fun i => [.int .i64 i.1, .string i.2]
abbrev Imgs := Rows encI 2
abbrev Rec := Int × Int × Int × ByteArray
abbrev encR : Rec → List Value := fun r => [.int .i64 r.1, .int .i64 r.2.1, .int .i64 r.2.2.1, .string r.2.2.2]
abbrev Recs := Rows encR 4
theorem encR_len (x : Rec) : (encR x).length = 4 := rfl
theorem encI_len (x : Img) : (encI x).length = 2 := rfl
theorem encS_len (x : ByteArray) : ([Value.string x] : List Value).length = 1 := rfl
abbrev encS : ByteArray → List Value := fun s => [.string s]
theorem encS_one (x : ByteArray) : (encS x).all Value.oneCell' = true := rfl
def EszOk (H : Heap) (sz : Nat) (v : Value) : Prop := ∀ b o n c, v = .slice (some ⟨b, o, none⟩) n c → n = 0 ∨ H.eszIs b sz = true
theorem EszOk.ext {H H' : Heap} {sz : Nat} {b o n c : Nat} (h : EszOk H sz (.slice (some ⟨b, o, none⟩) n c)) (hb : b < H.next) (he : Ext H H') : EszOk H' sz (.slice (some ⟨b, o, none⟩) n c) := by
  intro b' o' n' c' e
  cases e
  refine (h _ _ _ _ rfl).imp id fun h => ?_
  unfold Heap.eszIs at h ⊢
  rw [he.blk _ hb]; exact h
theorem Rows.tail {α : Type} {enc : α → List Value} {sz : Nat} {H : Heap} {v : Value} {xs : List α} (h : Rows enc sz H v xs) (hz : EszOk H sz v) (k : Nat) (hk : k ≤ xs.length) : ∃ u, slvV H sz v (some (.int .i64 (k : Int))) none none = some u ∧ Rows enc sz H u (xs.drop k) := by
  obtain ⟨hl, p, c, rfl, hp⟩ := h
  rcases hp with ⟨rfl, rfl, rfl⟩ | ⟨b, o, rfl, h2, h3, h4⟩
  · obtain rfl : k = 0 := by simpa using hk
    exact ⟨.slice none 0 0, rfl, Rows.nil⟩
  · have hzz : (k == 0 || H.eszIs b sz) = true := by
      rcases hz _ _ _ _ rfl with h0 | h0
      · have : k = 0 := by omega
        simp [this]
      · simp [h0]
    refine ⟨.slice (some ⟨b, o + k * sz, none⟩) (xs.length - k) (2 * (c / 2 - k) + c % 2), ?_, ?_⟩
    · simp [slvV, bound, hk, h3, hzz]
    · refine ⟨by rw [List.length_drop]; omega, _, _, by rw [List.length_drop], .inr ⟨b, _, rfl, h2, by rw [List.length_drop]; omega, fun i hi j hj => ?_⟩⟩
      rw [List.length_drop] at hi
      have := h4 (k + i) (by omega) j hj
      rw [show o + (k + i) * sz + j = o + k * sz + i * sz + j by rw [Nat.add_mul]; omega] at this
      rw [this, List.getElem_drop]
/-- Room of its own, or an empty slice of its own without room. -/
def OwnZ {α : Type} (enc : α → List Value) (sz n0 : Nat) (H : Heap) (v : Value) (xs : List α) : Prop := Own enc sz n0 H v xs ∨ (xs = [] ∧ ∃ b, v = .slice (some ⟨b, 0, none⟩) 0 1 ∧ n0 ≤ b ∧ b < H.next)
theorem OwnZ.app {α : Type} {enc : α → List Value} {sz n0 : Nat} {H : Heap} {v : Value} {xs : List α} (h : OwnZ enc sz n0 H v xs) (he : ∀ x, (enc x).length = sz) {bytes k : Nat} (ys : List Value) (hk : k ≠ 0) (hy : ys.all Value.oneCell' = true) (h1 : (xs.length + k) * bytes ≤ 2 ^ 47) (h2 : xs.length + k ≤ 2 ^ 47) :
    ∃ X : Heap, X.next = H.next ∧ (∀ A : Heap, A.next ≤ n0 → Ext A H → Ext A X) ∧ appV H sz bytes k v ys = some (.slice (some ⟨H.next, 0, none⟩) (xs.length + k) (2 * (xs.length + k)), X.add (rowBlk sz (xs.flatMap enc ++ ys))) := by
  rcases h with h | ⟨rfl, b, rfl, hb, hbn⟩
  · exact ⟨_, by simp, fun A hA hE => h.ext_kill hA hE, h.app he ys hk hy h1 h2⟩
  · refine ⟨H, rfl, fun A _ hE => hE, ?_⟩
    unfold appV
    rw [if_neg hk]
    simp only [List.length_nil, Nat.zero_add] at h1 h2 ⊢
    rw [if_neg (by omega), if_pos ⟨h1, h2, hy⟩]
    simp

theorem OwnZ.ext {α : Type} {enc : α → List Value} {sz n0 : Nat} {H H' : Heap} {v : Value} {xs : List α} (h : OwnZ enc sz n0 H v xs) (hE : Ext H H') : OwnZ enc sz n0 H' v xs := by
  rcases h with h | ⟨h1, b, h2, h3, h4⟩
  · exact .inl (h.ext hE)
  · exact .inr ⟨h1, b, h2, h3, by have := hE.next; omega⟩
/-- A row of two cells' elements in a block of its own. -/
theorem rows_blk {α : Type} {enc : α → List Value} {sz : Nat} {H : Heap} (xs : List α) (hl : xs.length ≤ 1000) (he : ∀ x, (enc x).length = sz) (b n c : Nat) (hn : n = xs.length) (hc : n ≤ c / 2) (hb : b < H.next) (h : ∀ j, j < n * sz → H.cell b j = (xs.flatMap enc)[j]?) : Rows enc sz H (.slice (some ⟨b, 0, none⟩) n c) xs := by
  subst hn
  refine ⟨by omega, _, _, rfl, .inr ⟨b, 0, rfl, hb, hc, fun i hi j hj => ?_⟩⟩
  have hlt : i * sz + j < xs.length * sz := by
    have : (i + 1) * sz ≤ xs.length * sz := Nat.mul_le_mul_right _ hi
    rw [Nat.succ_mul] at this; omega
  rw [Nat.zero_add, h _ hlt, flat_get he xs i hi j hj]
/-- A slice's first elements. -/
theorem Own.cut {α : Type} {enc : α → List Value} {sz n0 : Nat} {H : Heap} {v : Value} {xs : List α} (h : Own enc sz n0 H v xs) (he : ∀ x, (enc x).length = sz) (k : Nat) (hk : k ≤ xs.length) : ∃ u, slvV H sz v none (some (.int .i64 (k : Int))) none = some u ∧ Rows enc sz H u (xs.take k) := by
  rcases h.is with ⟨rfl, rfl⟩ | ⟨b, B, rfl, h2, h3, h4, h5, h6, h7⟩
  · obtain rfl : k = 0 := by simpa using hk
    exact ⟨.slice none 0 0, rfl, Rows.nil⟩
  · refine ⟨.slice (some ⟨b, 0, none⟩) k (2 * xs.length), ?_, ?_⟩
    · simp [slvV, bound, hk]
    · have hr := h.rows he
      obtain ⟨hl, p, c, e, hp⟩ := hr
      cases e
      have hlen : (xs.take k).length = k := by rw [List.length_take]; omega
      refine ⟨by omega, some ⟨b, 0, none⟩, 2 * xs.length, by rw [hlen], .inr ⟨b, 0, rfl, h3, by omega, fun i hi j hj => ?_⟩⟩
      rcases hp with ⟨hn, _⟩ | ⟨b', o', e', _, _, h8⟩
      · cases hn
      · cases e'
        rw [h8 i (by omega) j hj]
        simp
theorem Rows.inj {α : Type} {enc : α → List Value} {sz : Nat} {H : Heap} {v : Value} {xs ys : List α} (he : ∀ x, (enc x).length = sz) (hi : ∀ x y, enc x = enc y → x = y) (h : Rows enc sz H v xs) (h' : Rows enc sz H v ys) : xs = ys := by
  obtain ⟨_, p, c, rfl, hp⟩ := h
  obtain ⟨_, p', c', e, hp'⟩ := h'
  simp only [Value.slice.injEq] at e
  obtain ⟨rfl, hl, rfl⟩ := e
  refine List.ext_getElem hl fun i h1 h2 => hi _ _ ?_
  rcases hp with ⟨_, rfl, _⟩ | ⟨b, o, rfl, hb, _, hc⟩
  · simp at h1
  · rcases hp' with ⟨hh, _⟩ | ⟨b', o', e', hb', _, hc'⟩
    · cases hh
    · cases e'
      refine List.ext_getElem? fun j => ?_
      by_cases hj : j < sz
      · rw [← hc i h1 j hj, ← hc' i h2 j hj]
      · rw [List.getElem?_eq_none (by rw [he]; omega), List.getElem?_eq_none (by rw [he]; omega)]
theorem encS_inj (x y : ByteArray) (h : encS x = encS y) : x = y := by simpa using h
theorem encI_inj (x y : Img) (h : encI x = encI y) : x = y := by
  have : x.1 = y.1 ∧ x.2 = y.2 := by simpa using h
  exact Prod.ext this.1 this.2
/-! ### disks -/
abbrev Dk := List ByteArray × List Img
def wOk (w : Img) : Bool := decide ((0 ≤ w.1 ∧ w.1 < 394) ∧ w.2.size = 64)
def dOk (d : Dk) : Bool := decide (d.1.length = 394) && decide (d.2.length ≤ 512) && d.1.all (fun s => decide (s.size = 64)) && d.2.all wOk
def lookC (c : List Img) (at_ : Int) : Option ByteArray := (c.reverse.find? fun w => decide (w.1 = at_)).map (·.2)
def lookD (d : Dk) (at_ : Int) : ByteArray := (lookC d.2 at_).getD (d.1[at_.toNat]?.getD ⟨#[]⟩)
def rdOk (d : Dk) (at_ : Int) : Bool := dOk d && decide (0 ≤ at_) && decide (at_ < 394)
def rdD (d : Dk) (at_ : Int) : ByteArray := if rdOk d at_ then lookD d at_ else ⟨#[]⟩
def rdE (d : Dk) (at_ : Int) : Int := if rdOk d at_ then 0 else 200
open Classical in
noncomputable def readX : List Value → Heap → Option (Value × Heap)
  | [.agg cs, .int .i64 at_], H => match cs.toList with
    | [s, c] => if h : ∃ d : Dk, Strs H s d.1 ∧ Imgs H c d.2 then some (.tuple #[.string (rdD h.choose at_), .int .i64 (rdE h.choose at_)], H) else none
    | _ => none
  | _, _ => none
def purL : List FuncId := [f_record_Seq, f_record_Page, f_record_May, f_record_Four, f_record_Number, f_record_Fill, f_record_Put, f_record_Get, f_log_Images, f_log_Count,
  f_ref1_ImagesMay, f_ref1_seqMay, f_ref1_part, f_ref1_RecordMay, f_ref1_Num, f_ref1_zeros, f_ref1_textMay, f_ref1_PutRecord, f_ref1_GetRecord, f_ref1_Of,
  f_law0_Num, f_law0_KeptImages, f_law0_SameImages, f_law0_SameTexts,
  f_disk_has, f_disk_may, f_disk_May, f_disk_May_1, f_disk_May_2, f_slices_ContainsFunc_string_string, f_slices_ContainsFunc_Write, f_slices_IndexFunc_string_string, f_slices_IndexFunc_Write,
  f_pair_Torn, f_ref1_writeMay, f_ref1_DiskMay, f_ref1_read, f_ref1_Read, f_ref1_Torn, f_law0_SameWrites, f_law0_SameDisk, f_law2_sector, f_law2_awake,
  f_math_bits_Mul, f_math_bits_Mul64, f_law2_Disks, f_law2_DiskFlushed, f_law2_DiskForms, f_law2_DiskLast, f_law2_DiskTorn, f_law2_DiskSubset,
  f_pair_Put, f_pair_Get, f_ref1_PutPair, f_ref1_GetPair, f_law1_half, f_law1_zeros, f_law1_awake, f_law1_PairForms, f_head_May, f_head_Put, f_head_Get, f_head_of, f_head_Best,
  f_ref1_HeadMay, f_ref1_PutHead, f_ref1_GetHead, f_ref1_sectorHead, f_ref1_Best, f_law5_awake, f_law5_HeadRow, f_open_Home, f_open_whole, f_open_home, f_ref1_home, f_ref1_homeText,
  f_ref1_write, f_ref1_headStep, f_ref1_PagerMay, f_ref1_roomy, f_plan_May, f_plan_May_1, f_plan_may, f_law0_SamePager, f_law0_SameSteps, f_law8_awake, f_law7_awake,
  f_law8_Plans, f_law8_PlanCrash, f_law8_PlanForms, f_law8_PlanFresh, f_law8_PlanAgain, f_law8_PlanRow, f_law7_Opens, f_law7_OpenSame, f_law7_OpenRows, f_law7_OpenHead, f_law7_OpenTorn]
noncomputable def K : Cfg := { P := Try.prog, F := fnAt Try.prog, X := fun f => if f = f_strings_Repeat then some repeatX else if f = f_disk_Read then some readX else none, pur := fun f => purL.contains f }
theorem read_ok (s c : Value) (d : Dk) (at_ : Int) (H : Heap) (hs : Strs H s d.1) (hc : Imgs H c d.2) : call K f_disk_Read [.agg #[s, c], .int .i64 at_] H = some (.tuple #[.string (rdD d at_), .int .i64 (rdE d at_)], H) := by
  rw [call_eq]
  show readX [.agg #[s, c], .int .i64 at_] H = _
  have h : ∃ d : Dk, Strs H s d.1 ∧ Imgs H c d.2 := ⟨d, hs, hc⟩
  have e : h.choose = d := Prod.ext (Rows.inj encS_len encS_inj h.choose_spec.1 hs) (Rows.inj encI_len encI_inj h.choose_spec.2 hc)
  simp only [readX]
  rw [dif_pos h, e]
theorem umod (x : Int) (m : Nat) (h0 : 0 < m) (h1 : m ≤ 1000000) : ∃ k : Nat, k < m ∧ binV K.P .rem tyUint (.int .u64 (IntKind.u64.wrap x)) (.int .u64 (m : Int)) = some (.int .u64 (k : Int)) := by
  have hw : IntKind.u64.wrap x = x % 18446744073709551616 := by simp [IntKind.wrap, IntKind.bits, IntKind.signed]
  refine ⟨((x % 18446744073709551616) % (m : Int)).toNat, ?_, ?_⟩
  · have := Int.emod_lt_of_pos (x % 18446744073709551616) (show (0 : Int) < m by omega)
    have := Int.emod_nonneg (x % 18446744073709551616) (show (m : Int) ≠ 0 by omega)
    omega
  · rw [binV_rem _ _ _ _ _ (by omega), hw, Int.tmod_eq_emod_of_nonneg (by omega)]
    congr 2
    have := Int.emod_nonneg (x % 18446744073709551616) (show (m : Int) ≠ 0 by omega)
    omega
theorem u64_nat (m : Nat) (h : m ≤ 1000000) : IntKind.u64.wrap (m : Int) = m := by simp [IntKind.wrap, IntKind.bits, IntKind.signed]; omega
end Go.AM
end TextR6K0
section TextR6A
/- Contracts: records. -/
namespace Go.AM
open Go.Proofs
set_option linter.unusedVariables false
set_option linter.unusedSimpArgs false
set_option maxRecDepth 100000
attribute [-simp] ByteArray.size_eq_zero_iff
theorem repeat_ok (s : ByteArray) (n : Int) (H : Heap) (h : 0 ≤ n ∧ n ≤ 9223372036854775807 ∧ s.size * n.toNat ≤ 140737488355328) : call K f_strings_Repeat [.string s, .int .i64 n] H = some (.string (repeatB s n.toNat), H) := by
  rw [call_eq]
  show (match (some repeatX : Option (List Value → Heap → Option (Value × Heap))) with | some g => g [.string s, .int .i64 n] H | none => none) = _
  simp [repeatX, h]
@[simp] theorem seq_ok (x : Int) (H : Heap) : call K f_record_Seq [.int .i64 x] H = some (.bool (decide (1 ≤ x ∧ x ≤ 2147483647)), H) := by
  refine of_wpf (open_pure rfl fc_record_Seq rfl (Nat.le_of_ble_eq_true rfl) ?_)
  by_cases h : 1 ≤ x <;> simp [h]
@[simp] theorem page_ok (x : Int) (H : Heap) : call K f_record_Page [.int .i64 x] H = some (.bool (decide (0 ≤ x ∧ x < 48)), H) := by
  refine of_wpf (open_pure rfl fc_record_Page rfl (Nat.le_of_ble_eq_true rfl) ?_)
  by_cases h : 0 ≤ x <;> simp [h]
@[simp] theorem rseq_ok (x : Int) (H : Heap) : call K f_ref1_seqMay [.int .i64 x] H = some (.bool (decide (1 ≤ x ∧ x ≤ 2147483647)), H) := by
  refine of_wpf (open_pure rfl fc_ref1_seqMay rfl (Nat.le_of_ble_eq_true rfl) ?_)
  by_cases h : 1 ≤ x <;> simp [h]
@[simp] theorem count_ok (x : Int) (H : Heap) : call K f_log_Count [.int .i64 x] H = some (.int .i64 (IntKind.i64.wrap (IntKind.i64.wrap (x * 4) + 1)), H) := by
  refine of_wpf (open_pure rfl fc_log_Count rfl (Nat.le_of_ble_eq_true rfl) ?_)
  simp
@[simp] theorem num_ok (x : Int) (H : Heap) : call K f_law0_Num [.int .i64 x] H = some (.int .i64 x, H) := by
  refine of_wpf (open_pure rfl fc_law0_Num rfl (Nat.le_of_ble_eq_true rfl) ?_)
  simp
@[simp] theorem textMay_ok (s : ByteArray) (H : Heap) : call K f_ref1_textMay [.string s] H = some (.bool (decide (s.size ≤ 96)), H) := by
  refine of_wpf (open_pure rfl fc_ref1_textMay rfl (Nat.le_of_ble_eq_true rfl) ?_)
  simp
  omega
def four (q : Int) : ByteArray := strOfNums [q / 16777216 % 256, q / 65536 % 256, q / 256 % 256, q % 256]
@[simp] theorem four_ok (x : Int) (H : Heap) : call K f_record_Four [.int .i64 x] H = some (.string (four x), H) := by
  refine of_wpf (open_pure rfl fc_record_Four rfl (Nat.le_of_ble_eq_true rfl) ?_)
  simp [four]
def RMay (q p t : Int) (d : ByteArray) : Prop := (1 ≤ q ∧ q ≤ 2147483647) ∧ ((t = 4 ∧ p = 0 ∧ d.size = 0) ∨ (0 ≤ t ∧ t < 4 ∧ 0 ≤ p ∧ p < 48 ∧ d.size ≤ 24))
instance (q p t : Int) (d : ByteArray) : Decidable (RMay q p t d) := by unfold RMay; infer_instance
theorem RMay_size {q p t : Int} {d : ByteArray} (h : RMay q p t d) : d.size ≤ 24 := by
  rcases h.2 with h | h <;> omega
def head8 (q p t : Int) (d : ByteArray) : List Int := [q / 16777216 % 256, q / 65536 % 256, q / 256 % 256, q % 256, p % 256, t % 256, (d.size : Int) % 256, 0]
def recOf (q p t : Int) (d : ByteArray) : ByteArray := strOfNums (head8 q p t d) ++ d ++ zer (24 - d.size)
def putR (q p t : Int) (d : ByteArray) : ByteArray × Int := if RMay q p t d then (recOf q p t d, 0) else (⟨#[]⟩, 300)
theorem recOf_size (q p t : Int) (d : ByteArray) (h : d.size ≤ 24) : (recOf q p t d).size = 32 := by
  unfold recOf; rw [size_append, size_append, size_strOfNums, zer_size]; simp [head8]; omega
theorem L_recOf (q p t : Int) (d : ByteArray) : L (recOf q p t d) = (head8 q p t d).map (fun n => UInt8.ofNat n.toNat) ++ (L d ++ List.replicate (24 - d.size) 0) := by
  unfold recOf; rw [L_append, L_append, L_strOfNums, L_zer, List.append_assoc]
def num4 (s : ByteArray) : Int := bt s 0 * 16777216 + bt s 1 * 65536 + bt s 2 * 256 + bt s 3
/-- the record that some bytes would be -/
def recAt (s : ByteArray) : Int × Int × Int × ByteArray := (num4 s, bt s 4, bt s 5, s.extract 8 (8 + bt s 6).toNat)
def getR (s : ByteArray) : Int × Int × Int × ByteArray × Int :=
  if s.size = 32 ∧ bt s 6 ≤ 24 ∧ putR (recAt s).1 (recAt s).2.1 (recAt s).2.2.1 (recAt s).2.2.2 = (s, 0) then ((recAt s).1, (recAt s).2.1, (recAt s).2.2.1, (recAt s).2.2.2, 0) else (0, 0, 0, ⟨#[]⟩, 300)
theorem recAt_recOf {q p t : Int} {d : ByteArray} (h : RMay q p t d) : recAt (recOf q p t d) = (q, p, t, d) := by
  have hz := RMay_size h
  have hq := h.1
  have hp : 0 ≤ p ∧ p ≤ 255 ∧ 0 ≤ t ∧ t ≤ 255 := by rcases h.2 with h | h <;> omega
  have hL := L_recOf q p t d
  generalize hx : recOf q p t d = x at hL
  have m : ∀ y : Int, 0 ≤ y % 256 ∧ y % 256 ≤ 255 := fun y => by omega
  have b0 : bt x 0 = q / 16777216 % 256 := by rw [bt_L, hL]; exact u8_mod (m _).1 (m _).2
  have b1 : bt x 1 = q / 65536 % 256 := by rw [bt_L, hL]; exact u8_mod (m _).1 (m _).2
  have b2 : bt x 2 = q / 256 % 256 := by rw [bt_L, hL]; exact u8_mod (m _).1 (m _).2
  have b3 : bt x 3 = q % 256 := by rw [bt_L, hL]; exact u8_mod (m _).1 (m _).2
  have b4 : bt x 4 = p % 256 := by rw [bt_L, hL]; exact u8_mod (m _).1 (m _).2
  have b5 : bt x 5 = t % 256 := by rw [bt_L, hL]; exact u8_mod (m _).1 (m _).2
  have b6 : bt x 6 = (d.size : Int) % 256 := by rw [bt_L, hL]; exact u8_mod (m _).1 (m _).2
  have hd : (8 + bt x 6).toNat = 8 + d.size := by rw [b6]; omega
  have ex : x.extract 8 (8 + d.size) = d := by
    apply L_inj
    rw [L_extract, hL, List.drop_left' (by simp [head8]), ← L_length d]
    simp
  unfold recAt num4
  rw [hd, ex, b0, b1, b2, b3, b4, b5]
  have e1 : q / 16777216 % 256 * 16777216 + q / 65536 % 256 * 65536 + q / 256 % 256 * 256 + q % 256 = q := by omega
  have e2 : p % 256 = p := by omega
  have e3 : t % 256 = t := by omega
  rw [e1, e2, e3]
theorem get_recOf {q p t : Int} {d : ByteArray} (h : RMay q p t d) : getR (recOf q p t d) = (q, p, t, d, 0) := by
  have hz := RMay_size h
  have hb : bt (recOf q p t d) 6 = (d.size : Int) % 256 := by
    rw [bt_L, L_recOf]; exact u8_mod (by show 0 ≤ (d.size : Int) % 256; omega) (by show (d.size : Int) % 256 ≤ 255; omega)
  unfold getR
  rw [recAt_recOf h, if_pos ⟨recOf_size q p t d hz, by rw [hb]; omega, by simp [putR, h]⟩]
theorem recOf_inj {q p t q' p' t' : Int} {d d' : ByteArray} (h : RMay q p t d) (h' : RMay q' p' t' d') : recOf q p t d = recOf q' p' t' d' ↔ (q = q' ∧ p = p' ∧ t = t' ∧ d = d') := by
  constructor
  · intro e
    have a := get_recOf h
    rw [e, get_recOf h'] at a
    simp at a; simp [a]
  · rintro ⟨rfl, rfl, rfl, rfl⟩; rfl
theorem putR_ok (q p t : Int) (d : ByteArray) : (putR q p t d).2 = 0 ↔ RMay q p t d := by
  unfold putR; by_cases h : RMay q p t d <;> simp [h]
theorem putR_yes {q p t : Int} {d : ByteArray} (h : RMay q p t d) : putR q p t d = (recOf q p t d, 0) := by simp [putR, h]
theorem putR_no {q p t : Int} {d : ByteArray} (h : ¬ RMay q p t d) : putR q p t d = (⟨#[]⟩, 300) := by simp [putR, h]

@[simp] theorem nil_lit (d : ByteArray) : (d = ⟨#[]⟩) = (d.size = 0) := propext size_zero.symm
theorem nil_size (d : ByteArray) : (d = ByteArray.empty) ↔ d.size = 0 := size_zero.symm
@[simp] theorem fill_ok (s : ByteArray) (H : Heap) (h : s.size ≤ 32) : call K f_record_Fill [.string s] H = some (.string (s ++ zer (32 - s.size)), H) := by
  refine of_wpf (open_pure rfl fc_record_Fill rfl (Nat.le_of_ble_eq_true rfl) ?_)
  have h1 : IntKind.i64.wrap (32 - (s.size : Int)) = ((32 - s.size : Nat) : Int) := by rw [wrap_i64 (by omega) (by omega)]; omega
  have h2 : ∀ H, call K f_strings_Repeat [.string ⟨#[0]⟩, .int .i64 ((32 - s.size : Nat) : Int)] H = some (.string (zer (32 - s.size)), H) := fun H => by
    rw [repeat_ok _ _ _ ⟨by omega, by omega, by
      show 1 * _ ≤ _
      omega⟩, Int.toNat_natCast, repeat_zero]
  have h3 : binV K.P .add tyStr (.string s) (.string (zer (32 - s.size))) = some (.string (s ++ zer (32 - s.size))) := binV_sadd _ _ _ _ (by rw [zer_size]; omega)
  simp [h1, h2, h3]
@[simp] theorem may_ok (q p t : Int) (d : ByteArray) (H : Heap) : call K f_record_May [.agg #[.int .i64 q, .int .i64 p, .int .i64 t, .string d]] H = some (.bool (decide (RMay q p t d)), H) := by
  refine of_wpf (open_pure rfl fc_record_May rfl (Nat.le_of_ble_eq_true rfl) ?_)
  unfold RMay
  by_cases h1 : 1 ≤ q ∧ q ≤ 2147483647 <;> by_cases h2 : t = 4
  · subst h2
    by_cases h3 : p = 0
    · subst h3; by_cases h7 : d.size = 0 <;> simp [h1, h7]
    · simp [h1, h3]
  · by_cases h4 : 0 ≤ t <;> by_cases h5 : t < 4 <;> by_cases h6 : 0 ≤ p ∧ p < 48 <;> simp [h1, h2, h4, h5, h6] <;> omega
  · subst h2
    by_cases h3 : p = 0
    · subst h3; by_cases h7 : d.size = 0 <;> simp [h1, h7]
    · simp [h1, h3]
  · by_cases h4 : 0 ≤ t <;> by_cases h5 : t < 4 <;> by_cases h6 : 0 ≤ p ∧ p < 48 <;> simp [h1, h2, h4, h5, h6]
@[simp] theorem rmay_ok (q p t : Int) (d : ByteArray) (H : Heap) : call K f_ref1_RecordMay [.agg #[.int .i64 q, .int .i64 p, .int .i64 t, .string d]] H = some (.bool (decide (RMay q p t d)), H) := by
  refine of_wpf (open_pure rfl fc_ref1_RecordMay rfl (Nat.le_of_ble_eq_true rfl) ?_)
  unfold RMay
  by_cases h1 : 1 ≤ q ∧ q ≤ 2147483647
  · by_cases h2 : p < 0
    · simp [h1, h2]; omega
    · by_cases h3 : 48 ≤ p
      · simp [h1, h2, h3]; omega
      · by_cases h4 : t < 0
        · simp [h1, h2, h3, h4]; omega
        · by_cases h5 : 4 < t
          · simp [h1, h2, h3, h4, h5]; omega
          · by_cases h6 : 24 < (d.size : Int)
            · simp [h1, h2, h3, h4, h5, h6, nil_size]; omega
            · by_cases h7 : t < 4
              · simp [h1, h2, h3, h4, h5, h6, h7]; omega
              · by_cases h8 : p = 0 <;> simp [h1, h2, h3, h4, h5, h6, h7, h8, nil_size] <;> omega
  · simp [h1]
@[simp] theorem rnum_ok (x : Int) (H : Heap) : call K f_ref1_Num [.int .i64 x] H = some (.string (four x), H) := by
  refine of_wpf (open_pure rfl fc_ref1_Num rfl (Nat.le_of_ble_eq_true rfl) ?_)
  simp [four]
@[simp] theorem zeros_ok (n : Nat) (H : Heap) (h : n ≤ 1000) : call K f_ref1_zeros [.int .i64 (n : Int)] H = some (.string (zer n), H) := by
  refine of_wpf (open_pure rfl fc_ref1_zeros rfl (Nat.le_of_ble_eq_true rfl) ?_)
  have h1 : n ≤ 2 ^ 46 := Nat.le_trans h (by decide)
  have h2 := row_fill1 H.roAll H.next n n (.int .u8 0) rfl (Nat.le_refl _)
  simp [h1, h2, nums_rep, str_zero]
@[simp] theorem number_ok (s : ByteArray) (H : Heap) (h : 4 ≤ s.size) : call K f_record_Number [.string s] H = some (.int .i64 (num4 s), H) := by
  refine of_wpf (open_pure rfl fc_record_Number rfl (Nat.le_of_ble_eq_true rfl) ?_)
  have w : ∀ i, IntKind.i64.wrap (bt s i) = bt s i := fun i => wrap_i64 (by have := bt_range s i; omega) (by have := bt_range s i; omega)
  have h0 : 0 < s.size := by omega
  have h1 : 1 < s.size := by omega
  have h2 : 2 < s.size := by omega
  have h3 : 3 < s.size := by omega
  have e := or4 (bt s 0) (bt s 1) (bt s 2) (bt s 3) (bt_range s 0) (bt_range s 1) (bt_range s 2) (bt_range s 3)
  simp [w, h0, h1, h2, h3, natOf, e, num4]
@[simp] theorem of_ok (s : ByteArray) (H : Heap) (h : 4 ≤ s.size) : call K f_ref1_Of [.string s] H = some (.int .i64 (num4 s), H) := by
  refine of_wpf (open_pure rfl fc_ref1_Of rfl (Nat.le_of_ble_eq_true rfl) ?_)
  have w : ∀ i, IntKind.i64.wrap (bt s i) = bt s i := fun i => wrap_i64 (by have := bt_range s i; omega) (by have := bt_range s i; omega)
  have h0 : 0 < s.size := by omega
  have h1 : 1 < s.size := by omega
  have h2 : 2 < s.size := by omega
  have h3 : 3 < s.size := by omega
  have e := or4 (bt s 0) (bt s 1) (bt s 2) (bt s 3) (bt_range s 0) (bt_range s 1) (bt_range s 2) (bt_range s 3)
  simp [w, h0, h1, h2, h3, natOf, e, num4]
def encRec (q p t : Int) (d : ByteArray) : Value := .agg #[.int .i64 q, .int .i64 p, .int .i64 t, .string d]
@[simp] theorem put_ok (q p t : Int) (d : ByteArray) (H : Heap) : call K f_record_Put [.agg #[.int .i64 q, .int .i64 p, .int .i64 t, .string d]] H = some (.tuple #[.string (putR q p t d).1, .int .i64 (putR q p t d).2], H) := by
  refine of_wpf (open_pure rfl fc_record_Put rfl (Nat.le_of_ble_eq_true rfl) ?_)
  by_cases h : RMay q p t d
  · have hz := RMay_size h
    rw [putR_yes h]
    have e1 : binV K.P .add tyStr (.string (four q)) (.string (strOfNums [p % 256, t % 256, (d.size : Int) % 256, 0])) = some (.string (strOfNums (head8 q p t d))) := by
      rw [binV_sadd _ _ _ _ (by simp only [four, size_strOfNums]; simp)]; unfold four; rw [str_append]; rfl
    have e2 : binV K.P .add tyStr (.string (strOfNums (head8 q p t d))) (.string d) = some (.string (strOfNums (head8 q p t d) ++ d)) := binV_sadd _ _ _ _ (by rw [size_strOfNums]; simp [head8]; omega)
    have e3 : (strOfNums (head8 q p t d) ++ d).size = 8 + d.size := by rw [size_append, size_strOfNums]; rfl
    have e4 : ∀ H, call K f_record_Fill [.string (strOfNums (head8 q p t d) ++ d)] H = some (.string (recOf q p t d), H) := fun H => by
      rw [fill_ok _ _ (by omega), e3, show 32 - (8 + d.size) = 24 - d.size by omega]; rfl
    simp [h, run_regd_tr, finD_some, Chk, e1, e2, e4, wanted]
  · rw [putR_no h]; simp [h]
@[simp] theorem rput_ok (q p t : Int) (d : ByteArray) (H : Heap) : call K f_ref1_PutRecord [.agg #[.int .i64 q, .int .i64 p, .int .i64 t, .string d]] H = some (.tuple #[.string (putR q p t d).1, .int .i64 (putR q p t d).2], H) := by
  refine of_wpf (open_pure rfl fc_ref1_PutRecord rfl (Nat.le_of_ble_eq_true rfl) ?_)
  by_cases h : RMay q p t d
  · have hz := RMay_size h
    rw [putR_yes h]
    have e1 : binV K.P .add tyStr (.string (four q)) (.string (strOfNums [p % 256, t % 256, (d.size : Int) % 256, 0])) = some (.string (strOfNums (head8 q p t d))) := by
      rw [binV_sadd _ _ _ _ (by simp only [four, size_strOfNums]; simp)]; unfold four; rw [str_append]; rfl
    have e2 : binV K.P .add tyStr (.string (strOfNums (head8 q p t d))) (.string d) = some (.string (strOfNums (head8 q p t d) ++ d)) := binV_sadd _ _ _ _ (by rw [size_strOfNums]; simp [head8]; omega)
    have e3 : (strOfNums (head8 q p t d) ++ d).size = 8 + d.size := by rw [size_append, size_strOfNums]; rfl
    have e4 : binV K.P .add tyStr (.string (strOfNums (head8 q p t d) ++ d)) (.string (zer (24 - d.size))) = some (.string (recOf q p t d)) := binV_sadd _ _ _ _ (by rw [e3, zer_size]; omega)
    have e5 : IntKind.i64.wrap (24 - (d.size : Int)) = ((24 - d.size : Nat) : Int) := by rw [wrap_i64 (by omega) (by omega)]; omega
    have e6 : ∀ H, call K f_ref1_zeros [.int .i64 ((24 - d.size : Nat) : Int)] H = some (.string (zer (24 - d.size)), H) := fun H => zeros_ok _ H (by omega)
    simp [h, run_regd_tr, finD_some, Chk, e1, e2, e4, e5, e6, wanted]
  · rw [putR_no h]; simp [h]
def valR (x : Int × Int × Int × ByteArray × Int) : Value := .tuple #[.agg #[.int .i64 x.1, .int .i64 x.2.1, .int .i64 x.2.2.1, .string x.2.2.2.1], .int .i64 x.2.2.2.2]
@[simp] theorem get_ok (s : ByteArray) (H : Heap) : call K f_record_Get [.string s] H = some (valR (getR s), H) := by
  refine of_wpf (open_pure rfl fc_record_Get rfl (Nat.le_of_ble_eq_true rfl) ?_)
  have w : ∀ i, IntKind.i64.wrap (bt s i) = bt s i := fun i => wrap_i64 (by have := bt_range s i; omega) (by have := bt_range s i; omega)
  have hr := bt_range s 6
  unfold getR valR
  by_cases h1 : s.size = 32
  · by_cases h2 : bt s 6 ≤ 24
    · obtain ⟨k, hk⟩ := Int.eq_ofNat_of_zero_le (show 0 ≤ 8 + bt s 6 by omega)
      have e1 : IntKind.i64.wrap (8 + bt s 6) = (k : Int) := by rw [wrap_i64 (by omega) (by omega)]; exact hk
      have e0 : (8 + bt s 6).toNat = k := by omega
      have e2 : 8 ≤ k ∧ k ≤ 32 := by omega
      have e3 : slsV s (some (.int .i64 8)) (some (.int .i64 (k : Int))) = some (.string (s.extract 8 k)) := by simp [slsV, bound, natOf, h1, e2]
      have h2' : ¬ 24 < bt s 6 := by omega
      by_cases h3 : RMay (num4 s) (bt s 4) (bt s 5) (s.extract 8 k)
      · by_cases h4 : recOf (num4 s) (bt s 4) (bt s 5) (s.extract 8 k) = s
        · simp [h1, h2, h2', w, natOf, e0, e1, e3, recAt, putR, h3, h4]
        · simp [h1, h2, h2', w, natOf, e0, e1, e3, recAt, putR, h3, h4]
      · simp [h1, h2, h2', w, natOf, e0, e1, e3, recAt, putR, h3]
    · have h2' : 24 < bt s 6 := by omega
      simp [h1, h2, h2', w, natOf]
  · have h1' : ¬ ((s.size : Int) = 32) := by omega
    simp [h1, h1']
end Go.AM
end TextR6A
section TextR6B
/- Contracts: images, texts. -/
namespace Go.AM
open Go.Proofs
set_option linter.unusedVariables false
set_option linter.unusedSimpArgs false
set_option maxRecDepth 100000
attribute [-simp] ByteArray.size_eq_zero_iff
/-- May images be, behind a page? -/
def imOk : Int → List Img → Bool
  | _, [] => true
  | last, x :: xs => decide (last < x.1 ∧ (0 ≤ x.1 ∧ x.1 < 48) ∧ x.2.size ≤ 96) && imOk x.1 xs
theorem imOk_len : ∀ (xs : List Img) (last : Int), -1 ≤ last → imOk last xs = true → (xs.length : Int) ≤ 47 - last ∨ xs = []
  | [], _, _, _ => .inr rfl
  | x :: xs, last, h0, h => by
    simp [imOk] at h
    obtain ⟨⟨h1, ⟨h2, h3⟩, h4⟩, h5⟩ := h
    left
    rcases imOk_len xs x.1 (by omega) h5 with h6 | rfl
    · simp; omega
    · simp; omega
theorem imOk_48 {xs : List Img} (h : imOk (-1) xs = true) : xs.length ≤ 48 := by
  rcases imOk_len xs (-1) (by omega) h with h | rfl
  · omega
  · simp
theorem images_ok (v : Value) (xs : List Img) (H : Heap) (h : Imgs H v xs) : call K f_log_Images [v] H = some (.bool (imOk (-1) xs), H) := by
  obtain ⟨p, c, rfl⟩ := h.slice
  have hl := h.lim
  refine of_wpf (open_pure rfl fc_log_Images rfl (Nat.le_of_ble_eq_true rfl) ?_)
  simp
  refine wp_nxt (wp_for (fun k e G => ∃ (i : Nat) (last : Int), k = xs.length - i ∧ i ≤ xs.length ∧ Ext H.roAll G ∧ e 6 = .slice p xs.length c ∧ e 7 = .int .i64 xs.length ∧ e 8 = .int .i64 (i : Int) ∧ e 3 = .int .i64 last ∧ imOk last (xs.drop i) = imOk (-1) xs) xs.length ⟨0, -1, by simp [Ext.refl]⟩ ?_)
  rintro k e G ⟨i, last, rfl, hi, hE, h6, h7, h8, h3, hok⟩
  by_cases hlt : i < xs.length
  · obtain ⟨b, o, rfl, hb, k0, k1⟩ := h.roAll.at2 hlt
    have hn := hE.next
    have hb' : b ≠ G.next := by simp at hb hn; omega
    rw [← hE.cell (o := _) hb] at k0 k1
    simp [-cell_roAll] at k0 k1
    rw [List.drop_eq_getElem_cons hlt] at hok
    generalize hx : xs[i] = x at *
    obtain ⟨pg, tx⟩ := x
    simp only [imOk] at hok
    by_cases c1 : pg ≤ last
    · have c1' : ¬ last < pg := by omega
      simp [c_log_Images_l9, h6, h7, h8, h3, hlt, k0, k1, hb', c1] at hok ⊢
      simp [c1'] at hok; exact hok
    · by_cases c2 : 0 ≤ pg ∧ pg < 48
      · by_cases c3 : tx.size ≤ 96
        · have c3' : ¬ (96 < (tx.size : Int)) := by omega
          have c1' : last < pg := by omega
          simp [c_log_Images_l9, h6, h7, h8, h3, hlt, k0, k1, hb', c1, c2, c3, c3', c1'] at hok ⊢
          exact ⟨xs.length - (i + 1), by omega, i + 1, rfl, hlt, (hE.add _).set hn _, wrap_succ (by omega), hok⟩
        · have c3' : (96 < (tx.size : Int)) := by omega
          simp [c_log_Images_l9, h6, h7, h8, h3, hlt, k0, k1, hb', c1, c2, c3, c3'] at hok ⊢
          exact hok
      · simp [c_log_Images_l9, h6, h7, h8, h3, hlt, k0, k1, hb', c1, c2] at hok ⊢
        exact hok
  · have : i = xs.length := by omega
    subst this
    simp [c_log_Images_l9, h6, h7, h8] at hok ⊢
    simpa [imOk] using hok
theorem rimages_ok (v : Value) (xs : List Img) (H : Heap) (h : Imgs H v xs) : call K f_ref1_ImagesMay [v] H = some (.bool (imOk (-1) xs), H) := by
  obtain ⟨p, c, rfl⟩ := h.slice
  have hl := h.lim
  refine of_wpf (open_pure rfl fc_ref1_ImagesMay rfl (Nat.le_of_ble_eq_true rfl) ?_)
  simp
  refine wp_nxt (wp_for (fun k e G => ∃ (i : Nat) (last : Int), k = xs.length - i ∧ i ≤ xs.length ∧ G = H.roAll ∧ e 0 = .slice p xs.length c ∧ e 3 = .int .i64 (i : Int) ∧ (i = 0 → last = -1) ∧ (∀ j (hj : j < xs.length), j + 1 = i → last = xs[j].1) ∧ imOk last (xs.drop i) = imOk (-1) xs) xs.length ⟨0, -1, by simp⟩ ?_)
  rintro k e G ⟨i, last, rfl, hi, rfl, h6, h8, hL0, hL1, hok⟩
  by_cases hlt : i < xs.length
  · obtain ⟨b, o, rfl, hb, k0, k1⟩ := h.at2 hlt
    simp at k0 k1
    rw [List.drop_eq_getElem_cons hlt] at hok
    generalize hx : xs[i] = x at *
    obtain ⟨pg, tx⟩ := x
    simp only [imOk] at hok
    by_cases c1 : pg < 0
    · have c1' : ¬ 0 ≤ pg := by omega
      simp [c_ref1_ImagesMay_l6, h6, h8, hlt, k0, k1, c1, c1'] at hok ⊢
      exact hok
    · by_cases c2 : 48 ≤ pg
      · have c2' : ¬ pg < 48 := by omega
        simp [c_ref1_ImagesMay_l6, h6, h8, hlt, k0, k1, c1, c2, c2'] at hok ⊢
        exact hok
      · have c1' : 0 ≤ pg := by omega
        have c2' : pg < 48 := by omega
        by_cases c3 : tx.size ≤ 96
        · by_cases c4 : i = 0
          · obtain rfl := hL0 c4
            have c5 : -1 < pg := by omega
            have c6 : ¬ 0 < i := by omega
            simp [c_ref1_ImagesMay_l6, h6, h8, hlt, k0, k1, c1, c2, c3, c1', c2', c5, c6] at hok ⊢
            refine ⟨xs.length - (i + 1), by omega, i + 1, rfl, hlt, wrap_succ (by omega), pg, fun h => by omega, fun j hj hj0 => ?_, hok⟩
            obtain rfl : j = i := by omega
            rw [hx]
          · obtain ⟨j, hij⟩ : ∃ j, i = j + 1 := ⟨i - 1, by omega⟩
            have hj : j < xs.length := by omega
            obtain ⟨b2, o2, hp2, _, k2, _⟩ := h.at2 hj
            cases hp2
            have hw : IntKind.i64.wrap ((i : Int) - 1) = (j : Int) := by rw [wrap_i64 (by omega) (by omega)]; omega
            simp at k2
            rw [← hL1 j hj hij.symm] at k2
            have c6 : 0 < i := by omega
            by_cases c5 : last < pg
            · have c5' : ¬ pg ≤ last := by omega
              simp [c_ref1_ImagesMay_l6, h6, h8, hlt, hj, hw, k0, k1, k2, c1, c2, c3, c1', c2', c5, c5', c6] at hok ⊢
              refine ⟨xs.length - (i + 1), by omega, i + 1, rfl, hlt, wrap_succ (by omega), pg, fun h => by omega, fun j hj hj0 => ?_, hok⟩
              obtain rfl : j = i := by omega
              rw [hx]
            · have c5' : pg ≤ last := by omega
              simp [c_ref1_ImagesMay_l6, h6, h8, hlt, hj, hw, k0, k1, k2, c1, c2, c3, c1', c2', c5, c5', c6] at hok ⊢
              exact hok
        · simp [c_ref1_ImagesMay_l6, h6, h8, hlt, k0, k1, c1, c2, c3, c1', c2'] at hok ⊢
          exact hok
  · have : i = xs.length := by omega
    subst this
    simp [c_ref1_ImagesMay_l6, h6, h8] at hok ⊢
    have hy : imOk (-1) xs = true := by rw [← hok]; rfl
    have := imOk_48 hy
    rw [hy]; simp; omega
end Go.AM
end TextR6B
section TextR6C
/- Contracts: parts, transactions made. -/
namespace Go.AM
open Go.Proofs
set_option linter.unusedVariables false
set_option linter.unusedSimpArgs false
set_option maxRecDepth 100000
attribute [-simp] ByteArray.size_eq_zero_iff
def partD (s : ByteArray) (k : Nat) : ByteArray := s.extract (min (k * 24) s.size) (min (k * 24 + 24) s.size)
def recAtI (i : Img) (seq : Int) (k : Nat) : Rec := (seq + k, i.1, k, partD i.2 k)
def recsOf (i : Img) (seq : Int) : List Rec := (List.range 4).map (recAtI i seq)
theorem recsOf_len (i : Img) (seq : Int) : (recsOf i seq).length = 4 := rfl
theorem parts_ok (pg : Int) (tx : ByteArray) (seq : Int) (H : Heap) (hs : 1 ≤ seq ∧ seq ≤ 2147483647) (hb : tx.size ≤ 96) :
    wpf (call K f_log_Parts [.agg #[.int .i64 pg, .string tx], .int .i64 seq, .int .i64 1] H) fun v H' => Ext H H' ∧ Own encR 4 H.next H' v (recsOf (pg, tx) seq) := by
  refine open_plain rfl fc_log_Parts rfl (Nat.le_of_ble_eq_true rfl) ?_
  simp
  refine wp_nxt (wp_for (fun d e G => ∃ (i : Nat), d = 4 - i ∧ i ≤ 4 ∧ Ext H G ∧ H.next + 1 ≤ G.next ∧ e 3 = .pointer (some ⟨H.next, 0, none⟩) ∧ e 1 = .int .i64 seq ∧ e 2 = .int .i64 1 ∧ e 11 = .int .i64 (i : Int) ∧ G.cell H.next 0 = some (.int .i64 pg) ∧ G.cell H.next 1 = some (.string tx) ∧ Own encR 4 (H.next + 1) G (e 7) ((List.range i).map (recAtI (pg, tx) seq))) 4 ⟨0, by simp [(Ext.refl H).add, Own.nil]⟩ ?_)
  rintro d e G ⟨i, rfl, hi, hE, hn, h3, h1, h2, h11, c0, c1, ho⟩
  by_cases hlt : i < 4
  · have w0 : (i : Int) < 4 := by omega
    obtain ⟨m, hm⟩ : ∃ m : Nat, m = i * 24 := ⟨_, rfl⟩
    have w1 : IntKind.i64.wrap ((i : Int) * 24) = (m : Int) := by rw [wrap_i64 (by omega) (by omega)]; omega
    obtain ⟨f, hf⟩ : ∃ f : Nat, f = min (i * 24) tx.size := ⟨_, rfl⟩
    have w2 : (if tx.size < m then (tx.size : Int) else (m : Int)) = (f : Int) := by split <;> omega
    obtain ⟨g, hg⟩ : ∃ g : Nat, g = f + 24 := ⟨_, rfl⟩
    have w3 : IntKind.i64.wrap ((f : Int) + 24) = (g : Int) := by rw [wrap_i64 (by omega) (by omega)]; omega
    obtain ⟨t, ht⟩ : ∃ t : Nat, t = min (i * 24 + 24) tx.size := ⟨_, rfl⟩
    have w4 : (if tx.size < g then (tx.size : Int) else (g : Int)) = (t : Int) := by split <;> omega
    have w5 : slsV tx (some (.int .i64 (f : Int))) (some (.int .i64 (t : Int))) = some (.string (partD tx i)) := by
      have a1 : f ≤ t := by omega
      have a2 : t ≤ tx.size := by omega
      simp [slsV, bound, a1, a2]; subst hf ht; rfl
    have w6 : IntKind.i64.wrap (i : Int) = (i : Int) := wrap_i64 (by omega) (by omega)
    have w7 : IntKind.i64.wrap (seq + (i : Int)) = seq + (i : Int) := wrap_i64 (by omega) (by omega)
    have hne : H.next ≠ G.next := by omega
    have hA : ∀ B, appV (G.add B) 4 40 1 (e 7) [.int .i64 (seq + (i : Int)), .int .i64 pg, .int .i64 (i : Int), .string (partD tx i)] = some (.slice (some ⟨G.next + 1, 0, none⟩) (i + 1) (2 * (i + 1)), (killB (e 7) (G.add B)).add (rowBlk 4 (((List.range (i + 1)).map (recAtI (pg, tx) seq)).flatMap encR))) := fun B => by
      have hx := (ho.ext ((Ext.refl G).add B)).app encR_len (bytes := 40) (k := 1) [.int .i64 (seq + (i : Int)), .int .i64 pg, .int .i64 (i : Int), .string (partD tx i)] (by omega) rfl (by simp; omega) (by simp; omega)
      rw [hx]
      simp [List.range_succ, recAtI]
    have hk : ∀ B o, (killB (e 7) (G.add B)).cell H.next o = (G.add B).cell H.next o := fun B o => cell_killB (ho.notIn (by omega))
    have hne2 : H.next ≠ G.next + 1 := by omega
    simp [c_log_Parts_l9, h3, h1, h2, h11, c0, c1, w0, w1, w2, w3, w4, w5, w6, w7, hne, hne2, hk, hA]
    refine ⟨4 - (i + 1), by omega, i + 1, rfl, hlt, (ho.ext_kill (by omega) (hE.add _)).add _, by omega, wrap_succ (by omega), ?_⟩
    have hz := Own.new (enc := encR) (sz := 4) (n0 := H.next + 1) (H := killB (e 7) (G.add (rowBlk 4 [.int .i64 (seq + (i : Int)), .int .i64 pg, .int .i64 (i : Int), .string (partD tx i)]))) (xs := (List.range (i + 1)).map (recAtI (pg, tx) seq)) (by simp; omega) (by simp; omega) _ rfl
    simpa using hz
  · obtain rfl : i = 4 := by omega
    simp [c_log_Parts_l9, h11, h3]
    exact ⟨hE, ho.low (by omega)⟩
def recsAll : List Img → Int → List Rec
  | [], _ => []
  | x :: xs, seq => recsOf x seq ++ recsAll xs (seq + 4)
theorem recsAll_len : ∀ (xs : List Img) (seq : Int), (recsAll xs seq).length = 4 * xs.length
  | [], _ => rfl
  | x :: xs, seq => by rw [recsAll, List.length_append, recsOf_len, recsAll_len xs, List.length_cons]; omega
theorem recsAll_app : ∀ (xs ys : List Img) (seq : Int), recsAll (xs ++ ys) seq = recsAll xs seq ++ recsAll ys (seq + 4 * xs.length)
  | [], ys, seq => by simp [recsAll]
  | x :: xs, ys, seq => by
    simp only [List.cons_append, recsAll, recsAll_app xs ys, List.append_assoc, List.length_cons]
    rw [show seq + 4 + 4 * (xs.length : Int) = seq + 4 * ((xs.length + 1 : Nat) : Int) by omega]
theorem recsAll_take (xs : List Img) (seq : Int) {i : Nat} (h : i < xs.length) : recsAll (xs.take (i + 1)) seq = recsAll (xs.take i) seq ++ recsOf xs[i] (seq + 4 * i) := by
  rw [List.take_succ_eq_append_getElem h, recsAll_app, List.length_take, Nat.min_eq_left (by omega)]
  simp [recsAll]
def MkOk (xs : List Img) (seq : Int) : Prop := imOk (-1) xs = true ∧ (1 ≤ seq ∧ seq ≤ 2147483647) ∧ seq + 4 * xs.length ≤ 2147483647
instance (xs : List Img) (seq : Int) : Decidable (MkOk xs seq) := by unfold MkOk; infer_instance
def mkRecs (xs : List Img) (seq : Int) : List Rec := if MkOk xs seq then recsAll xs seq ++ [(seq + 4 * xs.length, 0, 4, ⟨#[]⟩)] else []
def mkErr (xs : List Img) (seq : Int) : Int := if MkOk xs seq then 0 else 400
theorem imOk_drop : ∀ (xs : List Img) (i : Nat) (l : Int) (h : i < xs.length), imOk l xs = true → (0 ≤ xs[i].1 ∧ xs[i].1 < 48) ∧ xs[i].2.size ≤ 96
  | x :: xs, 0, l, _, hk => by simp [imOk] at hk; exact ⟨hk.1.2.1, hk.1.2.2⟩
  | x :: xs, i + 1, l, h, hk => by
    simp [imOk] at hk
    exact imOk_drop xs i x.1 (by simpa using h) hk.2
theorem make_ok (v : Value) (xs : List Img) (seq : Int) (H : Heap) (h : Imgs H v xs) :
    wpf (call K f_log_Make [v, .int .i64 seq] H) fun r H' => Ext H H' ∧ ∃ v', r = .tuple #[v', .int .i64 (mkErr xs seq)] ∧ Own encR 4 H.next H' v' (mkRecs xs seq) := by
  obtain ⟨p, c, rfl⟩ := h.slice
  have hl := h.lim
  refine open_plain rfl fc_log_Make rfl (Nat.le_of_ble_eq_true rfl) ?_
  have hIm : ∀ G, Ext H G → call K f_log_Images [.slice p xs.length c] G = some (.bool (imOk (-1) xs), G) := fun G hE => images_ok _ xs G (h.ext hE)
  have hI0 := hIm H (Ext.refl H)
  by_cases k1 : imOk (-1) xs = true
  · have h48 := imOk_48 k1
    by_cases k2 : 1 ≤ seq ∧ seq ≤ 2147483647
    · have w1 : IntKind.i64.wrap (IntKind.i64.wrap (seq + IntKind.i64.wrap (IntKind.i64.wrap ((xs.length : Int) * 4) + 1)) - 1) = seq + 4 * (xs.length : Int) := by
        rw [wrap_i64 (x := (xs.length : Int) * 4) (by omega) (by omega), wrap_i64 (x := (xs.length : Int) * 4 + 1) (by omega) (by omega), wrap_i64 (x := seq + _) (by omega) (by omega), wrap_i64 (by omega) (by omega)]; omega
      have w2 : (1 : Int) ≤ seq + 4 * (xs.length : Int) := by omega
      by_cases k3 : seq + 4 * (xs.length : Int) ≤ 2147483647
      · have hok : MkOk xs seq := ⟨k1, k2, k3⟩
        simp [hI0, k1, k2, w1, w2, k3]
        refine wp_nxt (wp_for (fun d e G => ∃ (i : Nat), d = xs.length - i ∧ i ≤ xs.length ∧ Ext H G ∧ e 27 = .slice p xs.length c ∧ e 28 = .int .i64 (xs.length : Int) ∧ e 29 = .int .i64 (i : Int) ∧ e 1 = .int .i64 seq ∧ e 5 = .int .i64 0 ∧ Own encR 4 H.next G (e 6) (recsAll (xs.take i) seq)) xs.length ⟨0, by simp [Ext.refl, recsAll, Own.nil]⟩ ?_)
        rintro d e G ⟨i, rfl, hi, hE, h27, h28, h29, h1, h5, ho⟩
        by_cases hlt : i < xs.length
        · obtain ⟨b, o, rfl, hb, e0, e1⟩ := h.at2 hlt
          have hn := hE.next
          have hb' : b ≠ G.next := by omega
          rw [← hE.cell (o := _) hb] at e0 e1
          have hx := imOk_drop xs i (-1) hlt k1
          have ht := recsAll_take xs seq hlt
          generalize xs[i] = x at *
          obtain ⟨pg, tx⟩ := x
          simp at e0 e1 hx
          obtain ⟨s', hs'⟩ : ∃ s', s' = seq + 4 * (i : Int) := ⟨_, rfl⟩
          rw [← hs'] at ht
          obtain ⟨fv, fG, hc, hQ⟩ := wpf_choose (fun G0 => parts_ok pg tx s' G0 (by omega) hx.2)
          have hln : (recsAll (xs.take i) seq).length = 4 * i := by rw [recsAll_len, List.length_take]; omega
          have hL := ho.len
          rw [hln] at hL
          have w3 : IntKind.i64.wrap (seq + 4 * (i : Int)) = s' := by rw [wrap_i64 (by omega) (by omega)]; omega
          simp at hL
          have hA : ∀ B f, appE 4 40 (e 6) (fv ((G.add B).set G.next f)) (fG ((G.add B).set G.next f)) = some (.slice (some ⟨(fG ((G.add B).set G.next f)).next, 0, none⟩) (recsAll (xs.take (i + 1)) seq).length (2 * (recsAll (xs.take (i + 1)) seq).length), (killB (e 6) (fG ((G.add B).set G.next f))).add (rowBlk 4 ((recsAll (xs.take (i + 1)) seq).flatMap encR))) := fun B f => by
            have q := hQ ((G.add B).set G.next f)
            rw [(ho.ext ((((Ext.refl G).add B).set (by simp) f).trans q.1)).appR (q.2.rows encR_len) encR_len (fun _ => rfl) (by simp [recsOf_len]) (by rw [hln, recsOf_len]; omega) (by rw [hln, recsOf_len]; omega), ht]
          simp [c_log_Make_l9, h27, h28, h29, h1, h5, hlt, e0, e1, hb', hc, hL, w3, hA]
          refine ⟨xs.length - (i + 1), by omega, i + 1, rfl, hlt, ?_, wrap_succ (by omega), ?_⟩
          · have q := hQ ((G.add (rowBlk 2 [.int .i64 0, .string ⟨#[]⟩])).set G.next (some (((rowBlk 2 [.int .i64 0, .string ⟨#[]⟩]).put 0 (.int .i64 pg)).put 1 (.string tx))))
            exact (ho.ext_kill (Nat.le_refl _) ((hE.add _).set (by omega) _ |>.trans q.1)).add _
          · have q := (hQ ((G.add (rowBlk 2 [.int .i64 0, .string ⟨#[]⟩])).set G.next (some (((rowBlk 2 [.int .i64 0, .string ⟨#[]⟩]).put 0 (.int .i64 pg)).put 1 (.string tx))))).1.next
            simp at q
            exact Own.new' (by simp) (by omega) (by rw [recsAll_len, List.length_take]; omega) rfl
        · obtain rfl : i = xs.length := by omega
          rw [List.take_length] at ho
          have hL := ho.len
          rw [recsAll_len] at hL
          simp at hL
          have w3 : IntKind.i64.wrap (seq + 4 * (xs.length : Int)) = seq + 4 * (xs.length : Int) := wrap_i64 (by omega) (by omega)
          have hA : ∀ B, appV (G.add B) 4 40 1 (e 6) [.int .i64 (seq + 4 * (xs.length : Int)), .int .i64 0, .int .i64 4, .string ⟨#[]⟩] = some (.slice (some ⟨G.next + 1, 0, none⟩) (mkRecs xs seq).length (2 * (mkRecs xs seq).length), (killB (e 6) (G.add B)).add (rowBlk 4 ((mkRecs xs seq).flatMap encR))) := fun B => by
            rw [(ho.ext ((Ext.refl G).add B)).app encR_len _ (by omega) rfl (by rw [recsAll_len]; omega) (by rw [recsAll_len]; omega)]
            simp [mkRecs, hok]
          simp [c_log_Make_l9, h28, h29, h1, h5, hL, w3, hA, mkErr, hok]
          have hn := hE.next
          exact ⟨(ho.ext_kill (Nat.le_refl _) (hE.add _)).add _, Own.new' (by simp) (by omega) (by simp [mkRecs, hok, recsAll_len]; omega) rfl⟩
      · have hok : ¬ MkOk xs seq := fun hk => k3 hk.2.2
        simp [hI0, k1, k2, w1, w2, k3, hok, mkErr, mkRecs, Own.nil, Ext.refl]
    · have hok : ¬ MkOk xs seq := fun hk => k2 hk.2.1
      simp [hI0, k1, k2, hok, mkErr, mkRecs, Own.nil, Ext.refl]
  · have hok : ¬ MkOk xs seq := fun hk => k1 hk.1
    simp [hI0, k1, hok, mkErr, mkRecs, Own.nil, Ext.refl]
end Go.AM
end TextR6C
section TextR6D
/- Contracts: the document's transactions made; texts of records; comparisons. -/
namespace Go.AM
open Go.Proofs
set_option linter.unusedVariables false
set_option linter.unusedSimpArgs false
set_option maxRecDepth 100000
attribute [-simp] ByteArray.size_eq_zero_iff
theorem rpart_ok (s : ByteArray) (j : Nat) (H : Heap) (hs : s.size ≤ 96) (hj : j < 4) : call K f_ref1_part [.string s, .int .i64 (j : Int)] H = some (.string (partD s j), H) := by
  refine of_wpf (open_pure rfl fc_ref1_part rfl (Nat.le_of_ble_eq_true rfl) ?_)
  obtain ⟨m, hm⟩ : ∃ m : Nat, m = j * 24 := ⟨_, rfl⟩
  obtain ⟨g, hg⟩ : ∃ g : Nat, g = j * 24 + 24 := ⟨_, rfl⟩
  have w1 : IntKind.i64.wrap ((j : Int) * 24) = (m : Int) := by rw [wrap_i64 (by omega) (by omega)]; omega
  have w2 : IntKind.i64.wrap (IntKind.i64.wrap ((j : Int) + 1) * 24) = (g : Int) := by rw [wrap_i64 (x := (j : Int) + 1) (by omega) (by omega), wrap_i64 (by omega) (by omega)]; omega
  obtain ⟨f, hf⟩ : ∃ f : Nat, f = min (j * 24) s.size := ⟨_, rfl⟩
  obtain ⟨t, ht⟩ : ∃ t : Nat, t = min (j * 24 + 24) s.size := ⟨_, rfl⟩
  have w3 : (if m < s.size then (m : Int) else (s.size : Int)) = (f : Int) := by split <;> omega
  have w4 : (if g < s.size then (g : Int) else (s.size : Int)) = (t : Int) := by split <;> omega
  have w5 : slsV s (some (.int .i64 (f : Int))) (some (.int .i64 (t : Int))) = some (.string (partD s j)) := by
    have a1 : f ≤ t := by omega
    have a2 : t ≤ s.size := by omega
    simp [slsV, bound, a1, a2]; subst hf ht; rfl
  simp [w1, w2, w3, w4, w5]
theorem rmake_ok (v : Value) (xs : List Img) (seq : Int) (H : Heap) (h : Imgs H v xs) :
    wpf (call K f_ref1_Make [v, .int .i64 seq] H) fun r H' => Ext H H' ∧ ∃ v', r = .tuple #[v', .int .i64 (mkErr xs seq)] ∧ Own encR 4 H.next H' v' (mkRecs xs seq) := by
  obtain ⟨p, c, rfl⟩ := h.slice
  have hl := h.lim
  refine open_plain rfl fc_ref1_Make rfl (Nat.le_of_ble_eq_true rfl) ?_
  have hI0 : call K f_ref1_ImagesMay [.slice p xs.length c] H = some (.bool (imOk (-1) xs), H) := rimages_ok _ xs H h
  by_cases k1 : imOk (-1) xs = true
  · have h48 := imOk_48 k1
    by_cases k2 : 1 ≤ seq ∧ seq ≤ 2147483647
    · have w1 : IntKind.i64.wrap (seq + IntKind.i64.wrap (4 * (xs.length : Int))) = seq + 4 * (xs.length : Int) := by
        rw [wrap_i64 (x := 4 * (xs.length : Int)) (by omega) (by omega), wrap_i64 (by omega) (by omega)]
      have w2 : (1 : Int) ≤ seq + 4 * (xs.length : Int) := by omega
      by_cases k3 : seq + 4 * (xs.length : Int) ≤ 2147483647
      · have hok : MkOk xs seq := ⟨k1, k2, k3⟩
        simp [hI0, k1, k2, w1, w2, k3]
        refine wp_nxt (wp_for (fun d e G => ∃ (i : Nat), d = xs.length - i ∧ i ≤ xs.length ∧ Ext H G ∧ e 0 = .slice p xs.length c ∧ e 7 = .int .i64 (i : Int) ∧ e 1 = .int .i64 seq ∧ e 5 = .int .i64 0 ∧ Own encR 4 H.next G (e 6) (recsAll (xs.take i) seq)) xs.length ⟨0, by simp [Ext.refl, recsAll, Own.nil]⟩ ?_)
        rintro d e G ⟨i, rfl, hi, hE, h0, h7, h1, h5, ho⟩
        by_cases hlt : i < xs.length
        · obtain ⟨b, o, rfl, hb, e0, e1⟩ := h.at2 hlt
          have hx := imOk_drop xs i (-1) hlt k1
          have ht := recsAll_take xs seq hlt
          generalize xs[i] = x at *
          obtain ⟨pg, tx⟩ := x
          simp at e0 e1 hx
          obtain ⟨s', hs'⟩ : ∃ s', s' = seq + 4 * (i : Int) := ⟨_, rfl⟩
          rw [← hs'] at ht
          have hln : (recsAll (xs.take i) seq).length = 4 * i := by rw [recsAll_len, List.length_take]; omega
          simp [c_ref1_Make_l12, h0, h7, hlt]
          refine wp_nxt (wp_unblock (wp_for (fun d e G => ∃ (j : Nat), d = 4 - j ∧ j ≤ 4 ∧ Ext H G ∧ e 0 = .slice (some ⟨b, o, none⟩) xs.length c ∧ e 7 = .int .i64 (i : Int) ∧ e 1 = .int .i64 seq ∧ e 5 = .int .i64 0 ∧ e 8 = .int .i64 (j : Int) ∧ Own encR 4 H.next G (e 6) (recsAll (xs.take i) seq ++ (List.range j).map (recAtI (pg, tx) s'))) 4 ⟨0, by simp [hE, h0, h7, h1, h5, ho]⟩ ?_))
          rintro d e G ⟨j, rfl, hj, hE, h0, h7, h1, h5, h8, ho⟩
          by_cases hjlt : j < 4
          · have w0 : (j : Int) < 4 := by omega
            have hn := hE.next
            have hb' : b ≠ G.next := by omega
            rw [← hE.cell (o := _) hb] at e0 e1
            have hln2 : (recsAll (xs.take i) seq ++ (List.range j).map (recAtI (pg, tx) s')).length = 4 * i + j := by rw [List.length_append, hln]; simp
            have hL := ho.len
            rw [hln2] at hL
            simp at hL
            have w3 : IntKind.i64.wrap (seq + (4 * (i : Int) + (j : Int))) = s' + (j : Int) := by rw [wrap_i64 (by omega) (by omega)]; omega
            have hA : ∀ B, appV (G.add B) 4 40 1 (e 6) [.int .i64 (s' + (j : Int)), .int .i64 pg, .int .i64 (j : Int), .string (partD tx j)] = some (.slice (some ⟨G.next + 1, 0, none⟩) (4 * i + j + 1) (2 * (4 * i + j + 1)), (killB (e 6) (G.add B)).add (rowBlk 4 ((recsAll (xs.take i) seq ++ (List.range (j + 1)).map (recAtI (pg, tx) s')).flatMap encR))) := fun B => by
              rw [(ho.ext ((Ext.refl G).add B)).app encR_len _ (by omega) rfl (by omega) (by omega), hln2]
              simp [List.range_succ, recAtI]
            have hP : ∀ G, call K f_ref1_part [.string tx, .int .i64 (j : Int)] G = some (.string (partD tx j), G) := fun G => rpart_ok tx j G hx.2 hjlt
            simp [c_ref1_Make_l10, h0, h7, h1, h5, h8, w0, hlt, hL, w3, e0, e1, hP, hb', run_regd_tr, finD_some, Chk, wanted, hA]
            refine ⟨4 - (j + 1), by omega, j + 1, rfl, hjlt, (ho.ext_kill (Nat.le_refl _) (hE.add _)).add _, wrap_succ (by omega), ?_⟩
            have hz := Own.new' (enc := encR) (sz := 4) (n0 := H.next) (b := G.next + 1) (H := killB (e 6) (G.add (rowBlk 4 [.int .i64 (s' + (j : Int)), .int .i64 pg, .int .i64 (j : Int), .string (partD tx j)]))) (xs := recsAll (xs.take i) seq ++ (List.range (j + 1)).map (recAtI (pg, tx) s')) (by simp) (by omega) (by rw [List.length_append, hln]; simp; omega) rfl
            simpa [hln, Nat.add_assoc] using hz
          · obtain rfl : j = 4 := by omega
            simp [c_ref1_Make_l10, h0, h7, h1, h5, h8]
            refine ⟨xs.length - (i + 1), by omega, i + 1, rfl, hlt, hE, wrap_succ (by omega), ?_⟩
            rw [ht]; exact ho
        · obtain rfl : i = xs.length := by omega
          rw [List.take_length] at ho
          have hL := ho.len
          rw [recsAll_len] at hL
          simp at hL
          have w3 : IntKind.i64.wrap (seq + 4 * (xs.length : Int)) = seq + 4 * (xs.length : Int) := wrap_i64 (by omega) (by omega)
          have hA : ∀ B, appV (G.add B) 4 40 1 (e 6) [.int .i64 (seq + 4 * (xs.length : Int)), .int .i64 0, .int .i64 4, .string ⟨#[]⟩] = some (.slice (some ⟨G.next + 1, 0, none⟩) (mkRecs xs seq).length (2 * (mkRecs xs seq).length), (killB (e 6) (G.add B)).add (rowBlk 4 ((mkRecs xs seq).flatMap encR))) := fun B => by
            rw [(ho.ext ((Ext.refl G).add B)).app encR_len _ (by omega) rfl (by rw [recsAll_len]; omega) (by rw [recsAll_len]; omega)]
            simp [mkRecs, hok]
          simp [c_ref1_Make_l12, h0, h7, h1, h5, hL, w3, hA, mkErr, hok]
          have hn := hE.next
          exact ⟨(ho.ext_kill (Nat.le_refl _) (hE.add _)).add _, Own.new' (by simp) (by omega) (by simp [mkRecs, hok, recsAll_len]; omega) rfl⟩
      · have hok : ¬ MkOk xs seq := fun hk => k3 hk.2.2
        simp [hI0, k1, k2, w1, w2, k3, hok, mkErr, mkRecs, Own.nil, Ext.refl]
    · have hok : ¬ MkOk xs seq := fun hk => k2 hk.2.1
      simp [hI0, k1, k2, hok, mkErr, mkRecs, Own.nil, Ext.refl]
  · have hok : ¬ MkOk xs seq := fun hk => k1 hk.1
    simp [hI0, k1, hok, mkErr, mkRecs, Own.nil, Ext.refl]
/-- The bytes of a record. -/
def txtR (r : Rec) : ByteArray := (putR r.1 r.2.1 r.2.2.1 r.2.2.2).1
end Go.AM
end TextR6D
section TextR6E
/- Contracts: comparisons. -/
namespace Go.AM
open Go.Proofs
set_option linter.unusedVariables false
set_option linter.unusedSimpArgs false
set_option maxRecDepth 100000
attribute [-simp] ByteArray.size_eq_zero_iff
theorem sameTexts_ok (va vb : Value) (xs ys : List ByteArray) (H : Heap) (ha : Strs H va xs) (hb : Strs H vb ys) : call K f_law0_SameTexts [va, vb] H = some (.bool (decide (xs = ys)), H) := by
  obtain ⟨p, c, rfl⟩ := ha.slice
  obtain ⟨q, d, rfl⟩ := hb.slice
  have hl := ha.lim
  refine of_wpf (open_pure rfl fc_law0_SameTexts rfl (Nat.le_of_ble_eq_true rfl) ?_)
  by_cases hlen : xs.length = ys.length
  · simp [hlen]
    refine wp_nxt (wp_for (fun k e H' => ∃ i, k = ys.length - i ∧ i ≤ ys.length ∧ H' = H.roAll ∧ e 5 = .int .i64 (i : Int) ∧ e 0 = .slice p ys.length c ∧ e 1 = .slice q ys.length d ∧ xs.take i = ys.take i) ys.length ⟨0, by simp⟩ ?_)
    rintro k e H' ⟨i, rfl, hi, rfl, h5, h0, h1, heq⟩
    by_cases hlt2 : i < ys.length
    · have hlt : i < xs.length := by omega
      obtain ⟨b, o, rfl, hb1, k0⟩ := ha.at1 hlt
      obtain ⟨b2, o2, rfl, hb2, j0⟩ := hb.at1 hlt2
      have hst := take_succ_eq hlt hlt2
      have hne : xs[i] ≠ ys[i] → xs ≠ ys := fun hn he => hn (by subst he; rfl)
      generalize xs[i] = x at *
      generalize ys[i] = y at *
      simp at k0 j0
      by_cases he : x = y
      · subst he
        simp [c_law0_SameTexts_l8, h5, h0, h1, hlt, hlt2, k0, j0]
        exact ⟨ys.length - (i + 1), by omega, i + 1, rfl, hlt2, wrap_succ (by omega), hst.2 ⟨heq, rfl⟩⟩
      · have hd : ¬ (x = y) := fun hh => he (hh)
        have hf := hne he
        simp [c_law0_SameTexts_l8, h5, h0, h1, hlt, hlt2, k0, j0, hd, hf]
        
    · have : i = ys.length := by omega
      subst this
      simp [c_law0_SameTexts_l8, h5, h0]
      rw [List.take_length, ← hlen, List.take_length] at heq
      exact heq
  · simp [hlen]
    intro h
    subst h
    exact hlen rfl
theorem sameImages_ok (va vb : Value) (xs ys : List Img) (H : Heap) (ha : Imgs H va xs) (hb : Imgs H vb ys) : call K f_law0_SameImages [va, vb] H = some (.bool (decide (xs = ys)), H) := by
  obtain ⟨p, c, rfl⟩ := ha.slice
  obtain ⟨q, d, rfl⟩ := hb.slice
  have hl := ha.lim
  refine of_wpf (open_pure rfl fc_law0_SameImages rfl (Nat.le_of_ble_eq_true rfl) ?_)
  by_cases hlen : xs.length = ys.length
  · simp [hlen]
    refine wp_nxt (wp_for (fun k e H' => ∃ i, k = ys.length - i ∧ i ≤ ys.length ∧ H' = H.roAll ∧ e 5 = .int .i64 (i : Int) ∧ e 0 = .slice p ys.length c ∧ e 1 = .slice q ys.length d ∧ xs.take i = ys.take i) ys.length ⟨0, by simp⟩ ?_)
    rintro k e H' ⟨i, rfl, hi, rfl, h5, h0, h1, heq⟩
    by_cases hlt2 : i < ys.length
    · have hlt : i < xs.length := by omega
      obtain ⟨b, o, rfl, hb1, k0, k1⟩ := ha.at2 hlt
      obtain ⟨b2, o2, rfl, hb2, j0, j1⟩ := hb.at2 hlt2
      have hst := take_succ_eq hlt hlt2
      have hne : xs[i] ≠ ys[i] → xs ≠ ys := fun hn he => hn (by subst he; rfl)
      generalize xs[i] = x at *
      generalize ys[i] = y at *
      simp at k0 k1 j0 j1
      by_cases he : x = y
      · subst he
        simp [c_law0_SameImages_l8, h5, h0, h1, hlt, hlt2, k0, k1, j0, j1]
        exact ⟨ys.length - (i + 1), by omega, i + 1, rfl, hlt2, wrap_succ (by omega), hst.2 ⟨heq, rfl⟩⟩
      · have hd0 : ¬ (x.1 = y.1 ∧ x.2 = y.2) := fun hh => he (Prod.ext hh.1 hh.2)
        have hd : ¬ x.1 = y.1 ∨ ¬ x.2 = y.2 := by simpa only [Classical.not_and_iff_not_or_not] using hd0
        have hf := hne he
        simp [c_law0_SameImages_l8, h5, h0, h1, hlt, hlt2, k0, k1, j0, j1, hd, hf]
        
    · have : i = ys.length := by omega
      subst this
      simp [c_law0_SameImages_l8, h5, h0]
      rw [List.take_length, ← hlen, List.take_length] at heq
      exact heq
  · simp [hlen]
    intro h
    subst h
    exact hlen rfl
/-- A slice of slices of images. -/
def Txns (H : Heap) (v : Value) (xss : List (List Img)) : Prop := ∃ vs : List Value, Rows (fun v : Value => [v]) 1 H v vs ∧ All2 (fun v xs => Imgs H v xs) vs xss
theorem All2.at_ {α β : Type} {R : α → β → Prop} {us : List α} {ws : List β} (h : All2 R us ws) {i : Nat} (ha : i < us.length) (hb : i < ws.length) : R us[i] ws[i] := by
  obtain ⟨b, h1, h2⟩ := h.get (List.getElem?_eq_getElem ha)
  rw [List.getElem?_eq_getElem hb] at h1; cases h1; exact h2
theorem Txns.ext {H H' : Heap} {v : Value} {xss : List (List Img)} (h : Txns H v xss) (he : Ext H H') : Txns H' v xss := by
  obtain ⟨vs, h1, h2⟩ := h
  exact ⟨vs, h1.ext he, h2.mono fun v xs hx => hx.ext he⟩
end Go.AM
end TextR6E
