/- The setting of the seat: which functions are pure, which contracts come from elsewhere. -/
import Derived.Test.YtiiliffoclejlaaR6Code
import Derived.Test.YtiiliffoclejlaaAm3
namespace Go.AM
open Go.Proofs
set_option linter.unusedVariables false
set_option linter.unusedSimpArgs false
set_option maxRecDepth 100000
attribute [-simp] ByteArray.size_eq_zero_iff
abbrev Img := Int × ByteArray
abbrev encI : Img → List Value := fun i => [.int .i64 i.1, .string i.2]
abbrev Imgs := Rows encI 2
abbrev Rec := Int × Int × Int × ByteArray
abbrev encR : Rec → List Value := fun r => [.int .i64 r.1, .int .i64 r.2.1, .int .i64 r.2.2.1, .string r.2.2.2]
abbrev Recs := Rows encR 4
theorem encR_len (x : Rec) : (encR x).length = 4 := rfl
theorem encI_len (x : Img) : (encI x).length = 2 := rfl
theorem encS_len (x : ByteArray) : ([Value.string x] : List Value).length = 1 := rfl
abbrev encS : ByteArray → List Value := fun s => [.string s]
theorem encS_one (x : ByteArray) : (encS x).all Value.oneCell' = true := rfl
def EszOk (H : Heap) (sz : Nat) (v : Value) : Prop := ∀ b o n c, v = .slice (some ⟨b, o, none⟩) n c → n = 0 ∨ H.eszIs b sz = true
theorem EszOk.ext {H H' : Heap} {sz : Nat} {b o n c : Nat} (h : EszOk H sz (.slice (some ⟨b, o, none⟩) n c)) (hb : b < H.next) (he : Ext H H') : EszOk H' sz (.slice (some ⟨b, o, none⟩) n c) := by
  intro b' o' n' c' e
  cases e
  refine (h _ _ _ _ rfl).imp id fun h => ?_
  unfold Heap.eszIs at h ⊢
  rw [he.blk _ hb]; exact h
theorem Rows.tail {α : Type} {enc : α → List Value} {sz : Nat} {H : Heap} {v : Value} {xs : List α} (h : Rows enc sz H v xs) (hz : EszOk H sz v) (k : Nat) (hk : k ≤ xs.length) : ∃ u, slvV H sz v (some (.int .i64 (k : Int))) none none = some u ∧ Rows enc sz H u (xs.drop k) := by
  obtain ⟨hl, p, c, rfl, hp⟩ := h
  rcases hp with ⟨rfl, rfl, rfl⟩ | ⟨b, o, rfl, h2, h3, h4⟩
  · obtain rfl : k = 0 := by simpa using hk
    exact ⟨.slice none 0 0, rfl, Rows.nil⟩
  · have hzz : (k == 0 || H.eszIs b sz) = true := by
      rcases hz _ _ _ _ rfl with h0 | h0
      · have : k = 0 := by omega
        simp [this]
      · simp [h0]
    refine ⟨.slice (some ⟨b, o + k * sz, none⟩) (xs.length - k) (2 * (c / 2 - k) + c % 2), ?_, ?_⟩
    · simp [slvV, bound, hk, h3, hzz]
    · refine ⟨by rw [List.length_drop]; omega, _, _, by rw [List.length_drop], .inr ⟨b, _, rfl, h2, by rw [List.length_drop]; omega, fun i hi j hj => ?_⟩⟩
      rw [List.length_drop] at hi
      have := h4 (k + i) (by omega) j hj
      rw [show o + (k + i) * sz + j = o + k * sz + i * sz + j by rw [Nat.add_mul]; omega] at this
      rw [this, List.getElem_drop]
/-- Room of its own, or an empty slice of its own without room. -/
def OwnZ {α : Type} (enc : α → List Value) (sz n0 : Nat) (H : Heap) (v : Value) (xs : List α) : Prop := Own enc sz n0 H v xs ∨ (xs = [] ∧ ∃ b, v = .slice (some ⟨b, 0, none⟩) 0 1 ∧ n0 ≤ b ∧ b < H.next)
theorem OwnZ.app {α : Type} {enc : α → List Value} {sz n0 : Nat} {H : Heap} {v : Value} {xs : List α} (h : OwnZ enc sz n0 H v xs) (he : ∀ x, (enc x).length = sz) {bytes k : Nat} (ys : List Value) (hk : k ≠ 0) (hy : ys.all Value.oneCell' = true) (h1 : (xs.length + k) * bytes ≤ 2 ^ 47) (h2 : xs.length + k ≤ 2 ^ 47) :
    ∃ X : Heap, X.next = H.next ∧ (∀ A : Heap, A.next ≤ n0 → Ext A H → Ext A X) ∧ appV H sz bytes k v ys = some (.slice (some ⟨H.next, 0, none⟩) (xs.length + k) (2 * (xs.length + k)), X.add (rowBlk sz (xs.flatMap enc ++ ys))) := by
  rcases h with h | ⟨rfl, b, rfl, hb, hbn⟩
  · exact ⟨_, by simp, fun A hA hE => h.ext_kill hA hE, h.app he ys hk hy h1 h2⟩
  · refine ⟨H, rfl, fun A _ hE => hE, ?_⟩
    unfold appV
    rw [if_neg hk]
    simp only [List.length_nil, Nat.zero_add] at h1 h2 ⊢
    rw [if_neg (by omega), if_pos ⟨h1, h2, hy⟩]
    simp

theorem OwnZ.ext {α : Type} {enc : α → List Value} {sz n0 : Nat} {H H' : Heap} {v : Value} {xs : List α} (h : OwnZ enc sz n0 H v xs) (hE : Ext H H') : OwnZ enc sz n0 H' v xs := by
  rcases h with h | ⟨h1, b, h2, h3, h4⟩
  · exact .inl (h.ext hE)
  · exact .inr ⟨h1, b, h2, h3, by have := hE.next; omega⟩
/-- A row of two cells' elements in a block of its own. -/
theorem rows_blk {α : Type} {enc : α → List Value} {sz : Nat} {H : Heap} (xs : List α) (hl : xs.length ≤ 1000) (he : ∀ x, (enc x).length = sz) (b n c : Nat) (hn : n = xs.length) (hc : n ≤ c / 2) (hb : b < H.next) (h : ∀ j, j < n * sz → H.cell b j = (xs.flatMap enc)[j]?) : Rows enc sz H (.slice (some ⟨b, 0, none⟩) n c) xs := by
  subst hn
  refine ⟨by omega, _, _, rfl, .inr ⟨b, 0, rfl, hb, hc, fun i hi j hj => ?_⟩⟩
  have hlt : i * sz + j < xs.length * sz := by
    have : (i + 1) * sz ≤ xs.length * sz := Nat.mul_le_mul_right _ hi
    rw [Nat.succ_mul] at this; omega
  rw [Nat.zero_add, h _ hlt, flat_get he xs i hi j hj]
/-- A slice's first elements. -/
theorem Own.cut {α : Type} {enc : α → List Value} {sz n0 : Nat} {H : Heap} {v : Value} {xs : List α} (h : Own enc sz n0 H v xs) (he : ∀ x, (enc x).length = sz) (k : Nat) (hk : k ≤ xs.length) : ∃ u, slvV H sz v none (some (.int .i64 (k : Int))) none = some u ∧ Rows enc sz H u (xs.take k) := by
  rcases h.is with ⟨rfl, rfl⟩ | ⟨b, B, rfl, h2, h3, h4, h5, h6, h7⟩
  · obtain rfl : k = 0 := by simpa using hk
    exact ⟨.slice none 0 0, rfl, Rows.nil⟩
  · refine ⟨.slice (some ⟨b, 0, none⟩) k (2 * xs.length), ?_, ?_⟩
    · simp [slvV, bound, hk]
    · have hr := h.rows he
      obtain ⟨hl, p, c, e, hp⟩ := hr
      cases e
      have hlen : (xs.take k).length = k := by rw [List.length_take]; omega
      refine ⟨by omega, some ⟨b, 0, none⟩, 2 * xs.length, by rw [hlen], .inr ⟨b, 0, rfl, h3, by omega, fun i hi j hj => ?_⟩⟩
      rcases hp with ⟨hn, _⟩ | ⟨b', o', e', _, _, h8⟩
      · cases hn
      · cases e'
        rw [h8 i (by omega) j hj]
        simp
theorem Rows.inj {α : Type} {enc : α → List Value} {sz : Nat} {H : Heap} {v : Value} {xs ys : List α} (he : ∀ x, (enc x).length = sz) (hi : ∀ x y, enc x = enc y → x = y) (h : Rows enc sz H v xs) (h' : Rows enc sz H v ys) : xs = ys := by
  obtain ⟨_, p, c, rfl, hp⟩ := h
  obtain ⟨_, p', c', e, hp'⟩ := h'
  simp only [Value.slice.injEq] at e
  obtain ⟨rfl, hl, rfl⟩ := e
  refine List.ext_getElem hl fun i h1 h2 => hi _ _ ?_
  rcases hp with ⟨_, rfl, _⟩ | ⟨b, o, rfl, hb, _, hc⟩
  · simp at h1
  · rcases hp' with ⟨hh, _⟩ | ⟨b', o', e', hb', _, hc'⟩
    · cases hh
    · cases e'
      refine List.ext_getElem? fun j => ?_
      by_cases hj : j < sz
      · rw [← hc i h1 j hj, ← hc' i h2 j hj]
      · rw [List.getElem?_eq_none (by rw [he]; omega), List.getElem?_eq_none (by rw [he]; omega)]
theorem encS_inj (x y : ByteArray) (h : encS x = encS y) : x = y := by simpa using h
theorem encI_inj (x y : Img) (h : encI x = encI y) : x = y := by
  have : x.1 = y.1 ∧ x.2 = y.2 := by simpa using h
  exact Prod.ext this.1 this.2
/-! ### disks -/
abbrev Dk := List ByteArray × List Img
def wOk (w : Img) : Bool := decide ((0 ≤ w.1 ∧ w.1 < 394) ∧ w.2.size = 64)
def dOk (d : Dk) : Bool := decide (d.1.length = 394) && decide (d.2.length ≤ 512) && d.1.all (fun s => decide (s.size = 64)) && d.2.all wOk
def lookC (c : List Img) (at_ : Int) : Option ByteArray := (c.reverse.find? fun w => decide (w.1 = at_)).map (·.2)
def lookD (d : Dk) (at_ : Int) : ByteArray := (lookC d.2 at_).getD (d.1[at_.toNat]?.getD ⟨#[]⟩)
def rdOk (d : Dk) (at_ : Int) : Bool := dOk d && decide (0 ≤ at_) && decide (at_ < 394)
def rdD (d : Dk) (at_ : Int) : ByteArray := if rdOk d at_ then lookD d at_ else ⟨#[]⟩
def rdE (d : Dk) (at_ : Int) : Int := if rdOk d at_ then 0 else 200
open Classical in
noncomputable def readX : List Value → Heap → Option (Value × Heap)
  | [.agg cs, .int .i64 at_], H => match cs.toList with
    | [s, c] => if h : ∃ d : Dk, Strs H s d.1 ∧ Imgs H c d.2 then some (.tuple #[.string (rdD h.choose at_), .int .i64 (rdE h.choose at_)], H) else none
    | _ => none
  | _, _ => none
def purL : List FuncId := [f_record_Seq, f_record_Page, f_record_May, f_record_Four, f_record_Number, f_record_Fill, f_record_Put, f_record_Get, f_log_Images, f_log_Count,
  f_ref1_ImagesMay, f_ref1_seqMay, f_ref1_part, f_ref1_RecordMay, f_ref1_Num, f_ref1_zeros, f_ref1_textMay, f_ref1_PutRecord, f_ref1_GetRecord, f_ref1_Of,
  f_law0_Num, f_law0_KeptImages, f_law0_SameImages, f_law0_SameTexts,
  f_disk_has, f_disk_may, f_disk_May, f_disk_May_1, f_disk_May_2, f_slices_ContainsFunc_string_string, f_slices_ContainsFunc_Write, f_slices_IndexFunc_string_string, f_slices_IndexFunc_Write,
  f_pair_Torn, f_ref1_writeMay, f_ref1_DiskMay, f_ref1_read, f_ref1_Read, f_ref1_Torn, f_law0_SameWrites, f_law0_SameDisk, f_law2_sector, f_law2_awake,
  f_math_bits_Mul, f_math_bits_Mul64, f_law2_Disks, f_law2_DiskFlushed, f_law2_DiskForms, f_law2_DiskLast, f_law2_DiskTorn, f_law2_DiskSubset,
  f_pair_Put, f_pair_Get, f_ref1_PutPair, f_ref1_GetPair, f_law1_half, f_law1_zeros, f_law1_awake, f_law1_PairForms, f_head_May, f_head_Put, f_head_Get, f_head_of, f_head_Best,
  f_ref1_HeadMay, f_ref1_PutHead, f_ref1_GetHead, f_ref1_sectorHead, f_ref1_Best, f_law5_awake, f_law5_HeadRow, f_open_Home, f_open_whole, f_open_home, f_ref1_home, f_ref1_homeText,
  f_ref1_write, f_ref1_headStep, f_ref1_PagerMay, f_ref1_roomy, f_plan_May, f_plan_May_1, f_plan_may, f_law0_SamePager, f_law0_SameSteps, f_law8_awake, f_law7_awake,
  f_law8_Plans, f_law8_PlanCrash, f_law8_PlanForms, f_law8_PlanFresh, f_law8_PlanAgain, f_law8_PlanRow, f_law7_Opens, f_law7_OpenSame, f_law7_OpenRows, f_law7_OpenHead, f_law7_OpenTorn]
noncomputable def K : Cfg := { P := Try.prog, F := fnAt Try.prog, X := fun f => if f = f_strings_Repeat then some repeatX else if f = f_disk_Read then some readX else none, pur := fun f => purL.contains f }
theorem read_ok (s c : Value) (d : Dk) (at_ : Int) (H : Heap) (hs : Strs H s d.1) (hc : Imgs H c d.2) : call K f_disk_Read [.agg #[s, c], .int .i64 at_] H = some (.tuple #[.string (rdD d at_), .int .i64 (rdE d at_)], H) := by
  rw [call_eq]
  show readX [.agg #[s, c], .int .i64 at_] H = _
  have h : ∃ d : Dk, Strs H s d.1 ∧ Imgs H c d.2 := ⟨d, hs, hc⟩
  have e : h.choose = d := Prod.ext (Rows.inj encS_len encS_inj h.choose_spec.1 hs) (Rows.inj encI_len encI_inj h.choose_spec.2 hc)
  simp only [readX]
  rw [dif_pos h, e]
theorem umod (x : Int) (m : Nat) (h0 : 0 < m) (h1 : m ≤ 1000000) : ∃ k : Nat, k < m ∧ binV K.P .rem tyUint (.int .u64 (IntKind.u64.wrap x)) (.int .u64 (m : Int)) = some (.int .u64 (k : Int)) := by
  have hw : IntKind.u64.wrap x = x % 18446744073709551616 := by simp [IntKind.wrap, IntKind.bits, IntKind.signed]
  refine ⟨((x % 18446744073709551616) % (m : Int)).toNat, ?_, ?_⟩
  · have := Int.emod_lt_of_pos (x % 18446744073709551616) (show (0 : Int) < m by omega)
    have := Int.emod_nonneg (x % 18446744073709551616) (show (m : Int) ≠ 0 by omega)
    omega
  · rw [binV_rem _ _ _ _ _ (by omega), hw, Int.tmod_eq_emod_of_nonneg (by omega)]
    congr 2
    have := Int.emod_nonneg (x % 18446744073709551616) (show (m : Int) ≠ 0 by omega)
    omega
theorem u64_nat (m : Nat) (h : m ≤ 1000000) : IntKind.u64.wrap (m : Int) = m := by simp [IntKind.wrap, IntKind.bits, IntKind.signed]; omega
end Go.AM
