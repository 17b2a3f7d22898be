/- AM: texts and numbers, plain. -/
import Derived.Test.YtiiliffoclejlaaAmSim2
import Derived.Laws.Strings
import Derived.Laws.BitsLemmas
import Derived.Laws.BytesArg
namespace Go.AM
set_option linter.unusedVariables false
set_option linter.unusedSimpArgs false
/-! ### texts as lists -/
abbrev L (s : ByteArray) : List UInt8 := s.data.toList
theorem L_inj {s t : ByteArray} (h : L s = L t) : s = t := by
  cases s; cases t; simp [L] at h; simpa using h
theorem L_length (s : ByteArray) : (L s).length = s.size := by rw [L, Array.length_toList]; rfl
theorem L_append (a b : ByteArray) : L (a ++ b) = L a ++ L b := by simp [L, ByteArray.data_append]
theorem L_nil : L (⟨#[]⟩ : ByteArray) = [] := rfl
theorem L_extract (s : ByteArray) (i j : Nat) : L (s.extract i j) = ((L s).drop i).take (j - i) := by
  simp [L, ByteArray.data_extract, List.extract_eq_take_drop]
theorem L_strOfNums (xs : List Int) : L (strOfNums xs) = xs.map fun n => UInt8.ofNat n.toNat := rfl
theorem size_append (a b : ByteArray) : (a ++ b).size = a.size + b.size := by simp
theorem size_strOfNums (xs : List Int) : (strOfNums xs).size = xs.length := strOfNums_size xs
theorem size_extract (s : ByteArray) (i j : Nat) : (s.extract i j).size = min j s.size - i := by simp
theorem size_zero {s : ByteArray} : s.size = 0 ↔ s = ⟨#[]⟩ := by
  constructor
  · intro h; apply L_inj; rw [L_nil]; apply List.eq_nil_of_length_eq_zero; rw [L_length]; exact h
  · rintro rfl; rfl
/-- Byte i of a text, as a number; 0 behind its end. -/
def bt (s : ByteArray) (i : Int) : Int := if h : i.toNat < s.size then ((s[i.toNat]'h).toNat : Int) else 0
theorem bt_range (s : ByteArray) (i : Int) : 0 ≤ bt s i ∧ bt s i ≤ 255 := by
  unfold bt
  split
  · rename_i h
    have := (s[i.toNat]'h).toNat_lt
    omega
  · omega
theorem bt_L (s : ByteArray) (i : Int) : bt s i = (((L s)[i.toNat]?.getD 0).toNat : Int) := by
  unfold bt
  split
  · next h =>
    have : (L s)[i.toNat]? = some s[i.toNat] := by
      rw [List.getElem?_eq_getElem (by rw [L_length]; exact h)]; rfl
    rw [this]; rfl
  · next h =>
    rw [List.getElem?_eq_none (by rw [L_length]; omega)]; rfl
def ub (s : ByteArray) (k : Nat) : UInt8 := (L s)[k]?.getD 0
@[simp] theorem ub_bt (s : ByteArray) (k : Nat) : ((ub s k).toNat : Int) = bt s (k : Int) := by rw [bt_L]; rfl
theorem at_ub {s : ByteArray} {k : Nat} (h : k < s.size) : s.data[k]? = some (ub s k) := by
  have : (L s)[k]? = some (ub s k) := by unfold ub; rw [List.getElem?_eq_getElem (by rw [L_length]; exact h)]; rfl
  simpa [L] using this
theorem str_append (a b : List Int) : strOfNums a ++ strOfNums b = strOfNums (a ++ b) := by
  apply L_inj; simp [L_append, L_strOfNums]
def zer (n : Nat) : ByteArray := ⟨(List.replicate n (0 : UInt8)).toArray⟩
theorem zer_size (n : Nat) : (zer n).size = n := by simp [zer, ByteArray.size]
theorem L_zer (n : Nat) : L (zer n) = List.replicate n 0 := rfl
theorem repeat_zero (n : Nat) : repeatB ⟨#[0]⟩ n = zer n := by
  have : ∀ n, Lib.repeatL ([0] : List UInt8) n = List.replicate n 0 := by
    intro n
    induction n with
    | zero => rfl
    | succ n ih => rw [Lib.repeatL, ih]; rfl
  unfold repeatB; rw [show (⟨#[0]⟩ : ByteArray).data.toList = [0] from rfl, this]; rfl
theorem u8_mod {x : Int} (h0 : 0 ≤ x) (h1 : x ≤ 255) : (((UInt8.ofNat x.toNat).toNat : Nat) : Int) = x := by
  rw [UInt8.toNat_ofNat']; omega
theorem wraps_i64 (n : Int) (h0 : 0 ≤ n) (h1 : n < 2 ^ 62) : IntKind.i64.wrap n = n := by rw [IntKind.wrap_i64]; omega
/-! ### operators on bits -/
section
variable (P : Program) (t : TypeId) (k : IntKind) (a b : Int)
@[simp] theorem binV_or : binV P .or t (.int k a) (.int k b) = some (.int k (bits .or k a b)) := by cases k <;> rfl
@[simp] theorem binV_and : binV P .and t (.int k a) (.int k b) = some (.int k (bits .and k a b)) := by cases k <;> rfl
@[simp] theorem binV_xor : binV P .xor t (.int k a) (.int k b) = some (.int k (bits .xor k a b)) := by cases k <;> rfl
theorem shr_lit (n : Nat) (h : n ≤ 64) : binV P .shr t (.int .i64 a) (.int .u64 (n : Int)) = some (.int .i64 (a / 2 ^ n)) := by
  rw [binV_shr]; congr 2
  have hm : min n IntKind.i64.bits = n := by simp only [IntKind.bits]; omega
  rw [hm, Int.fdiv_eq_ediv_of_nonneg _ (Int.pow_nonneg (by decide))]
theorem shl_lit (n : Nat) (h : n ≤ 64) : binV P .shl t (.int .i64 a) (.int .u64 (n : Int)) = some (.int .i64 (IntKind.i64.wrap (a * 2 ^ n))) := by
  rw [binV_shl]
  have hm : min n IntKind.i64.bits = n := by simp only [IntKind.bits]; omega
  rw [hm]
@[simp] theorem shr_24 : binV P .shr t (.int .i64 a) (.int .u64 24) = some (.int .i64 (a / 16777216)) := shr_lit P t a 24 (by decide)
@[simp] theorem shr_16 : binV P .shr t (.int .i64 a) (.int .u64 16) = some (.int .i64 (a / 65536)) := shr_lit P t a 16 (by decide)
@[simp] theorem shr_8 : binV P .shr t (.int .i64 a) (.int .u64 8) = some (.int .i64 (a / 256)) := shr_lit P t a 8 (by decide)
@[simp] theorem shl_24 : binV P .shl t (.int .i64 a) (.int .u64 24) = some (.int .i64 (IntKind.i64.wrap (a * 16777216))) := shl_lit P t a 24 (by decide)
@[simp] theorem shl_16 : binV P .shl t (.int .i64 a) (.int .u64 16) = some (.int .i64 (IntKind.i64.wrap (a * 65536))) := shl_lit P t a 16 (by decide)
@[simp] theorem shl_8 : binV P .shl t (.int .i64 a) (.int .u64 8) = some (.int .i64 (IntKind.i64.wrap (a * 256))) := shl_lit P t a 8 (by decide)
end
attribute [simp] IntKind.wrap_u8
theorem or4 (a b c d : Int) (ha : 0 ≤ a ∧ a ≤ 255) (hb : 0 ≤ b ∧ b ≤ 255) (hc : 0 ≤ c ∧ c ≤ 255) (hd : 0 ≤ d ∧ d ≤ 255) :
    bits .or .i64 (bits .or .i64 (bits .or .i64 (IntKind.i64.wrap (a * 16777216)) (IntKind.i64.wrap (b * 65536))) (IntKind.i64.wrap (c * 256))) d = a * 16777216 + b * 65536 + c * 256 + d := by
  rw [wrap_i64 (by omega) (by omega), wrap_i64 (by omega) (by omega), wrap_i64 (by omega) (by omega)]
  rw [bits_join .i64 62 (by decide) wraps_i64 24 (a * 16777216) (b * 65536) (by omega) (by omega) (by omega) (by omega) (by omega) (by omega)]
  rw [bits_join .i64 62 (by decide) wraps_i64 16 (a * 16777216 + b * 65536) (c * 256) (by omega) (by omega) (by omega) (by omega) (by omega) (by omega)]
  rw [bits_join .i64 62 (by decide) wraps_i64 8 (a * 16777216 + b * 65536 + c * 256) d (by omega) (by omega) (by omega) (by omega) (by omega) (by omega)]
theorem and_mask (x : Int) (j : Nat) (hj : j ≤ 62) : bits .and .i64 x (2 ^ j - 1) = x % 2 ^ j := by
  have hpos : 0 < 2 ^ j := Nat.two_pow_pos j
  have hlt : (2 : Nat) ^ j < 2 ^ 64 := Nat.pow_lt_pow_right (by decide) (by omega)
  have hle : (2 : Nat) ^ j ≤ 2 ^ 62 := Nat.pow_le_pow_right (by decide) hj
  have hc : ((2 : Int) ^ j - 1) = ((2 ^ j - 1 : Nat) : Int) := by rw [Int.natCast_sub hpos]; simp
  have e : (BitVec.ofInt 64 x &&& BitVec.ofInt 64 ((2 : Int) ^ j - 1)).toNat = (x % 2 ^ j).toNat := by
    rw [hc, BitVec.ofInt_natCast, BitVec.toNat_and, BitVec.toNat_ofNat, Nat.mod_eq_of_lt (show 2 ^ j - 1 < 2 ^ 64 by omega), Nat.and_two_pow_sub_one_eq_mod, BitVec.toNat_ofInt]
    have h1 : (x % ((2 ^ 64 : Nat) : Int)).toNat % 2 ^ j = (x % ((2 ^ 64 : Nat) : Int) % ((2 ^ j : Nat) : Int)).toNat := by
      have h0 : 0 ≤ x % ((2 ^ 64 : Nat) : Int) := Int.emod_nonneg _ (by decide)
      obtain ⟨n, hn⟩ := Int.eq_ofNat_of_zero_le h0
      rw [hn, ← Int.natCast_emod, Int.toNat_natCast, Int.toNat_natCast]
    rw [h1, Int.emod_emod_of_dvd]
    · simp
    · exact_mod_cast Nat.pow_dvd_pow 2 (by omega)
  have hb : 0 ≤ x % 2 ^ j ∧ x % 2 ^ j < 2 ^ j := ⟨Int.emod_nonneg _ (Int.ne_of_gt (by exact_mod_cast hpos)), Int.emod_lt_of_pos _ (by exact_mod_cast hpos)⟩
  have hle' : (2 : Int) ^ j ≤ 2 ^ 62 := by exact_mod_cast hle
  have hu : bits .and .i64 x (2 ^ j - 1) = IntKind.i64.wrap ((BitVec.ofInt 64 x &&& BitVec.ofInt 64 ((2 : Int) ^ j - 1)).toNat : Int) := rfl
  rw [hu, e, Int.toNat_of_nonneg hb.1]
  exact wrap_i64 (by omega) (by omega)
theorem and1023 (x : Int) : bits .and .i64 x 1023 = x % 1024 := and_mask x 10 (by decide)
theorem and65535 (x : Int) : bits .and .i64 x 65535 = x % 65536 := and_mask x 16 (by decide)
theorem and7 (x : Int) : bits .and .i64 x 7 = x % 8 := and_mask x 3 (by decide)
/-! ### rows of cells -/
theorem row_vals {H : Heap} {b : Nat} : ∀ (vs : List Value) (o : Nat), (∀ (i : Nat) (h : i < vs.length), H.cell b (o + i) = some vs[i]) → H.row b o vs.length = some vs
  | [], o, _ => rfl
  | v :: vs, o, h => by
    have h0 := h 0 (by simp)
    simp only [Nat.add_zero, List.getElem_cons_zero] at h0
    simp only [List.length_cons, Heap.row, h0, row_vals vs (o + 1) fun i hi => by
      have := h (i + 1) (by simp; omega)
      simpa [Nat.add_assoc, Nat.add_comm 1 i] using this]
attribute [simp] fillL partL

/-! ### cells -/
section
variable (k : IntKind) (n : Int) (b : Bool) (s : ByteArray) (p : Option Addr) (l c : Nat) (cs : Array Value)
@[simp] theorem cells_int : (Value.int k n).cells = #[.int k n] := rfl
@[simp] theorem cells_bool : (Value.bool b).cells = #[.bool b] := rfl
@[simp] theorem cells_string : (Value.string s).cells = #[.string s] := rfl
@[simp] theorem cells_slice : (Value.slice p l c).cells = #[.slice p l c] := rfl
@[simp] theorem cells_pointer : (Value.pointer p).cells = #[.pointer p] := rfl
@[simp] theorem cells_agg : (Value.agg cs).cells = cs := rfl
@[simp] theorem one_int : (Value.int k n).oneCell' = true := rfl
@[simp] theorem one_bool : (Value.bool b).oneCell' = true := rfl
@[simp] theorem one_string : (Value.string s).oneCell' = true := rfl
@[simp] theorem one_slice : (Value.slice p l c).oneCell' = true := rfl
@[simp] theorem one_pointer : (Value.pointer p).oneCell' = true := rfl
end

/-! ### one memory behind another: by number -/
attribute [-simp] cell_add_new blk_add_new blk_set_self cell_set_self
section
variable (H : Heap) (B : Blk) (b k o : Nat)
@[simp] theorem cell_add : (H.add B).cell b o = if b = H.next then B.at_ o else H.cell b o := by
  by_cases h : b = H.next
  · subst h; simp [Heap.cell, Heap.add]
  · simp [Heap.cell, Heap.add, h]
@[simp] theorem blk_add : (H.add B).blk b = if b = H.next then some B else H.blk b := rfl
@[simp] theorem cell_set : (H.set k (some B)).cell b o = if b = k then B.at_ o else H.cell b o := by
  by_cases h : b = k <;> simp [Heap.cell, Heap.set, h]
@[simp] theorem cell_kill : (H.set k none).cell b o = if b = k then none else H.cell b o := by
  by_cases h : b = k <;> simp [Heap.cell, Heap.set, h]
@[simp] theorem blk_set (f : Option Blk) : (H.set k f).blk b = if b = k then f else H.blk b := rfl
end
attribute [simp] Heap.row Heap.store

/-! ### one instruction at a time: what it does, by the values it meets -/

section
variable (P : Program) (C : CallF) (e : Env) (H : Heap)
def oV (r : Option Value) (H : Heap) : Option (Value × Heap) := match r with | some v => some (v, H) | none => none
@[simp] theorem oV_some (v : Value) : oV (some v) H = some (v, H) := rfl
def oA (r : Option ((Nat → Value) × Blk)) (H : Heap) : Option (Value × Heap) := match r with | some (f, B) => some (f H.next, H.add B) | none => none
@[simp] theorem oA_some (f : Nat → Value) (B : Blk) : oA (some (f, B)) H = some (f H.next, H.add B) := rfl
def oH (r : Option Heap) (v : Value) : Option (Value × Heap) := match r with | some H => some (v, H) | none => none
@[simp] theorem oH_some (v : Value) : oH (some H) v = some (v, H) := rfl
@[simp] theorem step_mov (x : Arg) : step P C (.mov x) e H = some (ev e x, H) := rfl
def pickV (c a b : Value) (H : Heap) : Option (Value × Heap) := match c with | .bool true => some (a, H) | .bool false => some (b, H) | _ => none
@[simp] theorem pickV_t (a b : Value) : pickV (.bool true) a b H = some (a, H) := rfl
@[simp] theorem pickV_f (a b : Value) : pickV (.bool false) a b H = some (b, H) := rfl
@[simp] theorem pickV_d (p : Prop) [Decidable p] (a b : Value) : pickV (.bool (decide p)) a b H = some (if p then a else b, H) := by by_cases h : p <;> simp [h]
@[simp] theorem step_pick (c a b : Arg) : step P C (.pick c a b) e H = pickV (ev e c) (ev e a) (ev e b) H := rfl
def boxV (n : Nat) (v : Value) : Option ((Nat → Value) × Blk) := if v.cells.toList.length = n ∧ v.cells.toList.all Value.oneCell' = true then some (fun b => ptr b 0, rowBlk n v.cells.toList) else none
attribute [simp] boxV
@[simp] theorem step_box (n : Nat) (x : Arg) : step P C (.box n x) e H = oA (boxV n (ev e x)) H := rfl
@[simp] theorem step_new (z : List Value) : step P C (.new z) e H = some (ptr H.next 0, H.add (rowBlk z.length z)) := rfl
def mkrowV (esz len : Nat) (z : List Value) (ps : List (Nat × Nat × Value)) : Option ((Nat → Value) × Blk) :=
  match fillL z ps with | some cs => if cs.all Value.oneCell' = true then some (row0 len (2 * len + 1), rowBlk esz cs) else none | none => none
@[simp] theorem step_mkrow (esz len : Nat) (z : List Value) (ps : List (Nat × Nat × Arg)) : step P C (.mkrow esz len z ps) e H = oA (mkrowV esz len z (ps.map fun p => (p.1, p.2.1, ev e p.2.2))) H := rfl
def s2bV (v : Value) : Option ((Nat → Value) × Blk) := match v with | .string s => some (row0 s.size (2 * s.size), rowBlk 1 (rowOfBytes s)) | _ => none
@[simp] theorem s2bV_string (s : ByteArray) : s2bV (.string s) = some (row0 s.size (2 * s.size), rowBlk 1 (rowOfBytes s)) := rfl
@[simp] theorem step_s2b (x : Arg) : step P C (.s2b x) e H = oA (s2bV (ev e x)) H := rfl
def fillB (esz c : Nat) (z : List Value) : Blk := { esz := esz, ro := false, at_ := fun o => if o < c * esz then z[o % esz]? else none }
@[simp] theorem at_fillB (esz c : Nat) (z : List Value) (o : Nat) : (fillB esz c z).at_ o = if o < c * esz then z[o % esz]? else none := rfl
@[simp] theorem ro_fillB (esz c : Nat) (z : List Value) : (fillB esz c z).ro = false := rfl
@[simp] theorem esz_fillB (esz c : Nat) (z : List Value) : (fillB esz c z).esz = esz := rfl
def mksV (esz bytes : Nat) (z : List Value) (l c : Option Nat) : Option ((Nat → Value) × Blk) := match l, c with
      | some l, some c => if l ≤ c ∧ bytes * c ≤ 2 ^ 46 ∧ c ≤ 2 ^ 46 then some (row0 l (2 * c + 1), fillB esz c z) else none
      | _, _ => none
@[simp] theorem mksV_some (esz bytes : Nat) (z : List Value) (l c : Nat) : mksV esz bytes z (some l) (some c) = if l ≤ c ∧ bytes * c ≤ 2 ^ 46 ∧ c ≤ 2 ^ 46 then some (row0 l (2 * c + 1), fillB esz c z) else none := rfl
@[simp] theorem step_mks (esz bytes : Nat) (z : List Value) (l c : Arg) : step P C (.mks esz bytes z l c) e H = oA (mksV esz bytes z (natOf (ev e l)) (natOf (ev e c))) H := by
  simp only [step, alc, oA, mksV]
  generalize natOf (ev e l) = v0
  generalize natOf (ev e c) = v1
  cases v0 <;> cases v1 <;> rfl
def buildV (z : List Value) (ps : List (Nat × Nat × Value)) : Option Value := match fillL z ps with | some cs => some (.agg cs.toArray) | none => none
@[simp] theorem step_build (z : List Value) (ps : List (Nat × Nat × Arg)) : step P C (.build z ps) e H = oV (buildV z (ps.map fun p => (p.1, p.2.1, ev e p.2.2))) H := by
  simp only [step, oV, buildV]; cases fillL z (ps.map fun p => (p.1, p.2.1, ev e p.2.2)) <;> rfl
def ldV (v : Value) (H : Heap) : Option Value := match v with | .pointer (some ⟨b, o, none⟩) => H.cell b o | _ => none
@[simp] theorem ldV_ptr (b o : Nat) : ldV (.pointer (some ⟨b, o, none⟩)) H = H.cell b o := rfl
@[simp] theorem step_ld (x : Arg) : step P C (.ld x) e H = oV (ldV (ev e x) H) H := by
  simp only [step, oV, ldV]
  generalize ev e x = v0
  repeat' split
  all_goals first | rfl | (simp_all; done) | (rename_i h; cases h; rfl)
def aggO (r : Option (List Value)) : Option Value := match r with | some vs => some (.agg vs.toArray) | none => none
@[simp] theorem aggO_some (vs : List Value) : aggO (some vs) = some (.agg vs.toArray) := rfl
def ldnV (n : Nat) (v : Value) (H : Heap) : Option Value := match v with | .pointer (some ⟨b, o, none⟩) => aggO (H.row b o n) | _ => none
@[simp] theorem ldnV_ptr (n b o : Nat) : ldnV n (.pointer (some ⟨b, o, none⟩)) H = aggO (H.row b o n) := rfl
@[simp] theorem step_ldn (n : Nat) (x : Arg) : step P C (.ldn n x) e H = oV (ldnV n (ev e x) H) H := by
  simp only [step, oV, ldnV, aggO]
  generalize ev e x = v0
  repeat' split
  all_goals first | rfl | (simp_all; done) | (rename_i h; cases h; rfl)
def stV (n : Nat) (a x : Value) (H : Heap) : Option Heap := match a with | .pointer (some ⟨b, o, none⟩) => if x.cells.toList.length = n then H.store b o x.cells.toList else none | _ => none
@[simp] theorem stV_ptr (n b o : Nat) (x : Value) : stV n (.pointer (some ⟨b, o, none⟩)) x H = if x.cells.toList.length = n then H.store b o x.cells.toList else none := rfl
@[simp] theorem step_st (n : Nat) (a x : Arg) : step P C (.st n a x) e H = oH (stV n (ev e a) (ev e x) H) undef := by
  simp only [step, oH, stV]
  generalize ev e a = v0
  generalize ev e x = v1
  repeat' split
  all_goals first | rfl | (simp_all; done) | (rename_i h; cases h; rfl)
def nilckV (v : Value) : Option Value := match v with | .pointer (some a) => some (.pointer (some a)) | _ => none
@[simp] theorem nilckV_some (a : Addr) : nilckV (.pointer (some a)) = some (.pointer (some a)) := rfl
@[simp] theorem step_nilck (x : Arg) : step P C (.nilck x) e H = oV (nilckV (ev e x)) H := by
  simp only [step, oV, nilckV]
  generalize ev e x = v0
  repeat' split
  all_goals first | rfl | (simp_all; done) | (rename_i h; cases h; rfl)
@[simp] theorem step_bin (op : BinOp) (t : TypeId) (x y : Arg) : step P C (.bin op t x y) e H = oV (binV P op t (ev e x) (ev e y)) H := rfl
def unV (P : Program) (op : UnOp) (v : Value) : Option Value := if flat1 v then flatRes (pv P (Op.unary op v)) else none
@[simp] theorem unV_not (b : Bool) : unV P .not (.bool b) = some (.bool (!b)) := rfl
@[simp] theorem unV_neg (k : IntKind) (a : Int) : unV P .neg (.int k a) = some (.int k (k.wrap (0 - a))) := rfl
@[simp] theorem step_un (op : UnOp) (x : Arg) : step P C (.un op x) e H = oV (unV P op (ev e x)) H := by
  unfold unV; simp only [step]; split
  · rfl
  · rfl
def iiV (k : IntKind) (v : Value) : Option Value := match v with | .int _ n => some (.int k (k.wrap n)) | _ => none
@[simp] theorem iiV_int (k k' : IntKind) (n : Int) : iiV k (.int k' n) = some (.int k (k.wrap n)) := rfl
@[simp] theorem step_ii (k : IntKind) (x : Arg) : step P C (.ii k x) e H = oV (iiV k (ev e x)) H := by
  simp only [step, oV, iiV]
  generalize ev e x = v0
  repeat' split
  all_goals first | rfl | (simp_all; done) | (rename_i h; cases h; rfl)
def bytesO (r : Option (List Value)) : Option Value := match r with | some vs => (match bytesOfRow vs with | some l => some (.string ⟨l.toArray⟩) | none => none) | none => none
def numsOfRow : List Value → Option (List Int)
  | [] => some []
  | .int .u8 n :: vs => (match numsOfRow vs with | some l => some (n :: l) | none => none)
  | _ => none
theorem bytes_nums : ∀ vs, bytesOfRow vs = (numsOfRow vs).map (List.map fun n => UInt8.ofNat n.toNat)
  | [] => rfl
  | v :: vs => by
    have ih := bytes_nums vs
    cases v
    case int k n =>
      cases k
      case u8 =>
        show (match bytesOfRow vs with | some l => some (UInt8.ofNat n.toNat :: l) | none => none) = Option.map _ (match numsOfRow vs with | some l => some (n :: l) | none => none)
        rw [ih]; cases numsOfRow vs <;> rfl
      all_goals rfl
    all_goals rfl
def consN (n : Int) (r : Option (List Int)) : Option (List Int) := match r with | some l => some (n :: l) | none => none
@[simp] theorem consN_some (n : Int) (l : List Int) : consN n (some l) = some (n :: l) := rfl
@[simp] theorem numsOfRow_nil : numsOfRow [] = some [] := rfl
@[simp] theorem numsOfRow_cons (n : Int) (vs : List Value) : numsOfRow (.int .u8 n :: vs) = consN n (numsOfRow vs) := rfl
def strO (r : Option (List Int)) : Option Value := match r with | some l => some (.string (strOfNums l)) | none => none
@[simp] theorem strO_some (l : List Int) : strO (some l) = some (.string (strOfNums l)) := rfl
@[simp] theorem bytesO_some (vs : List Value) : bytesO (some vs) = strO (numsOfRow vs) := by
  simp only [bytesO, strO, bytes_nums]
  cases numsOfRow vs <;> rfl
def b2sV (v : Value) (H : Heap) : Option Value := match v with
  | .slice none _ _ => some (.string .empty)
  | .slice (some ⟨b, o, none⟩) n _ => bytesO (H.row b o n)
  | _ => none
@[simp] theorem b2sV_nil (n c : Nat) : b2sV (.slice none n c) H = some (.string .empty) := rfl
@[simp] theorem b2sV_at (b o n c : Nat) : b2sV (.slice (some ⟨b, o, none⟩) n c) H = bytesO (H.row b o n) := rfl
@[simp] theorem step_b2s (x : Arg) : step P C (.b2s x) e H = oV (b2sV (ev e x) H) H := by
  simp only [step, oV, b2sV, bytesO]
  generalize ev e x = v0
  repeat' split
  all_goals first | rfl | (simp_all; done) | (rename_i h; cases h; rfl)
@[simp] theorem step_clos (f : FuncId) (cap : List Arg) : step P C (.clos f cap) e H = if (cap.map (ev e)).all capt = true then some (.func (.func f) #[] (cap.map (ev e)).toArray, H) else none := rfl
def slsO (v : Value) (lo hi : Option Value) : Option Value := match v with | .string s => slsV s lo hi | _ => none
@[simp] theorem slsO_string (s : ByteArray) (lo hi : Option Value) : slsO (.string s) lo hi = slsV s lo hi := rfl
@[simp] theorem step_sls (x : Arg) (lo hi : Option Arg) : step P C (.sls x lo hi) e H = oV (slsO (ev e x) (lo.map (ev e)) (hi.map (ev e))) H := by
  simp only [step, oV, slsO]
  generalize ev e x = v0
  repeat' split
  all_goals first | rfl | (simp_all; done) | (rename_i h; cases h; rfl)
@[simp] theorem step_slv (esz : Nat) (x : Arg) (lo hi mx : Option Arg) : step P C (.slv esz x lo hi mx) e H = oV (slvV H esz (ev e x) (lo.map (ev e)) (hi.map (ev e)) (mx.map (ev e))) H := rfl
def fadrV (off : Nat) (v : Value) : Option Value := match v with | .pointer (some ⟨b, o, none⟩) => some (ptr b (o + off)) | _ => none
@[simp] theorem fadrV_ptr (off b o : Nat) : fadrV off (.pointer (some ⟨b, o, none⟩)) = some (ptr b (o + off)) := rfl
@[simp] theorem step_fadr (off : Nat) (x : Arg) : step P C (.fadr off x) e H = oV (fadrV off (ev e x)) H := by
  simp only [step, oV, fadrV]
  generalize ev e x = v0
  repeat' split
  all_goals first | rfl | (simp_all; done) | (rename_i h; cases h; rfl)
def iadrSV (esz : Nat) (v : Value) (i : Option Nat) : Option Value := match v, i with | .slice (some ⟨b, o, none⟩) n _, some k => if k < n then some (ptr b (o + k * esz)) else none | _, _ => none
@[simp] theorem iadrSV_at (esz b o n c k : Nat) : iadrSV esz (.slice (some ⟨b, o, none⟩) n c) (some k) = if k < n then some (ptr b (o + k * esz)) else none := rfl
@[simp] theorem step_iadrS (esz : Nat) (x i : Arg) : step P C (.iadrS esz x i) e H = oV (iadrSV esz (ev e x) (natOf (ev e i))) H := by
  simp only [step, oV, iadrSV]
  generalize ev e x = v0
  generalize natOf (ev e i) = v1
  repeat' split
  all_goals first | rfl | (simp_all; done) | (rename_i h _ _ hq; have h3 := hq; dsimp only at h3; rw [if_neg h] at h3; cases h3)
def iadrAV (n esz : Nat) (v : Value) (i : Option Nat) : Option Value := match v, i with | .pointer (some ⟨b, o, none⟩), some k => if k < n then some (ptr b (o + k * esz)) else none | _, _ => none
@[simp] theorem iadrAV_at (n esz b o k : Nat) : iadrAV n esz (.pointer (some ⟨b, o, none⟩)) (some k) = if k < n then some (ptr b (o + k * esz)) else none := rfl
@[simp] theorem step_iadrA (n esz : Nat) (x i : Arg) : step P C (.iadrA n esz x i) e H = oV (iadrAV n esz (ev e x) (natOf (ev e i))) H := by
  simp only [step, oV, iadrAV]
  generalize ev e x = v0
  generalize natOf (ev e i) = v1
  repeat' split
  all_goals first | rfl | (simp_all; done) | (rename_i h _ _ hq; have h3 := hq; dsimp only at h3; rw [if_neg h] at h3; cases h3)
def fldV (off n : Nat) (agg : Bool) (v : Value) : Option Value := match v with | .agg cs => partL off n agg cs.toList | _ => none
@[simp] theorem fldV_agg (off n : Nat) (agg : Bool) (cs : Array Value) : fldV off n agg (.agg cs) = partL off n agg cs.toList := rfl
@[simp] theorem step_fld (off n : Nat) (agg : Bool) (x : Arg) : step P C (.fld off n agg x) e H = oV (fldV off n agg (ev e x)) H := by
  simp only [step, oV, fldV]
  generalize ev e x = v0
  repeat' split
  all_goals first | rfl | (simp_all; done) | (rename_i h; cases h; rfl)
def idxAV (len esz : Nat) (agg : Bool) (v : Value) (i : Option Nat) : Option Value := match v, i with | .agg cs, some k => if k < len then partL (k * esz) esz agg cs.toList else none | _, _ => none
@[simp] theorem idxAV_agg (len esz : Nat) (agg : Bool) (cs : Array Value) (k : Nat) : idxAV len esz agg (.agg cs) (some k) = if k < len then partL (k * esz) esz agg cs.toList else none := rfl
@[simp] theorem step_idxA (len esz : Nat) (agg : Bool) (x i : Arg) : step P C (.idxA len esz agg x i) e H = oV (idxAV len esz agg (ev e x) (natOf (ev e i))) H := by
  simp only [step, oV, idxAV]
  generalize ev e x = v0
  generalize natOf (ev e i) = v1
  repeat' split
  all_goals first | rfl | (simp_all; done) | (rename_i h _ _ hq; have h3 := hq; dsimp only at h3; rw [if_neg h] at h3; cases h3)
def idxSV (v : Value) (i : Option Nat) : Option Value := match v, i with | .string s, some k => if k < s.size then some (.int .u8 (bt s (k : Int))) else none | _, _ => none
@[simp] theorem idxSV_at (s : ByteArray) (k : Nat) : idxSV (.string s) (some k) = if k < s.size then some (.int .u8 (bt s (k : Int))) else none := rfl
@[simp] theorem step_idxS (x i : Arg) : step P C (.idxS x i) e H = oV (idxSV (ev e x) (natOf (ev e i))) H := by
  simp only [step, oV, idxSV]
  generalize ev e x = v0
  generalize natOf (ev e i) = v1
  split
  · rename_i s k
    by_cases h : k < s.size
    · have : s.data.toList[k]? = some (ub s k) := by simpa using at_ub h
      simp only [this, if_pos h, ub_bt]
    · have : s.data.toList[k]? = none := by rw [List.getElem?_eq_none]; rw [Array.length_toList]; exact Nat.le_of_not_lt h
      simp only [this, if_neg h]
  · split
    · split at * <;> simp_all
    · rfl
def extV (i : Nat) (v : Value) : Option Value := match v with | .tuple vs => vs.toList[i]? | _ => none
@[simp] theorem extV_tuple (i : Nat) (vs : Array Value) : extV i (.tuple vs) = vs.toList[i]? := rfl
@[simp] theorem step_ext (i : Nat) (x : Arg) : step P C (.ext i x) e H = oV (extV i (ev e x)) H := by
  simp only [step, oV, extV]
  generalize ev e x = v0
  repeat' split
  all_goals first | rfl | (simp_all; done) | (rename_i h; cases h; rfl)
@[simp] theorem step_call (f : FuncId) (xs : List Arg) : step P C (.call f xs) e H = C f (xs.map (ev e)) H := rfl
def callO (C : CallF) (v : Value) (vs : List Value) (H : Heap) : Option (Value × Heap) := match v with | .func (.func f) first cap => if first.size = 0 then C f (vs ++ cap.toList) H else none | _ => none
@[simp] theorem callO_func (f : FuncId) (first cap : Array Value) (vs : List Value) : callO C (.func (.func f) first cap) vs H = if first.size = 0 then C f (vs ++ cap.toList) H else none := rfl
@[simp] theorem step_callV (x : Arg) (xs : List Arg) : step P C (.callV x xs) e H = callO C (ev e x) (xs.map (ev e)) H := rfl
def appO (esz bytes k : Nat) (x : Value) (r : Option (List Value)) (H : Heap) : Option (Value × Heap) := match r with | some ys => appV H esz bytes k x ys | none => none
@[simp] theorem appO_some (esz bytes k : Nat) (x : Value) (ys : List Value) : appO esz bytes k x (some ys) H = appV H esz bytes k x ys := rfl
def appE (esz bytes : Nat) (x y : Value) (H : Heap) : Option (Value × Heap) := match strLen y with | some k => appO esz bytes k x (elems H esz k y) H | none => none
@[simp] theorem appE_slice (esz bytes : Nat) (x : Value) (p : Option Addr) (n c : Nat) : appE esz bytes x (.slice p n c) H = appO esz bytes n x (elems H esz n (.slice p n c)) H := rfl
@[simp] theorem appE_string (esz bytes : Nat) (x : Value) (s : ByteArray) : appE esz bytes x (.string s) H = appO esz bytes s.size x (elems H esz s.size (.string s)) H := rfl
@[simp] theorem step_app (esz bytes : Nat) (x y : Arg) : step P C (.app esz bytes x y) e H = appE esz bytes (ev e x) (ev e y) H := rfl
def lenO (v : Value) : Option Value := match v with | .slice _ n _ => some (.int .i64 (n : Int)) | _ => none
@[simp] theorem lenO_slice (p : Option Addr) (n c : Nat) : lenO (.slice p n c) = some (.int .i64 (n : Int)) := rfl
@[simp] theorem step_lenV (x : Arg) : step P C (.lenV x) e H = oV (lenO (ev e x)) H := by
  simp only [step, oV, lenO]
  generalize ev e x = v0
  repeat' split
  all_goals first | rfl | (simp_all; done) | (rename_i h; cases h; rfl)
def lenSO (v : Value) : Option Value := match v with | .string s => some (.int .i64 (s.size : Int)) | _ => none
@[simp] theorem lenSO_string (s : ByteArray) : lenSO (.string s) = some (.int .i64 (s.size : Int)) := rfl
@[simp] theorem step_lenS (x : Arg) : step P C (.lenS x) e H = oV (lenSO (ev e x)) H := by
  simp only [step, oV, lenSO]
  generalize ev e x = v0
  repeat' split
  all_goals first | rfl | (simp_all; done) | (rename_i h; cases h; rfl)
@[simp] theorem step_lenA (n : Nat) : step P C (.lenA n) e H = some (.int .i64 (n : Int), H) := rfl
def mmV (mx : Bool) (x y : Value) : Option Value := match x, y with | .int k a, .int _ b => some (.int k (if mx then (if b > a then b else a) else (if b < a then b else a))) | _, _ => none
@[simp] theorem mmV_min (k k' : IntKind) (a b : Int) : mmV false (.int k a) (.int k' b) = some (.int k (if b < a then b else a)) := rfl
@[simp] theorem mmV_max (k k' : IntKind) (a b : Int) : mmV true (.int k a) (.int k' b) = some (.int k (if b > a then b else a)) := rfl
@[simp] theorem step_mm (mx : Bool) (x y : Arg) : step P C (.mm mx x y) e H = oV (mmV mx (ev e x) (ev e y)) H := by
  simp only [step, oV, mmV]
  generalize ev e x = v0
  generalize ev e y = v1
  cases v0 <;> first | rfl | (cases v1 <;> rfl)
def boolO (neg : Bool) (r : Option Bool) : Option Value := match r with | some b => some (.bool (b != neg)) | none => none
@[simp] theorem boolO_some (neg b : Bool) : boolO neg (some b) = some (.bool (b != neg)) := rfl
def eqaV (neg : Bool) (ss : List Srt) (x y : Value) : Option Value := match x, y with | .agg xs, .agg ys => boolO neg (cellsEq ss xs.toList ys.toList) | _, _ => none
@[simp] theorem eqaV_agg (neg : Bool) (ss : List Srt) (xs ys : Array Value) : eqaV neg ss (.agg xs) (.agg ys) = boolO neg (cellsEq ss xs.toList ys.toList) := rfl
@[simp] theorem step_eqa (neg : Bool) (ss : List Srt) (x y : Arg) : step P C (.eqa neg ss x y) e H = oV (eqaV neg ss (ev e x) (ev e y)) H := by
  simp only [step, oV, eqaV, boolO]
  generalize ev e x = v0
  generalize ev e y = v1
  repeat' split
  all_goals first | rfl | (simp_all; done) | (rename_i h; cases h; rfl)
theorem step_copy (esz : Nat) (x y : Arg) : step P C (.copy esz x y) e H = (match ev e x, strLen (ev e y) with
      | .slice (some ⟨b, o, none⟩) n _, some k => (match elems H esz (Nat.min k n) (ev e y) with
        | some ys => (match H.store b o ys with | some H' => some (.int .i64 ((Nat.min k n : Nat) : Int), H') | none => none)
        | none => none)
      | .slice none 0 0, some k => some (.int .i64 0, H)
      | _, _ => none) := rfl
end
@[simp] theorem cellsEq_nil : cellsEq [] [] [] = some true := rfl
def andO (a b : Option Bool) : Option Bool := match a, b with | some a, some b => some (a && b) | _, _ => none
@[simp] theorem andO_some (a b : Bool) : andO (some a) (some b) = some (a && b) := rfl
@[simp] theorem cellsEq_cons (s : Srt) (ss : List Srt) (x y : Value) (xs ys : List Value) : cellsEq (s :: ss) (x :: xs) (y :: ys) = andO (cellEq s x y) (cellsEq ss xs ys) := by
  simp only [cellsEq, andO]
  generalize cellEq s x y = v0
  generalize cellsEq ss xs ys = v1
  cases v0 <;> cases v1 <;> rfl
@[simp] theorem cellEq_num (k : IntKind) (a b : Int) : cellEq (.num k) (.int k a) (.int k b) = some (decide (a = b)) := by simp [cellEq]
@[simp] theorem cellEq_txt (a b : ByteArray) : cellEq .txt (.string a) (.string b) = some (decide (a = b)) := rfl
@[simp] theorem cellEq_flag (a b : Bool) : cellEq .flag (.bool a) (.bool b) = some (decide (a = b)) := rfl
attribute [simp] mkrowV buildV
@[simp] theorem elems_at (H : Heap) (esz n b o m c : Nat) : elems H esz n (.slice (some ⟨b, o, none⟩) m c) = H.row b o (n * esz) := rfl
@[simp] theorem elems_nil (H : Heap) (esz n m c : Nat) : elems H esz n (.slice none m c) = if n * esz = 0 then some [] else none := rfl
theorem nums_rep (k : Nat) (x : Int) : numsOfRow (List.replicate k (.int .u8 x)) = some (List.replicate k x) := by
  induction k with
  | zero => rfl
  | succ k ih => rw [List.replicate_succ, numsOfRow_cons, ih]; rfl
theorem str_zero (k : Nat) : strOfNums (List.replicate k 0) = zer k := by apply L_inj; rw [L_strOfNums, L_zer]; simp
theorem row_fill1 (H : Heap) (b c n : Nat) (v : Value) (hb : b = H.next) (h : n ≤ c) : (H.add (fillB 1 c [v])).row b 0 n = some (List.replicate n v) := by
  refine row_of n 0 (by simp) fun j hj => ?_
  have : j < c := by omega
  simp [hb, hj, this, Nat.mod_one]

/-! ### elements of two and of four cells -/
theorem Rows.at1 {α : Type} {enc : α → List Value} {H : Heap} {p : Option Addr} {n c : Nat} {xs : List α} (h : Rows enc 1 H (.slice p n c) xs) {i : Nat} (hi : i < xs.length) : ∃ b o, p = some ⟨b, o, none⟩ ∧ b < H.next ∧ H.cell b (o + i) = (enc xs[i])[0]? := by
  obtain ⟨_, b, o, h1, h2, h3⟩ := h.at_ hi
  exact ⟨b, o, h1, h2, by simpa using h3 0 (by omega)⟩
theorem Rows.at2 {α : Type} {enc : α → List Value} {H : Heap} {p : Option Addr} {n c : Nat} {xs : List α} (h : Rows enc 2 H (.slice p n c) xs) {i : Nat} (hi : i < xs.length) : ∃ b o, p = some ⟨b, o, none⟩ ∧ b < H.next ∧ H.cell b (o + i * 2) = (enc xs[i])[0]? ∧ H.cell b (o + i * 2 + 1) = (enc xs[i])[1]? := by
  obtain ⟨_, b, o, h1, h2, h3⟩ := h.at_ hi
  exact ⟨b, o, h1, h2, by simpa using h3 0 (by omega), h3 1 (by omega)⟩
theorem Rows.at4 {α : Type} {enc : α → List Value} {H : Heap} {p : Option Addr} {n c : Nat} {xs : List α} (h : Rows enc 4 H (.slice p n c) xs) {i : Nat} (hi : i < xs.length) : ∃ b o, p = some ⟨b, o, none⟩ ∧ b < H.next ∧ H.cell b (o + i * 4) = (enc xs[i])[0]? ∧ H.cell b (o + i * 4 + 1) = (enc xs[i])[1]? ∧ H.cell b (o + i * 4 + 2) = (enc xs[i])[2]? ∧ H.cell b (o + i * 4 + 3) = (enc xs[i])[3]? := by
  obtain ⟨_, b, o, h1, h2, h3⟩ := h.at_ hi
  exact ⟨b, o, h1, h2, by simpa using h3 0 (by omega), h3 1 (by omega), h3 2 (by omega), h3 3 (by omega)⟩
/-- A loop in a block: what the loop's end must satisfy is what follows. -/
theorem wp_for {K : Cfg} {a : IC} {id : Nat} {e : Env} {H : Heap} {Q : IEx → Env → Heap → Prop} (Inv : Nat → Env → Heap → Prop) (d : Nat) (h0 : Inv d e H)
    (round : ∀ d e H, Inv d e H → wp (run K a e H) fun x e' H' => match x with | .norm => ∃ d', d' < d ∧ Inv d' e' H' | x => blockQ id Q x e' H') : wp (unblock id (run K (.loop a) e H)) Q :=
  wp_unblock (wp_loop Inv round d e H h0)

end Go.AM
