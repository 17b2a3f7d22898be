import Derived.Test.YtbgidagbogpfkaaDoorR8W
import Derived.Test.YtbgidagbogpfkaaDoorAh2
/- The setting of the door's seat (scripts). -/
namespace Go.AM
open Go.Proofs Go.RowKit
set_option linter.unusedVariables false
set_option linter.unusedSimpArgs false
set_option maxRecDepth 1000000
attribute [-simp] ByteArray.size_eq_zero_iff
def purL : List FuncId := [f_script_May, f_script_names, f_script_from0, f_script_stops, f_script_Show, f_ref20_ActMay, f_ref20_named, f_ref20_short, f_ref20_ShowActs, f_ref0_Decimal, f_law0_SameActs, f_law0_Num, f_law24_awake,
  f_law24_Scripts, f_law24_ScriptBack, f_law24_ScriptForms, f_law24_ScriptRows, f_law24_ScriptKinds]
noncomputable def K : Cfg := { P := Tryd.prog, F := fnAt Tryd.prog, X := fun f => if f = f_strconv_Itoa then some itoaX else if f = f_strings_Contains then some containsX else if f = f_internal_stringslite_Index then some indexX else if f = f_strconv_Atoi then some atoiX else if f = f_strings_Builder_WriteString then some writeX else if f = f_strings_Builder_String then some stringX else none, pur := fun f => purL.contains f }
theorem kOk : KOk K where
  mixed := by kernel_rfl
  F := fun f F h => h
  X := fun f g h => by
    have h' : (if f = f_strconv_Itoa then some itoaX else if f = f_strings_Contains then some containsX else if f = f_internal_stringslite_Index then some indexX else if f = f_strconv_Atoi then some atoiX else if f = f_strings_Builder_WriteString then some writeX else if f = f_strings_Builder_String then some stringX else none) = some g := h
    split at h'
    · rename_i e; subst e; cases h'; exact itoaX_sound
    split at h'
    · rename_i e; subst e; cases h'; exact containsX_sound
    split at h'
    · rename_i e; subst e; cases h'; exact indexX_sound
    split at h'
    · rename_i e; subst e; cases h'; exact atoiX_sound
    split at h'
    · rename_i e; subst e; cases h'; exact writeX_sound
    split at h'
    · rename_i e; subst e; cases h'; exact stringX_sound
    · cases h'
#print axioms kOk
@[simp] theorem itoa_ok (n : Int) (h1 : -9223372036854775808 ≤ n) (h2 : n ≤ 9223372036854775807) (H : Heap) : call K f_strconv_Itoa [.int .i64 n] H = some (.string (dg n), H) := by
  rw [call_eq]
  show itoaX [.int .i64 n] H = _
  simp [itoaX, h1, h2]
theorem contains_ok (s : ByteArray) (c : UInt8) (H : Heap) : call K f_strings_Contains [.string s, .string ⟨#[c]⟩] H = some (.bool (decide (0 ≤ Lib.indexByte s.data.toList c)), H) := by
  rw [call_eq]
  show containsX [.string s, .string ⟨#[c]⟩] H = _
  simp [containsX]
@[simp] theorem index_ok (s : ByteArray) (c : UInt8) (H : Heap) : call K f_internal_stringslite_Index [.string s, .string ⟨#[c]⟩] H = some (.int .i64 (Lib.indexByte s.data.toList c), H) := by
  rw [call_eq]
  show indexX [.string s, .string ⟨#[c]⟩] H = _
  simp [indexX]
theorem atoi_eq (s : ByteArray) (H : Heap) : call K f_strconv_Atoi [.string s] H = atoiX [.string s] H := by
  rw [call_eq]; rfl
theorem write_eq (args : List Value) (H : Heap) : call K f_strings_Builder_WriteString args H = writeX args H := by
  rw [call_eq]; rfl
theorem string_eq (args : List Value) (H : Heap) : call K f_strings_Builder_String args H = stringX args H := by
  rw [call_eq]; rfl
end Go.AM
