import Derived.Test.YtbgidagbogpfkaaR7Ins
import Derived.Test.YtbgidagbogpfkaaR7O
import Derived.Test.YtbgidagbogpfkaaR7Shelf
import Derived.Test.YtbgidagbogpfkaaAg2
/- The setting of the seat (forests): which functions are pure, which contracts come from elsewhere. -/
namespace Go.AM
open Go.Proofs Go.RowKit
set_option linter.unusedVariables false
set_option linter.unusedSimpArgs false
set_option maxRecDepth 1000000
attribute [-simp] ByteArray.size_eq_zero_iff
def compareX : List Value → Heap → Option (Value × Heap)
  | [.string a, .string b], H => some (.int .i64 (cmpT a b), H)
  | _, _ => none
def purL : List FuncId := [f_key_word, f_key_IsName, f_key_IsPath, f_snap_Kind, f_snap_Label, f_inode_Content, f_ref16_word, f_ref16_NameMay, f_ref16_PathMay, f_forest_At, f_forest_At_1, f_forest_FileAt, f_forest_FileAt_1,
  f_slices_BinarySearchFunc_Info_string, f_slices_BinarySearchFunc_File_string, f_forest_files, f_forest_rooted, f_forest_May, f_ref16_At, f_ref16_fileAt, f_ref16_infoMay, f_ref16_ForestMay, f_ref16_active,
  f_law0_SameInfos, f_law0_SameInfo, f_law0_SameFiles, f_law0_Num, f_slices_IndexFunc_Info, f_slices_ContainsFunc_Info, f_forest_Remove_1, f_law19_awake,
  f_law19_Forests, f_law19_ForestKept, f_law19_ForestForms, f_law19_ForestErrors, f_law19_ForestWrites, f_law19_ForestChild, f_law19_ForestFaults, f_law19_ForestCommits, f_law19_ForestRemoves]
noncomputable def K : Cfg := { P := Try.prog, F := fnAt Try.prog, X := fun f => if f = f_strings_Compare then some compareX else if f = f_slices_Insert_Info then some (insX 5 80) else if f = f_slices_Insert_File then some (insX 3 40) else none, pur := fun f => purL.contains f }
theorem compare_able : Callable Try.prog f_strings_Compare := Callable.of_fn fc_strings_Compare
theorem compareX_sound : XSound Try.prog f_strings_Compare compareX := XSound.of_below compare_able fun args H v H' hg => by
  unfold compareX at hg
  split at hg
  · rename_i a b
    cases hg
    exact ⟨rfl, rfl, rfl, fun w => (Try.strings_Compare a b w).mono fun e w' ⟨he, hw⟩ => ⟨he, by subst hw; exact Below.refl _ _⟩⟩
  · cases hg
theorem kOk : KOk K where
  mixed := by kernel_rfl
  F := fun f F h => h
  X := fun f g h => by
    have h' : (if f = f_strings_Compare then some compareX else if f = f_slices_Insert_Info then some (insX 5 80) else if f = f_slices_Insert_File then some (insX 3 40) else none) = some g := h
    split at h'
    · rename_i e; subst e; cases h'; exact compareX_sound
    · split at h'
      · rename_i e; subst e; cases h'; exact insInfo_sound
      · split at h'
        · rename_i e; subst e; cases h'; exact insFile_sound
        · cases h'
#print axioms kOk
@[simp] theorem compare_ok (a b : ByteArray) (H : Heap) : call K f_strings_Compare [.string a, .string b] H = some (.int .i64 (cmpT a b), H) := by
  rw [call_eq]
  show compareX [.string a, .string b] H = _
  rfl
end Go.AM
