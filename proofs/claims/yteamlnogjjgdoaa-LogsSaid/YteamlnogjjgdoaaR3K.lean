/- The setting of this seat: sound. -/
import Derived.Test.YteamlnogjjgdoaaR3W
import Derived.Test.YteamlnogjjgdoaaShelf
import Derived.Test.YteamlnogjjgdoaaAmEntry
namespace Go.AM
open Go.Proofs
set_option linter.unusedVariables false
set_option maxRecDepth 1000000
theorem repeat_able : Callable Try.prog f_strings_Repeat := ⟨_, Try.func82, by decide +kernel, by kernel_rfl⟩
theorem kOk : KOk K where
  mixed := by kernel_rfl
  F := fun f F h => h
  X := fun f g h => by
    have h' : (if f = f_strings_Repeat then some repeatX else none) = some g := h
    split at h'
    · rename_i e; subst e; cases h'
      exact repeatX_sound repeat_able fun s c w hc hs => Try.strings_Repeat s c w hc hs
    · cases h'
end Go.AM
