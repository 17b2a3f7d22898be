/- Shapes of this seat's arguments. -/
import Derived.Test.YtiiliffoclejlaaR6K
import Derived.Test.YtiiliffoclejlaaR6DiskSubset
import Derived.KernelRfl
namespace Go.AM
open Go.Proofs
set_option linter.unusedVariables false
set_option maxRecDepth 1000000
theorem shpN : Shp Try.prog 3 encN 1 :=
  ⟨by kernel_rfl, fun _ => rfl, fun _ => rfl, fun h => by obtain ⟨a, ha, _⟩ := DataW.trod_int Try.underlying3 h; exact ⟨a, ha⟩⟩
end Go.AM
