import Derived.Test.YtiiliffoclejlaaR6K
import Derived.Test.YtiiliffoclejlaaR6DiskFlushed
import Derived.KernelRfl
/- Shapes of this seat's arguments: numbers. -/
namespace Go.AM
open Go.Proofs
set_option linter.unusedVariables false
set_option maxRecDepth 1000000
theorem shpN1 : Shp Try.prog 3 encN1 1 :=
  ⟨by kernel_rfl, fun _ => rfl, fun _ => rfl, fun h => by obtain ⟨a, ha, _⟩ := DataW.trod_int Try.underlying3 h; exact ⟨a, ha⟩⟩
end Go.AM
