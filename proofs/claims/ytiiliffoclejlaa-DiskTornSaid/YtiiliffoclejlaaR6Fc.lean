/- A fact of the given program's dump: make. -/
import Derived.Test.YtiiliffoclejlaaRows
import Derived.KernelRfl
namespace Go.Proofs.Ytiiliffoclejlaa.Fact
theorem make : Try.pinned.checked.prog.make = (some .cut) := by kernel_rfl
end Go.Proofs.Ytiiliffoclejlaa.Fact
