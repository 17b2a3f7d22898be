/- A fact of the given program's dump: mayEnter. -/
import Derived.Test.YtiiliffoclejlaaRows
import Derived.KernelRfl
namespace Go.Proofs.Ytiiliffoclejlaa.Fact
theorem mayEnter : Try.pinned.checked.prog.mayEnter = true := by kernel_rfl
end Go.Proofs.Ytiiliffoclejlaa.Fact
