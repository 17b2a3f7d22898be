/- A fact of the given program's dump: liftsFinal. -/
import Derived.Test.YtiiliffoclejlaaRows
import Derived.KernelRfl
namespace Go.Proofs.Ytiiliffoclejlaa.Fact
theorem liftsFinal : Try.pinned.checked.prog.liftsFinal = false := by kernel_rfl
end Go.Proofs.Ytiiliffoclejlaa.Fact
