import Derived.Test.YtbgidagbogpfkaaRows
import Derived.KernelRfl
/- Facts of the given program's dump, read once. -/
namespace Go.Proofs.Ytbgidagbogpfkaa.Fact
theorem facts : (Try.pinned.checked.prog.mayEnter && (Try.pinned.checked.prog.liftsFinal == false) && (Try.pinned.checked.prog.make == some .cut)) = true := by kernel_rfl
theorem mayEnter : Try.pinned.checked.prog.mayEnter = true := by
  have h := facts; simp only [Bool.and_eq_true] at h; exact h.1.1
theorem liftsFinal : Try.pinned.checked.prog.liftsFinal = false := by
  have h := facts; simp only [Bool.and_eq_true, beq_iff_eq] at h; exact h.1.2
theorem make : Try.pinned.checked.prog.make = some .cut := by
  have h := facts; simp only [Bool.and_eq_true, beq_iff_eq] at h; exact h.2
end Go.Proofs.Ytbgidagbogpfkaa.Fact
