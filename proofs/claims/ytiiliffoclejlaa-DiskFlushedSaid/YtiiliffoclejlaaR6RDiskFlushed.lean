import Derived.Test.YtiiliffoclejlaaR6LDiskFlushed
import Derived.Test.YtiiliffoclejlaaR6Fa
/- The law law2.DiskFlushed of the given program: the row: whatever its arguments, the call returns true. No further condition. -/
namespace Go.Proofs.Ytiiliffoclejlaa.diskFlushed
theorem closed : joinedFacts Try.pinned.checked.prog 4 Try.f4 Rows.diskFlushedSpec Rows.diskFlushedRow = true := by
  unfold joinedFacts
  rw [Fact.mayEnter, Fact.liftsFinal, Fact.make]
  kernel_rfl
theorem over : Rows.diskFlushedRow.holds Try.pinned (OpenSpec.ofChange Rows.diskFlushedSpec) :=
  OpenClaim.holds_of_wide 4 Try.f4 rfl rfl rfl rfl rfl rfl rfl ⟨rfl, rfl, rfl, rfl, rfl⟩ rfl rfl rfl rfl rfl (by kernel_rfl) Try.func4 closed
    (of_decide_eq_true (by kernel_rfl)) (by unfold Func.isWrapper; first | (rw [if_pos (by decide +kernel)]; kernel_rfl) | (rw [if_neg (by decide +kernel)]; exact ⟨rfl, rfl⟩))
    (fun os started H enc _ => lifted os started H enc)
end Go.Proofs.Ytiiliffoclejlaa.diskFlushed
namespace Go.Proofs.Ytiiliffoclejlaa
/-- The row, under a short name, for the claim. -/
theorem diskFlushed_holds : Rows.DiskFlushedSaid := diskFlushed.over
#print axioms diskFlushed_holds
end Go.Proofs.Ytiiliffoclejlaa
