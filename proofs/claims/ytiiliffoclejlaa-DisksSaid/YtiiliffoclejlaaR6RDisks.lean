import Derived.Test.YtiiliffoclejlaaR6LDisks
import Derived.Test.YtiiliffoclejlaaR6Fa
/- The law law2.Disks of the given program: the row: whatever its arguments, the call returns true. No further condition. -/
namespace Go.Proofs.Ytiiliffoclejlaa.disks
theorem closed : joinedFacts Try.pinned.checked.prog 3 Try.f3 Rows.disksSpec Rows.disksRow = true := by
  unfold joinedFacts
  rw [Fact.mayEnter, Fact.liftsFinal, Fact.make]
  kernel_rfl
theorem over : Rows.disksRow.holds Try.pinned (OpenSpec.ofChange Rows.disksSpec) :=
  OpenClaim.holds_of_wide 3 Try.f3 rfl rfl rfl rfl rfl rfl rfl ⟨rfl, rfl, rfl, rfl, rfl⟩ rfl rfl rfl rfl rfl (by kernel_rfl) Try.func3 closed
    (of_decide_eq_true (by kernel_rfl)) (by unfold Func.isWrapper; first | (rw [if_pos (by decide +kernel)]; kernel_rfl) | (rw [if_neg (by decide +kernel)]; exact ⟨rfl, rfl⟩))
    (fun os started H enc _ => lifted os started H enc)
end Go.Proofs.Ytiiliffoclejlaa.disks
namespace Go.Proofs.Ytiiliffoclejlaa
/-- The row, under a short name, for the claim. -/
theorem disks_holds : Rows.DisksSaid := disks.over
#print axioms disks_holds
end Go.Proofs.Ytiiliffoclejlaa
