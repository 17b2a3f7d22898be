import Derived.Test.YtiiliffoclejlaaR6LDiskSubset
import Derived.Test.YtiiliffoclejlaaR6Fa
/- The law law2.DiskSubset of the given program: the row: whatever its arguments, the call returns true. No further condition. -/
namespace Go.Proofs.Ytiiliffoclejlaa.diskSubset
theorem closed : joinedFacts Try.pinned.checked.prog 8 Try.f8 Rows.diskSubsetSpec Rows.diskSubsetRow = true := by
  unfold joinedFacts
  rw [Fact.mayEnter, Fact.liftsFinal, Fact.make]
  kernel_rfl
theorem over : Rows.diskSubsetRow.holds Try.pinned (OpenSpec.ofChange Rows.diskSubsetSpec) :=
  OpenClaim.holds_of_wide 8 Try.f8 rfl rfl rfl rfl rfl rfl rfl ⟨rfl, rfl, rfl, rfl, rfl⟩ rfl rfl rfl rfl rfl (by kernel_rfl) Try.func8 closed
    (of_decide_eq_true (by kernel_rfl)) (by unfold Func.isWrapper; first | (rw [if_pos (by decide +kernel)]; kernel_rfl) | (rw [if_neg (by decide +kernel)]; exact ⟨rfl, rfl⟩))
    (fun os started H enc _ => lifted os started H enc)
end Go.Proofs.Ytiiliffoclejlaa.diskSubset
namespace Go.Proofs.Ytiiliffoclejlaa
/-- The row, under a short name, for the claim. -/
theorem diskSubset_holds : Rows.DiskSubsetSaid := diskSubset.over
#print axioms diskSubset_holds
end Go.Proofs.Ytiiliffoclejlaa
