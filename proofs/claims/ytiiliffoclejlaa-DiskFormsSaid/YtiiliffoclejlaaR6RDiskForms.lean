import Derived.Test.YtiiliffoclejlaaR6LDiskForms
import Derived.Test.YtiiliffoclejlaaR6Fa
/- The law law2.DiskForms of the given program: the row: whatever its arguments, the call returns true. No further condition. -/
namespace Go.Proofs.Ytiiliffoclejlaa.diskForms
theorem closed : joinedFacts Try.pinned.checked.prog 5 Try.f5 Rows.diskFormsSpec Rows.diskFormsRow = true := by
  unfold joinedFacts
  rw [Fact.mayEnter, Fact.liftsFinal, Fact.make]
  kernel_rfl
theorem over : Rows.diskFormsRow.holds Try.pinned (OpenSpec.ofChange Rows.diskFormsSpec) :=
  OpenClaim.holds_of_wide 5 Try.f5 rfl rfl rfl rfl rfl rfl rfl ⟨rfl, rfl, rfl, rfl, rfl⟩ rfl rfl rfl rfl rfl (by kernel_rfl) Try.func5 closed
    (of_decide_eq_true (by kernel_rfl)) (by unfold Func.isWrapper; first | (rw [if_pos (by decide +kernel)]; kernel_rfl) | (rw [if_neg (by decide +kernel)]; exact ⟨rfl, rfl⟩))
    (fun os started H enc _ => lifted os started H enc)
end Go.Proofs.Ytiiliffoclejlaa.diskForms
namespace Go.Proofs.Ytiiliffoclejlaa
/-- The row, under a short name, for the claim. -/
theorem diskForms_holds : Rows.DiskFormsSaid := diskForms.over
#print axioms diskForms_holds
end Go.Proofs.Ytiiliffoclejlaa
