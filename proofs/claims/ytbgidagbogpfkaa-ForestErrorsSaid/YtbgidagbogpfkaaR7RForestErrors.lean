import Derived.Test.YtbgidagbogpfkaaR7LForestErrors
import Derived.Test.YtbgidagbogpfkaaR7Fa
/- The law law19.ForestErrors of the given program: the row: whatever its arguments, the call returns true. No further condition. -/
namespace Go.Proofs.Ytbgidagbogpfkaa.forestErrors
theorem closed : joinedFacts Try.pinned.checked.prog 6 Try.f6 Rows.forestErrorsSpec Rows.forestErrorsRow = true := by
  unfold joinedFacts
  rw [Fact.mayEnter, Fact.liftsFinal, Fact.make]
  kernel_rfl
theorem over : Rows.forestErrorsRow.holds Try.pinned (OpenSpec.ofChange Rows.forestErrorsSpec) :=
  OpenClaim.holds_of_wide 6 Try.f6 rfl rfl rfl rfl rfl rfl rfl ⟨rfl, rfl, rfl, rfl, rfl⟩ rfl rfl rfl rfl rfl (by kernel_rfl) Try.func6 closed
    (of_decide_eq_true (by kernel_rfl)) (by unfold Func.isWrapper; first | (rw [if_pos (by decide +kernel)]; kernel_rfl) | (rw [if_neg (by decide +kernel)]; exact ⟨rfl, rfl⟩))
    (fun os started H enc _ => lifted os started H enc)
end Go.Proofs.Ytbgidagbogpfkaa.forestErrors
namespace Go.Proofs.Ytbgidagbogpfkaa
/-- The row, under a short name, for the claim. -/
theorem forestErrors_holds : Rows.ForestErrorsSaid := forestErrors.over
#print axioms forestErrors_holds
end Go.Proofs.Ytbgidagbogpfkaa
