import Derived.Test.YtbgidagbogpfkaaR7LForestFaults
import Derived.Test.YtbgidagbogpfkaaR7Fa
/- The law law19.ForestFaults of the given program: the row: whatever its arguments, the call returns true. No further condition. -/
namespace Go.Proofs.Ytbgidagbogpfkaa.forestFaults
theorem closed : joinedFacts Try.pinned.checked.prog 9 Try.f9 Rows.forestFaultsSpec Rows.forestFaultsRow = true := by
  unfold joinedFacts
  rw [Fact.mayEnter, Fact.liftsFinal, Fact.make]
  kernel_rfl
theorem over : Rows.forestFaultsRow.holds Try.pinned (OpenSpec.ofChange Rows.forestFaultsSpec) :=
  OpenClaim.holds_of_wide 9 Try.f9 rfl rfl rfl rfl rfl rfl rfl ⟨rfl, rfl, rfl, rfl, rfl⟩ rfl rfl rfl rfl rfl (by kernel_rfl) Try.func9 closed
    (of_decide_eq_true (by kernel_rfl)) (by unfold Func.isWrapper; first | (rw [if_pos (by decide +kernel)]; kernel_rfl) | (rw [if_neg (by decide +kernel)]; exact ⟨rfl, rfl⟩))
    (fun os started H enc _ => lifted os started H enc)
end Go.Proofs.Ytbgidagbogpfkaa.forestFaults
namespace Go.Proofs.Ytbgidagbogpfkaa
/-- The row, under a short name, for the claim. -/
theorem forestFaults_holds : Rows.ForestFaultsSaid := forestFaults.over
#print axioms forestFaults_holds
end Go.Proofs.Ytbgidagbogpfkaa
