import Derived.Test.YtbgidagbogpfkaaR7LForestCommits
import Derived.Test.YtbgidagbogpfkaaR7Fa
/- The law law19.ForestCommits of the given program: the row: whatever its arguments, the call returns true. No further condition. -/
namespace Go.Proofs.Ytbgidagbogpfkaa.forestCommits
theorem closed : joinedFacts Try.pinned.checked.prog 10 Try.f10 Rows.forestCommitsSpec Rows.forestCommitsRow = true := by
  unfold joinedFacts
  rw [Fact.mayEnter, Fact.liftsFinal, Fact.make]
  kernel_rfl
theorem over : Rows.forestCommitsRow.holds Try.pinned (OpenSpec.ofChange Rows.forestCommitsSpec) :=
  OpenClaim.holds_of_wide 10 Try.f10 rfl rfl rfl rfl rfl rfl rfl ⟨rfl, rfl, rfl, rfl, rfl⟩ rfl rfl rfl rfl rfl (by kernel_rfl) Try.func10 closed
    (of_decide_eq_true (by kernel_rfl)) (by unfold Func.isWrapper; first | (rw [if_pos (by decide +kernel)]; kernel_rfl) | (rw [if_neg (by decide +kernel)]; exact ⟨rfl, rfl⟩))
    (fun os started H enc _ => lifted os started H enc)
end Go.Proofs.Ytbgidagbogpfkaa.forestCommits
namespace Go.Proofs.Ytbgidagbogpfkaa
/-- The row, under a short name, for the claim. -/
theorem forestCommits_holds : Rows.ForestCommitsSaid := forestCommits.over
#print axioms forestCommits_holds
end Go.Proofs.Ytbgidagbogpfkaa
