import Derived.Test.YtbgidagbogpfkaaR7LForestWrites
import Derived.Test.YtbgidagbogpfkaaR7Fa
/- The law law19.ForestWrites of the given program: the row: whatever its arguments, the call returns true. No further condition. -/
namespace Go.Proofs.Ytbgidagbogpfkaa.forestWrites
theorem closed : joinedFacts Try.pinned.checked.prog 7 Try.f7 Rows.forestWritesSpec Rows.forestWritesRow = true := by
  unfold joinedFacts
  rw [Fact.mayEnter, Fact.liftsFinal, Fact.make]
  kernel_rfl
theorem over : Rows.forestWritesRow.holds Try.pinned (OpenSpec.ofChange Rows.forestWritesSpec) :=
  OpenClaim.holds_of_wide 7 Try.f7 rfl rfl rfl rfl rfl rfl rfl ⟨rfl, rfl, rfl, rfl, rfl⟩ rfl rfl rfl rfl rfl (by kernel_rfl) Try.func7 closed
    (of_decide_eq_true (by kernel_rfl)) (by unfold Func.isWrapper; first | (rw [if_pos (by decide +kernel)]; kernel_rfl) | (rw [if_neg (by decide +kernel)]; exact ⟨rfl, rfl⟩))
    (fun os started H enc _ => lifted os started H enc)
end Go.Proofs.Ytbgidagbogpfkaa.forestWrites
namespace Go.Proofs.Ytbgidagbogpfkaa
/-- The row, under a short name, for the claim. -/
theorem forestWrites_holds : Rows.ForestWritesSaid := forestWrites.over
#print axioms forestWrites_holds
end Go.Proofs.Ytbgidagbogpfkaa
