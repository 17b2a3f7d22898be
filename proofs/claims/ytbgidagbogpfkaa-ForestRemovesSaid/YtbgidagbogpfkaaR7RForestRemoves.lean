import Derived.Test.YtbgidagbogpfkaaR7LForestRemoves
import Derived.Test.YtbgidagbogpfkaaR7Fa
/- The law law19.ForestRemoves of the given program: the row: whatever its arguments, the call returns true. No further condition. -/
namespace Go.Proofs.Ytbgidagbogpfkaa.forestRemoves
theorem closed : joinedFacts Try.pinned.checked.prog 11 Try.f11 Rows.forestRemovesSpec Rows.forestRemovesRow = true := by
  unfold joinedFacts
  rw [Fact.mayEnter, Fact.liftsFinal, Fact.make]
  kernel_rfl
theorem over : Rows.forestRemovesRow.holds Try.pinned (OpenSpec.ofChange Rows.forestRemovesSpec) :=
  OpenClaim.holds_of_wide 11 Try.f11 rfl rfl rfl rfl rfl rfl rfl ⟨rfl, rfl, rfl, rfl, rfl⟩ rfl rfl rfl rfl rfl (by kernel_rfl) Try.func11 closed
    (of_decide_eq_true (by kernel_rfl)) (by unfold Func.isWrapper; first | (rw [if_pos (by decide +kernel)]; kernel_rfl) | (rw [if_neg (by decide +kernel)]; exact ⟨rfl, rfl⟩))
    (fun os started H enc _ => lifted os started H enc)
end Go.Proofs.Ytbgidagbogpfkaa.forestRemoves
namespace Go.Proofs.Ytbgidagbogpfkaa
/-- The row, under a short name, for the claim. -/
theorem forestRemoves_holds : Rows.ForestRemovesSaid := forestRemoves.over
#print axioms forestRemoves_holds
end Go.Proofs.Ytbgidagbogpfkaa
