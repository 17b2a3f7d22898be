import Derived.Test.YtbgidagbogpfkaaR7LForestChild
import Derived.Test.YtbgidagbogpfkaaR7Fa
/- The law law19.ForestChild of the given program: the row: whatever its arguments, the call returns true. No further condition. -/
namespace Go.Proofs.Ytbgidagbogpfkaa.forestChild
theorem closed : joinedFacts Try.pinned.checked.prog 8 Try.f8 Rows.forestChildSpec Rows.forestChildRow = true := by
  unfold joinedFacts
  rw [Fact.mayEnter, Fact.liftsFinal, Fact.make]
  kernel_rfl
theorem over : Rows.forestChildRow.holds Try.pinned (OpenSpec.ofChange Rows.forestChildSpec) :=
  OpenClaim.holds_of_wide 8 Try.f8 rfl rfl rfl rfl rfl rfl rfl ⟨rfl, rfl, rfl, rfl, rfl⟩ rfl rfl rfl rfl rfl (by kernel_rfl) Try.func8 closed
    (of_decide_eq_true (by kernel_rfl)) (by unfold Func.isWrapper; first | (rw [if_pos (by decide +kernel)]; kernel_rfl) | (rw [if_neg (by decide +kernel)]; exact ⟨rfl, rfl⟩))
    (fun os started H enc _ => lifted os started H enc)
end Go.Proofs.Ytbgidagbogpfkaa.forestChild
namespace Go.Proofs.Ytbgidagbogpfkaa
/-- The row, under a short name, for the claim. -/
theorem forestChild_holds : Rows.ForestChildSaid := forestChild.over
#print axioms forestChild_holds
end Go.Proofs.Ytbgidagbogpfkaa
