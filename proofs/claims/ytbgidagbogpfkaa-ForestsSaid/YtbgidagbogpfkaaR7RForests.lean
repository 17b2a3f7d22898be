import Derived.Test.YtbgidagbogpfkaaR7LForests
import Derived.Test.YtbgidagbogpfkaaR7Fa
/- The law law19.Forests of the given program: the row: whatever its arguments, the call returns true. No further condition. -/
namespace Go.Proofs.Ytbgidagbogpfkaa.forests
theorem closed : joinedFacts Try.pinned.checked.prog 3 Try.f3 Rows.forestsSpec Rows.forestsRow = true := by
  unfold joinedFacts
  rw [Fact.mayEnter, Fact.liftsFinal, Fact.make]
  kernel_rfl
theorem over : Rows.forestsRow.holds Try.pinned (OpenSpec.ofChange Rows.forestsSpec) :=
  OpenClaim.holds_of_wide 3 Try.f3 rfl rfl rfl rfl rfl rfl rfl ⟨rfl, rfl, rfl, rfl, rfl⟩ rfl rfl rfl rfl rfl (by kernel_rfl) Try.func3 closed
    (of_decide_eq_true (by kernel_rfl)) (by unfold Func.isWrapper; first | (rw [if_pos (by decide +kernel)]; kernel_rfl) | (rw [if_neg (by decide +kernel)]; exact ⟨rfl, rfl⟩))
    (fun os started H enc _ => lifted os started H enc)
end Go.Proofs.Ytbgidagbogpfkaa.forests
namespace Go.Proofs.Ytbgidagbogpfkaa
/-- The row, under a short name, for the claim. -/
theorem forests_holds : Rows.ForestsSaid := forests.over
#print axioms forests_holds
end Go.Proofs.Ytbgidagbogpfkaa
