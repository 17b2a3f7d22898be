import Derived.Test.YtbgidagbogpfkaaR7LForestForms
import Derived.Test.YtbgidagbogpfkaaR7Fa
/- The law law19.ForestForms of the given program: the row: whatever its arguments, the call returns true. No further condition. -/
namespace Go.Proofs.Ytbgidagbogpfkaa.forestForms
theorem closed : joinedFacts Try.pinned.checked.prog 5 Try.f5 Rows.forestFormsSpec Rows.forestFormsRow = true := by
  unfold joinedFacts
  rw [Fact.mayEnter, Fact.liftsFinal, Fact.make]
  kernel_rfl
theorem over : Rows.forestFormsRow.holds Try.pinned (OpenSpec.ofChange Rows.forestFormsSpec) :=
  OpenClaim.holds_of_wide 5 Try.f5 rfl rfl rfl rfl rfl rfl rfl ⟨rfl, rfl, rfl, rfl, rfl⟩ rfl rfl rfl rfl rfl (by kernel_rfl) Try.func5 closed
    (of_decide_eq_true (by kernel_rfl)) (by unfold Func.isWrapper; first | (rw [if_pos (by decide +kernel)]; kernel_rfl) | (rw [if_neg (by decide +kernel)]; exact ⟨rfl, rfl⟩))
    (fun os started H enc _ => lifted os started H enc)
end Go.Proofs.Ytbgidagbogpfkaa.forestForms
namespace Go.Proofs.Ytbgidagbogpfkaa
/-- The row, under a short name, for the claim. -/
theorem forestForms_holds : Rows.ForestFormsSaid := forestForms.over
#print axioms forestForms_holds
end Go.Proofs.Ytbgidagbogpfkaa
