import Derived.Test.YtiiliffoclejlaaR6LPlanForms
import Derived.Test.YtiiliffoclejlaaR6Fa
/- The law law8.PlanForms of the given program: the row: whatever its arguments, the call returns true. No further condition. -/
namespace Go.Proofs.Ytiiliffoclejlaa.planForms
theorem closed : joinedFacts Try.pinned.checked.prog 11 Try.f11 Rows.planFormsSpec Rows.planFormsRow = true := by
  unfold joinedFacts
  rw [Fact.mayEnter, Fact.liftsFinal, Fact.make]
  kernel_rfl
theorem over : Rows.planFormsRow.holds Try.pinned (OpenSpec.ofChange Rows.planFormsSpec) :=
  OpenClaim.holds_of_wide 11 Try.f11 rfl rfl rfl rfl rfl rfl rfl ⟨rfl, rfl, rfl, rfl, rfl⟩ rfl rfl rfl rfl rfl (by kernel_rfl) Try.func11 closed
    (of_decide_eq_true (by kernel_rfl)) (by unfold Func.isWrapper; first | (rw [if_pos (by decide +kernel)]; kernel_rfl) | (rw [if_neg (by decide +kernel)]; exact ⟨rfl, rfl⟩))
    (fun os started H enc _ => lifted os started H enc)
end Go.Proofs.Ytiiliffoclejlaa.planForms
namespace Go.Proofs.Ytiiliffoclejlaa
/-- The row, under a short name, for the claim. -/
theorem planForms_holds : Rows.PlanFormsSaid := planForms.over
#print axioms planForms_holds
end Go.Proofs.Ytiiliffoclejlaa
