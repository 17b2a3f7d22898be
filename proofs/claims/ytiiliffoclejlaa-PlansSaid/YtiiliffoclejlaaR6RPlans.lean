import Derived.Test.YtiiliffoclejlaaR6LPlans
import Derived.Test.YtiiliffoclejlaaR6Fa
/- The law law8.Plans of the given program: the row: whatever its arguments, the call returns true. No further condition. -/
namespace Go.Proofs.Ytiiliffoclejlaa.plans
theorem closed : joinedFacts Try.pinned.checked.prog 9 Try.f9 Rows.plansSpec Rows.plansRow = true := by
  unfold joinedFacts
  rw [Fact.mayEnter, Fact.liftsFinal, Fact.make]
  kernel_rfl
theorem over : Rows.plansRow.holds Try.pinned (OpenSpec.ofChange Rows.plansSpec) :=
  OpenClaim.holds_of_wide 9 Try.f9 rfl rfl rfl rfl rfl rfl rfl ⟨rfl, rfl, rfl, rfl, rfl⟩ rfl rfl rfl rfl rfl (by kernel_rfl) Try.func9 closed
    (of_decide_eq_true (by kernel_rfl)) (by unfold Func.isWrapper; first | (rw [if_pos (by decide +kernel)]; kernel_rfl) | (rw [if_neg (by decide +kernel)]; exact ⟨rfl, rfl⟩))
    (fun os started H enc _ => lifted os started H enc)
end Go.Proofs.Ytiiliffoclejlaa.plans
namespace Go.Proofs.Ytiiliffoclejlaa
/-- The row, under a short name, for the claim. -/
theorem plans_holds : Rows.PlansSaid := plans.over
#print axioms plans_holds
end Go.Proofs.Ytiiliffoclejlaa
