import Derived.Test.YtiiliffoclejlaaR6LPlanFresh
import Derived.Test.YtiiliffoclejlaaR6Fa
/- The law law8.PlanFresh of the given program: the row: whatever its arguments, the call returns true. No further condition. -/
namespace Go.Proofs.Ytiiliffoclejlaa.planFresh
theorem closed : joinedFacts Try.pinned.checked.prog 12 Try.f12 Rows.planFreshSpec Rows.planFreshRow = true := by
  unfold joinedFacts
  rw [Fact.mayEnter, Fact.liftsFinal, Fact.make]
  kernel_rfl
theorem over : Rows.planFreshRow.holds Try.pinned (OpenSpec.ofChange Rows.planFreshSpec) :=
  OpenClaim.holds_of_wide 12 Try.f12 rfl rfl rfl rfl rfl rfl rfl ⟨rfl, rfl, rfl, rfl, rfl⟩ rfl rfl rfl rfl rfl (by kernel_rfl) Try.func12 closed
    (of_decide_eq_true (by kernel_rfl)) (by unfold Func.isWrapper; first | (rw [if_pos (by decide +kernel)]; kernel_rfl) | (rw [if_neg (by decide +kernel)]; exact ⟨rfl, rfl⟩))
    (fun os started H enc _ => lifted os started H enc)
end Go.Proofs.Ytiiliffoclejlaa.planFresh
namespace Go.Proofs.Ytiiliffoclejlaa
/-- The row, under a short name, for the claim. -/
theorem planFresh_holds : Rows.PlanFreshSaid := planFresh.over
#print axioms planFresh_holds
end Go.Proofs.Ytiiliffoclejlaa
