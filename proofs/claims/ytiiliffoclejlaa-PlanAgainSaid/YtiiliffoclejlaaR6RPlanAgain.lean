import Derived.Test.YtiiliffoclejlaaR6LPlanAgain
import Derived.Test.YtiiliffoclejlaaR6Fa
/- The law law8.PlanAgain of the given program: the row: whatever its arguments, the call returns true. No further condition. -/
namespace Go.Proofs.Ytiiliffoclejlaa.planAgain
theorem closed : joinedFacts Try.pinned.checked.prog 13 Try.f13 Rows.planAgainSpec Rows.planAgainRow = true := by
  unfold joinedFacts
  rw [Fact.mayEnter, Fact.liftsFinal, Fact.make]
  kernel_rfl
theorem over : Rows.planAgainRow.holds Try.pinned (OpenSpec.ofChange Rows.planAgainSpec) :=
  OpenClaim.holds_of_wide 13 Try.f13 rfl rfl rfl rfl rfl rfl rfl ⟨rfl, rfl, rfl, rfl, rfl⟩ rfl rfl rfl rfl rfl (by kernel_rfl) Try.func13 closed
    (of_decide_eq_true (by kernel_rfl)) (by unfold Func.isWrapper; first | (rw [if_pos (by decide +kernel)]; kernel_rfl) | (rw [if_neg (by decide +kernel)]; exact ⟨rfl, rfl⟩))
    (fun os started H enc _ => lifted os started H enc)
end Go.Proofs.Ytiiliffoclejlaa.planAgain
namespace Go.Proofs.Ytiiliffoclejlaa
/-- The row, under a short name, for the claim. -/
theorem planAgain_holds : Rows.PlanAgainSaid := planAgain.over
#print axioms planAgain_holds
end Go.Proofs.Ytiiliffoclejlaa
