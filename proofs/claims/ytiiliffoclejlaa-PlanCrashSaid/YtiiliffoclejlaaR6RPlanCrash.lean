import Derived.Test.YtiiliffoclejlaaR6LPlanCrash
import Derived.Test.YtiiliffoclejlaaR6Fa
/- The law law8.PlanCrash of the given program: the row: whatever its arguments, the call returns true. No further condition. -/
namespace Go.Proofs.Ytiiliffoclejlaa.planCrash
theorem closed : joinedFacts Try.pinned.checked.prog 10 Try.f10 Rows.planCrashSpec Rows.planCrashRow = true := by
  unfold joinedFacts
  rw [Fact.mayEnter, Fact.liftsFinal, Fact.make]
  kernel_rfl
theorem over : Rows.planCrashRow.holds Try.pinned (OpenSpec.ofChange Rows.planCrashSpec) :=
  OpenClaim.holds_of_wide 10 Try.f10 rfl rfl rfl rfl rfl rfl rfl ⟨rfl, rfl, rfl, rfl, rfl⟩ rfl rfl rfl rfl rfl (by kernel_rfl) Try.func10 closed
    (of_decide_eq_true (by kernel_rfl)) (by unfold Func.isWrapper; first | (rw [if_pos (by decide +kernel)]; kernel_rfl) | (rw [if_neg (by decide +kernel)]; exact ⟨rfl, rfl⟩))
    (fun os started H enc _ => lifted os started H enc)
end Go.Proofs.Ytiiliffoclejlaa.planCrash
namespace Go.Proofs.Ytiiliffoclejlaa
/-- The row, under a short name, for the claim. -/
theorem planCrash_holds : Rows.PlanCrashSaid := planCrash.over
#print axioms planCrash_holds
end Go.Proofs.Ytiiliffoclejlaa
