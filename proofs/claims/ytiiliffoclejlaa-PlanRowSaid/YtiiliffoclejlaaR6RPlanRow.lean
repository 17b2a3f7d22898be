import Derived.Test.YtiiliffoclejlaaR6LPlanRow
import Derived.Test.YtiiliffoclejlaaR6Fa
/- The law law8.PlanRow of the given program: the row: whatever its arguments, the call returns true. No further condition. -/
namespace Go.Proofs.Ytiiliffoclejlaa.planRow
theorem closed : joinedFacts Try.pinned.checked.prog 14 Try.f14 Rows.planRowSpec Rows.planRowRow = true := by
  unfold joinedFacts
  rw [Fact.mayEnter, Fact.liftsFinal, Fact.make]
  kernel_rfl
theorem over : Rows.planRowRow.holds Try.pinned (OpenSpec.ofChange Rows.planRowSpec) :=
  OpenClaim.holds_of_wide 14 Try.f14 rfl rfl rfl rfl rfl rfl rfl ⟨rfl, rfl, rfl, rfl, rfl⟩ rfl rfl rfl rfl rfl (by kernel_rfl) Try.func14 closed
    (of_decide_eq_true (by kernel_rfl)) (by unfold Func.isWrapper; first | (rw [if_pos (by decide +kernel)]; kernel_rfl) | (rw [if_neg (by decide +kernel)]; exact ⟨rfl, rfl⟩))
    (fun os started H enc _ => lifted os started H enc)
end Go.Proofs.Ytiiliffoclejlaa.planRow
namespace Go.Proofs.Ytiiliffoclejlaa
/-- The row, under a short name, for the claim. -/
theorem planRow_holds : Rows.PlanRowSaid := planRow.over
#print axioms planRow_holds
end Go.Proofs.Ytiiliffoclejlaa
