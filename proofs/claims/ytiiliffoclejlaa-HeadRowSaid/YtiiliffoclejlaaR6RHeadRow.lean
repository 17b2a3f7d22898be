import Derived.Test.YtiiliffoclejlaaR6LHeadRow
import Derived.Test.YtiiliffoclejlaaR6Fa
/- The law law5.HeadRow of the given program: the row: whatever its arguments, the call returns true. No further condition. -/
namespace Go.Proofs.Ytiiliffoclejlaa.headRow
theorem closed : joinedFacts Try.pinned.checked.prog 21 Try.f21 Rows.headRowSpec Rows.headRowRow = true := by
  unfold joinedFacts
  rw [Fact.mayEnter, Fact.liftsFinal, Fact.make]
  kernel_rfl
theorem over : Rows.headRowRow.holds Try.pinned (OpenSpec.ofChange Rows.headRowSpec) :=
  OpenClaim.holds_of_wide 21 Try.f21 rfl rfl rfl rfl rfl rfl rfl ⟨rfl, rfl, rfl, rfl, rfl⟩ rfl rfl rfl rfl rfl (by kernel_rfl) Try.func21 closed
    (of_decide_eq_true (by kernel_rfl)) (by unfold Func.isWrapper; first | (rw [if_pos (by decide +kernel)]; kernel_rfl) | (rw [if_neg (by decide +kernel)]; exact ⟨rfl, rfl⟩))
    (fun os started H enc _ => lifted os started H enc)
end Go.Proofs.Ytiiliffoclejlaa.headRow
namespace Go.Proofs.Ytiiliffoclejlaa
/-- The row, under a short name, for the claim. -/
theorem headRow_holds : Rows.HeadRowSaid := headRow.over
#print axioms headRow_holds
end Go.Proofs.Ytiiliffoclejlaa
