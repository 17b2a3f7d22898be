import Derived.Test.YtiiliffoclejlaaR6LOpenHead
import Derived.Test.YtiiliffoclejlaaR6Fa
/- The law law7.OpenHead of the given program: the row: whatever its arguments, the call returns true. No further condition. -/
namespace Go.Proofs.Ytiiliffoclejlaa.openHead
theorem closed : joinedFacts Try.pinned.checked.prog 18 Try.f18 Rows.openHeadSpec Rows.openHeadRow = true := by
  unfold joinedFacts
  rw [Fact.mayEnter, Fact.liftsFinal, Fact.make]
  kernel_rfl
theorem over : Rows.openHeadRow.holds Try.pinned (OpenSpec.ofChange Rows.openHeadSpec) :=
  OpenClaim.holds_of_wide 18 Try.f18 rfl rfl rfl rfl rfl rfl rfl ⟨rfl, rfl, rfl, rfl, rfl⟩ rfl rfl rfl rfl rfl (by kernel_rfl) Try.func18 closed
    (of_decide_eq_true (by kernel_rfl)) (by unfold Func.isWrapper; first | (rw [if_pos (by decide +kernel)]; kernel_rfl) | (rw [if_neg (by decide +kernel)]; exact ⟨rfl, rfl⟩))
    (fun os started H enc _ => lifted os started H enc)
end Go.Proofs.Ytiiliffoclejlaa.openHead
namespace Go.Proofs.Ytiiliffoclejlaa
/-- The row, under a short name, for the claim. -/
theorem openHead_holds : Rows.OpenHeadSaid := openHead.over
#print axioms openHead_holds
end Go.Proofs.Ytiiliffoclejlaa
