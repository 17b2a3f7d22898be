import Derived.Test.YtiiliffoclejlaaR6LOpenRows
import Derived.Test.YtiiliffoclejlaaR6Fa
/- The law law7.OpenRows of the given program: the row: whatever its arguments, the call returns true. No further condition. -/
namespace Go.Proofs.Ytiiliffoclejlaa.openRows
theorem closed : joinedFacts Try.pinned.checked.prog 17 Try.f17 Rows.openRowsSpec Rows.openRowsRow = true := by
  unfold joinedFacts
  rw [Fact.mayEnter, Fact.liftsFinal, Fact.make]
  kernel_rfl
theorem over : Rows.openRowsRow.holds Try.pinned (OpenSpec.ofChange Rows.openRowsSpec) :=
  OpenClaim.holds_of_wide 17 Try.f17 rfl rfl rfl rfl rfl rfl rfl ⟨rfl, rfl, rfl, rfl, rfl⟩ rfl rfl rfl rfl rfl (by kernel_rfl) Try.func17 closed
    (of_decide_eq_true (by kernel_rfl)) (by unfold Func.isWrapper; first | (rw [if_pos (by decide +kernel)]; kernel_rfl) | (rw [if_neg (by decide +kernel)]; exact ⟨rfl, rfl⟩))
    (fun os started H enc _ => lifted os started H enc)
end Go.Proofs.Ytiiliffoclejlaa.openRows
namespace Go.Proofs.Ytiiliffoclejlaa
/-- The row, under a short name, for the claim. -/
theorem openRows_holds : Rows.OpenRowsSaid := openRows.over
#print axioms openRows_holds
end Go.Proofs.Ytiiliffoclejlaa
