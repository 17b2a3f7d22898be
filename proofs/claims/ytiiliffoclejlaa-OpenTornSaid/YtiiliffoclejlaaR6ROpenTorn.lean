import Derived.Test.YtiiliffoclejlaaR6LOpenTorn
import Derived.Test.YtiiliffoclejlaaR6Fa
/- The law law7.OpenTorn of the given program: the row: whatever its arguments, the call returns true. No further condition. -/
namespace Go.Proofs.Ytiiliffoclejlaa.openTorn
theorem closed : joinedFacts Try.pinned.checked.prog 19 Try.f19 Rows.openTornSpec Rows.openTornRow = true := by
  unfold joinedFacts
  rw [Fact.mayEnter, Fact.liftsFinal, Fact.make]
  kernel_rfl
theorem over : Rows.openTornRow.holds Try.pinned (OpenSpec.ofChange Rows.openTornSpec) :=
  OpenClaim.holds_of_wide 19 Try.f19 rfl rfl rfl rfl rfl rfl rfl ⟨rfl, rfl, rfl, rfl, rfl⟩ rfl rfl rfl rfl rfl (by kernel_rfl) Try.func19 closed
    (of_decide_eq_true (by kernel_rfl)) (by unfold Func.isWrapper; first | (rw [if_pos (by decide +kernel)]; kernel_rfl) | (rw [if_neg (by decide +kernel)]; exact ⟨rfl, rfl⟩))
    (fun os started H enc _ => lifted os started H enc)
end Go.Proofs.Ytiiliffoclejlaa.openTorn
namespace Go.Proofs.Ytiiliffoclejlaa
/-- The row, under a short name, for the claim. -/
theorem openTorn_holds : Rows.OpenTornSaid := openTorn.over
#print axioms openTorn_holds
end Go.Proofs.Ytiiliffoclejlaa
