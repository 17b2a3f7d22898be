import Derived.Test.YtiiliffoclejlaaR6LOpenSame
import Derived.Test.YtiiliffoclejlaaR6Fa
/- The law law7.OpenSame of the given program: the row: whatever its arguments, the call returns true. No further condition. -/
namespace Go.Proofs.Ytiiliffoclejlaa.openSame
theorem closed : joinedFacts Try.pinned.checked.prog 16 Try.f16 Rows.openSameSpec Rows.openSameRow = true := by
  unfold joinedFacts
  rw [Fact.mayEnter, Fact.liftsFinal, Fact.make]
  kernel_rfl
theorem over : Rows.openSameRow.holds Try.pinned (OpenSpec.ofChange Rows.openSameSpec) :=
  OpenClaim.holds_of_wide 16 Try.f16 rfl rfl rfl rfl rfl rfl rfl ⟨rfl, rfl, rfl, rfl, rfl⟩ rfl rfl rfl rfl rfl (by kernel_rfl) Try.func16 closed
    (of_decide_eq_true (by kernel_rfl)) (by unfold Func.isWrapper; first | (rw [if_pos (by decide +kernel)]; kernel_rfl) | (rw [if_neg (by decide +kernel)]; exact ⟨rfl, rfl⟩))
    (fun os started H enc _ => lifted os started H enc)
end Go.Proofs.Ytiiliffoclejlaa.openSame
namespace Go.Proofs.Ytiiliffoclejlaa
/-- The row, under a short name, for the claim. -/
theorem openSame_holds : Rows.OpenSameSaid := openSame.over
#print axioms openSame_holds
end Go.Proofs.Ytiiliffoclejlaa
