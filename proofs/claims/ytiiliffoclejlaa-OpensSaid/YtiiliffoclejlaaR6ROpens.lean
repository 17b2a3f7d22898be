import Derived.Test.YtiiliffoclejlaaR6LOpens
import Derived.Test.YtiiliffoclejlaaR6Fa
/- The law law7.Opens of the given program: the row: whatever its arguments, the call returns true. No further condition. -/
namespace Go.Proofs.Ytiiliffoclejlaa.opens
theorem closed : joinedFacts Try.pinned.checked.prog 15 Try.f15 Rows.opensSpec Rows.opensRow = true := by
  unfold joinedFacts
  rw [Fact.mayEnter, Fact.liftsFinal, Fact.make]
  kernel_rfl
theorem over : Rows.opensRow.holds Try.pinned (OpenSpec.ofChange Rows.opensSpec) :=
  OpenClaim.holds_of_wide 15 Try.f15 rfl rfl rfl rfl rfl rfl rfl ⟨rfl, rfl, rfl, rfl, rfl⟩ rfl rfl rfl rfl rfl (by kernel_rfl) Try.func15 closed
    (of_decide_eq_true (by kernel_rfl)) (by unfold Func.isWrapper; first | (rw [if_pos (by decide +kernel)]; kernel_rfl) | (rw [if_neg (by decide +kernel)]; exact ⟨rfl, rfl⟩))
    (fun os started H enc _ => lifted os started H enc)
end Go.Proofs.Ytiiliffoclejlaa.opens
namespace Go.Proofs.Ytiiliffoclejlaa
/-- The row, under a short name, for the claim. -/
theorem opens_holds : Rows.OpensSaid := opens.over
#print axioms opens_holds
end Go.Proofs.Ytiiliffoclejlaa
