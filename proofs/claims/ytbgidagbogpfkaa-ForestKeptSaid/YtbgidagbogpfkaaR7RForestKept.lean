import Derived.Test.YtbgidagbogpfkaaR7LForestKept
import Derived.Test.YtbgidagbogpfkaaR7Fa
/- The law law19.ForestKept of the given program: the row: whatever its arguments, the call returns true. No further condition. -/
namespace Go.Proofs.Ytbgidagbogpfkaa.forestKept
theorem closed : joinedFacts Try.pinned.checked.prog 4 Try.f4 Rows.forestKeptSpec Rows.forestKeptRow = true := by
  unfold joinedFacts
  rw [Fact.mayEnter, Fact.liftsFinal, Fact.make]
  kernel_rfl
theorem over : Rows.forestKeptRow.holds Try.pinned (OpenSpec.ofChange Rows.forestKeptSpec) :=
  OpenClaim.holds_of_wide 4 Try.f4 rfl rfl rfl rfl rfl rfl rfl ⟨rfl, rfl, rfl, rfl, rfl⟩ rfl rfl rfl rfl rfl (by kernel_rfl) Try.func4 closed
    (of_decide_eq_true (by kernel_rfl)) (by unfold Func.isWrapper; first | (rw [if_pos (by decide +kernel)]; kernel_rfl) | (rw [if_neg (by decide +kernel)]; exact ⟨rfl, rfl⟩))
    (fun os started H enc _ => lifted os started H enc)
end Go.Proofs.Ytbgidagbogpfkaa.forestKept
namespace Go.Proofs.Ytbgidagbogpfkaa
/-- The row, under a short name, for the claim. -/
theorem forestKept_holds : Rows.ForestKeptSaid := forestKept.over
#print axioms forestKept_holds
end Go.Proofs.Ytbgidagbogpfkaa
