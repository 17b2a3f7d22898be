import Derived.Test.YtiiliffoclejlaaR6LPairForms
import Derived.Test.YtiiliffoclejlaaR6Fa
/- The law law1.PairForms of the given program: the row: whatever its arguments, the call returns true. No further condition. -/
namespace Go.Proofs.Ytiiliffoclejlaa.pairForms
theorem closed : joinedFacts Try.pinned.checked.prog 20 Try.f20 Rows.pairFormsSpec Rows.pairFormsRow = true := by
  unfold joinedFacts
  rw [Fact.mayEnter, Fact.liftsFinal, Fact.make]
  kernel_rfl
theorem over : Rows.pairFormsRow.holds Try.pinned (OpenSpec.ofChange Rows.pairFormsSpec) :=
  OpenClaim.holds_of_wide 20 Try.f20 rfl rfl rfl rfl rfl rfl rfl ⟨rfl, rfl, rfl, rfl, rfl⟩ rfl rfl rfl rfl rfl (by kernel_rfl) Try.func20 closed
    (of_decide_eq_true (by kernel_rfl)) (by unfold Func.isWrapper; first | (rw [if_pos (by decide +kernel)]; kernel_rfl) | (rw [if_neg (by decide +kernel)]; exact ⟨rfl, rfl⟩))
    (fun os started H enc _ => lifted os started H enc)
end Go.Proofs.Ytiiliffoclejlaa.pairForms
namespace Go.Proofs.Ytiiliffoclejlaa
/-- The row, under a short name, for the claim. -/
theorem pairForms_holds : Rows.PairFormsSaid := pairForms.over
#print axioms pairForms_holds
end Go.Proofs.Ytiiliffoclejlaa
