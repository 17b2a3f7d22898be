import Derived.Test.YtiiliffoclejlaaR6LDiskLast
import Derived.Test.YtiiliffoclejlaaR6Fa
/- The law law2.DiskLast of the given program: the row: whatever its arguments, the call returns true. No further condition. -/
namespace Go.Proofs.Ytiiliffoclejlaa.diskLast
theorem closed : joinedFacts Try.pinned.checked.prog 6 Try.f6 Rows.diskLastSpec Rows.diskLastRow = true := by
  unfold joinedFacts
  rw [Fact.mayEnter, Fact.liftsFinal, Fact.make]
  kernel_rfl
theorem over : Rows.diskLastRow.holds Try.pinned (OpenSpec.ofChange Rows.diskLastSpec) :=
  OpenClaim.holds_of_wide 6 Try.f6 rfl rfl rfl rfl rfl rfl rfl ⟨rfl, rfl, rfl, rfl, rfl⟩ rfl rfl rfl rfl rfl (by kernel_rfl) Try.func6 closed
    (of_decide_eq_true (by kernel_rfl)) (by unfold Func.isWrapper; first | (rw [if_pos (by decide +kernel)]; kernel_rfl) | (rw [if_neg (by decide +kernel)]; exact ⟨rfl, rfl⟩))
    (fun os started H enc _ => lifted os started H enc)
end Go.Proofs.Ytiiliffoclejlaa.diskLast
namespace Go.Proofs.Ytiiliffoclejlaa
/-- The row, under a short name, for the claim. -/
theorem diskLast_holds : Rows.DiskLastSaid := diskLast.over
#print axioms diskLast_holds
end Go.Proofs.Ytiiliffoclejlaa
