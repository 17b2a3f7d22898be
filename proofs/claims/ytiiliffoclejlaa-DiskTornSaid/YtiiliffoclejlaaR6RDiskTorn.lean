import Derived.Test.YtiiliffoclejlaaR6LDiskTorn
import Derived.Test.YtiiliffoclejlaaR6Fa
import Derived.Test.YtiiliffoclejlaaR6Fb
import Derived.Test.YtiiliffoclejlaaR6Fc
/- The law law2.DiskTorn of the given program: the row. No further condition. -/
namespace Go.Proofs.Ytiiliffoclejlaa.diskTorn
theorem closed : joinedFacts Try.pinned.checked.prog 7 Try.f7 Rows.diskTornSpec Rows.diskTornRow = true := by
  unfold joinedFacts
  rw [Fact.mayEnter, Fact.liftsFinal, Fact.make]
  kernel_rfl
theorem over : Rows.diskTornRow.holds Try.pinned (OpenSpec.ofChange Rows.diskTornSpec) :=
  OpenClaim.holds_of_wide 7 Try.f7 rfl rfl rfl rfl rfl rfl rfl ⟨rfl, rfl, rfl, rfl, rfl⟩ rfl rfl rfl rfl rfl (by kernel_rfl) Try.func7 closed
    (of_decide_eq_true (by kernel_rfl)) (by unfold Func.isWrapper; first | (rw [if_pos (by decide +kernel)]; kernel_rfl) | (rw [if_neg (by decide +kernel)]; exact ⟨rfl, rfl⟩))
    (fun os started H enc _ => lifted os started H enc)
end Go.Proofs.Ytiiliffoclejlaa.diskTorn
namespace Go.Proofs.Ytiiliffoclejlaa
/-- The row, under a short name, for the claim. -/
theorem diskTorn_holds : Rows.DiskTornSaid := diskTorn.over
#print axioms diskTorn_holds
end Go.Proofs.Ytiiliffoclejlaa
