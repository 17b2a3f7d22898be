import Derived.Test.YtbgidagbogpfkaaDoorR8LScriptKinds
import Derived.Test.YtbgidagbogpfkaaDoorTie
import Derived.Test.YtbgidagbogpfkaaDoorCards
import Derived.JoinedOf
import Derived.SevenTiedAt
/- The law law24.ScriptKinds of the given program: the row, and its tied card. No further condition. -/
namespace Go.Proofs.YtbgidagbogpfkaaDoor.scriptKinds
set_option maxRecDepth 100000
theorem over : Rows.scriptKindsRow.holds Tryd.pinned (OpenSpec.ofChange Rows.scriptKindsSpec) :=
  OpenClaim.holds_of_wide 7 Tryd.f7 rfl rfl rfl rfl rfl rfl rfl ⟨rfl, rfl, rfl, rfl, rfl⟩ rfl rfl rfl rfl rfl (by kernel_rfl) Tryd.func7 (by kernel_rfl)
    (of_decide_eq_true (by kernel_rfl)) (by unfold Func.isWrapper; first | (rw [if_pos (by decide +kernel)]; kernel_rfl) | (rw [if_neg (by decide +kernel)]; exact ⟨rfl, rfl⟩))
    (fun os started H enc _ => lifted os started H enc)
end Go.Proofs.YtbgidagbogpfkaaDoor.scriptKinds
namespace Go.Proofs.YtbgidagbogpfkaaDoor
theorem scriptKinds_row : Rows.ScriptKindsSaid := scriptKinds.over
/-- The tied card, under a short name, for the claim. -/
theorem scriptKindsCard_holds : Rows.ScriptKindsCardSaid :=
  Claim7.holds_tied_plain_at .later [] [.data, .data, .data, .sentinel, .sentinel] true (true, "cc6b9b6bfd5e7535435720acd6bca13e9b468a5c3ee36044708d866ea3614ed5") true
    scriptKinds_row (fun _ h => by cases h) (by kernel_rfl) (fun _ h => by cases h) scriptKinds_row_tie rfl ⟨rfl, rfl⟩ (by kernel_rfl) rfl
    (fun f fn hf hfn => by
      obtain rfl : f = 7 := Option.some.inj ((show Tryd.prog.funcNamed "cryostat/cryostatlaw24.ScriptKinds" = some 7 by kernel_rfl).symm.trans hf) |>.symm
      obtain rfl : fn = Tryd.f7 := (Option.some.inj (Tryd.func7.symm.trans hfn)).symm
      exact ⟨by kernel_rfl, fun j t ht => by
        rw [Tryd.params7] at ht
        match j, ht with
        | 0, ht => cases ht; exact (show Tryd.prog.wantsStandIn 3 = false by kernel_rfl)
        | 1, ht => cases ht; exact (show Tryd.prog.wantsStandIn 3 = false by kernel_rfl)
        | j + 2, ht => simp at ht⟩)
    (by kernel_rfl)
#print axioms scriptKindsCard_holds
end Go.Proofs.YtbgidagbogpfkaaDoor
