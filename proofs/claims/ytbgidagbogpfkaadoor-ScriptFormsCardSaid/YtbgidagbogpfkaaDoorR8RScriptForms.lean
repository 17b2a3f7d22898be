import Derived.Test.YtbgidagbogpfkaaDoorR8LScriptForms
import Derived.Test.YtbgidagbogpfkaaDoorTie
import Derived.Test.YtbgidagbogpfkaaDoorCards
import Derived.JoinedOf
import Derived.SevenTiedAt
/- The law law24.ScriptForms of the given program: the row, and its tied card. No further condition. -/
namespace Go.Proofs.YtbgidagbogpfkaaDoor.scriptForms
set_option maxRecDepth 100000
theorem over : Rows.scriptFormsRow.holds Tryd.pinned (OpenSpec.ofChange Rows.scriptFormsSpec) :=
  OpenClaim.holds_of_wide 5 Tryd.f5 rfl rfl rfl rfl rfl rfl rfl ⟨rfl, rfl, rfl, rfl, rfl⟩ rfl rfl rfl rfl rfl (by kernel_rfl) Tryd.func5 (by kernel_rfl)
    (of_decide_eq_true (by kernel_rfl)) (by unfold Func.isWrapper; first | (rw [if_pos (by decide +kernel)]; kernel_rfl) | (rw [if_neg (by decide +kernel)]; exact ⟨rfl, rfl⟩))
    (fun os started H enc _ => lifted os started H enc)
end Go.Proofs.YtbgidagbogpfkaaDoor.scriptForms
namespace Go.Proofs.YtbgidagbogpfkaaDoor
theorem scriptForms_row : Rows.ScriptFormsSaid := scriptForms.over
/-- The tied card, under a short name, for the claim. -/
theorem scriptFormsCard_holds : Rows.ScriptFormsCardSaid :=
  Claim7.holds_tied_plain_at .later [] [.data, .data, .data, .sentinel, .sentinel] true (true, "cc6b9b6bfd5e7535435720acd6bca13e9b468a5c3ee36044708d866ea3614ed5") true
    scriptForms_row (fun _ h => by cases h) (by kernel_rfl) (fun _ h => by cases h) scriptForms_row_tie rfl ⟨rfl, rfl⟩ (by kernel_rfl) rfl
    (fun f fn hf hfn => by
      obtain rfl : f = 5 := Option.some.inj ((show Tryd.prog.funcNamed "cryostat/cryostatlaw24.ScriptForms" = some 5 by kernel_rfl).symm.trans hf) |>.symm
      obtain rfl : fn = Tryd.f5 := (Option.some.inj (Tryd.func5.symm.trans hfn)).symm
      exact ⟨by kernel_rfl, fun j t ht => by
        rw [Tryd.params5] at ht
        match j, ht with
        | 0, ht => cases ht; exact (show Tryd.prog.wantsStandIn 3 = false by kernel_rfl)
        | 1, ht => cases ht; exact (show Tryd.prog.wantsStandIn 3 = false by kernel_rfl)
        | j + 2, ht => simp at ht⟩)
    (by kernel_rfl)
#print axioms scriptFormsCard_holds
end Go.Proofs.YtbgidagbogpfkaaDoor
