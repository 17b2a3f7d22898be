import Derived.Test.YtpadejamelppfaaRows
import Derived.Test.YtpadejamelppfaaQRecordHeads
import Derived.Test.YtpadejamelppfaaORecordHeadsx6
import Derived.Test.YtpadejamelppfaaRowGen
import Derived.WalkKit
import Derived.ProofKit
import Derived.OpenShut
import Derived.ShutString
import Derived.ChangeOld
import Derived.Below
import Derived.SizedLaws
/- The law cryostatlaw3.RecordHeads of the given program: whatever its arguments, the call returns true, and each argument reads as it read before. No further condition. -/
namespace Go.Proofs.Ytpadejamelppfaa.recordHeads
open Go.ChangeShapes Go.WideShapes Go.ChangeAt Go.RowKit Go.Proofs.RowGen Go.Proofs.YtpadejamelppfaaW.PrintWords
open Go.ChangeMaps (open_string shut_string)
set_option linter.unusedVariables false
theorem own : ownKnob Try.prog.godebug = none := by kernel_rfl
theorem opn40 : Opn Try.prog 40 (Kd.iso (Kd.pair (Kd.int .i64) (Kd.pair (Kd.int .i64) (Kd.pair (Kd.int .i64) Kd.string))) id) (fun x => (fun n : Int => (Lit.int .i64 n).wf = true) x.1 ∧ (fun n : Int => (Lit.int .i64 n).wf = true) x.2.1 ∧ (fun n : Int => (Lit.int .i64 n).wf = true) x.2.2.1 ∧ (fun s : ByteArray => s.size ≤ 140737488351232) x.2.2.2) :=
  Opn.struct Try.underlying40 (by kernel_rfl) (OpnFs.cons rfl (Opn.int Try.underlying3 (by kernel_rfl)) (OpnFs.cons rfl (Opn.int Try.underlying3 (by kernel_rfl)) (OpnFs.cons rfl (Opn.int Try.underlying3 (by kernel_rfl)) (OpnFs.one rfl (Opn.string Try.underlying9 (by kernel_rfl)))))) id id (fun _ => rfl)
set_option maxRecDepth 100000 in
theorem lifted (os : Os) (started : os.Started) (H : Type) (enc : TypeId × Value → H) :
    ReturnsInHanded {} Try.checked os 10 .any (Rows.recordHeadsSpec.pre6 enc Try.prog Try.f10 Rows.recordHeadsRow.domain false) (Rows.recordHeadsSpec.post enc Try.prog Try.f10 false true false false) := by
  refine returnsInHanded_of_change_sized (C := Try.checked) own started (by kernel_rfl) Try.func10
    (ChangeSpec.witness6 (enc := enc) (C := Try.checked) false ⟨#[], #[.agg #[.int .i64 0, .int .i64 0, .int .i64 0, .string ByteArray.empty]], []⟩ 8 (by kernel_rfl) (by kernel_rfl) (by kernel_rfl) (by kernel_rfl)) ?_
  intro W base args ds gs before hval0 hW hcnd hsz0 _
  have hsz : (DataW.weightsEach Try.prog (Try.f10.params.toList ++ Rows.recordHeadsSpec.plain.varTypes Try.prog) (ds ++ gs)).all (· ≤ reachBytes) = true := hsz0
  have hval : ∀ (j : Nat) t v, Try.f10.params[j]? = some t → args[j]? = some v → Value.okWide Try.prog W .any base t v := hval0
  have hW' := hW
  obtain ⟨p, q, hA0, hV, rfl, hfz, hnd⟩ := hW
  have hA : DataW.TrodAll enc Try.prog W 0 (fun _ => true) true Try.f10.params.toList args.toList ds p := hA0
  rw [Try.params10] at hA hval hsz
  have hK := hA
  obtain ⟨v0, vs0, d0, ds0, p0, q0, hargs, rfl, rfl, h0, r0⟩ := trodAll_cons hA
  obtain ⟨rfl, rfl, rfl⟩ := trodAll_nil r0
  obtain rfl : args = #[v0] := by cases args; simp_all
  obtain ⟨rfl, rfl⟩ := trodVars_none hV
  obtain ⟨cs0, rfl, hs0⟩ := okWide_struct Try.underlying40 (hval 0 40 v0 rfl rfl)
  obtain ⟨⟨a0_0, a0_1, a0_2, a0_3⟩, kx0, ox0⟩ := arg_one opn40 hsz (j := 0) rfl rfl h0
  have e0 : cs0.toList = [.int .i64 a0_0, .int .i64 a0_1, .int .i64 a0_2, .string a0_3] := by
    obtain ⟨_, _, e0, rfl, ⟨_, _, e1, rfl, ⟨_, _, e2, rfl, rfl⟩⟩⟩ := kx0
    show (Value.agg cs0).cells.toList = _
    simp [*]
  obtain rfl : cs0 = #[.int .i64 a0_0, .int .i64 a0_1, .int .i64 a0_2, .string a0_3] := by cases cs0; simpa using e0
  obtain ⟨w0_0, w0_1, w0_2, w0_3⟩ := ox0
  clear hA0 hval0 hsz0 hsz
  obtain ⟨k, hk⟩ := Pure.RecordHeads a0_0 a0_1 a0_2 a0_3 w0_0 w0_1 w0_2 w0_3
  refine (PRecordHeads.cryostatlaw3_RecordHeads.calls k a0_0 a0_1 a0_2 a0_3 true W ⟨rfl⟩ hk).mono fun e W' ⟨he, bel⟩ => ?_
  subst he
  exact ⟨_, rfl, _, _, _, [], _, [], hW', trodAll_mk1 (shut_bool Try.underlying4 _), args_stay (by kernel_rfl) bel (by kernel_rfl) hK, rfl, bel.frame _, fun h => by cases h⟩
theorem over : Rows.recordHeadsRow.holds Try.pinned (OpenSpec.ofChange Rows.recordHeadsSpec) :=
  OpenClaim.holds_of_wide 10 Try.f10 rfl rfl rfl rfl rfl rfl rfl ⟨rfl, rfl, rfl, rfl, rfl⟩ rfl rfl rfl rfl rfl (by kernel_rfl) Try.func10 (by kernel_rfl)
    (of_decide_eq_true (by kernel_rfl)) (by unfold Func.isWrapper; first | (rw [if_pos (by decide +kernel)]; kernel_rfl) | (rw [if_neg (by decide +kernel)]; exact ⟨rfl, rfl⟩))
    (fun os started H enc _ => lifted os started H enc)
end Go.Proofs.Ytpadejamelppfaa.recordHeads
namespace Go.Proofs.Ytpadejamelppfaa
/-- The row, under a short name, for the claim. -/
theorem recordHeads_holds : Rows.RecordHeadsSaid := recordHeads.over
#print axioms recordHeads_holds
end Go.Proofs.Ytpadejamelppfaa
