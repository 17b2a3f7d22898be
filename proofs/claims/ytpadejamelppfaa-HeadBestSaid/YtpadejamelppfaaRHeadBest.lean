import Derived.Test.YtpadejamelppfaaRows
import Derived.Test.YtpadejamelppfaaQHeadBest
import Derived.Test.YtpadejamelppfaaOHeadBestx5
import Derived.Test.YtpadejamelppfaaRowGen
import Derived.WalkKit
import Derived.ProofKit
import Derived.OpenShut
import Derived.ShutString
import Derived.ChangeOld
import Derived.Below
import Derived.SizedLaws
/- The law cryostatlaw5.HeadBest of the given program: whatever its arguments, the call returns true, and each argument reads as it read before. No further condition. -/
namespace Go.Proofs.Ytpadejamelppfaa.headBest
open Go.ChangeShapes Go.WideShapes Go.ChangeAt Go.RowKit Go.Proofs.RowGen Go.Proofs.YtpadejamelppfaaW.PrintWords
open Go.ChangeMaps (open_string shut_string)
set_option linter.unusedVariables false
theorem own : ownKnob Try.prog.godebug = none := by kernel_rfl
theorem opn54 : Opn Try.prog 54 (Kd.iso (Kd.pair (Kd.int .i64) (Kd.int .i64)) id) (fun x => (fun n : Int => (Lit.int .i64 n).wf = true) x.1 ∧ (fun n : Int => (Lit.int .i64 n).wf = true) x.2) :=
  Opn.struct Try.underlying54 (by kernel_rfl) (OpnFs.cons rfl (Opn.int Try.underlying3 (by kernel_rfl)) (OpnFs.one rfl (Opn.int Try.underlying3 (by kernel_rfl)))) id id (fun _ => rfl)
set_option maxRecDepth 100000 in
theorem lifted (os : Os) (started : os.Started) (H : Type) (enc : TypeId × Value → H) :
    ReturnsInHanded {} Try.checked os 12 .any (Rows.headBestSpec.pre6 enc Try.prog Try.f12 Rows.headBestRow.domain false) (Rows.headBestSpec.post enc Try.prog Try.f12 false true false false) := by
  refine returnsInHanded_of_change_sized (C := Try.checked) own started (by kernel_rfl) Try.func12
    (ChangeSpec.witness6 (enc := enc) (C := Try.checked) false ⟨#[], #[.agg #[.int .i64 0, .int .i64 0], .agg #[.int .i64 0, .int .i64 0], .int .i64 0], []⟩ 8 (by kernel_rfl) (by kernel_rfl) (by kernel_rfl) (by kernel_rfl)) ?_
  intro W base args ds gs before hval0 hW hcnd hsz0 _
  have hsz : (DataW.weightsEach Try.prog (Try.f12.params.toList ++ Rows.headBestSpec.plain.varTypes Try.prog) (ds ++ gs)).all (· ≤ reachBytes) = true := hsz0
  have hval : ∀ (j : Nat) t v, Try.f12.params[j]? = some t → args[j]? = some v → Value.okWide Try.prog W .any base t v := hval0
  have hW' := hW
  obtain ⟨p, q, hA0, hV, rfl, hfz, hnd⟩ := hW
  have hA : DataW.TrodAll enc Try.prog W 0 (fun _ => true) true Try.f12.params.toList args.toList ds p := hA0
  rw [Try.params12] at hA hval hsz
  have hK := hA
  obtain ⟨v0, vs0, d0, ds0, p0, q0, hargs, rfl, rfl, h0, r0⟩ := trodAll_cons hA
  obtain ⟨v1, vs1, d1, ds1, p1, q1, rfl, rfl, rfl, h1, r1⟩ := trodAll_cons r0
  obtain ⟨v2, vs2, d2, ds2, p2, q2, rfl, rfl, rfl, h2, r2⟩ := trodAll_cons r1
  obtain ⟨rfl, rfl, rfl⟩ := trodAll_nil r2
  obtain rfl : args = #[v0, v1, v2] := by cases args; simp_all
  obtain ⟨rfl, rfl⟩ := trodVars_none hV
  obtain ⟨cs0, rfl, hs0⟩ := okWide_struct Try.underlying54 (hval 0 54 v0 rfl rfl)
  obtain ⟨⟨a0_0, a0_1⟩, kx0, ox0⟩ := arg_one opn54 hsz (j := 0) rfl rfl h0
  have e0 : cs0.toList = [.int .i64 a0_0, .int .i64 a0_1] := by
    obtain ⟨_, _, e0, rfl, rfl⟩ := kx0
    show (Value.agg cs0).cells.toList = _
    simp [*]
  obtain rfl : cs0 = #[.int .i64 a0_0, .int .i64 a0_1] := by cases cs0; simpa using e0
  obtain ⟨w0_0, w0_1⟩ := ox0
  obtain ⟨cs1, rfl, hs1⟩ := okWide_struct Try.underlying54 (hval 1 54 v1 rfl rfl)
  obtain ⟨⟨a1_0, a1_1⟩, kx1, ox1⟩ := arg_one opn54 hsz (j := 1) rfl rfl h1
  have e1 : cs1.toList = [.int .i64 a1_0, .int .i64 a1_1] := by
    obtain ⟨_, _, e0, rfl, rfl⟩ := kx1
    show (Value.agg cs1).cells.toList = _
    simp [*]
  obtain rfl : cs1 = #[.int .i64 a1_0, .int .i64 a1_1] := by cases cs1; simpa using e1
  obtain ⟨w1_0, w1_1⟩ := ox1
  obtain ⟨a2, rfl, rfl, rfl, w2⟩ := open_int Try.underlying3 (hval 2 3 v2 rfl rfl) h2
  clear hA0 hval0 hsz0 hsz
  obtain ⟨k, hk⟩ := Pure.HeadBest a0_0 a0_1 a1_0 a1_1 a2 w0_0 w0_1 w1_0 w1_1 w2
  refine (PHeadBest.cryostatlaw5_HeadBest.calls k a0_0 a0_1 a1_0 a1_1 a2 true W ⟨rfl⟩ hk).mono fun e W' ⟨he, bel⟩ => ?_
  subst he
  exact ⟨_, rfl, _, _, _, [], _, [], hW', trodAll_mk1 (shut_bool Try.underlying4 _), args_stay (by kernel_rfl) bel (by kernel_rfl) hK, rfl, bel.frame _, fun h => by cases h⟩
theorem over : Rows.headBestRow.holds Try.pinned (OpenSpec.ofChange Rows.headBestSpec) :=
  OpenClaim.holds_of_wide 12 Try.f12 rfl rfl rfl rfl rfl rfl rfl ⟨rfl, rfl, rfl, rfl, rfl⟩ rfl rfl rfl rfl rfl (by kernel_rfl) Try.func12 (by kernel_rfl)
    (of_decide_eq_true (by kernel_rfl)) (by unfold Func.isWrapper; first | (rw [if_pos (by decide +kernel)]; kernel_rfl) | (rw [if_neg (by decide +kernel)]; exact ⟨rfl, rfl⟩))
    (fun os started H enc _ => lifted os started H enc)
end Go.Proofs.Ytpadejamelppfaa.headBest
namespace Go.Proofs.Ytpadejamelppfaa
/-- The row, under a short name, for the claim. -/
theorem headBest_holds : Rows.HeadBestSaid := headBest.over
#print axioms headBest_holds
end Go.Proofs.Ytpadejamelppfaa
