import Derived.Test.YteamlnogjjgdoaaRows
import Derived.Test.YteamlnogjjgdoaaR3Logs
import Derived.Test.YteamlnogjjgdoaaR3S
import Derived.WalkKit
import Derived.ProofKit
/- The law cryostatlaw4.Logs of the given program: whatever its arguments, the call returns true, and each argument reads as it read before. No further condition. -/
namespace Go.Proofs.Yteamlnogjjgdoaa.logs
open Go.ChangeShapes Go.WideShapes Go.ChangeAt Go.RowKit
open Go.ChangeMaps (open_string shut_string)
open Go.AM
set_option linter.unusedVariables false
theorem own : ownKnob Try.prog.godebug = none := by kernel_rfl
set_option maxRecDepth 100000 in
theorem lifted (os : Os) (started : os.Started) (H : Type) (enc : TypeId × Value → H) :
    ReturnsInHanded {} Try.checked os 3 .any (Rows.logsSpec.pre6 enc Try.prog Try.f3 Rows.logsRow.domain false) (Rows.logsSpec.post enc Try.prog Try.f3 false true false false) := by
  refine returnsInHanded_of_change_sized (C := Try.checked) own started (by kernel_rfl) Try.func3
    (ChangeSpec.witness6 (enc := enc) (C := Try.checked) false ⟨#[], #[.slice none 0 0, .slice none 0 0, .int .i64 0], []⟩ 8 (by kernel_rfl) (by kernel_rfl) (by kernel_rfl) (by kernel_rfl)) ?_
  intro W base args ds gs before hval0 hW hcnd hsz0 _
  have hsz : (DataW.weightsEach Try.prog (Try.f3.params.toList ++ Rows.logsSpec.plain.varTypes Try.prog) (ds ++ gs)).all (· ≤ reachBytes) = true := hsz0
  have hval : ∀ (j : Nat) t v, Try.f3.params[j]? = some t → args[j]? = some v → Value.okWide Try.prog W .any base t v := hval0
  have hW' := hW
  obtain ⟨p, q, hA0, hV, rfl, hfz, hnd⟩ := hW
  have hA : DataW.TrodAll enc Try.prog W 0 (fun _ => true) true Try.f3.params.toList args.toList ds p := hA0
  rw [Try.params3] at hA hval hsz
  have hK := hA
  obtain ⟨v0, vs0, d0, ds0, p0, q0, hargs, rfl, rfl, h0, r0⟩ := trodAll_cons hA
  obtain ⟨v1, vs1, d1, ds1, p1, q1, rfl, rfl, rfl, h1, r1⟩ := trodAll_cons r0
  obtain ⟨v2, vs2, d2, ds2, p2, q2, rfl, rfl, rfl, h2, r2⟩ := trodAll_cons r1
  obtain ⟨rfl, rfl, rfl⟩ := trodAll_nil r2
  obtain rfl : args = #[v0, v1, v2] := by cases args; simp_all
  obtain ⟨rfl, rfl⟩ := trodVars_none hV
  obtain ⟨rho0, A0, u0, x0, E0, le0, ex0, k0, R0, Z0, s0⟩ := Ent.rows2 shpI Try.underlying22 (hval 0 22 v0 rfl rfl) h0 (by rw [List.all_eq_true] at hsz ⊢; exact fun n hn => hsz n (DataW.weights_mem_each (j := 0) rfl rfl n hn)) (by decide) (Ent.zero W)
  obtain ⟨rho1, A1, u1, x1, E1, le1, ex1, k1, R1, Z1, s1⟩ := Ent.rows2 shpS Try.underlying23 (hval 1 23 v1 rfl rfl) h1 (by rw [List.all_eq_true] at hsz ⊢; exact fun n hn => hsz n (DataW.weights_mem_each (j := 1) rfl rfl n hn)) (by decide) E0
  obtain ⟨a2, rfl, rfl, rfl, w2⟩ := open_int Try.underlying3 (hval 2 3 v2 rfl rfl) h2
  clear hA0 hval0 hsz0
  refine (law_calls kOk E1 (f := 3) (args := [u0, u1, .int .i64 a2]) (args' := [v0, v1, .int .i64 a2]) ⟨(k0.mono le1), k1, V3.int' _ _, trivial⟩ (logs_ok u0 u1 x0 x1 a2 _ (R0.ext ex1) R1 Z1 (wtI s0) (wtS s1))).mono fun e W' ⟨he, bel⟩ => ?_
  subst he
  exact ⟨_, rfl, _, _, _, [], _, [], hW', trodAll_mk1 (shut_bool Try.underlying4 _), Go.AM.args_stay (by kernel_rfl) bel (by kernel_rfl) hK, rfl, bel.frame _, fun h => by cases h⟩
theorem over : Rows.logsRow.holds Try.pinned (OpenSpec.ofChange Rows.logsSpec) :=
  OpenClaim.holds_of_wide 3 Try.f3 rfl rfl rfl rfl rfl rfl rfl ⟨rfl, rfl, rfl, rfl, rfl⟩ rfl rfl rfl rfl rfl (by kernel_rfl) Try.func3 (by kernel_rfl)
    (of_decide_eq_true (by kernel_rfl)) (by unfold Func.isWrapper; first | (rw [if_pos (by decide +kernel)]; kernel_rfl) | (rw [if_neg (by decide +kernel)]; exact ⟨rfl, rfl⟩))
    (fun os started H enc _ => lifted os started H enc)
end Go.Proofs.Yteamlnogjjgdoaa.logs
namespace Go.Proofs.Yteamlnogjjgdoaa
/-- The row, under a short name, for the claim. -/
theorem logs_holds : Rows.LogsSaid := logs.over
#print axioms logs_holds
end Go.Proofs.Yteamlnogjjgdoaa
