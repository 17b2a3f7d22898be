import Derived.Test.YtiiliffoclejlaaRows
import Derived.Test.YtiiliffoclejlaaR6Opens
import Derived.Test.YtiiliffoclejlaaR6Sd
import Derived.WalkKit
import Derived.ProofKit
/- The law law7.OpenSame of the given program: whatever its arguments, the call returns true, and each argument reads as it read before. No further condition. -/
namespace Go.Proofs.Ytiiliffoclejlaa.openSame
open Go.ChangeShapes Go.WideShapes Go.ChangeAt Go.RowKit
open Go.ChangeMaps (open_string shut_string)
open Go.AM
set_option linter.unusedVariables false
theorem own : ownKnob Try.prog.godebug = none := by kernel_rfl
set_option maxRecDepth 100000 in
theorem lifted (os : Os) (started : os.Started) (H : Type) (enc : TypeId × Value → H) :
    ReturnsInHanded {} Try.checked os 16 .any (Rows.openSameSpec.pre6 enc Try.prog Try.f16 Rows.openSameRow.domain false) (Rows.openSameSpec.post enc Try.prog Try.f16 false true false false) := by
  refine returnsInHanded_of_change_sized (C := Try.checked) own started (by kernel_rfl) Try.func16
    (ChangeSpec.witness6 (enc := enc) (C := Try.checked) false ⟨#[], #[.agg #[.slice none 0 0, .slice none 0 0]], []⟩ 8 (by kernel_rfl) (by kernel_rfl) (by kernel_rfl) (by kernel_rfl)) ?_
  intro W base args ds gs before hval0 hW hcnd hsz0 _
  have hsz : (DataW.weightsEach Try.prog (Try.f16.params.toList ++ Rows.openSameSpec.plain.varTypes Try.prog) (ds ++ gs)).all (· ≤ reachBytes) = true := hsz0
  have hval : ∀ (j : Nat) t v, Try.f16.params[j]? = some t → args[j]? = some v → Value.okWide Try.prog W .any base t v := hval0
  have hW' := hW
  obtain ⟨p, q, hA0, hV, rfl, hfz, hnd⟩ := hW
  have hA : DataW.TrodAll enc Try.prog W 0 (fun _ => true) true Try.f16.params.toList args.toList ds p := hA0
  rw [Try.params16] at hA hval hsz
  have hK := hA
  obtain ⟨v0, vs0, d0, ds0, p0, q0, hargs, rfl, rfl, h0, r0⟩ := trodAll_cons hA
  obtain ⟨rfl, rfl, rfl⟩ := trodAll_nil r0
  obtain rfl : args = #[v0] := by cases args; simp_all
  obtain ⟨rfl, rfl⟩ := trodVars_none hV
  obtain ⟨rho0, A0, u0, x0, E0, le0, ex0, k0, R0, Z0⟩ := entD (hval 0 25 v0 rfl rfl) h0 (by rw [List.all_eq_true] at hsz ⊢; exact fun n hn => hsz n (DataW.weights_mem_each (j := 0) rfl rfl n hn)) (Ent.zero W)
  clear hA0 hval0 hsz0
  refine (law_calls kOk E0 (f := 16) (args := [u0]) (args' := [v0]) ⟨k0, trivial⟩ (openSame_law u0 x0  _ R0 Z0)).mono fun e W' ⟨he, bel⟩ => ?_
  subst he
  exact ⟨_, rfl, _, _, _, [], _, [], hW', trodAll_mk1 (shut_bool Try.underlying4 _), Go.AM.args_stay (by kernel_rfl) bel (by kernel_rfl) hK, rfl, bel.frame _, fun h => by cases h⟩
end Go.Proofs.Ytiiliffoclejlaa.openSame
