import Derived.Test.YtbgidagbogpfkaaDoorR8CodeL
import Derived.Test.YtbgidagbogpfkaaDoorRows
import Derived.Test.YtbgidagbogpfkaaDoorR8Sa
import Derived.Test.YtbgidagbogpfkaaDoorR8Si
import Derived.WalkKit
import Derived.ProofKit
/- The law law24.Scripts of the given program: whatever its arguments, the call returns true, and each argument reads as it read before. No further condition. -/
namespace Go.Proofs.YtbgidagbogpfkaaDoor.scripts
open Go.ChangeShapes Go.WideShapes Go.ChangeAt Go.RowKit
open Go.ChangeMaps (open_string shut_string)
open Go.AM
set_option linter.unusedVariables false
theorem own : ownKnob Tryd.prog.godebug = none := by kernel_rfl
set_option maxRecDepth 100000 in
theorem lifted (os : Os) (started : os.Started) (H : Type) (enc : TypeId × Value → H) :
    ReturnsInHanded {} Tryd.checked os 3 .any (fun w args => (Rows.scriptsSpec.pre enc Tryd.prog Tryd.f3 [] false w args ∧ laidMetH Tryd.prog Rows.scriptsRow.laid w) ∧ sizedMet enc Tryd.prog Tryd.f3 (OpenSpec.ofChange Rows.scriptsSpec) false w args) (Rows.scriptsSpec.post enc Tryd.prog Tryd.f3 false true false false) := by
  refine returnsInHanded_of_change_and (C := Tryd.checked) (X := fun w _ => laidMetH Tryd.prog Rows.scriptsRow.laid w) (fun _ _ _ hh h => h.of_heap hh) own started (by kernel_rfl) Tryd.func3
    (ChangeSpec.witness_shaped (enc := enc) (C := Tryd.checked) (os := os) (X := fun w _ => laidMetH Tryd.prog Rows.scriptsRow.laid w) false (World.doorLaid Tryd.prog 600 os) #[.slice none 0 0, .string ByteArray.empty] 8 rfl (World.shaped_of_RefB (by kernel_rfl) (by kernel_rfl)) (by kernel_rfl) (by kernel_rfl) (by kernel_rfl) (door_met os _)) ?_
  intro W base args ds gs before hval0 hW hcnd hsz0 hL _
  have hJ := gJ_of_laid hL
  have hsz : (DataW.weightsEach Tryd.prog (Tryd.f3.params.toList ++ Rows.scriptsSpec.plain.varTypes Tryd.prog) (ds ++ gs)).all (· ≤ reachBytes) = true := hsz0
  have hval : ∀ (j : Nat) t v, Tryd.f3.params[j]? = some t → args[j]? = some v → Value.okWide Tryd.prog W .any base t v := hval0
  have hW' := hW
  obtain ⟨p, q, hA0, hV, rfl, hfz, hnd⟩ := hW
  have hA : DataW.TrodAll enc Tryd.prog W 0 (fun _ => true) true Tryd.f3.params.toList args.toList ds p := hA0
  rw [Tryd.params3] at hA hval hsz
  have hK := hA
  obtain ⟨v0, vs0, d0, ds0, p0, q0, hargs, rfl, rfl, h0, r0⟩ := trodAll_cons hA
  obtain ⟨v1, vs1, d1, ds1, p1, q1, rfl, rfl, rfl, h1, r1⟩ := trodAll_cons r0
  obtain ⟨rfl, rfl, rfl⟩ := trodAll_nil r1
  obtain rfl : args = #[v0, v1] := by cases args; simp_all
  obtain ⟨rfl, rfl⟩ := trodVars_none hV
  obtain ⟨rho0, A0, u0, x0, E0, le0, ex0, k0, R0, Z0, s0⟩ := Ent.rows2 shpA Tryd.underlying22 (hval 0 22 v0 rfl rfl) h0 (by rw [List.all_eq_true] at hsz ⊢; exact fun n hn => hsz n (DataW.weights_mem_each (j := 0) rfl rfl n hn)) (by decide) (Ent.zero (w := W) hJ)
  obtain ⟨a1, rfl, rfl, rfl, y1⟩ := open_string Tryd.underlying9 (hval 1 9 v1 rfl rfl) h1
  have z1 : a1.size ≤ 140737488351232 := by have z := sized_string hsz (j := 1) (t := 9) rfl rfl; rw [Array.length_toList] at z; exact z
  clear hA0 hval0 hsz0
  refine (law_calls kOk E0 (f := 3) (args := [u0, .string a1]) (args' := [v0, .string a1]) ⟨k0, V3.string' _, trivial⟩ (scripts_law u0 x0 a1 _ R0 (wtA s0) (z16 z1)) (Callable.of_fn fc_law24_Scripts)).mono fun e W' ⟨he, bel⟩ => ?_
  subst he
  exact ⟨_, rfl, _, _, _, [], _, [], hW', trodAll_mk1 (shut_bool Tryd.underlying4 _), Go.AM.args_stay (by kernel_rfl) bel (by kernel_rfl) hK, rfl, bel.frame _, fun h => by cases h⟩
end Go.Proofs.YtbgidagbogpfkaaDoor.scripts
