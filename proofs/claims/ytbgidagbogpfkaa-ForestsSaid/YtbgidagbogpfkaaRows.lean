/-
  No cell of these rows narrows 'for every input' (looked for: loops, veiled, ifaces, maps, wideKeys, modest, calm, conditions, laid).
  DERIVED. THE GIVEN ROWS OF THIS SEAT. 9 by the template 'for every input the law returns true; each argument reads behind the call as it read before'; 0 by the template 'total and deterministic' (their statements: YtbgidagbogpfkaaTotals.lean).
  GIVEN WITH THE SEED: the statements are not yours to turn. If you find one false, say at which input.
  Laid BY PROGRAM, IN A SANDBOX (cutbox-rows.mjs): the forced cells as the released guide's own fill.sh prints them over the translation 16d77412096c78ff… (all of the seat's roots in one cut). By AI agents, Wed Nov 11 2026. No macro, syntax, notation, axiom, sorry.
-/
import Derived.Test.YtbgidagbogpfkaaChecked
import GoSem.Claim
import GoSem.ClaimJoined
import GoSem.ClaimMapViews
import Derived.JoinedTies
import Derived.KernelRfl
namespace Go.Proofs.Ytbgidagbogpfkaa
/- THE CELL 'sum', in the pinned program and in every row, IS THE sha256 OF THE DUMP (.gsa) THAT YtbgidagbogpfkaaProg.lean LOADS. Nothing in Lean hashes anything: it is a label: what it is worth is what the hold of that sum in a sandbox is worth. -/
noncomputable def Try.pinned : Pinned := { name := "ytbgidagbogpfkaa", sum := "16d77412096c78ffc6b9d9644f42a153976ce6827dd389a054e1b2ef95d5e266", checked := Try.checked }
namespace Rows
def none {H : Type} : Left H := { results := [], args := [] }

/-- 'cryostatlaw19.Forests': WHATEVER THE INPUT: true; the input reads as it did. -/
def forestsSpec : ChangeSpec := { name := "forests", fn := fun _ => fun
  | [d1, d2, d3, d4, d5, d6] => { results := [.lit (.bool true)], args := [d1, d2, d3, d4, d5, d6] }
  | _ => none }
def forestsRow : OpenClaim := { program := "ytbgidagbogpfkaa", sum := "16d77412096c78ffc6b9d9644f42a153976ce6827dd389a054e1b2ef95d5e266", func := "cryostat/cryostatlaw19.Forests", spec := "forests", inPlace := ["internal/bytealg.abigen_runtime_cmpstring", "slices.overlaps[cryostat/api.Info]", "slices.overlaps[cryostat/api.File]"], unfollowed := true, recurses := true, apart := false }
def ForestsSaid : Prop := forestsRow.holds Try.pinned (OpenSpec.ofChange forestsSpec)

/-- ITS FALSE NEIGHBOUR: 'it returns false'. Refute it at one input. -/
def forestsWrong : ChangeSpec := { name := "forests", fn := fun _ => fun
  | [d1, d2, d3, d4, d5, d6] => { results := [.lit (.bool false)], args := [d1, d2, d3, d4, d5, d6] }
  | _ => none }
def ForestsWrongFalsely : Prop := forestsRow.holds Try.pinned (OpenSpec.ofChange forestsWrong)

/-- 'cryostatlaw19.ForestKept': WHATEVER THE INPUT: true; the input reads as it did. -/
def forestKeptSpec : ChangeSpec := { name := "forestKept", fn := fun _ => fun
  | [d1, d2, d3, d4] => { results := [.lit (.bool true)], args := [d1, d2, d3, d4] }
  | _ => none }
def forestKeptRow : OpenClaim := { program := "ytbgidagbogpfkaa", sum := "16d77412096c78ffc6b9d9644f42a153976ce6827dd389a054e1b2ef95d5e266", func := "cryostat/cryostatlaw19.ForestKept", spec := "forestKept", inPlace := ["internal/bytealg.abigen_runtime_cmpstring", "slices.overlaps[cryostat/api.Info]", "slices.overlaps[cryostat/api.File]"], unfollowed := true, recurses := true, apart := false }
def ForestKeptSaid : Prop := forestKeptRow.holds Try.pinned (OpenSpec.ofChange forestKeptSpec)

/-- ITS FALSE NEIGHBOUR: 'it returns false'. Refute it at one input. -/
def forestKeptWrong : ChangeSpec := { name := "forestKept", fn := fun _ => fun
  | [d1, d2, d3, d4] => { results := [.lit (.bool false)], args := [d1, d2, d3, d4] }
  | _ => none }
def ForestKeptWrongFalsely : Prop := forestKeptRow.holds Try.pinned (OpenSpec.ofChange forestKeptWrong)

/-- 'cryostatlaw19.ForestForms': WHATEVER THE INPUT: true; the input reads as it did. -/
def forestFormsSpec : ChangeSpec := { name := "forestForms", fn := fun _ => fun
  | [d] => { results := [.lit (.bool true)], args := [d] }
  | _ => none }
def forestFormsRow : OpenClaim := { program := "ytbgidagbogpfkaa", sum := "16d77412096c78ffc6b9d9644f42a153976ce6827dd389a054e1b2ef95d5e266", func := "cryostat/cryostatlaw19.ForestForms", spec := "forestForms", inPlace := ["internal/bytealg.abigen_runtime_cmpstring", "slices.overlaps[cryostat/api.Info]", "slices.overlaps[cryostat/api.File]"], unfollowed := true, recurses := true, apart := false }
def ForestFormsSaid : Prop := forestFormsRow.holds Try.pinned (OpenSpec.ofChange forestFormsSpec)

/-- ITS FALSE NEIGHBOUR: 'it returns false'. Refute it at one input. -/
def forestFormsWrong : ChangeSpec := { name := "forestForms", fn := fun _ => fun
  | [d] => { results := [.lit (.bool false)], args := [d] }
  | _ => none }
def ForestFormsWrongFalsely : Prop := forestFormsRow.holds Try.pinned (OpenSpec.ofChange forestFormsWrong)

/-- 'cryostatlaw19.ForestErrors': WHATEVER THE INPUT: true; the input reads as it did. -/
def forestErrorsSpec : ChangeSpec := { name := "forestErrors", fn := fun _ => fun
  | [d] => { results := [.lit (.bool true)], args := [d] }
  | _ => none }
def forestErrorsRow : OpenClaim := { program := "ytbgidagbogpfkaa", sum := "16d77412096c78ffc6b9d9644f42a153976ce6827dd389a054e1b2ef95d5e266", func := "cryostat/cryostatlaw19.ForestErrors", spec := "forestErrors", inPlace := ["internal/bytealg.abigen_runtime_cmpstring", "slices.overlaps[cryostat/api.Info]", "slices.overlaps[cryostat/api.File]"], unfollowed := true, recurses := true, apart := false }
def ForestErrorsSaid : Prop := forestErrorsRow.holds Try.pinned (OpenSpec.ofChange forestErrorsSpec)

/-- ITS FALSE NEIGHBOUR: 'it returns false'. Refute it at one input. -/
def forestErrorsWrong : ChangeSpec := { name := "forestErrors", fn := fun _ => fun
  | [d] => { results := [.lit (.bool false)], args := [d] }
  | _ => none }
def ForestErrorsWrongFalsely : Prop := forestErrorsRow.holds Try.pinned (OpenSpec.ofChange forestErrorsWrong)

/-- 'cryostatlaw19.ForestWrites': WHATEVER THE INPUT: true; the input reads as it did. -/
def forestWritesSpec : ChangeSpec := { name := "forestWrites", fn := fun _ => fun
  | [d1, d2, d3, d4] => { results := [.lit (.bool true)], args := [d1, d2, d3, d4] }
  | _ => none }
def forestWritesRow : OpenClaim := { program := "ytbgidagbogpfkaa", sum := "16d77412096c78ffc6b9d9644f42a153976ce6827dd389a054e1b2ef95d5e266", func := "cryostat/cryostatlaw19.ForestWrites", spec := "forestWrites", inPlace := ["internal/bytealg.abigen_runtime_cmpstring", "slices.overlaps[cryostat/api.Info]", "slices.overlaps[cryostat/api.File]"], unfollowed := true, recurses := true, apart := false }
def ForestWritesSaid : Prop := forestWritesRow.holds Try.pinned (OpenSpec.ofChange forestWritesSpec)

/-- ITS FALSE NEIGHBOUR: 'it returns false'. Refute it at one input. -/
def forestWritesWrong : ChangeSpec := { name := "forestWrites", fn := fun _ => fun
  | [d1, d2, d3, d4] => { results := [.lit (.bool false)], args := [d1, d2, d3, d4] }
  | _ => none }
def ForestWritesWrongFalsely : Prop := forestWritesRow.holds Try.pinned (OpenSpec.ofChange forestWritesWrong)

/-- 'cryostatlaw19.ForestChild': WHATEVER THE INPUT: true; the input reads as it did. -/
def forestChildSpec : ChangeSpec := { name := "forestChild", fn := fun _ => fun
  | [d1, d2, d3, d4] => { results := [.lit (.bool true)], args := [d1, d2, d3, d4] }
  | _ => none }
def forestChildRow : OpenClaim := { program := "ytbgidagbogpfkaa", sum := "16d77412096c78ffc6b9d9644f42a153976ce6827dd389a054e1b2ef95d5e266", func := "cryostat/cryostatlaw19.ForestChild", spec := "forestChild", inPlace := ["internal/bytealg.abigen_runtime_cmpstring", "slices.overlaps[cryostat/api.Info]", "slices.overlaps[cryostat/api.File]"], unfollowed := true, recurses := true, apart := false }
def ForestChildSaid : Prop := forestChildRow.holds Try.pinned (OpenSpec.ofChange forestChildSpec)

/-- ITS FALSE NEIGHBOUR: 'it returns false'. Refute it at one input. -/
def forestChildWrong : ChangeSpec := { name := "forestChild", fn := fun _ => fun
  | [d1, d2, d3, d4] => { results := [.lit (.bool false)], args := [d1, d2, d3, d4] }
  | _ => none }
def ForestChildWrongFalsely : Prop := forestChildRow.holds Try.pinned (OpenSpec.ofChange forestChildWrong)

/-- 'cryostatlaw19.ForestFaults': WHATEVER THE INPUT: true; the input reads as it did. -/
def forestFaultsSpec : ChangeSpec := { name := "forestFaults", fn := fun _ => fun
  | [d] => { results := [.lit (.bool true)], args := [d] }
  | _ => none }
def forestFaultsRow : OpenClaim := { program := "ytbgidagbogpfkaa", sum := "16d77412096c78ffc6b9d9644f42a153976ce6827dd389a054e1b2ef95d5e266", func := "cryostat/cryostatlaw19.ForestFaults", spec := "forestFaults", inPlace := ["internal/bytealg.abigen_runtime_cmpstring", "slices.overlaps[cryostat/api.Info]", "slices.overlaps[cryostat/api.File]"], unfollowed := true, recurses := true, apart := false }
def ForestFaultsSaid : Prop := forestFaultsRow.holds Try.pinned (OpenSpec.ofChange forestFaultsSpec)

/-- ITS FALSE NEIGHBOUR: 'it returns false'. Refute it at one input. -/
def forestFaultsWrong : ChangeSpec := { name := "forestFaults", fn := fun _ => fun
  | [d] => { results := [.lit (.bool false)], args := [d] }
  | _ => none }
def ForestFaultsWrongFalsely : Prop := forestFaultsRow.holds Try.pinned (OpenSpec.ofChange forestFaultsWrong)

/-- 'cryostatlaw19.ForestCommits': WHATEVER THE INPUT: true; the input reads as it did. -/
def forestCommitsSpec : ChangeSpec := { name := "forestCommits", fn := fun _ => fun
  | [d1, d2, d3, d4] => { results := [.lit (.bool true)], args := [d1, d2, d3, d4] }
  | _ => none }
def forestCommitsRow : OpenClaim := { program := "ytbgidagbogpfkaa", sum := "16d77412096c78ffc6b9d9644f42a153976ce6827dd389a054e1b2ef95d5e266", func := "cryostat/cryostatlaw19.ForestCommits", spec := "forestCommits", inPlace := ["internal/bytealg.abigen_runtime_cmpstring", "slices.overlaps[cryostat/api.Info]", "slices.overlaps[cryostat/api.File]"], unfollowed := true, recurses := true, apart := false }
def ForestCommitsSaid : Prop := forestCommitsRow.holds Try.pinned (OpenSpec.ofChange forestCommitsSpec)

/-- ITS FALSE NEIGHBOUR: 'it returns false'. Refute it at one input. -/
def forestCommitsWrong : ChangeSpec := { name := "forestCommits", fn := fun _ => fun
  | [d1, d2, d3, d4] => { results := [.lit (.bool false)], args := [d1, d2, d3, d4] }
  | _ => none }
def ForestCommitsWrongFalsely : Prop := forestCommitsRow.holds Try.pinned (OpenSpec.ofChange forestCommitsWrong)

/-- 'cryostatlaw19.ForestRemoves': WHATEVER THE INPUT: true; the input reads as it did. -/
def forestRemovesSpec : ChangeSpec := { name := "forestRemoves", fn := fun _ => fun
  | [d1, d2] => { results := [.lit (.bool true)], args := [d1, d2] }
  | _ => none }
def forestRemovesRow : OpenClaim := { program := "ytbgidagbogpfkaa", sum := "16d77412096c78ffc6b9d9644f42a153976ce6827dd389a054e1b2ef95d5e266", func := "cryostat/cryostatlaw19.ForestRemoves", spec := "forestRemoves", inPlace := ["internal/bytealg.abigen_runtime_cmpstring", "slices.overlaps[cryostat/api.Info]", "slices.overlaps[cryostat/api.File]"], unfollowed := true, recurses := true, apart := false }
def ForestRemovesSaid : Prop := forestRemovesRow.holds Try.pinned (OpenSpec.ofChange forestRemovesSpec)

/-- ITS FALSE NEIGHBOUR: 'it returns false'. Refute it at one input. -/
def forestRemovesWrong : ChangeSpec := { name := "forestRemoves", fn := fun _ => fun
  | [d1, d2] => { results := [.lit (.bool false)], args := [d1, d2] }
  | _ => none }
def ForestRemovesWrongFalsely : Prop := forestRemovesRow.holds Try.pinned (OpenSpec.ofChange forestRemovesWrong)

/- THE SECOND FORM. 'bulk': how many values and letters a reading holds, each counted each time it is reached (what is shared counts as often as it is met; a slice's spare places count too). A statement '..UptoSaid' is the law's where the arguments, and the package variables that the reading takes, are together of bulk at most 1048576: NARROWER than '..Said'. Prove '..Said' where nothing that the law and all that it calls make is longer than what came in: it says more and counts as full. Else prove '..UptoSaid'. A law counts once. -/
mutual
def uptoBulk {H : Type} : DataW H → Nat
  | .lit (.string bytes) => bytes.length + 1
  | .lit _ => 1
  | .nil => 1
  | .ptr d => uptoBulk d + 1
  | .slice elems spare => uptoBulkAll elems + uptoBulkAll spare + 1
  | .agg parts => uptoBulkAll parts + 1
  | .iface _ d => uptoBulk d + 1
  | .map entries => uptoBulkEntries entries + 1
  | .held _ => 1
def uptoBulkAll {H : Type} : List (DataW H) → Nat
  | [] => 0
  | d :: r => uptoBulk d + uptoBulkAll r
def uptoBulkEntries {H : Type} : List (Lit × DataW H) → Nat
  | [] => 0
  | x :: r => uptoBulkEntry x + uptoBulkEntries r
def uptoBulkEntry {H : Type} : Lit × DataW H → Nat
  | (.string bytes, d) => bytes.length + uptoBulk d + 1
  | (_, d) => uptoBulk d + 1
 end
def uptoSmall : (H : Type) → List (DataW H) → Bool := fun _ ds => decide (uptoBulkAll ds ≤ 1048576)
def OpenSpec.upto (s : _root_.Go.ChangeSpec) : _root_.Go.OpenSpec := { _root_.Go.OpenSpec.ofChange s with cond := some uptoSmall }

/-- 'cryostatlaw19.Forests', WHERE WHAT IT READS IS OF BULK AT MOST 1048576: true; the input reads as it did. -/
def forestsUptoRow : OpenClaim := { program := "ytbgidagbogpfkaa", sum := "16d77412096c78ffc6b9d9644f42a153976ce6827dd389a054e1b2ef95d5e266", func := "cryostat/cryostatlaw19.Forests", spec := "forests", inPlace := ["internal/bytealg.abigen_runtime_cmpstring", "slices.overlaps[cryostat/api.Info]", "slices.overlaps[cryostat/api.File]"], unfollowed := true, recurses := true, apart := false, narrowed := true }
def ForestsUptoSaid : Prop := forestsUptoRow.holds Try.pinned (OpenSpec.upto forestsSpec)

/-- 'cryostatlaw19.ForestKept', WHERE WHAT IT READS IS OF BULK AT MOST 1048576: true; the input reads as it did. -/
def forestKeptUptoRow : OpenClaim := { program := "ytbgidagbogpfkaa", sum := "16d77412096c78ffc6b9d9644f42a153976ce6827dd389a054e1b2ef95d5e266", func := "cryostat/cryostatlaw19.ForestKept", spec := "forestKept", inPlace := ["internal/bytealg.abigen_runtime_cmpstring", "slices.overlaps[cryostat/api.Info]", "slices.overlaps[cryostat/api.File]"], unfollowed := true, recurses := true, apart := false, narrowed := true }
def ForestKeptUptoSaid : Prop := forestKeptUptoRow.holds Try.pinned (OpenSpec.upto forestKeptSpec)

/-- 'cryostatlaw19.ForestForms', WHERE WHAT IT READS IS OF BULK AT MOST 1048576: true; the input reads as it did. -/
def forestFormsUptoRow : OpenClaim := { program := "ytbgidagbogpfkaa", sum := "16d77412096c78ffc6b9d9644f42a153976ce6827dd389a054e1b2ef95d5e266", func := "cryostat/cryostatlaw19.ForestForms", spec := "forestForms", inPlace := ["internal/bytealg.abigen_runtime_cmpstring", "slices.overlaps[cryostat/api.Info]", "slices.overlaps[cryostat/api.File]"], unfollowed := true, recurses := true, apart := false, narrowed := true }
def ForestFormsUptoSaid : Prop := forestFormsUptoRow.holds Try.pinned (OpenSpec.upto forestFormsSpec)

/-- 'cryostatlaw19.ForestErrors', WHERE WHAT IT READS IS OF BULK AT MOST 1048576: true; the input reads as it did. -/
def forestErrorsUptoRow : OpenClaim := { program := "ytbgidagbogpfkaa", sum := "16d77412096c78ffc6b9d9644f42a153976ce6827dd389a054e1b2ef95d5e266", func := "cryostat/cryostatlaw19.ForestErrors", spec := "forestErrors", inPlace := ["internal/bytealg.abigen_runtime_cmpstring", "slices.overlaps[cryostat/api.Info]", "slices.overlaps[cryostat/api.File]"], unfollowed := true, recurses := true, apart := false, narrowed := true }
def ForestErrorsUptoSaid : Prop := forestErrorsUptoRow.holds Try.pinned (OpenSpec.upto forestErrorsSpec)

/-- 'cryostatlaw19.ForestWrites', WHERE WHAT IT READS IS OF BULK AT MOST 1048576: true; the input reads as it did. -/
def forestWritesUptoRow : OpenClaim := { program := "ytbgidagbogpfkaa", sum := "16d77412096c78ffc6b9d9644f42a153976ce6827dd389a054e1b2ef95d5e266", func := "cryostat/cryostatlaw19.ForestWrites", spec := "forestWrites", inPlace := ["internal/bytealg.abigen_runtime_cmpstring", "slices.overlaps[cryostat/api.Info]", "slices.overlaps[cryostat/api.File]"], unfollowed := true, recurses := true, apart := false, narrowed := true }
def ForestWritesUptoSaid : Prop := forestWritesUptoRow.holds Try.pinned (OpenSpec.upto forestWritesSpec)

/-- 'cryostatlaw19.ForestChild', WHERE WHAT IT READS IS OF BULK AT MOST 1048576: true; the input reads as it did. -/
def forestChildUptoRow : OpenClaim := { program := "ytbgidagbogpfkaa", sum := "16d77412096c78ffc6b9d9644f42a153976ce6827dd389a054e1b2ef95d5e266", func := "cryostat/cryostatlaw19.ForestChild", spec := "forestChild", inPlace := ["internal/bytealg.abigen_runtime_cmpstring", "slices.overlaps[cryostat/api.Info]", "slices.overlaps[cryostat/api.File]"], unfollowed := true, recurses := true, apart := false, narrowed := true }
def ForestChildUptoSaid : Prop := forestChildUptoRow.holds Try.pinned (OpenSpec.upto forestChildSpec)

/-- 'cryostatlaw19.ForestFaults', WHERE WHAT IT READS IS OF BULK AT MOST 1048576: true; the input reads as it did. -/
def forestFaultsUptoRow : OpenClaim := { program := "ytbgidagbogpfkaa", sum := "16d77412096c78ffc6b9d9644f42a153976ce6827dd389a054e1b2ef95d5e266", func := "cryostat/cryostatlaw19.ForestFaults", spec := "forestFaults", inPlace := ["internal/bytealg.abigen_runtime_cmpstring", "slices.overlaps[cryostat/api.Info]", "slices.overlaps[cryostat/api.File]"], unfollowed := true, recurses := true, apart := false, narrowed := true }
def ForestFaultsUptoSaid : Prop := forestFaultsUptoRow.holds Try.pinned (OpenSpec.upto forestFaultsSpec)

/-- 'cryostatlaw19.ForestCommits', WHERE WHAT IT READS IS OF BULK AT MOST 1048576: true; the input reads as it did. -/
def forestCommitsUptoRow : OpenClaim := { program := "ytbgidagbogpfkaa", sum := "16d77412096c78ffc6b9d9644f42a153976ce6827dd389a054e1b2ef95d5e266", func := "cryostat/cryostatlaw19.ForestCommits", spec := "forestCommits", inPlace := ["internal/bytealg.abigen_runtime_cmpstring", "slices.overlaps[cryostat/api.Info]", "slices.overlaps[cryostat/api.File]"], unfollowed := true, recurses := true, apart := false, narrowed := true }
def ForestCommitsUptoSaid : Prop := forestCommitsUptoRow.holds Try.pinned (OpenSpec.upto forestCommitsSpec)

/-- 'cryostatlaw19.ForestRemoves', WHERE WHAT IT READS IS OF BULK AT MOST 1048576: true; the input reads as it did. -/
def forestRemovesUptoRow : OpenClaim := { program := "ytbgidagbogpfkaa", sum := "16d77412096c78ffc6b9d9644f42a153976ce6827dd389a054e1b2ef95d5e266", func := "cryostat/cryostatlaw19.ForestRemoves", spec := "forestRemoves", inPlace := ["internal/bytealg.abigen_runtime_cmpstring", "slices.overlaps[cryostat/api.Info]", "slices.overlaps[cryostat/api.File]"], unfollowed := true, recurses := true, apart := false, narrowed := true }
def ForestRemovesUptoSaid : Prop := forestRemovesUptoRow.holds Try.pinned (OpenSpec.upto forestRemovesSpec)

end Rows
end Go.Proofs.Ytbgidagbogpfkaa
