/-
  No cell of these rows narrows 'for every input' (looked for: loops, veiled, ifaces, maps, wideKeys, modest, calm, conditions, laid).
  DERIVED. THE GIVEN ROWS OF THIS SEAT. 13 by the template 'for every input the law returns true; each argument reads behind the call as it read before'; 0 by the template 'total and deterministic' (their statements: YteamlnogjjgdoaaTotals.lean).
  GIVEN WITH THE SEED: the statements are not yours to turn. If you find one false, say at which input.
  Laid BY PROGRAM, IN A SANDBOX (cutbox-rows.mjs): the forced cells as the released guide's own fill.sh prints them over the translation 21c471fd1528ca90… (all of the seat's roots in one cut). By AI agents, Wed Nov 11 2026. No macro, syntax, notation, axiom, sorry.
-/
import Derived.Test.YteamlnogjjgdoaaChecked
import GoSem.Claim
import GoSem.ClaimJoined
import GoSem.ClaimMapViews
import Derived.JoinedTies
import Derived.KernelRfl
namespace Go.Proofs.Yteamlnogjjgdoaa
/- THE CELL 'sum', in the pinned program and in every row, IS THE sha256 OF THE DUMP (.gsa) THAT YteamlnogjjgdoaaProg.lean LOADS. Nothing in Lean hashes anything: it is a label: what it is worth is what the hold of that sum in a sandbox is worth. -/
noncomputable def Try.pinned : Pinned := { name := "yteamlnogjjgdoaa", sum := "21c471fd1528ca90e9e0f6ca717e0fdffed9804846f069a114574f67e9fca223", checked := Try.checked }
namespace Rows
def none {H : Type} : Left H := { results := [], args := [] }

/-- 'cryostatlaw4.Logs': WHATEVER THE INPUT: true; the input reads as it did. -/
def logsSpec : ChangeSpec := { name := "logs", fn := fun _ => fun
  | [d1, d2, d3] => { results := [.lit (.bool true)], args := [d1, d2, d3] }
  | _ => none }
def logsRow : OpenClaim := { program := "yteamlnogjjgdoaa", sum := "21c471fd1528ca90e9e0f6ca717e0fdffed9804846f069a114574f67e9fca223", func := "cryostat/cryostatlaw4.Logs", spec := "logs", inPlace := ["internal/abi.NoEscape", "internal/bytealg.MakeNoZero"], apart := false }
def LogsSaid : Prop := logsRow.holds Try.pinned (OpenSpec.ofChange logsSpec)

/-- ITS FALSE NEIGHBOUR: 'it returns false'. Refute it at one input. -/
def logsWrong : ChangeSpec := { name := "logs", fn := fun _ => fun
  | [d1, d2, d3] => { results := [.lit (.bool false)], args := [d1, d2, d3] }
  | _ => none }
def LogsWrongFalsely : Prop := logsRow.holds Try.pinned (OpenSpec.ofChange logsWrong)

/-- 'cryostatlaw4.LogBack': WHATEVER THE INPUT: true; the input reads as it did. -/
def logBackSpec : ChangeSpec := { name := "logBack", fn := fun _ => fun
  | [d1, d2, d3, d4] => { results := [.lit (.bool true)], args := [d1, d2, d3, d4] }
  | _ => none }
def logBackRow : OpenClaim := { program := "yteamlnogjjgdoaa", sum := "21c471fd1528ca90e9e0f6ca717e0fdffed9804846f069a114574f67e9fca223", func := "cryostat/cryostatlaw4.LogBack", spec := "logBack", inPlace := ["internal/abi.NoEscape", "internal/bytealg.MakeNoZero"], apart := false }
def LogBackSaid : Prop := logBackRow.holds Try.pinned (OpenSpec.ofChange logBackSpec)

/-- ITS FALSE NEIGHBOUR: 'it returns false'. Refute it at one input. -/
def logBackWrong : ChangeSpec := { name := "logBack", fn := fun _ => fun
  | [d1, d2, d3, d4] => { results := [.lit (.bool false)], args := [d1, d2, d3, d4] }
  | _ => none }
def LogBackWrongFalsely : Prop := logBackRow.holds Try.pinned (OpenSpec.ofChange logBackWrong)

/-- 'cryostatlaw4.LogForms': WHATEVER THE INPUT: true; the input reads as it did. -/
def logFormsSpec : ChangeSpec := { name := "logForms", fn := fun _ => fun
  | [d1, d2] => { results := [.lit (.bool true)], args := [d1, d2] }
  | _ => none }
def logFormsRow : OpenClaim := { program := "yteamlnogjjgdoaa", sum := "21c471fd1528ca90e9e0f6ca717e0fdffed9804846f069a114574f67e9fca223", func := "cryostat/cryostatlaw4.LogForms", spec := "logForms", inPlace := ["internal/abi.NoEscape", "internal/bytealg.MakeNoZero"], apart := false }
def LogFormsSaid : Prop := logFormsRow.holds Try.pinned (OpenSpec.ofChange logFormsSpec)

/-- ITS FALSE NEIGHBOUR: 'it returns false'. Refute it at one input. -/
def logFormsWrong : ChangeSpec := { name := "logForms", fn := fun _ => fun
  | [d1, d2] => { results := [.lit (.bool false)], args := [d1, d2] }
  | _ => none }
def LogFormsWrongFalsely : Prop := logFormsRow.holds Try.pinned (OpenSpec.ofChange logFormsWrong)

/-- 'cryostatlaw4.LogParts': WHATEVER THE INPUT: true; the input reads as it did. -/
def logPartsSpec : ChangeSpec := { name := "logParts", fn := fun _ => fun
  | [d1, d2] => { results := [.lit (.bool true)], args := [d1, d2] }
  | _ => none }
def logPartsRow : OpenClaim := { program := "yteamlnogjjgdoaa", sum := "21c471fd1528ca90e9e0f6ca717e0fdffed9804846f069a114574f67e9fca223", func := "cryostat/cryostatlaw4.LogParts", spec := "logParts", inPlace := ["internal/abi.NoEscape", "internal/bytealg.MakeNoZero"], apart := false }
def LogPartsSaid : Prop := logPartsRow.holds Try.pinned (OpenSpec.ofChange logPartsSpec)

/-- ITS FALSE NEIGHBOUR: 'it returns false'. Refute it at one input. -/
def logPartsWrong : ChangeSpec := { name := "logParts", fn := fun _ => fun
  | [d1, d2] => { results := [.lit (.bool false)], args := [d1, d2] }
  | _ => none }
def LogPartsWrongFalsely : Prop := logPartsRow.holds Try.pinned (OpenSpec.ofChange logPartsWrong)

/-- 'cryostatlaw4.LogStops': WHATEVER THE INPUT: true; the input reads as it did. -/
def logStopsSpec : ChangeSpec := { name := "logStops", fn := fun _ => fun
  | [d1, d2, d3, d4] => { results := [.lit (.bool true)], args := [d1, d2, d3, d4] }
  | _ => none }
def logStopsRow : OpenClaim := { program := "yteamlnogjjgdoaa", sum := "21c471fd1528ca90e9e0f6ca717e0fdffed9804846f069a114574f67e9fca223", func := "cryostat/cryostatlaw4.LogStops", spec := "logStops", inPlace := ["internal/abi.NoEscape", "internal/bytealg.MakeNoZero"], apart := false }
def LogStopsSaid : Prop := logStopsRow.holds Try.pinned (OpenSpec.ofChange logStopsSpec)

/-- ITS FALSE NEIGHBOUR: 'it returns false'. Refute it at one input. -/
def logStopsWrong : ChangeSpec := { name := "logStops", fn := fun _ => fun
  | [d1, d2, d3, d4] => { results := [.lit (.bool false)], args := [d1, d2, d3, d4] }
  | _ => none }
def LogStopsWrongFalsely : Prop := logStopsRow.holds Try.pinned (OpenSpec.ofChange logStopsWrong)

/-- 'cryostatlaw4.LogEmpty': WHATEVER THE INPUT: true; the input reads as it did. -/
def logEmptySpec : ChangeSpec := { name := "logEmpty", fn := fun _ => fun
  | [d1, d2, d3] => { results := [.lit (.bool true)], args := [d1, d2, d3] }
  | _ => none }
def logEmptyRow : OpenClaim := { program := "yteamlnogjjgdoaa", sum := "21c471fd1528ca90e9e0f6ca717e0fdffed9804846f069a114574f67e9fca223", func := "cryostat/cryostatlaw4.LogEmpty", spec := "logEmpty", inPlace := ["internal/abi.NoEscape", "internal/bytealg.MakeNoZero"], apart := false }
def LogEmptySaid : Prop := logEmptyRow.holds Try.pinned (OpenSpec.ofChange logEmptySpec)

/-- ITS FALSE NEIGHBOUR: 'it returns false'. Refute it at one input. -/
def logEmptyWrong : ChangeSpec := { name := "logEmpty", fn := fun _ => fun
  | [d1, d2, d3] => { results := [.lit (.bool false)], args := [d1, d2, d3] }
  | _ => none }
def LogEmptyWrongFalsely : Prop := logEmptyRow.holds Try.pinned (OpenSpec.ofChange logEmptyWrong)

/-- 'cryostatlaw4.LogLater': WHATEVER THE INPUT: true; the input reads as it did. -/
def logLaterSpec : ChangeSpec := { name := "logLater", fn := fun _ => fun
  | [d1, d2, d3] => { results := [.lit (.bool true)], args := [d1, d2, d3] }
  | _ => none }
def logLaterRow : OpenClaim := { program := "yteamlnogjjgdoaa", sum := "21c471fd1528ca90e9e0f6ca717e0fdffed9804846f069a114574f67e9fca223", func := "cryostat/cryostatlaw4.LogLater", spec := "logLater", inPlace := ["internal/abi.NoEscape", "internal/bytealg.MakeNoZero"], apart := false }
def LogLaterSaid : Prop := logLaterRow.holds Try.pinned (OpenSpec.ofChange logLaterSpec)

/-- ITS FALSE NEIGHBOUR: 'it returns false'. Refute it at one input. -/
def logLaterWrong : ChangeSpec := { name := "logLater", fn := fun _ => fun
  | [d1, d2, d3] => { results := [.lit (.bool false)], args := [d1, d2, d3] }
  | _ => none }
def LogLaterWrongFalsely : Prop := logLaterRow.holds Try.pinned (OpenSpec.ofChange logLaterWrong)

/-- 'cryostatlaw2.Disks': WHATEVER THE INPUT: true; the input reads as it did. -/
def disksSpec : ChangeSpec := { name := "disks", fn := fun _ => fun
  | [d1, d2, d3, d4, d5, d6] => { results := [.lit (.bool true)], args := [d1, d2, d3, d4, d5, d6] }
  | _ => none }
def disksRow : OpenClaim := { program := "yteamlnogjjgdoaa", sum := "21c471fd1528ca90e9e0f6ca717e0fdffed9804846f069a114574f67e9fca223", func := "cryostat/cryostatlaw2.Disks", spec := "disks", inPlace := ["internal/abi.NoEscape", "internal/bytealg.MakeNoZero"], unfollowed := true, recurses := true, apart := false }
def DisksSaid : Prop := disksRow.holds Try.pinned (OpenSpec.ofChange disksSpec)

/-- ITS FALSE NEIGHBOUR: 'it returns false'. Refute it at one input. -/
def disksWrong : ChangeSpec := { name := "disks", fn := fun _ => fun
  | [d1, d2, d3, d4, d5, d6] => { results := [.lit (.bool false)], args := [d1, d2, d3, d4, d5, d6] }
  | _ => none }
def DisksWrongFalsely : Prop := disksRow.holds Try.pinned (OpenSpec.ofChange disksWrong)

/-- 'cryostatlaw2.DiskFlushed': WHATEVER THE INPUT: true; the input reads as it did. -/
def diskFlushedSpec : ChangeSpec := { name := "diskFlushed", fn := fun _ => fun
  | [d1, d2, d3] => { results := [.lit (.bool true)], args := [d1, d2, d3] }
  | _ => none }
def diskFlushedRow : OpenClaim := { program := "yteamlnogjjgdoaa", sum := "21c471fd1528ca90e9e0f6ca717e0fdffed9804846f069a114574f67e9fca223", func := "cryostat/cryostatlaw2.DiskFlushed", spec := "diskFlushed", inPlace := ["internal/abi.NoEscape", "internal/bytealg.MakeNoZero"], unfollowed := true, recurses := true, apart := false }
def DiskFlushedSaid : Prop := diskFlushedRow.holds Try.pinned (OpenSpec.ofChange diskFlushedSpec)

/-- ITS FALSE NEIGHBOUR: 'it returns false'. Refute it at one input. -/
def diskFlushedWrong : ChangeSpec := { name := "diskFlushed", fn := fun _ => fun
  | [d1, d2, d3] => { results := [.lit (.bool false)], args := [d1, d2, d3] }
  | _ => none }
def DiskFlushedWrongFalsely : Prop := diskFlushedRow.holds Try.pinned (OpenSpec.ofChange diskFlushedWrong)

/-- 'cryostatlaw2.DiskForms': WHATEVER THE INPUT: true; the input reads as it did. -/
def diskFormsSpec : ChangeSpec := { name := "diskForms", fn := fun _ => fun
  | [d1, d2] => { results := [.lit (.bool true)], args := [d1, d2] }
  | _ => none }
def diskFormsRow : OpenClaim := { program := "yteamlnogjjgdoaa", sum := "21c471fd1528ca90e9e0f6ca717e0fdffed9804846f069a114574f67e9fca223", func := "cryostat/cryostatlaw2.DiskForms", spec := "diskForms", inPlace := ["internal/abi.NoEscape", "internal/bytealg.MakeNoZero"], unfollowed := true, recurses := true, apart := false }
def DiskFormsSaid : Prop := diskFormsRow.holds Try.pinned (OpenSpec.ofChange diskFormsSpec)

/-- ITS FALSE NEIGHBOUR: 'it returns false'. Refute it at one input. -/
def diskFormsWrong : ChangeSpec := { name := "diskForms", fn := fun _ => fun
  | [d1, d2] => { results := [.lit (.bool false)], args := [d1, d2] }
  | _ => none }
def DiskFormsWrongFalsely : Prop := diskFormsRow.holds Try.pinned (OpenSpec.ofChange diskFormsWrong)

/-- 'cryostatlaw2.DiskLast': WHATEVER THE INPUT: true; the input reads as it did. -/
def diskLastSpec : ChangeSpec := { name := "diskLast", fn := fun _ => fun
  | [d1, d2] => { results := [.lit (.bool true)], args := [d1, d2] }
  | _ => none }
def diskLastRow : OpenClaim := { program := "yteamlnogjjgdoaa", sum := "21c471fd1528ca90e9e0f6ca717e0fdffed9804846f069a114574f67e9fca223", func := "cryostat/cryostatlaw2.DiskLast", spec := "diskLast", inPlace := ["internal/abi.NoEscape", "internal/bytealg.MakeNoZero"], unfollowed := true, recurses := true, apart := false }
def DiskLastSaid : Prop := diskLastRow.holds Try.pinned (OpenSpec.ofChange diskLastSpec)

/-- ITS FALSE NEIGHBOUR: 'it returns false'. Refute it at one input. -/
def diskLastWrong : ChangeSpec := { name := "diskLast", fn := fun _ => fun
  | [d1, d2] => { results := [.lit (.bool false)], args := [d1, d2] }
  | _ => none }
def DiskLastWrongFalsely : Prop := diskLastRow.holds Try.pinned (OpenSpec.ofChange diskLastWrong)

/-- 'cryostatlaw2.DiskTorn': WHATEVER THE INPUT: true; the input reads as it did. -/
def diskTornSpec : ChangeSpec := { name := "diskTorn", fn := fun _ => fun
  | [d1, d2, d3] => { results := [.lit (.bool true)], args := [d1, d2, d3] }
  | _ => none }
def diskTornRow : OpenClaim := { program := "yteamlnogjjgdoaa", sum := "21c471fd1528ca90e9e0f6ca717e0fdffed9804846f069a114574f67e9fca223", func := "cryostat/cryostatlaw2.DiskTorn", spec := "diskTorn", inPlace := ["internal/abi.NoEscape", "internal/bytealg.MakeNoZero"], unfollowed := true, recurses := true, apart := false }
def DiskTornSaid : Prop := diskTornRow.holds Try.pinned (OpenSpec.ofChange diskTornSpec)

/-- ITS FALSE NEIGHBOUR: 'it returns false'. Refute it at one input. -/
def diskTornWrong : ChangeSpec := { name := "diskTorn", fn := fun _ => fun
  | [d1, d2, d3] => { results := [.lit (.bool false)], args := [d1, d2, d3] }
  | _ => none }
def DiskTornWrongFalsely : Prop := diskTornRow.holds Try.pinned (OpenSpec.ofChange diskTornWrong)

/-- 'cryostatlaw2.DiskSubset': WHATEVER THE INPUT: true; the input reads as it did. -/
def diskSubsetSpec : ChangeSpec := { name := "diskSubset", fn := fun _ => fun
  | [d1, d2] => { results := [.lit (.bool true)], args := [d1, d2] }
  | _ => none }
def diskSubsetRow : OpenClaim := { program := "yteamlnogjjgdoaa", sum := "21c471fd1528ca90e9e0f6ca717e0fdffed9804846f069a114574f67e9fca223", func := "cryostat/cryostatlaw2.DiskSubset", spec := "diskSubset", inPlace := ["internal/abi.NoEscape", "internal/bytealg.MakeNoZero"], unfollowed := true, recurses := true, apart := false }
def DiskSubsetSaid : Prop := diskSubsetRow.holds Try.pinned (OpenSpec.ofChange diskSubsetSpec)

/-- ITS FALSE NEIGHBOUR: 'it returns false'. Refute it at one input. -/
def diskSubsetWrong : ChangeSpec := { name := "diskSubset", fn := fun _ => fun
  | [d1, d2] => { results := [.lit (.bool false)], args := [d1, d2] }
  | _ => none }
def DiskSubsetWrongFalsely : Prop := diskSubsetRow.holds Try.pinned (OpenSpec.ofChange diskSubsetWrong)

/- THE SECOND FORM. 'bulk': how many values and letters a reading holds, each counted each time it is reached (what is shared counts as often as it is met; a slice's spare places count too). A statement '..UptoSaid' is the law's where the arguments, and the package variables that the reading takes, are together of bulk at most 1048576: NARROWER than '..Said'. Prove '..Said' where nothing that the law and all that it calls make is longer than what came in: it says more and counts as full. Else prove '..UptoSaid'. A law counts once. -/
mutual
def uptoBulk {H : Type} : DataW H → Nat
  | .lit (.string bytes) => bytes.length + 1
  | .lit _ => 1
  | .nil => 1
  | .ptr d => uptoBulk d + 1
  | .slice elems spare => uptoBulkAll elems + uptoBulkAll spare + 1
  | .agg parts => uptoBulkAll parts + 1
  | .iface _ d => uptoBulk d + 1
  | .map entries => uptoBulkEntries entries + 1
  | .held _ => 1
def uptoBulkAll {H : Type} : List (DataW H) → Nat
  | [] => 0
  | d :: r => uptoBulk d + uptoBulkAll r
def uptoBulkEntries {H : Type} : List (Lit × DataW H) → Nat
  | [] => 0
  | x :: r => uptoBulkEntry x + uptoBulkEntries r
def uptoBulkEntry {H : Type} : Lit × DataW H → Nat
  | (.string bytes, d) => bytes.length + uptoBulk d + 1
  | (_, d) => uptoBulk d + 1
 end
def uptoSmall : (H : Type) → List (DataW H) → Bool := fun _ ds => decide (uptoBulkAll ds ≤ 1048576)
def OpenSpec.upto (s : _root_.Go.ChangeSpec) : _root_.Go.OpenSpec := { _root_.Go.OpenSpec.ofChange s with cond := some uptoSmall }

/-- 'cryostatlaw4.Logs', WHERE WHAT IT READS IS OF BULK AT MOST 1048576: true; the input reads as it did. -/
def logsUptoRow : OpenClaim := { program := "yteamlnogjjgdoaa", sum := "21c471fd1528ca90e9e0f6ca717e0fdffed9804846f069a114574f67e9fca223", func := "cryostat/cryostatlaw4.Logs", spec := "logs", inPlace := ["internal/abi.NoEscape", "internal/bytealg.MakeNoZero"], apart := false, narrowed := true }
def LogsUptoSaid : Prop := logsUptoRow.holds Try.pinned (OpenSpec.upto logsSpec)

/-- 'cryostatlaw4.LogBack', WHERE WHAT IT READS IS OF BULK AT MOST 1048576: true; the input reads as it did. -/
def logBackUptoRow : OpenClaim := { program := "yteamlnogjjgdoaa", sum := "21c471fd1528ca90e9e0f6ca717e0fdffed9804846f069a114574f67e9fca223", func := "cryostat/cryostatlaw4.LogBack", spec := "logBack", inPlace := ["internal/abi.NoEscape", "internal/bytealg.MakeNoZero"], apart := false, narrowed := true }
def LogBackUptoSaid : Prop := logBackUptoRow.holds Try.pinned (OpenSpec.upto logBackSpec)

/-- 'cryostatlaw4.LogForms', WHERE WHAT IT READS IS OF BULK AT MOST 1048576: true; the input reads as it did. -/
def logFormsUptoRow : OpenClaim := { program := "yteamlnogjjgdoaa", sum := "21c471fd1528ca90e9e0f6ca717e0fdffed9804846f069a114574f67e9fca223", func := "cryostat/cryostatlaw4.LogForms", spec := "logForms", inPlace := ["internal/abi.NoEscape", "internal/bytealg.MakeNoZero"], apart := false, narrowed := true }
def LogFormsUptoSaid : Prop := logFormsUptoRow.holds Try.pinned (OpenSpec.upto logFormsSpec)

/-- 'cryostatlaw4.LogParts', WHERE WHAT IT READS IS OF BULK AT MOST 1048576: true; the input reads as it did. -/
def logPartsUptoRow : OpenClaim := { program := "yteamlnogjjgdoaa", sum := "21c471fd1528ca90e9e0f6ca717e0fdffed9804846f069a114574f67e9fca223", func := "cryostat/cryostatlaw4.LogParts", spec := "logParts", inPlace := ["internal/abi.NoEscape", "internal/bytealg.MakeNoZero"], apart := false, narrowed := true }
def LogPartsUptoSaid : Prop := logPartsUptoRow.holds Try.pinned (OpenSpec.upto logPartsSpec)

/-- 'cryostatlaw4.LogStops', WHERE WHAT IT READS IS OF BULK AT MOST 1048576: true; the input reads as it did. -/
def logStopsUptoRow : OpenClaim := { program := "yteamlnogjjgdoaa", sum := "21c471fd1528ca90e9e0f6ca717e0fdffed9804846f069a114574f67e9fca223", func := "cryostat/cryostatlaw4.LogStops", spec := "logStops", inPlace := ["internal/abi.NoEscape", "internal/bytealg.MakeNoZero"], apart := false, narrowed := true }
def LogStopsUptoSaid : Prop := logStopsUptoRow.holds Try.pinned (OpenSpec.upto logStopsSpec)

/-- 'cryostatlaw4.LogEmpty', WHERE WHAT IT READS IS OF BULK AT MOST 1048576: true; the input reads as it did. -/
def logEmptyUptoRow : OpenClaim := { program := "yteamlnogjjgdoaa", sum := "21c471fd1528ca90e9e0f6ca717e0fdffed9804846f069a114574f67e9fca223", func := "cryostat/cryostatlaw4.LogEmpty", spec := "logEmpty", inPlace := ["internal/abi.NoEscape", "internal/bytealg.MakeNoZero"], apart := false, narrowed := true }
def LogEmptyUptoSaid : Prop := logEmptyUptoRow.holds Try.pinned (OpenSpec.upto logEmptySpec)

/-- 'cryostatlaw4.LogLater', WHERE WHAT IT READS IS OF BULK AT MOST 1048576: true; the input reads as it did. -/
def logLaterUptoRow : OpenClaim := { program := "yteamlnogjjgdoaa", sum := "21c471fd1528ca90e9e0f6ca717e0fdffed9804846f069a114574f67e9fca223", func := "cryostat/cryostatlaw4.LogLater", spec := "logLater", inPlace := ["internal/abi.NoEscape", "internal/bytealg.MakeNoZero"], apart := false, narrowed := true }
def LogLaterUptoSaid : Prop := logLaterUptoRow.holds Try.pinned (OpenSpec.upto logLaterSpec)

/-- 'cryostatlaw2.Disks', WHERE WHAT IT READS IS OF BULK AT MOST 1048576: true; the input reads as it did. -/
def disksUptoRow : OpenClaim := { program := "yteamlnogjjgdoaa", sum := "21c471fd1528ca90e9e0f6ca717e0fdffed9804846f069a114574f67e9fca223", func := "cryostat/cryostatlaw2.Disks", spec := "disks", inPlace := ["internal/abi.NoEscape", "internal/bytealg.MakeNoZero"], unfollowed := true, recurses := true, apart := false, narrowed := true }
def DisksUptoSaid : Prop := disksUptoRow.holds Try.pinned (OpenSpec.upto disksSpec)

/-- 'cryostatlaw2.DiskFlushed', WHERE WHAT IT READS IS OF BULK AT MOST 1048576: true; the input reads as it did. -/
def diskFlushedUptoRow : OpenClaim := { program := "yteamlnogjjgdoaa", sum := "21c471fd1528ca90e9e0f6ca717e0fdffed9804846f069a114574f67e9fca223", func := "cryostat/cryostatlaw2.DiskFlushed", spec := "diskFlushed", inPlace := ["internal/abi.NoEscape", "internal/bytealg.MakeNoZero"], unfollowed := true, recurses := true, apart := false, narrowed := true }
def DiskFlushedUptoSaid : Prop := diskFlushedUptoRow.holds Try.pinned (OpenSpec.upto diskFlushedSpec)

/-- 'cryostatlaw2.DiskForms', WHERE WHAT IT READS IS OF BULK AT MOST 1048576: true; the input reads as it did. -/
def diskFormsUptoRow : OpenClaim := { program := "yteamlnogjjgdoaa", sum := "21c471fd1528ca90e9e0f6ca717e0fdffed9804846f069a114574f67e9fca223", func := "cryostat/cryostatlaw2.DiskForms", spec := "diskForms", inPlace := ["internal/abi.NoEscape", "internal/bytealg.MakeNoZero"], unfollowed := true, recurses := true, apart := false, narrowed := true }
def DiskFormsUptoSaid : Prop := diskFormsUptoRow.holds Try.pinned (OpenSpec.upto diskFormsSpec)

/-- 'cryostatlaw2.DiskLast', WHERE WHAT IT READS IS OF BULK AT MOST 1048576: true; the input reads as it did. -/
def diskLastUptoRow : OpenClaim := { program := "yteamlnogjjgdoaa", sum := "21c471fd1528ca90e9e0f6ca717e0fdffed9804846f069a114574f67e9fca223", func := "cryostat/cryostatlaw2.DiskLast", spec := "diskLast", inPlace := ["internal/abi.NoEscape", "internal/bytealg.MakeNoZero"], unfollowed := true, recurses := true, apart := false, narrowed := true }
def DiskLastUptoSaid : Prop := diskLastUptoRow.holds Try.pinned (OpenSpec.upto diskLastSpec)

/-- 'cryostatlaw2.DiskTorn', WHERE WHAT IT READS IS OF BULK AT MOST 1048576: true; the input reads as it did. -/
def diskTornUptoRow : OpenClaim := { program := "yteamlnogjjgdoaa", sum := "21c471fd1528ca90e9e0f6ca717e0fdffed9804846f069a114574f67e9fca223", func := "cryostat/cryostatlaw2.DiskTorn", spec := "diskTorn", inPlace := ["internal/abi.NoEscape", "internal/bytealg.MakeNoZero"], unfollowed := true, recurses := true, apart := false, narrowed := true }
def DiskTornUptoSaid : Prop := diskTornUptoRow.holds Try.pinned (OpenSpec.upto diskTornSpec)

/-- 'cryostatlaw2.DiskSubset', WHERE WHAT IT READS IS OF BULK AT MOST 1048576: true; the input reads as it did. -/
def diskSubsetUptoRow : OpenClaim := { program := "yteamlnogjjgdoaa", sum := "21c471fd1528ca90e9e0f6ca717e0fdffed9804846f069a114574f67e9fca223", func := "cryostat/cryostatlaw2.DiskSubset", spec := "diskSubset", inPlace := ["internal/abi.NoEscape", "internal/bytealg.MakeNoZero"], unfollowed := true, recurses := true, apart := false, narrowed := true }
def DiskSubsetUptoSaid : Prop := diskSubsetUptoRow.holds Try.pinned (OpenSpec.upto diskSubsetSpec)

end Rows
end Go.Proofs.Yteamlnogjjgdoaa
