/-
  No cell of these rows narrows 'for every input' (looked for: loops, veiled, ifaces, maps, wideKeys, modest, calm, conditions, laid).
  DERIVED. THE GIVEN ROWS OF THIS SEAT. 13 by the template 'for every input the law returns true; each argument reads behind the call as it read before'; 0 by the template 'total and deterministic' (their statements: YtpadejamelppfaaTotals.lean).
  GIVEN WITH THE SEED: the statements are not yours to turn. If you find one false, say at which input.
  Laid BY PROGRAM, IN A SANDBOX (cutbox-rows.mjs): the forced cells as the released guide's own fill.sh prints them over the translation 191e0bbdeff7e812… (all of the seat's roots in one cut). By AI agents, Wed Nov 11 2026. No macro, syntax, notation, axiom, sorry.
-/
import Derived.Test.YtpadejamelppfaaChecked
import GoSem.Claim
import GoSem.ClaimJoined
import GoSem.ClaimMapViews
import Derived.JoinedTies
import Derived.KernelRfl
namespace Go.Proofs.Ytpadejamelppfaa
/- THE CELL 'sum', in the pinned program and in every row, IS THE sha256 OF THE DUMP (.gsa) THAT YtpadejamelppfaaProg.lean LOADS. Nothing in Lean hashes anything: it is a label: what it is worth is what the hold of that sum in a sandbox is worth. -/
noncomputable def Try.pinned : Pinned := { name := "ytpadejamelppfaa", sum := "191e0bbdeff7e812870acadf4646cbeb5259e3ce10b27d9ba8131349117a621c", checked := Try.checked }
namespace Rows
def none {H : Type} : Left H := { results := [], args := [] }

/-- 'cryostatlaw1.Pairs': WHATEVER THE INPUT: true; the input reads as it did. -/
def pairsSpec : ChangeSpec := { name := "pairs", fn := fun _ => fun
  | [d1, d2, d3] => { results := [.lit (.bool true)], args := [d1, d2, d3] }
  | _ => none }
def pairsRow : OpenClaim := { program := "ytpadejamelppfaa", sum := "191e0bbdeff7e812870acadf4646cbeb5259e3ce10b27d9ba8131349117a621c", func := "cryostat/cryostatlaw1.Pairs", spec := "pairs", apart := false }
def PairsSaid : Prop := pairsRow.holds Try.pinned (OpenSpec.ofChange pairsSpec)

/-- ITS FALSE NEIGHBOUR: 'it returns false'. Refute it at one input. -/
def pairsWrong : ChangeSpec := { name := "pairs", fn := fun _ => fun
  | [d1, d2, d3] => { results := [.lit (.bool false)], args := [d1, d2, d3] }
  | _ => none }
def PairsWrongFalsely : Prop := pairsRow.holds Try.pinned (OpenSpec.ofChange pairsWrong)

/-- 'cryostatlaw1.PairTorn': WHATEVER THE INPUT: true; the input reads as it did. -/
def pairTornSpec : ChangeSpec := { name := "pairTorn", fn := fun _ => fun
  | [d1, d2, d3] => { results := [.lit (.bool true)], args := [d1, d2, d3] }
  | _ => none }
def pairTornRow : OpenClaim := { program := "ytpadejamelppfaa", sum := "191e0bbdeff7e812870acadf4646cbeb5259e3ce10b27d9ba8131349117a621c", func := "cryostat/cryostatlaw1.PairTorn", spec := "pairTorn", apart := false }
def PairTornSaid : Prop := pairTornRow.holds Try.pinned (OpenSpec.ofChange pairTornSpec)

/-- ITS FALSE NEIGHBOUR: 'it returns false'. Refute it at one input. -/
def pairTornWrong : ChangeSpec := { name := "pairTorn", fn := fun _ => fun
  | [d1, d2, d3] => { results := [.lit (.bool false)], args := [d1, d2, d3] }
  | _ => none }
def PairTornWrongFalsely : Prop := pairTornRow.holds Try.pinned (OpenSpec.ofChange pairTornWrong)

/-- 'cryostatlaw1.PairForms': WHATEVER THE INPUT: true; the input reads as it did. -/
def pairFormsSpec : ChangeSpec := { name := "pairForms", fn := fun _ => fun
  | [d1, d2, d3, d4] => { results := [.lit (.bool true)], args := [d1, d2, d3, d4] }
  | _ => none }
def pairFormsRow : OpenClaim := { program := "ytpadejamelppfaa", sum := "191e0bbdeff7e812870acadf4646cbeb5259e3ce10b27d9ba8131349117a621c", func := "cryostat/cryostatlaw1.PairForms", spec := "pairForms", apart := false }
def PairFormsSaid : Prop := pairFormsRow.holds Try.pinned (OpenSpec.ofChange pairFormsSpec)

/-- ITS FALSE NEIGHBOUR: 'it returns false'. Refute it at one input. -/
def pairFormsWrong : ChangeSpec := { name := "pairForms", fn := fun _ => fun
  | [d1, d2, d3, d4] => { results := [.lit (.bool false)], args := [d1, d2, d3, d4] }
  | _ => none }
def PairFormsWrongFalsely : Prop := pairFormsRow.holds Try.pinned (OpenSpec.ofChange pairFormsWrong)

/-- 'cryostatlaw1.PairUnlike': WHATEVER THE INPUT: true; the input reads as it did. -/
def pairUnlikeSpec : ChangeSpec := { name := "pairUnlike", fn := fun _ => fun
  | [d1, d2] => { results := [.lit (.bool true)], args := [d1, d2] }
  | _ => none }
def pairUnlikeRow : OpenClaim := { program := "ytpadejamelppfaa", sum := "191e0bbdeff7e812870acadf4646cbeb5259e3ce10b27d9ba8131349117a621c", func := "cryostat/cryostatlaw1.PairUnlike", spec := "pairUnlike", apart := false }
def PairUnlikeSaid : Prop := pairUnlikeRow.holds Try.pinned (OpenSpec.ofChange pairUnlikeSpec)

/-- ITS FALSE NEIGHBOUR: 'it returns false'. Refute it at one input. -/
def pairUnlikeWrong : ChangeSpec := { name := "pairUnlike", fn := fun _ => fun
  | [d1, d2] => { results := [.lit (.bool false)], args := [d1, d2] }
  | _ => none }
def PairUnlikeWrongFalsely : Prop := pairUnlikeRow.holds Try.pinned (OpenSpec.ofChange pairUnlikeWrong)

/-- 'cryostatlaw3.Records': WHATEVER THE INPUT: true; the input reads as it did. -/
def recordsSpec : ChangeSpec := { name := "records", fn := fun _ => fun
  | [d1, d2] => { results := [.lit (.bool true)], args := [d1, d2] }
  | _ => none }
def recordsRow : OpenClaim := { program := "ytpadejamelppfaa", sum := "191e0bbdeff7e812870acadf4646cbeb5259e3ce10b27d9ba8131349117a621c", func := "cryostat/cryostatlaw3.Records", spec := "records", inPlace := ["internal/abi.NoEscape", "internal/bytealg.MakeNoZero"], apart := false }
def RecordsSaid : Prop := recordsRow.holds Try.pinned (OpenSpec.ofChange recordsSpec)

/-- ITS FALSE NEIGHBOUR: 'it returns false'. Refute it at one input. -/
def recordsWrong : ChangeSpec := { name := "records", fn := fun _ => fun
  | [d1, d2] => { results := [.lit (.bool false)], args := [d1, d2] }
  | _ => none }
def RecordsWrongFalsely : Prop := recordsRow.holds Try.pinned (OpenSpec.ofChange recordsWrong)

/-- 'cryostatlaw3.RecordBack': WHATEVER THE INPUT: true; the input reads as it did. -/
def recordBackSpec : ChangeSpec := { name := "recordBack", fn := fun _ => fun
  | [d1, d2] => { results := [.lit (.bool true)], args := [d1, d2] }
  | _ => none }
def recordBackRow : OpenClaim := { program := "ytpadejamelppfaa", sum := "191e0bbdeff7e812870acadf4646cbeb5259e3ce10b27d9ba8131349117a621c", func := "cryostat/cryostatlaw3.RecordBack", spec := "recordBack", inPlace := ["internal/abi.NoEscape", "internal/bytealg.MakeNoZero"], apart := false }
def RecordBackSaid : Prop := recordBackRow.holds Try.pinned (OpenSpec.ofChange recordBackSpec)

/-- ITS FALSE NEIGHBOUR: 'it returns false'. Refute it at one input. -/
def recordBackWrong : ChangeSpec := { name := "recordBack", fn := fun _ => fun
  | [d1, d2] => { results := [.lit (.bool false)], args := [d1, d2] }
  | _ => none }
def RecordBackWrongFalsely : Prop := recordBackRow.holds Try.pinned (OpenSpec.ofChange recordBackWrong)

/-- 'cryostatlaw3.RecordForms': WHATEVER THE INPUT: true; the input reads as it did. -/
def recordFormsSpec : ChangeSpec := { name := "recordForms", fn := fun _ => fun
  | [d1, d2] => { results := [.lit (.bool true)], args := [d1, d2] }
  | _ => none }
def recordFormsRow : OpenClaim := { program := "ytpadejamelppfaa", sum := "191e0bbdeff7e812870acadf4646cbeb5259e3ce10b27d9ba8131349117a621c", func := "cryostat/cryostatlaw3.RecordForms", spec := "recordForms", inPlace := ["internal/abi.NoEscape", "internal/bytealg.MakeNoZero"], apart := false }
def RecordFormsSaid : Prop := recordFormsRow.holds Try.pinned (OpenSpec.ofChange recordFormsSpec)

/-- ITS FALSE NEIGHBOUR: 'it returns false'. Refute it at one input. -/
def recordFormsWrong : ChangeSpec := { name := "recordForms", fn := fun _ => fun
  | [d1, d2] => { results := [.lit (.bool false)], args := [d1, d2] }
  | _ => none }
def RecordFormsWrongFalsely : Prop := recordFormsRow.holds Try.pinned (OpenSpec.ofChange recordFormsWrong)

/-- 'cryostatlaw3.RecordHeads': WHATEVER THE INPUT: true; the input reads as it did. -/
def recordHeadsSpec : ChangeSpec := { name := "recordHeads", fn := fun _ => fun
  | [d] => { results := [.lit (.bool true)], args := [d] }
  | _ => none }
def recordHeadsRow : OpenClaim := { program := "ytpadejamelppfaa", sum := "191e0bbdeff7e812870acadf4646cbeb5259e3ce10b27d9ba8131349117a621c", func := "cryostat/cryostatlaw3.RecordHeads", spec := "recordHeads", inPlace := ["internal/abi.NoEscape", "internal/bytealg.MakeNoZero"], apart := false }
def RecordHeadsSaid : Prop := recordHeadsRow.holds Try.pinned (OpenSpec.ofChange recordHeadsSpec)

/-- ITS FALSE NEIGHBOUR: 'it returns false'. Refute it at one input. -/
def recordHeadsWrong : ChangeSpec := { name := "recordHeads", fn := fun _ => fun
  | [d] => { results := [.lit (.bool false)], args := [d] }
  | _ => none }
def RecordHeadsWrongFalsely : Prop := recordHeadsRow.holds Try.pinned (OpenSpec.ofChange recordHeadsWrong)

/-- 'cryostatlaw5.Heads': WHATEVER THE INPUT: true; the input reads as it did. -/
def headsSpec : ChangeSpec := { name := "heads", fn := fun _ => fun
  | [d1, d2, d3, d4] => { results := [.lit (.bool true)], args := [d1, d2, d3, d4] }
  | _ => none }
def headsRow : OpenClaim := { program := "ytpadejamelppfaa", sum := "191e0bbdeff7e812870acadf4646cbeb5259e3ce10b27d9ba8131349117a621c", func := "cryostat/cryostatlaw5.Heads", spec := "heads", inPlace := ["internal/abi.NoEscape", "internal/bytealg.MakeNoZero"], apart := false }
def HeadsSaid : Prop := headsRow.holds Try.pinned (OpenSpec.ofChange headsSpec)

/-- ITS FALSE NEIGHBOUR: 'it returns false'. Refute it at one input. -/
def headsWrong : ChangeSpec := { name := "heads", fn := fun _ => fun
  | [d1, d2, d3, d4] => { results := [.lit (.bool false)], args := [d1, d2, d3, d4] }
  | _ => none }
def HeadsWrongFalsely : Prop := headsRow.holds Try.pinned (OpenSpec.ofChange headsWrong)

/-- 'cryostatlaw5.HeadBest': WHATEVER THE INPUT: true; the input reads as it did. -/
def headBestSpec : ChangeSpec := { name := "headBest", fn := fun _ => fun
  | [d1, d2, d3] => { results := [.lit (.bool true)], args := [d1, d2, d3] }
  | _ => none }
def headBestRow : OpenClaim := { program := "ytpadejamelppfaa", sum := "191e0bbdeff7e812870acadf4646cbeb5259e3ce10b27d9ba8131349117a621c", func := "cryostat/cryostatlaw5.HeadBest", spec := "headBest", inPlace := ["internal/abi.NoEscape", "internal/bytealg.MakeNoZero"], apart := false }
def HeadBestSaid : Prop := headBestRow.holds Try.pinned (OpenSpec.ofChange headBestSpec)

/-- ITS FALSE NEIGHBOUR: 'it returns false'. Refute it at one input. -/
def headBestWrong : ChangeSpec := { name := "headBest", fn := fun _ => fun
  | [d1, d2, d3] => { results := [.lit (.bool false)], args := [d1, d2, d3] }
  | _ => none }
def HeadBestWrongFalsely : Prop := headBestRow.holds Try.pinned (OpenSpec.ofChange headBestWrong)

/-- 'cryostatlaw5.HeadForms': WHATEVER THE INPUT: true; the input reads as it did. -/
def headFormsSpec : ChangeSpec := { name := "headForms", fn := fun _ => fun
  | [d1, d2] => { results := [.lit (.bool true)], args := [d1, d2] }
  | _ => none }
def headFormsRow : OpenClaim := { program := "ytpadejamelppfaa", sum := "191e0bbdeff7e812870acadf4646cbeb5259e3ce10b27d9ba8131349117a621c", func := "cryostat/cryostatlaw5.HeadForms", spec := "headForms", inPlace := ["internal/abi.NoEscape", "internal/bytealg.MakeNoZero"], apart := false }
def HeadFormsSaid : Prop := headFormsRow.holds Try.pinned (OpenSpec.ofChange headFormsSpec)

/-- ITS FALSE NEIGHBOUR: 'it returns false'. Refute it at one input. -/
def headFormsWrong : ChangeSpec := { name := "headForms", fn := fun _ => fun
  | [d1, d2] => { results := [.lit (.bool false)], args := [d1, d2] }
  | _ => none }
def HeadFormsWrongFalsely : Prop := headFormsRow.holds Try.pinned (OpenSpec.ofChange headFormsWrong)

/-- 'cryostatlaw5.HeadUnlike': WHATEVER THE INPUT: true; the input reads as it did. -/
def headUnlikeSpec : ChangeSpec := { name := "headUnlike", fn := fun _ => fun
  | [d1, d2] => { results := [.lit (.bool true)], args := [d1, d2] }
  | _ => none }
def headUnlikeRow : OpenClaim := { program := "ytpadejamelppfaa", sum := "191e0bbdeff7e812870acadf4646cbeb5259e3ce10b27d9ba8131349117a621c", func := "cryostat/cryostatlaw5.HeadUnlike", spec := "headUnlike", inPlace := ["internal/abi.NoEscape", "internal/bytealg.MakeNoZero"], apart := false }
def HeadUnlikeSaid : Prop := headUnlikeRow.holds Try.pinned (OpenSpec.ofChange headUnlikeSpec)

/-- ITS FALSE NEIGHBOUR: 'it returns false'. Refute it at one input. -/
def headUnlikeWrong : ChangeSpec := { name := "headUnlike", fn := fun _ => fun
  | [d1, d2] => { results := [.lit (.bool false)], args := [d1, d2] }
  | _ => none }
def HeadUnlikeWrongFalsely : Prop := headUnlikeRow.holds Try.pinned (OpenSpec.ofChange headUnlikeWrong)

/-- 'cryostatlaw5.HeadRow': WHATEVER THE INPUT: true; the input reads as it did. -/
def headRowSpec : ChangeSpec := { name := "headRow", fn := fun _ => fun
  | [d1, d2, d3] => { results := [.lit (.bool true)], args := [d1, d2, d3] }
  | _ => none }
def headRowRow : OpenClaim := { program := "ytpadejamelppfaa", sum := "191e0bbdeff7e812870acadf4646cbeb5259e3ce10b27d9ba8131349117a621c", func := "cryostat/cryostatlaw5.HeadRow", spec := "headRow", inPlace := ["internal/abi.NoEscape", "internal/bytealg.MakeNoZero"], apart := false }
def HeadRowSaid : Prop := headRowRow.holds Try.pinned (OpenSpec.ofChange headRowSpec)

/-- ITS FALSE NEIGHBOUR: 'it returns false'. Refute it at one input. -/
def headRowWrong : ChangeSpec := { name := "headRow", fn := fun _ => fun
  | [d1, d2, d3] => { results := [.lit (.bool false)], args := [d1, d2, d3] }
  | _ => none }
def HeadRowWrongFalsely : Prop := headRowRow.holds Try.pinned (OpenSpec.ofChange headRowWrong)

/- THE SECOND FORM. 'bulk': how many values and letters a reading holds, each counted each time it is reached (what is shared counts as often as it is met; a slice's spare places count too). A statement '..UptoSaid' is the law's where the arguments, and the package variables that the reading takes, are together of bulk at most 1048576: NARROWER than '..Said'. Prove '..Said' where nothing that the law and all that it calls make is longer than what came in: it says more and counts as full. Else prove '..UptoSaid'. A law counts once. -/
mutual
def uptoBulk {H : Type} : DataW H → Nat
  | .lit (.string bytes) => bytes.length + 1
  | .lit _ => 1
  | .nil => 1
  | .ptr d => uptoBulk d + 1
  | .slice elems spare => uptoBulkAll elems + uptoBulkAll spare + 1
  | .agg parts => uptoBulkAll parts + 1
  | .iface _ d => uptoBulk d + 1
  | .map entries => uptoBulkEntries entries + 1
  | .held _ => 1
def uptoBulkAll {H : Type} : List (DataW H) → Nat
  | [] => 0
  | d :: r => uptoBulk d + uptoBulkAll r
def uptoBulkEntries {H : Type} : List (Lit × DataW H) → Nat
  | [] => 0
  | x :: r => uptoBulkEntry x + uptoBulkEntries r
def uptoBulkEntry {H : Type} : Lit × DataW H → Nat
  | (.string bytes, d) => bytes.length + uptoBulk d + 1
  | (_, d) => uptoBulk d + 1
 end
def uptoSmall : (H : Type) → List (DataW H) → Bool := fun _ ds => decide (uptoBulkAll ds ≤ 1048576)
def OpenSpec.upto (s : _root_.Go.ChangeSpec) : _root_.Go.OpenSpec := { _root_.Go.OpenSpec.ofChange s with cond := some uptoSmall }

/-- 'cryostatlaw1.Pairs', WHERE WHAT IT READS IS OF BULK AT MOST 1048576: true; the input reads as it did. -/
def pairsUptoRow : OpenClaim := { program := "ytpadejamelppfaa", sum := "191e0bbdeff7e812870acadf4646cbeb5259e3ce10b27d9ba8131349117a621c", func := "cryostat/cryostatlaw1.Pairs", spec := "pairs", apart := false, narrowed := true }
def PairsUptoSaid : Prop := pairsUptoRow.holds Try.pinned (OpenSpec.upto pairsSpec)

/-- 'cryostatlaw1.PairTorn', WHERE WHAT IT READS IS OF BULK AT MOST 1048576: true; the input reads as it did. -/
def pairTornUptoRow : OpenClaim := { program := "ytpadejamelppfaa", sum := "191e0bbdeff7e812870acadf4646cbeb5259e3ce10b27d9ba8131349117a621c", func := "cryostat/cryostatlaw1.PairTorn", spec := "pairTorn", apart := false, narrowed := true }
def PairTornUptoSaid : Prop := pairTornUptoRow.holds Try.pinned (OpenSpec.upto pairTornSpec)

/-- 'cryostatlaw1.PairForms', WHERE WHAT IT READS IS OF BULK AT MOST 1048576: true; the input reads as it did. -/
def pairFormsUptoRow : OpenClaim := { program := "ytpadejamelppfaa", sum := "191e0bbdeff7e812870acadf4646cbeb5259e3ce10b27d9ba8131349117a621c", func := "cryostat/cryostatlaw1.PairForms", spec := "pairForms", apart := false, narrowed := true }
def PairFormsUptoSaid : Prop := pairFormsUptoRow.holds Try.pinned (OpenSpec.upto pairFormsSpec)

/-- 'cryostatlaw1.PairUnlike', WHERE WHAT IT READS IS OF BULK AT MOST 1048576: true; the input reads as it did. -/
def pairUnlikeUptoRow : OpenClaim := { program := "ytpadejamelppfaa", sum := "191e0bbdeff7e812870acadf4646cbeb5259e3ce10b27d9ba8131349117a621c", func := "cryostat/cryostatlaw1.PairUnlike", spec := "pairUnlike", apart := false, narrowed := true }
def PairUnlikeUptoSaid : Prop := pairUnlikeUptoRow.holds Try.pinned (OpenSpec.upto pairUnlikeSpec)

/-- 'cryostatlaw3.Records', WHERE WHAT IT READS IS OF BULK AT MOST 1048576: true; the input reads as it did. -/
def recordsUptoRow : OpenClaim := { program := "ytpadejamelppfaa", sum := "191e0bbdeff7e812870acadf4646cbeb5259e3ce10b27d9ba8131349117a621c", func := "cryostat/cryostatlaw3.Records", spec := "records", inPlace := ["internal/abi.NoEscape", "internal/bytealg.MakeNoZero"], apart := false, narrowed := true }
def RecordsUptoSaid : Prop := recordsUptoRow.holds Try.pinned (OpenSpec.upto recordsSpec)

/-- 'cryostatlaw3.RecordBack', WHERE WHAT IT READS IS OF BULK AT MOST 1048576: true; the input reads as it did. -/
def recordBackUptoRow : OpenClaim := { program := "ytpadejamelppfaa", sum := "191e0bbdeff7e812870acadf4646cbeb5259e3ce10b27d9ba8131349117a621c", func := "cryostat/cryostatlaw3.RecordBack", spec := "recordBack", inPlace := ["internal/abi.NoEscape", "internal/bytealg.MakeNoZero"], apart := false, narrowed := true }
def RecordBackUptoSaid : Prop := recordBackUptoRow.holds Try.pinned (OpenSpec.upto recordBackSpec)

/-- 'cryostatlaw3.RecordForms', WHERE WHAT IT READS IS OF BULK AT MOST 1048576: true; the input reads as it did. -/
def recordFormsUptoRow : OpenClaim := { program := "ytpadejamelppfaa", sum := "191e0bbdeff7e812870acadf4646cbeb5259e3ce10b27d9ba8131349117a621c", func := "cryostat/cryostatlaw3.RecordForms", spec := "recordForms", inPlace := ["internal/abi.NoEscape", "internal/bytealg.MakeNoZero"], apart := false, narrowed := true }
def RecordFormsUptoSaid : Prop := recordFormsUptoRow.holds Try.pinned (OpenSpec.upto recordFormsSpec)

/-- 'cryostatlaw3.RecordHeads', WHERE WHAT IT READS IS OF BULK AT MOST 1048576: true; the input reads as it did. -/
def recordHeadsUptoRow : OpenClaim := { program := "ytpadejamelppfaa", sum := "191e0bbdeff7e812870acadf4646cbeb5259e3ce10b27d9ba8131349117a621c", func := "cryostat/cryostatlaw3.RecordHeads", spec := "recordHeads", inPlace := ["internal/abi.NoEscape", "internal/bytealg.MakeNoZero"], apart := false, narrowed := true }
def RecordHeadsUptoSaid : Prop := recordHeadsUptoRow.holds Try.pinned (OpenSpec.upto recordHeadsSpec)

/-- 'cryostatlaw5.Heads', WHERE WHAT IT READS IS OF BULK AT MOST 1048576: true; the input reads as it did. -/
def headsUptoRow : OpenClaim := { program := "ytpadejamelppfaa", sum := "191e0bbdeff7e812870acadf4646cbeb5259e3ce10b27d9ba8131349117a621c", func := "cryostat/cryostatlaw5.Heads", spec := "heads", inPlace := ["internal/abi.NoEscape", "internal/bytealg.MakeNoZero"], apart := false, narrowed := true }
def HeadsUptoSaid : Prop := headsUptoRow.holds Try.pinned (OpenSpec.upto headsSpec)

/-- 'cryostatlaw5.HeadBest', WHERE WHAT IT READS IS OF BULK AT MOST 1048576: true; the input reads as it did. -/
def headBestUptoRow : OpenClaim := { program := "ytpadejamelppfaa", sum := "191e0bbdeff7e812870acadf4646cbeb5259e3ce10b27d9ba8131349117a621c", func := "cryostat/cryostatlaw5.HeadBest", spec := "headBest", inPlace := ["internal/abi.NoEscape", "internal/bytealg.MakeNoZero"], apart := false, narrowed := true }
def HeadBestUptoSaid : Prop := headBestUptoRow.holds Try.pinned (OpenSpec.upto headBestSpec)

/-- 'cryostatlaw5.HeadForms', WHERE WHAT IT READS IS OF BULK AT MOST 1048576: true; the input reads as it did. -/
def headFormsUptoRow : OpenClaim := { program := "ytpadejamelppfaa", sum := "191e0bbdeff7e812870acadf4646cbeb5259e3ce10b27d9ba8131349117a621c", func := "cryostat/cryostatlaw5.HeadForms", spec := "headForms", inPlace := ["internal/abi.NoEscape", "internal/bytealg.MakeNoZero"], apart := false, narrowed := true }
def HeadFormsUptoSaid : Prop := headFormsUptoRow.holds Try.pinned (OpenSpec.upto headFormsSpec)

/-- 'cryostatlaw5.HeadUnlike', WHERE WHAT IT READS IS OF BULK AT MOST 1048576: true; the input reads as it did. -/
def headUnlikeUptoRow : OpenClaim := { program := "ytpadejamelppfaa", sum := "191e0bbdeff7e812870acadf4646cbeb5259e3ce10b27d9ba8131349117a621c", func := "cryostat/cryostatlaw5.HeadUnlike", spec := "headUnlike", inPlace := ["internal/abi.NoEscape", "internal/bytealg.MakeNoZero"], apart := false, narrowed := true }
def HeadUnlikeUptoSaid : Prop := headUnlikeUptoRow.holds Try.pinned (OpenSpec.upto headUnlikeSpec)

/-- 'cryostatlaw5.HeadRow', WHERE WHAT IT READS IS OF BULK AT MOST 1048576: true; the input reads as it did. -/
def headRowUptoRow : OpenClaim := { program := "ytpadejamelppfaa", sum := "191e0bbdeff7e812870acadf4646cbeb5259e3ce10b27d9ba8131349117a621c", func := "cryostat/cryostatlaw5.HeadRow", spec := "headRow", inPlace := ["internal/abi.NoEscape", "internal/bytealg.MakeNoZero"], apart := false, narrowed := true }
def HeadRowUptoSaid : Prop := headRowUptoRow.holds Try.pinned (OpenSpec.upto headRowSpec)

end Rows
end Go.Proofs.Ytpadejamelppfaa
