/-
  No cell of these rows narrows 'for every input' (looked for: loops, veiled, ifaces, maps, wideKeys, modest, calm, conditions, laid).
  DERIVED. THE GIVEN ROWS OF THIS SEAT. 11 by the template 'for every input the law returns true; each argument reads behind the call as it read before'; 0 by the template 'total and deterministic' (their statements: YtekgaoakijbmaaaTotals.lean).
  GIVEN WITH THE SEED: the statements are not yours to turn. If you find one false, say at which input.
  Laid BY PROGRAM, IN A SANDBOX (cutbox-rows.mjs): the forced cells as the released guide's own fill.sh prints them over the translation 855368679ec230fd… (all of the seat's roots in one cut). By AI agents, Wed Nov 11 2026. No macro, syntax, notation, axiom, sorry.
-/
import Derived.Test.YtekgaoakijbmaaaChecked
import GoSem.Claim
import GoSem.ClaimJoined
import GoSem.ClaimMapViews
import Derived.JoinedTies
import Derived.KernelRfl
namespace Go.Proofs.Ytekgaoakijbmaaa
/- THE CELL 'sum', in the pinned program and in every row, IS THE sha256 OF THE DUMP (.gsa) THAT YtekgaoakijbmaaaProg.lean LOADS. Nothing in Lean hashes anything: it is a label: what it is worth is what the hold of that sum in a sandbox is worth. -/
noncomputable def Try.pinned : Pinned := { name := "ytekgaoakijbmaaa", sum := "855368679ec230fdb9d629e34237372958ef01d3e6f575c9a005d6c6d7707430", checked := Try.checked }
namespace Rows
def none {H : Type} : Left H := { results := [], args := [] }

/-- 'cryostatlaw0.CryostatNames': WHATEVER THE INPUT: true; the input reads as it did. -/
def cryostatNamesSpec : ChangeSpec := { name := "cryostatNames", fn := fun _ => fun
  | [] => { results := [.lit (.bool true)], args := [] }
  | _ => none }
def cryostatNamesRow : OpenClaim := { program := "ytekgaoakijbmaaa", sum := "855368679ec230fdb9d629e34237372958ef01d3e6f575c9a005d6c6d7707430", func := "cryostat/cryostatlaw0.CryostatNames", spec := "cryostatNames", apart := false }
def CryostatNamesSaid : Prop := cryostatNamesRow.holds Try.pinned (OpenSpec.ofChange cryostatNamesSpec)

/-- ITS FALSE NEIGHBOUR: 'it returns false'. Refute it at one input. -/
def cryostatNamesWrong : ChangeSpec := { name := "cryostatNames", fn := fun _ => fun
  | [] => { results := [.lit (.bool false)], args := [] }
  | _ => none }
def CryostatNamesWrongFalsely : Prop := cryostatNamesRow.holds Try.pinned (OpenSpec.ofChange cryostatNamesWrong)

/-- 'cryostatlaw18.Inodes': WHATEVER THE INPUT: true; the input reads as it did. -/
def inodesSpec : ChangeSpec := { name := "inodes", fn := fun _ => fun
  | [d1, d2, d3] => { results := [.lit (.bool true)], args := [d1, d2, d3] }
  | _ => none }
def inodesRow : OpenClaim := { program := "ytekgaoakijbmaaa", sum := "855368679ec230fdb9d629e34237372958ef01d3e6f575c9a005d6c6d7707430", func := "cryostat/cryostatlaw18.Inodes", spec := "inodes", apart := false }
def InodesSaid : Prop := inodesRow.holds Try.pinned (OpenSpec.ofChange inodesSpec)

/-- ITS FALSE NEIGHBOUR: 'it returns false'. Refute it at one input. -/
def inodesWrong : ChangeSpec := { name := "inodes", fn := fun _ => fun
  | [d1, d2, d3] => { results := [.lit (.bool false)], args := [d1, d2, d3] }
  | _ => none }
def InodesWrongFalsely : Prop := inodesRow.holds Try.pinned (OpenSpec.ofChange inodesWrong)

/-- 'cryostatlaw18.InodeForms': WHATEVER THE INPUT: true; the input reads as it did. -/
def inodeFormsSpec : ChangeSpec := { name := "inodeForms", fn := fun _ => fun
  | [d1, d2] => { results := [.lit (.bool true)], args := [d1, d2] }
  | _ => none }
def inodeFormsRow : OpenClaim := { program := "ytekgaoakijbmaaa", sum := "855368679ec230fdb9d629e34237372958ef01d3e6f575c9a005d6c6d7707430", func := "cryostat/cryostatlaw18.InodeForms", spec := "inodeForms", apart := false }
def InodeFormsSaid : Prop := inodeFormsRow.holds Try.pinned (OpenSpec.ofChange inodeFormsSpec)

/-- ITS FALSE NEIGHBOUR: 'it returns false'. Refute it at one input. -/
def inodeFormsWrong : ChangeSpec := { name := "inodeForms", fn := fun _ => fun
  | [d1, d2] => { results := [.lit (.bool false)], args := [d1, d2] }
  | _ => none }
def InodeFormsWrongFalsely : Prop := inodeFormsRow.holds Try.pinned (OpenSpec.ofChange inodeFormsWrong)

/-- 'cryostatlaw18.InodeBack': WHATEVER THE INPUT: true; the input reads as it did. -/
def inodeBackSpec : ChangeSpec := { name := "inodeBack", fn := fun _ => fun
  | [d1, d2] => { results := [.lit (.bool true)], args := [d1, d2] }
  | _ => none }
def inodeBackRow : OpenClaim := { program := "ytekgaoakijbmaaa", sum := "855368679ec230fdb9d629e34237372958ef01d3e6f575c9a005d6c6d7707430", func := "cryostat/cryostatlaw18.InodeBack", spec := "inodeBack", apart := false }
def InodeBackSaid : Prop := inodeBackRow.holds Try.pinned (OpenSpec.ofChange inodeBackSpec)

/-- ITS FALSE NEIGHBOUR: 'it returns false'. Refute it at one input. -/
def inodeBackWrong : ChangeSpec := { name := "inodeBack", fn := fun _ => fun
  | [d1, d2] => { results := [.lit (.bool false)], args := [d1, d2] }
  | _ => none }
def InodeBackWrongFalsely : Prop := inodeBackRow.holds Try.pinned (OpenSpec.ofChange inodeBackWrong)

/-- 'cryostatlaw17.Snaps': WHATEVER THE INPUT: true; the input reads as it did. -/
def snapsSpec : ChangeSpec := { name := "snaps", fn := fun _ => fun
  | [d1, d2, d3] => { results := [.lit (.bool true)], args := [d1, d2, d3] }
  | _ => none }
def snapsRow : OpenClaim := { program := "ytekgaoakijbmaaa", sum := "855368679ec230fdb9d629e34237372958ef01d3e6f575c9a005d6c6d7707430", func := "cryostat/cryostatlaw17.Snaps", spec := "snaps", apart := false }
def SnapsSaid : Prop := snapsRow.holds Try.pinned (OpenSpec.ofChange snapsSpec)

/-- ITS FALSE NEIGHBOUR: 'it returns false'. Refute it at one input. -/
def snapsWrong : ChangeSpec := { name := "snaps", fn := fun _ => fun
  | [d1, d2, d3] => { results := [.lit (.bool false)], args := [d1, d2, d3] }
  | _ => none }
def SnapsWrongFalsely : Prop := snapsRow.holds Try.pinned (OpenSpec.ofChange snapsWrong)

/-- 'cryostatlaw17.SnapForms': WHATEVER THE INPUT: true; the input reads as it did. -/
def snapFormsSpec : ChangeSpec := { name := "snapForms", fn := fun _ => fun
  | [d1, d2] => { results := [.lit (.bool true)], args := [d1, d2] }
  | _ => none }
def snapFormsRow : OpenClaim := { program := "ytekgaoakijbmaaa", sum := "855368679ec230fdb9d629e34237372958ef01d3e6f575c9a005d6c6d7707430", func := "cryostat/cryostatlaw17.SnapForms", spec := "snapForms", apart := false }
def SnapFormsSaid : Prop := snapFormsRow.holds Try.pinned (OpenSpec.ofChange snapFormsSpec)

/-- ITS FALSE NEIGHBOUR: 'it returns false'. Refute it at one input. -/
def snapFormsWrong : ChangeSpec := { name := "snapForms", fn := fun _ => fun
  | [d1, d2] => { results := [.lit (.bool false)], args := [d1, d2] }
  | _ => none }
def SnapFormsWrongFalsely : Prop := snapFormsRow.holds Try.pinned (OpenSpec.ofChange snapFormsWrong)

/-- 'cryostatlaw17.SnapBack': WHATEVER THE INPUT: true; the input reads as it did. -/
def snapBackSpec : ChangeSpec := { name := "snapBack", fn := fun _ => fun
  | [d1, d2] => { results := [.lit (.bool true)], args := [d1, d2] }
  | _ => none }
def snapBackRow : OpenClaim := { program := "ytekgaoakijbmaaa", sum := "855368679ec230fdb9d629e34237372958ef01d3e6f575c9a005d6c6d7707430", func := "cryostat/cryostatlaw17.SnapBack", spec := "snapBack", apart := false }
def SnapBackSaid : Prop := snapBackRow.holds Try.pinned (OpenSpec.ofChange snapBackSpec)

/-- ITS FALSE NEIGHBOUR: 'it returns false'. Refute it at one input. -/
def snapBackWrong : ChangeSpec := { name := "snapBack", fn := fun _ => fun
  | [d1, d2] => { results := [.lit (.bool false)], args := [d1, d2] }
  | _ => none }
def SnapBackWrongFalsely : Prop := snapBackRow.holds Try.pinned (OpenSpec.ofChange snapBackWrong)

/-- 'cryostatlaw16.Keys': WHATEVER THE INPUT: true; the input reads as it did. -/
def keysSpec : ChangeSpec := { name := "keys", fn := fun _ => fun
  | [d1, d2, d3, d4] => { results := [.lit (.bool true)], args := [d1, d2, d3, d4] }
  | _ => none }
def keysRow : OpenClaim := { program := "ytekgaoakijbmaaa", sum := "855368679ec230fdb9d629e34237372958ef01d3e6f575c9a005d6c6d7707430", func := "cryostat/cryostatlaw16.Keys", spec := "keys", apart := false }
def KeysSaid : Prop := keysRow.holds Try.pinned (OpenSpec.ofChange keysSpec)

/-- ITS FALSE NEIGHBOUR: 'it returns false'. Refute it at one input. -/
def keysWrong : ChangeSpec := { name := "keys", fn := fun _ => fun
  | [d1, d2, d3, d4] => { results := [.lit (.bool false)], args := [d1, d2, d3, d4] }
  | _ => none }
def KeysWrongFalsely : Prop := keysRow.holds Try.pinned (OpenSpec.ofChange keysWrong)

/-- 'cryostatlaw16.KeyForms': WHATEVER THE INPUT: true; the input reads as it did. -/
def keyFormsSpec : ChangeSpec := { name := "keyForms", fn := fun _ => fun
  | [d1, d2] => { results := [.lit (.bool true)], args := [d1, d2] }
  | _ => none }
def keyFormsRow : OpenClaim := { program := "ytekgaoakijbmaaa", sum := "855368679ec230fdb9d629e34237372958ef01d3e6f575c9a005d6c6d7707430", func := "cryostat/cryostatlaw16.KeyForms", spec := "keyForms", apart := false }
def KeyFormsSaid : Prop := keyFormsRow.holds Try.pinned (OpenSpec.ofChange keyFormsSpec)

/-- ITS FALSE NEIGHBOUR: 'it returns false'. Refute it at one input. -/
def keyFormsWrong : ChangeSpec := { name := "keyForms", fn := fun _ => fun
  | [d1, d2] => { results := [.lit (.bool false)], args := [d1, d2] }
  | _ => none }
def KeyFormsWrongFalsely : Prop := keyFormsRow.holds Try.pinned (OpenSpec.ofChange keyFormsWrong)

/-- 'cryostatlaw16.KeyRows': WHATEVER THE INPUT: true; the input reads as it did. -/
def keyRowsSpec : ChangeSpec := { name := "keyRows", fn := fun _ => fun
  | [d1, d2, d3, d4] => { results := [.lit (.bool true)], args := [d1, d2, d3, d4] }
  | _ => none }
def keyRowsRow : OpenClaim := { program := "ytekgaoakijbmaaa", sum := "855368679ec230fdb9d629e34237372958ef01d3e6f575c9a005d6c6d7707430", func := "cryostat/cryostatlaw16.KeyRows", spec := "keyRows", apart := false }
def KeyRowsSaid : Prop := keyRowsRow.holds Try.pinned (OpenSpec.ofChange keyRowsSpec)

/-- ITS FALSE NEIGHBOUR: 'it returns false'. Refute it at one input. -/
def keyRowsWrong : ChangeSpec := { name := "keyRows", fn := fun _ => fun
  | [d1, d2, d3, d4] => { results := [.lit (.bool false)], args := [d1, d2, d3, d4] }
  | _ => none }
def KeyRowsWrongFalsely : Prop := keyRowsRow.holds Try.pinned (OpenSpec.ofChange keyRowsWrong)

/-- 'cryostatlaw16.KeyNumbers': WHATEVER THE INPUT: true; the input reads as it did. -/
def keyNumbersSpec : ChangeSpec := { name := "keyNumbers", fn := fun _ => fun
  | [d1, d2, d3] => { results := [.lit (.bool true)], args := [d1, d2, d3] }
  | _ => none }
def keyNumbersRow : OpenClaim := { program := "ytekgaoakijbmaaa", sum := "855368679ec230fdb9d629e34237372958ef01d3e6f575c9a005d6c6d7707430", func := "cryostat/cryostatlaw16.KeyNumbers", spec := "keyNumbers", apart := false }
def KeyNumbersSaid : Prop := keyNumbersRow.holds Try.pinned (OpenSpec.ofChange keyNumbersSpec)

/-- ITS FALSE NEIGHBOUR: 'it returns false'. Refute it at one input. -/
def keyNumbersWrong : ChangeSpec := { name := "keyNumbers", fn := fun _ => fun
  | [d1, d2, d3] => { results := [.lit (.bool false)], args := [d1, d2, d3] }
  | _ => none }
def KeyNumbersWrongFalsely : Prop := keyNumbersRow.holds Try.pinned (OpenSpec.ofChange keyNumbersWrong)

/- THE SECOND FORM. 'bulk': how many values and letters a reading holds, each counted each time it is reached (what is shared counts as often as it is met; a slice's spare places count too). A statement '..UptoSaid' is the law's where the arguments, and the package variables that the reading takes, are together of bulk at most 1048576: NARROWER than '..Said'. Prove '..Said' where nothing that the law and all that it calls make is longer than what came in: it says more and counts as full. Else prove '..UptoSaid'. A law counts once. -/
mutual
def uptoBulk {H : Type} : DataW H → Nat
  | .lit (.string bytes) => bytes.length + 1
  | .lit _ => 1
  | .nil => 1
  | .ptr d => uptoBulk d + 1
  | .slice elems spare => uptoBulkAll elems + uptoBulkAll spare + 1
  | .agg parts => uptoBulkAll parts + 1
  | .iface _ d => uptoBulk d + 1
  | .map entries => uptoBulkEntries entries + 1
  | .held _ => 1
def uptoBulkAll {H : Type} : List (DataW H) → Nat
  | [] => 0
  | d :: r => uptoBulk d + uptoBulkAll r
def uptoBulkEntries {H : Type} : List (Lit × DataW H) → Nat
  | [] => 0
  | x :: r => uptoBulkEntry x + uptoBulkEntries r
def uptoBulkEntry {H : Type} : Lit × DataW H → Nat
  | (.string bytes, d) => bytes.length + uptoBulk d + 1
  | (_, d) => uptoBulk d + 1
 end
def uptoSmall : (H : Type) → List (DataW H) → Bool := fun _ ds => decide (uptoBulkAll ds ≤ 1048576)
def OpenSpec.upto (s : _root_.Go.ChangeSpec) : _root_.Go.OpenSpec := { _root_.Go.OpenSpec.ofChange s with cond := some uptoSmall }

/-- 'cryostatlaw0.CryostatNames', WHERE WHAT IT READS IS OF BULK AT MOST 1048576: true; the input reads as it did. -/
def cryostatNamesUptoRow : OpenClaim := { program := "ytekgaoakijbmaaa", sum := "855368679ec230fdb9d629e34237372958ef01d3e6f575c9a005d6c6d7707430", func := "cryostat/cryostatlaw0.CryostatNames", spec := "cryostatNames", apart := false, narrowed := true }
def CryostatNamesUptoSaid : Prop := cryostatNamesUptoRow.holds Try.pinned (OpenSpec.upto cryostatNamesSpec)

/-- 'cryostatlaw18.Inodes', WHERE WHAT IT READS IS OF BULK AT MOST 1048576: true; the input reads as it did. -/
def inodesUptoRow : OpenClaim := { program := "ytekgaoakijbmaaa", sum := "855368679ec230fdb9d629e34237372958ef01d3e6f575c9a005d6c6d7707430", func := "cryostat/cryostatlaw18.Inodes", spec := "inodes", apart := false, narrowed := true }
def InodesUptoSaid : Prop := inodesUptoRow.holds Try.pinned (OpenSpec.upto inodesSpec)

/-- 'cryostatlaw18.InodeForms', WHERE WHAT IT READS IS OF BULK AT MOST 1048576: true; the input reads as it did. -/
def inodeFormsUptoRow : OpenClaim := { program := "ytekgaoakijbmaaa", sum := "855368679ec230fdb9d629e34237372958ef01d3e6f575c9a005d6c6d7707430", func := "cryostat/cryostatlaw18.InodeForms", spec := "inodeForms", apart := false, narrowed := true }
def InodeFormsUptoSaid : Prop := inodeFormsUptoRow.holds Try.pinned (OpenSpec.upto inodeFormsSpec)

/-- 'cryostatlaw18.InodeBack', WHERE WHAT IT READS IS OF BULK AT MOST 1048576: true; the input reads as it did. -/
def inodeBackUptoRow : OpenClaim := { program := "ytekgaoakijbmaaa", sum := "855368679ec230fdb9d629e34237372958ef01d3e6f575c9a005d6c6d7707430", func := "cryostat/cryostatlaw18.InodeBack", spec := "inodeBack", apart := false, narrowed := true }
def InodeBackUptoSaid : Prop := inodeBackUptoRow.holds Try.pinned (OpenSpec.upto inodeBackSpec)

/-- 'cryostatlaw17.Snaps', WHERE WHAT IT READS IS OF BULK AT MOST 1048576: true; the input reads as it did. -/
def snapsUptoRow : OpenClaim := { program := "ytekgaoakijbmaaa", sum := "855368679ec230fdb9d629e34237372958ef01d3e6f575c9a005d6c6d7707430", func := "cryostat/cryostatlaw17.Snaps", spec := "snaps", apart := false, narrowed := true }
def SnapsUptoSaid : Prop := snapsUptoRow.holds Try.pinned (OpenSpec.upto snapsSpec)

/-- 'cryostatlaw17.SnapForms', WHERE WHAT IT READS IS OF BULK AT MOST 1048576: true; the input reads as it did. -/
def snapFormsUptoRow : OpenClaim := { program := "ytekgaoakijbmaaa", sum := "855368679ec230fdb9d629e34237372958ef01d3e6f575c9a005d6c6d7707430", func := "cryostat/cryostatlaw17.SnapForms", spec := "snapForms", apart := false, narrowed := true }
def SnapFormsUptoSaid : Prop := snapFormsUptoRow.holds Try.pinned (OpenSpec.upto snapFormsSpec)

/-- 'cryostatlaw17.SnapBack', WHERE WHAT IT READS IS OF BULK AT MOST 1048576: true; the input reads as it did. -/
def snapBackUptoRow : OpenClaim := { program := "ytekgaoakijbmaaa", sum := "855368679ec230fdb9d629e34237372958ef01d3e6f575c9a005d6c6d7707430", func := "cryostat/cryostatlaw17.SnapBack", spec := "snapBack", apart := false, narrowed := true }
def SnapBackUptoSaid : Prop := snapBackUptoRow.holds Try.pinned (OpenSpec.upto snapBackSpec)

/-- 'cryostatlaw16.Keys', WHERE WHAT IT READS IS OF BULK AT MOST 1048576: true; the input reads as it did. -/
def keysUptoRow : OpenClaim := { program := "ytekgaoakijbmaaa", sum := "855368679ec230fdb9d629e34237372958ef01d3e6f575c9a005d6c6d7707430", func := "cryostat/cryostatlaw16.Keys", spec := "keys", apart := false, narrowed := true }
def KeysUptoSaid : Prop := keysUptoRow.holds Try.pinned (OpenSpec.upto keysSpec)

/-- 'cryostatlaw16.KeyForms', WHERE WHAT IT READS IS OF BULK AT MOST 1048576: true; the input reads as it did. -/
def keyFormsUptoRow : OpenClaim := { program := "ytekgaoakijbmaaa", sum := "855368679ec230fdb9d629e34237372958ef01d3e6f575c9a005d6c6d7707430", func := "cryostat/cryostatlaw16.KeyForms", spec := "keyForms", apart := false, narrowed := true }
def KeyFormsUptoSaid : Prop := keyFormsUptoRow.holds Try.pinned (OpenSpec.upto keyFormsSpec)

/-- 'cryostatlaw16.KeyRows', WHERE WHAT IT READS IS OF BULK AT MOST 1048576: true; the input reads as it did. -/
def keyRowsUptoRow : OpenClaim := { program := "ytekgaoakijbmaaa", sum := "855368679ec230fdb9d629e34237372958ef01d3e6f575c9a005d6c6d7707430", func := "cryostat/cryostatlaw16.KeyRows", spec := "keyRows", apart := false, narrowed := true }
def KeyRowsUptoSaid : Prop := keyRowsUptoRow.holds Try.pinned (OpenSpec.upto keyRowsSpec)

/-- 'cryostatlaw16.KeyNumbers', WHERE WHAT IT READS IS OF BULK AT MOST 1048576: true; the input reads as it did. -/
def keyNumbersUptoRow : OpenClaim := { program := "ytekgaoakijbmaaa", sum := "855368679ec230fdb9d629e34237372958ef01d3e6f575c9a005d6c6d7707430", func := "cryostat/cryostatlaw16.KeyNumbers", spec := "keyNumbers", apart := false, narrowed := true }
def KeyNumbersUptoSaid : Prop := keyNumbersUptoRow.holds Try.pinned (OpenSpec.upto keyNumbersSpec)

end Rows
end Go.Proofs.Ytekgaoakijbmaaa
