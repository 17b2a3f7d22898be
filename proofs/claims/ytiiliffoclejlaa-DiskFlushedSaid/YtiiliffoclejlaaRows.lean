/-
  No cell of these rows narrows 'for every input' (looked for: loops, veiled, ifaces, maps, wideKeys, modest, calm, conditions, laid).
  DERIVED. THE GIVEN ROWS OF THIS SEAT. 19 by the template 'for every input the law returns true; each argument reads behind the call as it read before'; 0 by the template 'total and deterministic' (their statements: YtiiliffoclejlaaTotals.lean).
  GIVEN WITH THE SEED: the statements are not yours to turn. If you find one false, say at which input.
  Laid BY PROGRAM, IN A SANDBOX (cutbox-rows.mjs): the forced cells as the released guide's own fill.sh prints them over the translation 5bf59485067b4eaf… (all of the seat's roots in one cut). By AI agents, Wed Nov 11 2026. No macro, syntax, notation, axiom, sorry.
-/
import Derived.Test.YtiiliffoclejlaaChecked
import GoSem.Claim
import GoSem.ClaimJoined
import GoSem.ClaimMapViews
import Derived.JoinedTies
import Derived.KernelRfl
namespace Go.Proofs.Ytiiliffoclejlaa
/- THE CELL 'sum', in the pinned program and in every row, IS THE sha256 OF THE DUMP (.gsa) THAT YtiiliffoclejlaaProg.lean LOADS. Nothing in Lean hashes anything: it is a label: what it is worth is what the hold of that sum in a sandbox is worth. -/
noncomputable def Try.pinned : Pinned := { name := "ytiiliffoclejlaa", sum := "5bf59485067b4eaffda43918e3889d0295b1a1ca87b051d6b4d624adac6434bb", checked := Try.checked }
namespace Rows
def none {H : Type} : Left H := { results := [], args := [] }

/-- 'cryostatlaw2.Disks': WHATEVER THE INPUT: true; the input reads as it did. -/
def disksSpec : ChangeSpec := { name := "disks", fn := fun _ => fun
  | [d1, d2, d3, d4, d5, d6] => { results := [.lit (.bool true)], args := [d1, d2, d3, d4, d5, d6] }
  | _ => none }
def disksRow : OpenClaim := { program := "ytiiliffoclejlaa", sum := "5bf59485067b4eaffda43918e3889d0295b1a1ca87b051d6b4d624adac6434bb", func := "cryostat/cryostatlaw2.Disks", spec := "disks", inPlace := ["internal/abi.NoEscape", "internal/bytealg.MakeNoZero"], unfollowed := true, recurses := true, apart := false }
def DisksSaid : Prop := disksRow.holds Try.pinned (OpenSpec.ofChange disksSpec)

/-- ITS FALSE NEIGHBOUR: 'it returns false'. Refute it at one input. -/
def disksWrong : ChangeSpec := { name := "disks", fn := fun _ => fun
  | [d1, d2, d3, d4, d5, d6] => { results := [.lit (.bool false)], args := [d1, d2, d3, d4, d5, d6] }
  | _ => none }
def DisksWrongFalsely : Prop := disksRow.holds Try.pinned (OpenSpec.ofChange disksWrong)

/-- 'cryostatlaw2.DiskFlushed': WHATEVER THE INPUT: true; the input reads as it did. -/
def diskFlushedSpec : ChangeSpec := { name := "diskFlushed", fn := fun _ => fun
  | [d1, d2, d3] => { results := [.lit (.bool true)], args := [d1, d2, d3] }
  | _ => none }
def diskFlushedRow : OpenClaim := { program := "ytiiliffoclejlaa", sum := "5bf59485067b4eaffda43918e3889d0295b1a1ca87b051d6b4d624adac6434bb", func := "cryostat/cryostatlaw2.DiskFlushed", spec := "diskFlushed", inPlace := ["internal/abi.NoEscape", "internal/bytealg.MakeNoZero"], unfollowed := true, recurses := true, apart := false }
def DiskFlushedSaid : Prop := diskFlushedRow.holds Try.pinned (OpenSpec.ofChange diskFlushedSpec)

/-- ITS FALSE NEIGHBOUR: 'it returns false'. Refute it at one input. -/
def diskFlushedWrong : ChangeSpec := { name := "diskFlushed", fn := fun _ => fun
  | [d1, d2, d3] => { results := [.lit (.bool false)], args := [d1, d2, d3] }
  | _ => none }
def DiskFlushedWrongFalsely : Prop := diskFlushedRow.holds Try.pinned (OpenSpec.ofChange diskFlushedWrong)

/-- 'cryostatlaw2.DiskForms': WHATEVER THE INPUT: true; the input reads as it did. -/
def diskFormsSpec : ChangeSpec := { name := "diskForms", fn := fun _ => fun
  | [d1, d2] => { results := [.lit (.bool true)], args := [d1, d2] }
  | _ => none }
def diskFormsRow : OpenClaim := { program := "ytiiliffoclejlaa", sum := "5bf59485067b4eaffda43918e3889d0295b1a1ca87b051d6b4d624adac6434bb", func := "cryostat/cryostatlaw2.DiskForms", spec := "diskForms", inPlace := ["internal/abi.NoEscape", "internal/bytealg.MakeNoZero"], unfollowed := true, recurses := true, apart := false }
def DiskFormsSaid : Prop := diskFormsRow.holds Try.pinned (OpenSpec.ofChange diskFormsSpec)

/-- ITS FALSE NEIGHBOUR: 'it returns false'. Refute it at one input. -/
def diskFormsWrong : ChangeSpec := { name := "diskForms", fn := fun _ => fun
  | [d1, d2] => { results := [.lit (.bool false)], args := [d1, d2] }
  | _ => none }
def DiskFormsWrongFalsely : Prop := diskFormsRow.holds Try.pinned (OpenSpec.ofChange diskFormsWrong)

/-- 'cryostatlaw2.DiskLast': WHATEVER THE INPUT: true; the input reads as it did. -/
def diskLastSpec : ChangeSpec := { name := "diskLast", fn := fun _ => fun
  | [d1, d2] => { results := [.lit (.bool true)], args := [d1, d2] }
  | _ => none }
def diskLastRow : OpenClaim := { program := "ytiiliffoclejlaa", sum := "5bf59485067b4eaffda43918e3889d0295b1a1ca87b051d6b4d624adac6434bb", func := "cryostat/cryostatlaw2.DiskLast", spec := "diskLast", inPlace := ["internal/abi.NoEscape", "internal/bytealg.MakeNoZero"], unfollowed := true, recurses := true, apart := false }
def DiskLastSaid : Prop := diskLastRow.holds Try.pinned (OpenSpec.ofChange diskLastSpec)

/-- ITS FALSE NEIGHBOUR: 'it returns false'. Refute it at one input. -/
def diskLastWrong : ChangeSpec := { name := "diskLast", fn := fun _ => fun
  | [d1, d2] => { results := [.lit (.bool false)], args := [d1, d2] }
  | _ => none }
def DiskLastWrongFalsely : Prop := diskLastRow.holds Try.pinned (OpenSpec.ofChange diskLastWrong)

/-- 'cryostatlaw2.DiskTorn': WHATEVER THE INPUT: true; the input reads as it did. -/
def diskTornSpec : ChangeSpec := { name := "diskTorn", fn := fun _ => fun
  | [d1, d2, d3] => { results := [.lit (.bool true)], args := [d1, d2, d3] }
  | _ => none }
def diskTornRow : OpenClaim := { program := "ytiiliffoclejlaa", sum := "5bf59485067b4eaffda43918e3889d0295b1a1ca87b051d6b4d624adac6434bb", func := "cryostat/cryostatlaw2.DiskTorn", spec := "diskTorn", inPlace := ["internal/abi.NoEscape", "internal/bytealg.MakeNoZero"], unfollowed := true, recurses := true, apart := false }
def DiskTornSaid : Prop := diskTornRow.holds Try.pinned (OpenSpec.ofChange diskTornSpec)

/-- ITS FALSE NEIGHBOUR: 'it returns false'. Refute it at one input. -/
def diskTornWrong : ChangeSpec := { name := "diskTorn", fn := fun _ => fun
  | [d1, d2, d3] => { results := [.lit (.bool false)], args := [d1, d2, d3] }
  | _ => none }
def DiskTornWrongFalsely : Prop := diskTornRow.holds Try.pinned (OpenSpec.ofChange diskTornWrong)

/-- 'cryostatlaw2.DiskSubset': WHATEVER THE INPUT: true; the input reads as it did. -/
def diskSubsetSpec : ChangeSpec := { name := "diskSubset", fn := fun _ => fun
  | [d1, d2] => { results := [.lit (.bool true)], args := [d1, d2] }
  | _ => none }
def diskSubsetRow : OpenClaim := { program := "ytiiliffoclejlaa", sum := "5bf59485067b4eaffda43918e3889d0295b1a1ca87b051d6b4d624adac6434bb", func := "cryostat/cryostatlaw2.DiskSubset", spec := "diskSubset", inPlace := ["internal/abi.NoEscape", "internal/bytealg.MakeNoZero"], unfollowed := true, recurses := true, apart := false }
def DiskSubsetSaid : Prop := diskSubsetRow.holds Try.pinned (OpenSpec.ofChange diskSubsetSpec)

/-- ITS FALSE NEIGHBOUR: 'it returns false'. Refute it at one input. -/
def diskSubsetWrong : ChangeSpec := { name := "diskSubset", fn := fun _ => fun
  | [d1, d2] => { results := [.lit (.bool false)], args := [d1, d2] }
  | _ => none }
def DiskSubsetWrongFalsely : Prop := diskSubsetRow.holds Try.pinned (OpenSpec.ofChange diskSubsetWrong)

/-- 'cryostatlaw8.Plans': WHATEVER THE INPUT: true; the input reads as it did. -/
def plansSpec : ChangeSpec := { name := "plans", fn := fun _ => fun
  | [d1, d2] => { results := [.lit (.bool true)], args := [d1, d2] }
  | _ => none }
def plansRow : OpenClaim := { program := "ytiiliffoclejlaa", sum := "5bf59485067b4eaffda43918e3889d0295b1a1ca87b051d6b4d624adac6434bb", func := "cryostat/cryostatlaw8.Plans", spec := "plans", inPlace := ["internal/abi.NoEscape", "internal/bytealg.MakeNoZero"], unfollowed := true, recurses := true, apart := false }
def PlansSaid : Prop := plansRow.holds Try.pinned (OpenSpec.ofChange plansSpec)

/-- ITS FALSE NEIGHBOUR: 'it returns false'. Refute it at one input. -/
def plansWrong : ChangeSpec := { name := "plans", fn := fun _ => fun
  | [d1, d2] => { results := [.lit (.bool false)], args := [d1, d2] }
  | _ => none }
def PlansWrongFalsely : Prop := plansRow.holds Try.pinned (OpenSpec.ofChange plansWrong)

/-- 'cryostatlaw8.PlanCrash': WHATEVER THE INPUT: true; the input reads as it did. -/
def planCrashSpec : ChangeSpec := { name := "planCrash", fn := fun _ => fun
  | [d1, d2, d3, d4, d5, d6, d7] => { results := [.lit (.bool true)], args := [d1, d2, d3, d4, d5, d6, d7] }
  | _ => none }
def planCrashRow : OpenClaim := { program := "ytiiliffoclejlaa", sum := "5bf59485067b4eaffda43918e3889d0295b1a1ca87b051d6b4d624adac6434bb", func := "cryostat/cryostatlaw8.PlanCrash", spec := "planCrash", inPlace := ["internal/abi.NoEscape", "internal/bytealg.MakeNoZero"], unfollowed := true, recurses := true, apart := false }
def PlanCrashSaid : Prop := planCrashRow.holds Try.pinned (OpenSpec.ofChange planCrashSpec)

/-- ITS FALSE NEIGHBOUR: 'it returns false'. Refute it at one input. -/
def planCrashWrong : ChangeSpec := { name := "planCrash", fn := fun _ => fun
  | [d1, d2, d3, d4, d5, d6, d7] => { results := [.lit (.bool false)], args := [d1, d2, d3, d4, d5, d6, d7] }
  | _ => none }
def PlanCrashWrongFalsely : Prop := planCrashRow.holds Try.pinned (OpenSpec.ofChange planCrashWrong)

/-- 'cryostatlaw8.PlanForms': WHATEVER THE INPUT: true; the input reads as it did. -/
def planFormsSpec : ChangeSpec := { name := "planForms", fn := fun _ => fun
  | [d1, d2] => { results := [.lit (.bool true)], args := [d1, d2] }
  | _ => none }
def planFormsRow : OpenClaim := { program := "ytiiliffoclejlaa", sum := "5bf59485067b4eaffda43918e3889d0295b1a1ca87b051d6b4d624adac6434bb", func := "cryostat/cryostatlaw8.PlanForms", spec := "planForms", inPlace := ["internal/abi.NoEscape", "internal/bytealg.MakeNoZero"], unfollowed := true, recurses := true, apart := false }
def PlanFormsSaid : Prop := planFormsRow.holds Try.pinned (OpenSpec.ofChange planFormsSpec)

/-- ITS FALSE NEIGHBOUR: 'it returns false'. Refute it at one input. -/
def planFormsWrong : ChangeSpec := { name := "planForms", fn := fun _ => fun
  | [d1, d2] => { results := [.lit (.bool false)], args := [d1, d2] }
  | _ => none }
def PlanFormsWrongFalsely : Prop := planFormsRow.holds Try.pinned (OpenSpec.ofChange planFormsWrong)

/-- 'cryostatlaw8.PlanFresh': WHATEVER THE INPUT: true; the input reads as it did. -/
def planFreshSpec : ChangeSpec := { name := "planFresh", fn := fun _ => fun
  | [d1, d2, d3, d4, d5] => { results := [.lit (.bool true)], args := [d1, d2, d3, d4, d5] }
  | _ => none }
def planFreshRow : OpenClaim := { program := "ytiiliffoclejlaa", sum := "5bf59485067b4eaffda43918e3889d0295b1a1ca87b051d6b4d624adac6434bb", func := "cryostat/cryostatlaw8.PlanFresh", spec := "planFresh", inPlace := ["internal/abi.NoEscape", "internal/bytealg.MakeNoZero"], unfollowed := true, recurses := true, apart := false }
def PlanFreshSaid : Prop := planFreshRow.holds Try.pinned (OpenSpec.ofChange planFreshSpec)

/-- ITS FALSE NEIGHBOUR: 'it returns false'. Refute it at one input. -/
def planFreshWrong : ChangeSpec := { name := "planFresh", fn := fun _ => fun
  | [d1, d2, d3, d4, d5] => { results := [.lit (.bool false)], args := [d1, d2, d3, d4, d5] }
  | _ => none }
def PlanFreshWrongFalsely : Prop := planFreshRow.holds Try.pinned (OpenSpec.ofChange planFreshWrong)

/-- 'cryostatlaw8.PlanAgain': WHATEVER THE INPUT: true; the input reads as it did. -/
def planAgainSpec : ChangeSpec := { name := "planAgain", fn := fun _ => fun
  | [d1, d2, d3, d4, d5] => { results := [.lit (.bool true)], args := [d1, d2, d3, d4, d5] }
  | _ => none }
def planAgainRow : OpenClaim := { program := "ytiiliffoclejlaa", sum := "5bf59485067b4eaffda43918e3889d0295b1a1ca87b051d6b4d624adac6434bb", func := "cryostat/cryostatlaw8.PlanAgain", spec := "planAgain", inPlace := ["internal/abi.NoEscape", "internal/bytealg.MakeNoZero"], unfollowed := true, recurses := true, apart := false }
def PlanAgainSaid : Prop := planAgainRow.holds Try.pinned (OpenSpec.ofChange planAgainSpec)

/-- ITS FALSE NEIGHBOUR: 'it returns false'. Refute it at one input. -/
def planAgainWrong : ChangeSpec := { name := "planAgain", fn := fun _ => fun
  | [d1, d2, d3, d4, d5] => { results := [.lit (.bool false)], args := [d1, d2, d3, d4, d5] }
  | _ => none }
def PlanAgainWrongFalsely : Prop := planAgainRow.holds Try.pinned (OpenSpec.ofChange planAgainWrong)

/-- 'cryostatlaw8.PlanRow': WHATEVER THE INPUT: true; the input reads as it did. -/
def planRowSpec : ChangeSpec := { name := "planRow", fn := fun _ => fun
  | [d1, d2] => { results := [.lit (.bool true)], args := [d1, d2] }
  | _ => none }
def planRowRow : OpenClaim := { program := "ytiiliffoclejlaa", sum := "5bf59485067b4eaffda43918e3889d0295b1a1ca87b051d6b4d624adac6434bb", func := "cryostat/cryostatlaw8.PlanRow", spec := "planRow", inPlace := ["internal/abi.NoEscape", "internal/bytealg.MakeNoZero"], unfollowed := true, recurses := true, apart := false }
def PlanRowSaid : Prop := planRowRow.holds Try.pinned (OpenSpec.ofChange planRowSpec)

/-- ITS FALSE NEIGHBOUR: 'it returns false'. Refute it at one input. -/
def planRowWrong : ChangeSpec := { name := "planRow", fn := fun _ => fun
  | [d1, d2] => { results := [.lit (.bool false)], args := [d1, d2] }
  | _ => none }
def PlanRowWrongFalsely : Prop := planRowRow.holds Try.pinned (OpenSpec.ofChange planRowWrong)

/-- 'cryostatlaw7.Opens': WHATEVER THE INPUT: true; the input reads as it did. -/
def opensSpec : ChangeSpec := { name := "opens", fn := fun _ => fun
  | [d] => { results := [.lit (.bool true)], args := [d] }
  | _ => none }
def opensRow : OpenClaim := { program := "ytiiliffoclejlaa", sum := "5bf59485067b4eaffda43918e3889d0295b1a1ca87b051d6b4d624adac6434bb", func := "cryostat/cryostatlaw7.Opens", spec := "opens", inPlace := ["internal/abi.NoEscape", "internal/bytealg.MakeNoZero"], unfollowed := true, recurses := true, apart := false }
def OpensSaid : Prop := opensRow.holds Try.pinned (OpenSpec.ofChange opensSpec)

/-- ITS FALSE NEIGHBOUR: 'it returns false'. Refute it at one input. -/
def opensWrong : ChangeSpec := { name := "opens", fn := fun _ => fun
  | [d] => { results := [.lit (.bool false)], args := [d] }
  | _ => none }
def OpensWrongFalsely : Prop := opensRow.holds Try.pinned (OpenSpec.ofChange opensWrong)

/-- 'cryostatlaw7.OpenSame': WHATEVER THE INPUT: true; the input reads as it did. -/
def openSameSpec : ChangeSpec := { name := "openSame", fn := fun _ => fun
  | [d] => { results := [.lit (.bool true)], args := [d] }
  | _ => none }
def openSameRow : OpenClaim := { program := "ytiiliffoclejlaa", sum := "5bf59485067b4eaffda43918e3889d0295b1a1ca87b051d6b4d624adac6434bb", func := "cryostat/cryostatlaw7.OpenSame", spec := "openSame", inPlace := ["internal/abi.NoEscape", "internal/bytealg.MakeNoZero"], unfollowed := true, recurses := true, apart := false }
def OpenSameSaid : Prop := openSameRow.holds Try.pinned (OpenSpec.ofChange openSameSpec)

/-- ITS FALSE NEIGHBOUR: 'it returns false'. Refute it at one input. -/
def openSameWrong : ChangeSpec := { name := "openSame", fn := fun _ => fun
  | [d] => { results := [.lit (.bool false)], args := [d] }
  | _ => none }
def OpenSameWrongFalsely : Prop := openSameRow.holds Try.pinned (OpenSpec.ofChange openSameWrong)

/-- 'cryostatlaw7.OpenRows': WHATEVER THE INPUT: true; the input reads as it did. -/
def openRowsSpec : ChangeSpec := { name := "openRows", fn := fun _ => fun
  | [d1, d2, d3] => { results := [.lit (.bool true)], args := [d1, d2, d3] }
  | _ => none }
def openRowsRow : OpenClaim := { program := "ytiiliffoclejlaa", sum := "5bf59485067b4eaffda43918e3889d0295b1a1ca87b051d6b4d624adac6434bb", func := "cryostat/cryostatlaw7.OpenRows", spec := "openRows", inPlace := ["internal/abi.NoEscape", "internal/bytealg.MakeNoZero"], unfollowed := true, recurses := true, apart := false }
def OpenRowsSaid : Prop := openRowsRow.holds Try.pinned (OpenSpec.ofChange openRowsSpec)

/-- ITS FALSE NEIGHBOUR: 'it returns false'. Refute it at one input. -/
def openRowsWrong : ChangeSpec := { name := "openRows", fn := fun _ => fun
  | [d1, d2, d3] => { results := [.lit (.bool false)], args := [d1, d2, d3] }
  | _ => none }
def OpenRowsWrongFalsely : Prop := openRowsRow.holds Try.pinned (OpenSpec.ofChange openRowsWrong)

/-- 'cryostatlaw7.OpenHead': WHATEVER THE INPUT: true; the input reads as it did. -/
def openHeadSpec : ChangeSpec := { name := "openHead", fn := fun _ => fun
  | [d1, d2] => { results := [.lit (.bool true)], args := [d1, d2] }
  | _ => none }
def openHeadRow : OpenClaim := { program := "ytiiliffoclejlaa", sum := "5bf59485067b4eaffda43918e3889d0295b1a1ca87b051d6b4d624adac6434bb", func := "cryostat/cryostatlaw7.OpenHead", spec := "openHead", inPlace := ["internal/abi.NoEscape", "internal/bytealg.MakeNoZero"], unfollowed := true, recurses := true, apart := false }
def OpenHeadSaid : Prop := openHeadRow.holds Try.pinned (OpenSpec.ofChange openHeadSpec)

/-- ITS FALSE NEIGHBOUR: 'it returns false'. Refute it at one input. -/
def openHeadWrong : ChangeSpec := { name := "openHead", fn := fun _ => fun
  | [d1, d2] => { results := [.lit (.bool false)], args := [d1, d2] }
  | _ => none }
def OpenHeadWrongFalsely : Prop := openHeadRow.holds Try.pinned (OpenSpec.ofChange openHeadWrong)

/-- 'cryostatlaw7.OpenTorn': WHATEVER THE INPUT: true; the input reads as it did. -/
def openTornSpec : ChangeSpec := { name := "openTorn", fn := fun _ => fun
  | [d1, d2, d3] => { results := [.lit (.bool true)], args := [d1, d2, d3] }
  | _ => none }
def openTornRow : OpenClaim := { program := "ytiiliffoclejlaa", sum := "5bf59485067b4eaffda43918e3889d0295b1a1ca87b051d6b4d624adac6434bb", func := "cryostat/cryostatlaw7.OpenTorn", spec := "openTorn", inPlace := ["internal/abi.NoEscape", "internal/bytealg.MakeNoZero"], unfollowed := true, recurses := true, apart := false }
def OpenTornSaid : Prop := openTornRow.holds Try.pinned (OpenSpec.ofChange openTornSpec)

/-- ITS FALSE NEIGHBOUR: 'it returns false'. Refute it at one input. -/
def openTornWrong : ChangeSpec := { name := "openTorn", fn := fun _ => fun
  | [d1, d2, d3] => { results := [.lit (.bool false)], args := [d1, d2, d3] }
  | _ => none }
def OpenTornWrongFalsely : Prop := openTornRow.holds Try.pinned (OpenSpec.ofChange openTornWrong)

/-- 'cryostatlaw1.PairForms': WHATEVER THE INPUT: true; the input reads as it did. -/
def pairFormsSpec : ChangeSpec := { name := "pairForms", fn := fun _ => fun
  | [d1, d2, d3, d4] => { results := [.lit (.bool true)], args := [d1, d2, d3, d4] }
  | _ => none }
def pairFormsRow : OpenClaim := { program := "ytiiliffoclejlaa", sum := "5bf59485067b4eaffda43918e3889d0295b1a1ca87b051d6b4d624adac6434bb", func := "cryostat/cryostatlaw1.PairForms", spec := "pairForms", apart := false }
def PairFormsSaid : Prop := pairFormsRow.holds Try.pinned (OpenSpec.ofChange pairFormsSpec)

/-- ITS FALSE NEIGHBOUR: 'it returns false'. Refute it at one input. -/
def pairFormsWrong : ChangeSpec := { name := "pairForms", fn := fun _ => fun
  | [d1, d2, d3, d4] => { results := [.lit (.bool false)], args := [d1, d2, d3, d4] }
  | _ => none }
def PairFormsWrongFalsely : Prop := pairFormsRow.holds Try.pinned (OpenSpec.ofChange pairFormsWrong)

/-- 'cryostatlaw5.HeadRow': WHATEVER THE INPUT: true; the input reads as it did. -/
def headRowSpec : ChangeSpec := { name := "headRow", fn := fun _ => fun
  | [d1, d2, d3] => { results := [.lit (.bool true)], args := [d1, d2, d3] }
  | _ => none }
def headRowRow : OpenClaim := { program := "ytiiliffoclejlaa", sum := "5bf59485067b4eaffda43918e3889d0295b1a1ca87b051d6b4d624adac6434bb", func := "cryostat/cryostatlaw5.HeadRow", spec := "headRow", inPlace := ["internal/abi.NoEscape", "internal/bytealg.MakeNoZero"], apart := false }
def HeadRowSaid : Prop := headRowRow.holds Try.pinned (OpenSpec.ofChange headRowSpec)

/-- ITS FALSE NEIGHBOUR: 'it returns false'. Refute it at one input. -/
def headRowWrong : ChangeSpec := { name := "headRow", fn := fun _ => fun
  | [d1, d2, d3] => { results := [.lit (.bool false)], args := [d1, d2, d3] }
  | _ => none }
def HeadRowWrongFalsely : Prop := headRowRow.holds Try.pinned (OpenSpec.ofChange headRowWrong)

/- THE SECOND FORM. 'bulk': how many values and letters a reading holds, each counted each time it is reached (what is shared counts as often as it is met; a slice's spare places count too). A statement '..UptoSaid' is the law's where the arguments, and the package variables that the reading takes, are together of bulk at most 1048576: NARROWER than '..Said'. Prove '..Said' where nothing that the law and all that it calls make is longer than what came in: it says more and counts as full. Else prove '..UptoSaid'. A law counts once. -/
mutual
def uptoBulk {H : Type} : DataW H → Nat
  | .lit (.string bytes) => bytes.length + 1
  | .lit _ => 1
  | .nil => 1
  | .ptr d => uptoBulk d + 1
  | .slice elems spare => uptoBulkAll elems + uptoBulkAll spare + 1
  | .agg parts => uptoBulkAll parts + 1
  | .iface _ d => uptoBulk d + 1
  | .map entries => uptoBulkEntries entries + 1
  | .held _ => 1
def uptoBulkAll {H : Type} : List (DataW H) → Nat
  | [] => 0
  | d :: r => uptoBulk d + uptoBulkAll r
def uptoBulkEntries {H : Type} : List (Lit × DataW H) → Nat
  | [] => 0
  | x :: r => uptoBulkEntry x + uptoBulkEntries r
def uptoBulkEntry {H : Type} : Lit × DataW H → Nat
  | (.string bytes, d) => bytes.length + uptoBulk d + 1
  | (_, d) => uptoBulk d + 1
 end
def uptoSmall : (H : Type) → List (DataW H) → Bool := fun _ ds => decide (uptoBulkAll ds ≤ 1048576)
def OpenSpec.upto (s : _root_.Go.ChangeSpec) : _root_.Go.OpenSpec := { _root_.Go.OpenSpec.ofChange s with cond := some uptoSmall }

/-- 'cryostatlaw2.Disks', WHERE WHAT IT READS IS OF BULK AT MOST 1048576: true; the input reads as it did. -/
def disksUptoRow : OpenClaim := { program := "ytiiliffoclejlaa", sum := "5bf59485067b4eaffda43918e3889d0295b1a1ca87b051d6b4d624adac6434bb", func := "cryostat/cryostatlaw2.Disks", spec := "disks", inPlace := ["internal/abi.NoEscape", "internal/bytealg.MakeNoZero"], unfollowed := true, recurses := true, apart := false, narrowed := true }
def DisksUptoSaid : Prop := disksUptoRow.holds Try.pinned (OpenSpec.upto disksSpec)

/-- 'cryostatlaw2.DiskFlushed', WHERE WHAT IT READS IS OF BULK AT MOST 1048576: true; the input reads as it did. -/
def diskFlushedUptoRow : OpenClaim := { program := "ytiiliffoclejlaa", sum := "5bf59485067b4eaffda43918e3889d0295b1a1ca87b051d6b4d624adac6434bb", func := "cryostat/cryostatlaw2.DiskFlushed", spec := "diskFlushed", inPlace := ["internal/abi.NoEscape", "internal/bytealg.MakeNoZero"], unfollowed := true, recurses := true, apart := false, narrowed := true }
def DiskFlushedUptoSaid : Prop := diskFlushedUptoRow.holds Try.pinned (OpenSpec.upto diskFlushedSpec)

/-- 'cryostatlaw2.DiskForms', WHERE WHAT IT READS IS OF BULK AT MOST 1048576: true; the input reads as it did. -/
def diskFormsUptoRow : OpenClaim := { program := "ytiiliffoclejlaa", sum := "5bf59485067b4eaffda43918e3889d0295b1a1ca87b051d6b4d624adac6434bb", func := "cryostat/cryostatlaw2.DiskForms", spec := "diskForms", inPlace := ["internal/abi.NoEscape", "internal/bytealg.MakeNoZero"], unfollowed := true, recurses := true, apart := false, narrowed := true }
def DiskFormsUptoSaid : Prop := diskFormsUptoRow.holds Try.pinned (OpenSpec.upto diskFormsSpec)

/-- 'cryostatlaw2.DiskLast', WHERE WHAT IT READS IS OF BULK AT MOST 1048576: true; the input reads as it did. -/
def diskLastUptoRow : OpenClaim := { program := "ytiiliffoclejlaa", sum := "5bf59485067b4eaffda43918e3889d0295b1a1ca87b051d6b4d624adac6434bb", func := "cryostat/cryostatlaw2.DiskLast", spec := "diskLast", inPlace := ["internal/abi.NoEscape", "internal/bytealg.MakeNoZero"], unfollowed := true, recurses := true, apart := false, narrowed := true }
def DiskLastUptoSaid : Prop := diskLastUptoRow.holds Try.pinned (OpenSpec.upto diskLastSpec)

/-- 'cryostatlaw2.DiskTorn', WHERE WHAT IT READS IS OF BULK AT MOST 1048576: true; the input reads as it did. -/
def diskTornUptoRow : OpenClaim := { program := "ytiiliffoclejlaa", sum := "5bf59485067b4eaffda43918e3889d0295b1a1ca87b051d6b4d624adac6434bb", func := "cryostat/cryostatlaw2.DiskTorn", spec := "diskTorn", inPlace := ["internal/abi.NoEscape", "internal/bytealg.MakeNoZero"], unfollowed := true, recurses := true, apart := false, narrowed := true }
def DiskTornUptoSaid : Prop := diskTornUptoRow.holds Try.pinned (OpenSpec.upto diskTornSpec)

/-- 'cryostatlaw2.DiskSubset', WHERE WHAT IT READS IS OF BULK AT MOST 1048576: true; the input reads as it did. -/
def diskSubsetUptoRow : OpenClaim := { program := "ytiiliffoclejlaa", sum := "5bf59485067b4eaffda43918e3889d0295b1a1ca87b051d6b4d624adac6434bb", func := "cryostat/cryostatlaw2.DiskSubset", spec := "diskSubset", inPlace := ["internal/abi.NoEscape", "internal/bytealg.MakeNoZero"], unfollowed := true, recurses := true, apart := false, narrowed := true }
def DiskSubsetUptoSaid : Prop := diskSubsetUptoRow.holds Try.pinned (OpenSpec.upto diskSubsetSpec)

/-- 'cryostatlaw8.Plans', WHERE WHAT IT READS IS OF BULK AT MOST 1048576: true; the input reads as it did. -/
def plansUptoRow : OpenClaim := { program := "ytiiliffoclejlaa", sum := "5bf59485067b4eaffda43918e3889d0295b1a1ca87b051d6b4d624adac6434bb", func := "cryostat/cryostatlaw8.Plans", spec := "plans", inPlace := ["internal/abi.NoEscape", "internal/bytealg.MakeNoZero"], unfollowed := true, recurses := true, apart := false, narrowed := true }
def PlansUptoSaid : Prop := plansUptoRow.holds Try.pinned (OpenSpec.upto plansSpec)

/-- 'cryostatlaw8.PlanCrash', WHERE WHAT IT READS IS OF BULK AT MOST 1048576: true; the input reads as it did. -/
def planCrashUptoRow : OpenClaim := { program := "ytiiliffoclejlaa", sum := "5bf59485067b4eaffda43918e3889d0295b1a1ca87b051d6b4d624adac6434bb", func := "cryostat/cryostatlaw8.PlanCrash", spec := "planCrash", inPlace := ["internal/abi.NoEscape", "internal/bytealg.MakeNoZero"], unfollowed := true, recurses := true, apart := false, narrowed := true }
def PlanCrashUptoSaid : Prop := planCrashUptoRow.holds Try.pinned (OpenSpec.upto planCrashSpec)

/-- 'cryostatlaw8.PlanForms', WHERE WHAT IT READS IS OF BULK AT MOST 1048576: true; the input reads as it did. -/
def planFormsUptoRow : OpenClaim := { program := "ytiiliffoclejlaa", sum := "5bf59485067b4eaffda43918e3889d0295b1a1ca87b051d6b4d624adac6434bb", func := "cryostat/cryostatlaw8.PlanForms", spec := "planForms", inPlace := ["internal/abi.NoEscape", "internal/bytealg.MakeNoZero"], unfollowed := true, recurses := true, apart := false, narrowed := true }
def PlanFormsUptoSaid : Prop := planFormsUptoRow.holds Try.pinned (OpenSpec.upto planFormsSpec)

/-- 'cryostatlaw8.PlanFresh', WHERE WHAT IT READS IS OF BULK AT MOST 1048576: true; the input reads as it did. -/
def planFreshUptoRow : OpenClaim := { program := "ytiiliffoclejlaa", sum := "5bf59485067b4eaffda43918e3889d0295b1a1ca87b051d6b4d624adac6434bb", func := "cryostat/cryostatlaw8.PlanFresh", spec := "planFresh", inPlace := ["internal/abi.NoEscape", "internal/bytealg.MakeNoZero"], unfollowed := true, recurses := true, apart := false, narrowed := true }
def PlanFreshUptoSaid : Prop := planFreshUptoRow.holds Try.pinned (OpenSpec.upto planFreshSpec)

/-- 'cryostatlaw8.PlanAgain', WHERE WHAT IT READS IS OF BULK AT MOST 1048576: true; the input reads as it did. -/
def planAgainUptoRow : OpenClaim := { program := "ytiiliffoclejlaa", sum := "5bf59485067b4eaffda43918e3889d0295b1a1ca87b051d6b4d624adac6434bb", func := "cryostat/cryostatlaw8.PlanAgain", spec := "planAgain", inPlace := ["internal/abi.NoEscape", "internal/bytealg.MakeNoZero"], unfollowed := true, recurses := true, apart := false, narrowed := true }
def PlanAgainUptoSaid : Prop := planAgainUptoRow.holds Try.pinned (OpenSpec.upto planAgainSpec)

/-- 'cryostatlaw8.PlanRow', WHERE WHAT IT READS IS OF BULK AT MOST 1048576: true; the input reads as it did. -/
def planRowUptoRow : OpenClaim := { program := "ytiiliffoclejlaa", sum := "5bf59485067b4eaffda43918e3889d0295b1a1ca87b051d6b4d624adac6434bb", func := "cryostat/cryostatlaw8.PlanRow", spec := "planRow", inPlace := ["internal/abi.NoEscape", "internal/bytealg.MakeNoZero"], unfollowed := true, recurses := true, apart := false, narrowed := true }
def PlanRowUptoSaid : Prop := planRowUptoRow.holds Try.pinned (OpenSpec.upto planRowSpec)

/-- 'cryostatlaw7.Opens', WHERE WHAT IT READS IS OF BULK AT MOST 1048576: true; the input reads as it did. -/
def opensUptoRow : OpenClaim := { program := "ytiiliffoclejlaa", sum := "5bf59485067b4eaffda43918e3889d0295b1a1ca87b051d6b4d624adac6434bb", func := "cryostat/cryostatlaw7.Opens", spec := "opens", inPlace := ["internal/abi.NoEscape", "internal/bytealg.MakeNoZero"], unfollowed := true, recurses := true, apart := false, narrowed := true }
def OpensUptoSaid : Prop := opensUptoRow.holds Try.pinned (OpenSpec.upto opensSpec)

/-- 'cryostatlaw7.OpenSame', WHERE WHAT IT READS IS OF BULK AT MOST 1048576: true; the input reads as it did. -/
def openSameUptoRow : OpenClaim := { program := "ytiiliffoclejlaa", sum := "5bf59485067b4eaffda43918e3889d0295b1a1ca87b051d6b4d624adac6434bb", func := "cryostat/cryostatlaw7.OpenSame", spec := "openSame", inPlace := ["internal/abi.NoEscape", "internal/bytealg.MakeNoZero"], unfollowed := true, recurses := true, apart := false, narrowed := true }
def OpenSameUptoSaid : Prop := openSameUptoRow.holds Try.pinned (OpenSpec.upto openSameSpec)

/-- 'cryostatlaw7.OpenRows', WHERE WHAT IT READS IS OF BULK AT MOST 1048576: true; the input reads as it did. -/
def openRowsUptoRow : OpenClaim := { program := "ytiiliffoclejlaa", sum := "5bf59485067b4eaffda43918e3889d0295b1a1ca87b051d6b4d624adac6434bb", func := "cryostat/cryostatlaw7.OpenRows", spec := "openRows", inPlace := ["internal/abi.NoEscape", "internal/bytealg.MakeNoZero"], unfollowed := true, recurses := true, apart := false, narrowed := true }
def OpenRowsUptoSaid : Prop := openRowsUptoRow.holds Try.pinned (OpenSpec.upto openRowsSpec)

/-- 'cryostatlaw7.OpenHead', WHERE WHAT IT READS IS OF BULK AT MOST 1048576: true; the input reads as it did. -/
def openHeadUptoRow : OpenClaim := { program := "ytiiliffoclejlaa", sum := "5bf59485067b4eaffda43918e3889d0295b1a1ca87b051d6b4d624adac6434bb", func := "cryostat/cryostatlaw7.OpenHead", spec := "openHead", inPlace := ["internal/abi.NoEscape", "internal/bytealg.MakeNoZero"], unfollowed := true, recurses := true, apart := false, narrowed := true }
def OpenHeadUptoSaid : Prop := openHeadUptoRow.holds Try.pinned (OpenSpec.upto openHeadSpec)

/-- 'cryostatlaw7.OpenTorn', WHERE WHAT IT READS IS OF BULK AT MOST 1048576: true; the input reads as it did. -/
def openTornUptoRow : OpenClaim := { program := "ytiiliffoclejlaa", sum := "5bf59485067b4eaffda43918e3889d0295b1a1ca87b051d6b4d624adac6434bb", func := "cryostat/cryostatlaw7.OpenTorn", spec := "openTorn", inPlace := ["internal/abi.NoEscape", "internal/bytealg.MakeNoZero"], unfollowed := true, recurses := true, apart := false, narrowed := true }
def OpenTornUptoSaid : Prop := openTornUptoRow.holds Try.pinned (OpenSpec.upto openTornSpec)

/-- 'cryostatlaw1.PairForms', WHERE WHAT IT READS IS OF BULK AT MOST 1048576: true; the input reads as it did. -/
def pairFormsUptoRow : OpenClaim := { program := "ytiiliffoclejlaa", sum := "5bf59485067b4eaffda43918e3889d0295b1a1ca87b051d6b4d624adac6434bb", func := "cryostat/cryostatlaw1.PairForms", spec := "pairForms", apart := false, narrowed := true }
def PairFormsUptoSaid : Prop := pairFormsUptoRow.holds Try.pinned (OpenSpec.upto pairFormsSpec)

/-- 'cryostatlaw5.HeadRow', WHERE WHAT IT READS IS OF BULK AT MOST 1048576: true; the input reads as it did. -/
def headRowUptoRow : OpenClaim := { program := "ytiiliffoclejlaa", sum := "5bf59485067b4eaffda43918e3889d0295b1a1ca87b051d6b4d624adac6434bb", func := "cryostat/cryostatlaw5.HeadRow", spec := "headRow", inPlace := ["internal/abi.NoEscape", "internal/bytealg.MakeNoZero"], apart := false, narrowed := true }
def HeadRowUptoSaid : Prop := headRowUptoRow.holds Try.pinned (OpenSpec.upto headRowSpec)

end Rows
end Go.Proofs.Ytiiliffoclejlaa
