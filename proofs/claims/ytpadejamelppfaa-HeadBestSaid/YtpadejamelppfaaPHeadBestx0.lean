-- printed by a program out of the translation, with contracts of this session's own for what the kit's print refuses
import Derived.Test.YtpadejamelppfaaProg
import Derived.Below
import Derived.Deep.Draws
import Derived.Deep.AppendLies
import Derived.Maps.AppendAt
import Derived.OwnWalk
import Derived.Laws.BytesArg
import Derived.Laws.MakeOwn
import Derived.Laws.OwnMore
import Derived.Deep.OwnRows
import Derived.Tactics
import Derived.Lib.ConvBytes
import Derived.Laws.Slices
import Derived.WalkKit
import Derived.KernelRfl
import Derived.RowKit3
import Derived.Deep.LoopGhost
import Derived.Deep.QuietTactic
import Derived.BigQuiet
import Derived.WideLaws
import Derived.Deep.DeepCutAuto
import Derived.Deep.CutBlock
import Derived.Deep.RegionHeld3
import Derived.Laws.Rows
import Derived.Lib.AppendStr
import Derived.ArgAppend
import Derived.Laws.IdiomCopy
import Derived.OrdersHeld
import Derived.Laws.BitsLemmas
import Derived.RowKit
import Derived.Test.YtpadejamelppfaaByteRow
import Derived.Test.YtpadejamelppfaaShelf
import Derived.Test.YtpadejamelppfaaWWords
import Derived.Test.YtpadejamelppfaaWLast
import Derived.Test.YtpadejamelppfaaWTab
import Derived.Test.YtpadejamelppfaaWFour
import Derived.Test.YtpadejamelppfaaWQPut
import Derived.Test.YtpadejamelppfaaWApart
import Derived.Test.YtpadejamelppfaaWArr
import Derived.Test.YtpadejamelppfaaWZeros
import Derived.Test.YtpadejamelppfaaWFoot
import Derived.Test.YtpadejamelppfaaWKept
import Derived.Test.YtpadejamelppfaaWShare
import Derived.Test.YtpadejamelppfaaWN
import Derived.Test.YtpadejamelppfaaWFootNe
import Derived.Test.YtpadejamelppfaaWAt
import Derived.Test.YtpadejamelppfaaWEqStruct
import Derived.Test.YtpadejamelppfaaWRepsOne
import Derived.Test.YtpadejamelppfaaWInv
import Derived.Test.YtpadejamelppfaaWInvWords
import Derived.Test.YtpadejamelppfaaWGuard
import Derived.Test.YtpadejamelppfaaWNEv
import Derived.Test.YtpadejamelppfaaWMore
namespace Go.Proofs.Ytpadejamelppfaa.PHeadBest
open Go.RowKit Go.Proofs.YtpadejamelppfaaW.PrintWords Go.Proofs.YtpadejamelppfaaW.PrintLast Go.Proofs.YtpadejamelppfaaW.PrintMore
attribute [local go_sem] max2_int min2_int max_two min_two max_three min_three max_four min_four   -- for this text's walks alone
set_option linter.unusedVariables false
set_option linter.unusedSimpArgs false



def errW : Option Int → Value
  | none => .nilIface
  | some c => .iface 0 (.int .i64 c)
theorem errW_none : errW none = .nilIface := rfl
theorem errW_some (c : Int) : errW (some c) = .iface 0 (.int .i64 c) := rfl

theorem info5 : (Try.prog.info? 5).map (fun i => (i.zero, i.size, i.bytes)) = some (some (.int .u8 0), 1, 1) := by kernel_rfl
-- the values' own types

end Go.Proofs.Ytpadejamelppfaa.PHeadBest
