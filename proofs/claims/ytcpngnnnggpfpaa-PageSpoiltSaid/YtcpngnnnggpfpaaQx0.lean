-- Written by a program of this session (a print of the loaded functions); Lean checks it.
import Derived.Test.YtcpngnnnggpfpaaProg
import Derived.Below
import Derived.Deep.Draws
import Derived.Deep.AppendLies
import Derived.Maps.AppendAt
import Derived.OwnWalk
import Derived.Laws.BytesArg
import Derived.Laws.MakeOwn
import Derived.Laws.OwnMore
import Derived.Deep.OwnRows
import Derived.Tactics
import Derived.Lib.ConvBytes
import Derived.Laws.Slices
import Derived.WalkKit
import Derived.KernelRfl
import Derived.RowKit3
import Derived.Deep.LoopGhost
import Derived.Deep.QuietTactic
import Derived.BigQuiet
import Derived.WideLaws
import Derived.Deep.DeepCutAuto
import Derived.Deep.CutBlock
import Derived.Deep.RegionHeld3
import Derived.Laws.Rows
import Derived.Lib.AppendStr
import Derived.ArgAppend
import Derived.Laws.IdiomCopy
import Derived.OrdersHeld
import Derived.Laws.BitsLemmas
import Derived.RowKit
import Derived.WalkSpells
import Derived.IntWalk
import Derived.Lib.SlBytesConst
import Derived.Lib.Hide
import Derived.Outline
import Derived.Test.YtcpngnnnggpfpaaMy
import Derived.Test.YtcpngnnnggpfpaaWWords
import Derived.Test.YtcpngnnnggpfpaaWLast
import Derived.Test.YtcpngnnnggpfpaaWTab
import Derived.Test.YtcpngnnnggpfpaaWFour
import Derived.Test.YtcpngnnnggpfpaaWQPut
import Derived.Test.YtcpngnnnggpfpaaWApart
import Derived.Test.YtcpngnnnggpfpaaWArr
import Derived.Test.YtcpngnnnggpfpaaWZeros
import Derived.Test.YtcpngnnnggpfpaaWFoot
import Derived.Test.YtcpngnnnggpfpaaWKept
import Derived.Test.YtcpngnnnggpfpaaWShare
import Derived.Test.YtcpngnnnggpfpaaWN
import Derived.Test.YtcpngnnnggpfpaaWFootNe
import Derived.Test.YtcpngnnnggpfpaaWAt
import Derived.Test.YtcpngnnnggpfpaaWEqStruct
import Derived.Test.YtcpngnnnggpfpaaWRepsOne
import Derived.Test.YtcpngnnnggpfpaaWInv
import Derived.Test.YtcpngnnnggpfpaaWInvWords
import Derived.Test.YtcpngnnnggpfpaaWGuard
import Derived.Test.YtcpngnnnggpfpaaWNEv
import Derived.Test.YtcpngnnnggpfpaaWMore
namespace Go.Proofs.Ytcpngnnnggpfpaa.Q
open Go.RowKit Go.Proofs.YtcpngnnnggpfpaaW.PrintWords Go.Proofs.YtcpngnnnggpfpaaW.PrintLast Go.Proofs.YtcpngnnnggpfpaaW.PrintMore
attribute [local go_sem] max2_int min2_int max_two min_two max_three min_three max_four min_four   -- for this text's walks alone
set_option linter.unusedVariables false
set_option linter.unusedSimpArgs false



def errW : Option Int → Value
  | none => .nilIface
  | some c => .iface 0 (.int .i64 c)
theorem errW_none : errW none = .nilIface := rfl
theorem errW_some (c : Int) : errW (some c) = .iface 0 (.int .i64 c) := rfl

-- the values' own types

end Go.Proofs.Ytcpngnnnggpfpaa.Q
