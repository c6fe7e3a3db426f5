-- Written by a program of this session (a print of the loaded functions); Lean checks it.
import Derived.Test.YtidakgfblehipaaProg
import Derived.Below
import Derived.Deep.Draws
import Derived.Deep.AppendLies
import Derived.Maps.AppendAt
import Derived.OwnWalk
import Derived.Laws.BytesArg
import Derived.Laws.MakeOwn
import Derived.Laws.OwnMore
import Derived.Deep.OwnRows
import Derived.Tactics
import Derived.Lib.ConvBytes
import Derived.Laws.Slices
import Derived.WalkKit
import Derived.KernelRfl
import Derived.RowKit3
import Derived.Deep.LoopGhost
import Derived.Deep.QuietTactic
import Derived.BigQuiet
import Derived.WideLaws
import Derived.Deep.DeepCutAuto
import Derived.Deep.CutBlock
import Derived.Deep.RegionHeld3
import Derived.Laws.Rows
import Derived.Lib.AppendStr
import Derived.ArgAppend
import Derived.Laws.IdiomCopy
import Derived.OrdersHeld
import Derived.Laws.BitsLemmas
import Derived.RowKit
import Derived.WalkSpells
import Derived.IntWalk
import Derived.Lib.SlBytesConst
import Derived.Lib.Hide
import Derived.Outline
import Derived.Test.YtidakgfblehipaaMy
import Derived.Test.YtidakgfblehipaaWWords
import Derived.Test.YtidakgfblehipaaWLast
import Derived.Test.YtidakgfblehipaaWTab
import Derived.Test.YtidakgfblehipaaWFour
import Derived.Test.YtidakgfblehipaaWQPut
import Derived.Test.YtidakgfblehipaaWApart
import Derived.Test.YtidakgfblehipaaWArr
import Derived.Test.YtidakgfblehipaaWZeros
import Derived.Test.YtidakgfblehipaaWFoot
import Derived.Test.YtidakgfblehipaaWKept
import Derived.Test.YtidakgfblehipaaWShare
import Derived.Test.YtidakgfblehipaaWN
import Derived.Test.YtidakgfblehipaaWFootNe
import Derived.Test.YtidakgfblehipaaWAt
import Derived.Test.YtidakgfblehipaaWEqStruct
import Derived.Test.YtidakgfblehipaaWRepsOne
import Derived.Test.YtidakgfblehipaaWInv
import Derived.Test.YtidakgfblehipaaWInvWords
import Derived.Test.YtidakgfblehipaaWGuard
import Derived.Test.YtidakgfblehipaaWNEv
import Derived.Test.YtidakgfblehipaaWMore
namespace Go.Proofs.Ytidakgfblehipaa.G
open Go.RowKit Go.Proofs.YtidakgfblehipaaW.PrintWords Go.Proofs.YtidakgfblehipaaW.PrintLast Go.Proofs.YtidakgfblehipaaW.PrintMore
attribute [local go_sem] max2_int min2_int max_two min_two max_three min_three max_four min_four   -- for this text's walks alone
set_option linter.unusedVariables false
set_option linter.unusedSimpArgs false



def errW : Option Int → Value
  | none => .nilIface
  | some c => .iface 0 (.int .i64 c)
theorem errW_none : errW none = .nilIface := rfl
theorem errW_some (c : Int) : errW (some c) = .iface 0 (.int .i64 c) := rfl

-- the values' own types

end Go.Proofs.Ytidakgfblehipaa.G
