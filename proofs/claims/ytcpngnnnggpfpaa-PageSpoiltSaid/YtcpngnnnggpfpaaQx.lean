-- Written by a program of this session (a print of the loaded functions); Lean checks it.
import Derived.Test.YtcpngnnnggpfpaaQx0
import Derived.Test.YtcpngnnnggpfpaaQx1
import Derived.Test.YtcpngnnnggpfpaaQx2
import Derived.Test.YtcpngnnnggpfpaaQx3
namespace Go.Proofs.Ytcpngnnnggpfpaa.Q
open Go.RowKit Go.Proofs.YtcpngnnnggpfpaaW.PrintWords Go.Proofs.YtcpngnnnggpfpaaW.PrintLast Go.Proofs.YtcpngnnnggpfpaaW.PrintMore
attribute [local go_sem] max2_int min2_int max_two min_two max_three min_three max_four min_four   -- for this text's walks alone
set_option linter.unusedVariables false
set_option linter.unusedSimpArgs false

end Go.Proofs.Ytcpngnnnggpfpaa.Q
