-- Written by a program of this session (a print of the loaded functions); Lean checks it.
import Derived.Test.YtidakgfblehipaaQx0
import Derived.Test.YtidakgfblehipaaQx1
import Derived.Test.YtidakgfblehipaaQx2
import Derived.Test.YtidakgfblehipaaQx3
namespace Go.Proofs.Ytidakgfblehipaa.Q
open Go.RowKit Go.Proofs.YtidakgfblehipaaW.PrintWords Go.Proofs.YtidakgfblehipaaW.PrintLast Go.Proofs.YtidakgfblehipaaW.PrintMore
attribute [local go_sem] max2_int min2_int max_two min_two max_three min_three max_four min_four   -- for this text's walks alone
set_option linter.unusedVariables false
set_option linter.unusedSimpArgs false

end Go.Proofs.Ytidakgfblehipaa.Q
