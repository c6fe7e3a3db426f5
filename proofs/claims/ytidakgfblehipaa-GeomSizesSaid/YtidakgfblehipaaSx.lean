-- Written by a program of this session (a print of the loaded functions); Lean checks it.
import Derived.Test.YtidakgfblehipaaSx0
import Derived.Test.YtidakgfblehipaaSx1
import Derived.Test.YtidakgfblehipaaSx2
import Derived.Test.YtidakgfblehipaaSx3
import Derived.Test.YtidakgfblehipaaSx4
namespace Go.Proofs.Ytidakgfblehipaa.S
open Go.RowKit Go.Proofs.YtidakgfblehipaaW.PrintWords Go.Proofs.YtidakgfblehipaaW.PrintLast Go.Proofs.YtidakgfblehipaaW.PrintMore
attribute [local go_sem] max2_int min2_int max_two min_two max_three min_three max_four min_four   -- for this text's walks alone
set_option linter.unusedVariables false
set_option linter.unusedSimpArgs false

end Go.Proofs.Ytidakgfblehipaa.S
