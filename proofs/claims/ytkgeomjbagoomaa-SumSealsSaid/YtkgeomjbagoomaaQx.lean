-- Written by a program of this session (a print of the loaded functions); Lean checks it.
import Derived.Test.YtkgeomjbagoomaaQx0
import Derived.Test.YtkgeomjbagoomaaQx1
import Derived.Test.YtkgeomjbagoomaaQx2
import Derived.Test.YtkgeomjbagoomaaQx3
import Derived.Test.YtkgeomjbagoomaaQx4
namespace Go.Proofs.Ytkgeomjbagoomaa.Q
open Go.RowKit Go.Proofs.YtkgeomjbagoomaaW.PrintWords Go.Proofs.YtkgeomjbagoomaaW.PrintLast Go.Proofs.YtkgeomjbagoomaaW.PrintMore
attribute [local go_sem] max2_int min2_int max_two min_two max_three min_three max_four min_four   -- for this text's walks alone
set_option linter.unusedVariables false
set_option linter.unusedSimpArgs false

end Go.Proofs.Ytkgeomjbagoomaa.Q
