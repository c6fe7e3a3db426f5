-- Written by a program of this session (a print of the loaded functions); Lean checks it.
import Derived.Test.YtnahblhjjpjnbaaQx0
import Derived.Test.YtnahblhjjpjnbaaQx1
import Derived.Test.YtnahblhjjpjnbaaQx2
import Derived.Test.YtnahblhjjpjnbaaQx3
namespace Go.Proofs.Ytnahblhjjpjnbaa.Q
open Go.RowKit Go.Proofs.YtnahblhjjpjnbaaW.PrintWords Go.Proofs.YtnahblhjjpjnbaaW.PrintLast Go.Proofs.YtnahblhjjpjnbaaW.PrintMore
attribute [local go_sem] max2_int min2_int max_two min_two max_three min_three max_four min_four   -- for this text's walks alone
set_option linter.unusedVariables false
set_option linter.unusedSimpArgs false

end Go.Proofs.Ytnahblhjjpjnbaa.Q
