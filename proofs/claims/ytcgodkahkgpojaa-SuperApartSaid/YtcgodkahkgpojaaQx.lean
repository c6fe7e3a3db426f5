-- Written by a program of this session (a print of the loaded functions); Lean checks it.
import Derived.Test.YtcgodkahkgpojaaQx0
import Derived.Test.YtcgodkahkgpojaaQx1
import Derived.Test.YtcgodkahkgpojaaQx2
import Derived.Test.YtcgodkahkgpojaaQx3
namespace Go.Proofs.Ytcgodkahkgpojaa.Q
open Go.RowKit Go.Proofs.YtcgodkahkgpojaaW.PrintWords Go.Proofs.YtcgodkahkgpojaaW.PrintLast Go.Proofs.YtcgodkahkgpojaaW.PrintMore
attribute [local go_sem] max2_int min2_int max_two min_two max_three min_three max_four min_four   -- for this text's walks alone
set_option linter.unusedVariables false
set_option linter.unusedSimpArgs false

end Go.Proofs.Ytcgodkahkgpojaa.Q
