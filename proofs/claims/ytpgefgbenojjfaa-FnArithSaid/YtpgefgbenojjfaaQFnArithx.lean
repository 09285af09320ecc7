-- Laid by a program of this session (wip/myprint) out of the translation, after print.sh's manner.
import Derived.Test.YtpgefgbenojjfaaQFnArithx0
import Derived.Test.YtpgefgbenojjfaaQFnArithx1
namespace Go.Proofs.Ytpgefgbenojjfaa.QFnArith
open Go.RowKit Go.Proofs.YtpgefgbenojjfaaW.PrintWords Go.Proofs.YtpgefgbenojjfaaW.PrintLast Go.Proofs.YtpgefgbenojjfaaW.PrintMore
attribute [local go_sem] max2_int min2_int max_two min_two max_three min_three max_four min_four   -- for this text's walks alone
set_option linter.unusedVariables false
set_option linter.unusedSimpArgs false

end Go.Proofs.Ytpgefgbenojjfaa.QFnArith
