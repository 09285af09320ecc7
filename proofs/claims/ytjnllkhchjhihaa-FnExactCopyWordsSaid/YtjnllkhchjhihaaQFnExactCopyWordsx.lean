-- Laid by a program of this session (wip/myprint) out of the translation, after print.sh's manner.
import Derived.Test.YtjnllkhchjhihaaQFnExactCopyWordsx0
import Derived.Test.YtjnllkhchjhihaaQFnExactCopyWordsx1
import Derived.Test.YtjnllkhchjhihaaQFnExactCopyWordsx2
import Derived.Test.YtjnllkhchjhihaaQFnExactCopyWordsx3
import Derived.Test.YtjnllkhchjhihaaQFnExactCopyWordsx4
namespace Go.Proofs.Ytjnllkhchjhihaa.QFnExactCopyWords
open Go.RowKit Go.Proofs.YtjnllkhchjhihaaW.PrintWords Go.Proofs.YtjnllkhchjhihaaW.PrintLast Go.Proofs.YtjnllkhchjhihaaW.PrintMore
attribute [local go_sem] max2_int min2_int max_two min_two max_three min_three max_four min_four   -- for this text's walks alone
set_option linter.unusedVariables false
set_option linter.unusedSimpArgs false

end Go.Proofs.Ytjnllkhchjhihaa.QFnExactCopyWords
