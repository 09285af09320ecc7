-- Laid by a program of this session (wip/myprint) out of the translation, after print.sh's manner.
import Derived.Test.YtjnllkhchjhihaaQFnCopiesx0
import Derived.Test.YtjnllkhchjhihaaQFnCopiesx1
import Derived.Test.YtjnllkhchjhihaaQFnCopiesx2
import Derived.Test.YtjnllkhchjhihaaQFnCopiesx3
import Derived.Test.YtjnllkhchjhihaaQFnCopiesx4
namespace Go.Proofs.Ytjnllkhchjhihaa.QFnCopies
open Go.RowKit Go.Proofs.YtjnllkhchjhihaaW.PrintWords Go.Proofs.YtjnllkhchjhihaaW.PrintLast Go.Proofs.YtjnllkhchjhihaaW.PrintMore
attribute [local go_sem] max2_int min2_int max_two min_two max_three min_three max_four min_four   -- for this text's walks alone
set_option linter.unusedVariables false
set_option linter.unusedSimpArgs false

end Go.Proofs.Ytjnllkhchjhihaa.QFnCopies
