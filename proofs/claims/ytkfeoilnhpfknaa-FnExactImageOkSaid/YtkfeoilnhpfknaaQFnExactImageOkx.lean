-- Laid by a program of this session (wip/myprint) out of the translation, after print.sh's manner.
import Derived.Test.YtkfeoilnhpfknaaQFnExactImageOkx0
import Derived.Test.YtkfeoilnhpfknaaQFnExactImageOkx1
import Derived.Test.YtkfeoilnhpfknaaQFnExactImageOkx2
import Derived.Test.YtkfeoilnhpfknaaQFnExactImageOkx3
import Derived.Test.YtkfeoilnhpfknaaQFnExactImageOkx4
import Derived.Test.YtkfeoilnhpfknaaQFnExactImageOkx5
import Derived.Test.YtkfeoilnhpfknaaQFnExactImageOkx6
import Derived.Test.YtkfeoilnhpfknaaQFnExactImageOkx7
import Derived.Test.YtkfeoilnhpfknaaQFnExactImageOkx8
import Derived.Test.YtkfeoilnhpfknaaQFnExactImageOkx9
namespace Go.Proofs.Ytkfeoilnhpfknaa.QFnExactImageOk
open Go.RowKit Go.Proofs.YtkfeoilnhpfknaaW.PrintWords Go.Proofs.YtkfeoilnhpfknaaW.PrintLast Go.Proofs.YtkfeoilnhpfknaaW.PrintMore
attribute [local go_sem] max2_int min2_int max_two min_two max_three min_three max_four min_four   -- for this text's walks alone
set_option linter.unusedVariables false
set_option linter.unusedSimpArgs false

end Go.Proofs.Ytkfeoilnhpfknaa.QFnExactImageOk
