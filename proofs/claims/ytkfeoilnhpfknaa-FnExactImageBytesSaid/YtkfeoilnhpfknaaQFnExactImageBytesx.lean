-- Laid by a program of this session (wip/myprint) out of the translation, after print.sh's manner.
import Derived.Test.YtkfeoilnhpfknaaQFnExactImageBytesx0
import Derived.Test.YtkfeoilnhpfknaaQFnExactImageBytesx1
import Derived.Test.YtkfeoilnhpfknaaQFnExactImageBytesx2
import Derived.Test.YtkfeoilnhpfknaaQFnExactImageBytesx3
import Derived.Test.YtkfeoilnhpfknaaQFnExactImageBytesx4
import Derived.Test.YtkfeoilnhpfknaaQFnExactImageBytesx5
import Derived.Test.YtkfeoilnhpfknaaQFnExactImageBytesx6
import Derived.Test.YtkfeoilnhpfknaaQFnExactImageBytesx7
import Derived.Test.YtkfeoilnhpfknaaQFnExactImageBytesx8
import Derived.Test.YtkfeoilnhpfknaaQFnExactImageBytesx9
namespace Go.Proofs.Ytkfeoilnhpfknaa.QFnExactImageBytes
open Go.RowKit Go.Proofs.YtkfeoilnhpfknaaW.PrintWords Go.Proofs.YtkfeoilnhpfknaaW.PrintLast Go.Proofs.YtkfeoilnhpfknaaW.PrintMore
attribute [local go_sem] max2_int min2_int max_two min_two max_three min_three max_four min_four   -- for this text's walks alone
set_option linter.unusedVariables false
set_option linter.unusedSimpArgs false

end Go.Proofs.Ytkfeoilnhpfknaa.QFnExactImageBytes
