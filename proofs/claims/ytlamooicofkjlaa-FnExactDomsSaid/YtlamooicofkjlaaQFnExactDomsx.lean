-- Laid by a program of this session (wip/myprint) out of the translation, after print.sh's manner.
import Derived.Test.YtlamooicofkjlaaQFnExactDomsx0
import Derived.Test.YtlamooicofkjlaaQFnExactDomsx1
import Derived.Test.YtlamooicofkjlaaQFnExactDomsx2
import Derived.Test.YtlamooicofkjlaaQFnExactDomsx3
import Derived.Test.YtlamooicofkjlaaQFnExactDomsx4
import Derived.Test.YtlamooicofkjlaaQFnExactDomsx5
import Derived.Test.YtlamooicofkjlaaQFnExactDomsx6
import Derived.Test.YtlamooicofkjlaaQFnExactDomsx7
import Derived.Test.YtlamooicofkjlaaQFnExactDomsx8
import Derived.Test.YtlamooicofkjlaaQFnExactDomsx9
import Derived.Test.YtlamooicofkjlaaQFnExactDomsx10
namespace Go.Proofs.Ytlamooicofkjlaa.QFnExactDoms
open Go.RowKit Go.Proofs.YtlamooicofkjlaaW.PrintWords Go.Proofs.YtlamooicofkjlaaW.PrintLast Go.Proofs.YtlamooicofkjlaaW.PrintMore
attribute [local go_sem] max2_int min2_int max_two min_two max_three min_three max_four min_four   -- for this text's walks alone
set_option linter.unusedVariables false
set_option linter.unusedSimpArgs false

end Go.Proofs.Ytlamooicofkjlaa.QFnExactDoms
