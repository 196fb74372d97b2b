-- Written by a program of this session (wip/tools/handprint.py) out of the translation; hand-written parts among it. Lean checks it.
import Derived.Test.YtdnmllodefbekaaDoorHShaSumsx0
import Derived.Test.YtdnmllodefbekaaDoorHShaSumsx1
import Derived.Test.YtdnmllodefbekaaDoorHShaSumsx2
import Derived.Test.YtdnmllodefbekaaDoorHShaSumsx3
import Derived.Test.YtdnmllodefbekaaDoorHShaSumsx4
namespace Go.Proofs.YtdnmllodefbekaaDoor.HShaSums
open Go.RowKit Go.Proofs.YtdnmllodefbekaaDoorW.PrintWords Go.Proofs.YtdnmllodefbekaaDoorW.PrintLast Go.Proofs.YtdnmllodefbekaaDoorW.PrintMore
attribute [local go_sem] max2_int min2_int max_two min_two max_three min_three max_four min_four   -- for this text's walks alone
set_option linter.unusedVariables false
set_option linter.unusedSimpArgs false

end Go.Proofs.YtdnmllodefbekaaDoor.HShaSums
