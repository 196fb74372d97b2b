-- Written by a program of this session (wip/tools/handprint.py) out of the translation; hand-written parts among it. Lean checks it.
import Derived.Test.YtmfbmagbpceomaaHFrameBackx0
import Derived.Test.YtmfbmagbpceomaaHFrameBackx1
import Derived.Test.YtmfbmagbpceomaaHFrameBackx2
import Derived.Test.YtmfbmagbpceomaaHFrameBackx3
import Derived.Test.YtmfbmagbpceomaaHFrameBackx4
import Derived.Test.YtmfbmagbpceomaaHFrameBackx5
import Derived.Test.YtmfbmagbpceomaaHFrameBackx6
import Derived.Test.YtmfbmagbpceomaaHFrameBackx7
import Derived.Test.YtmfbmagbpceomaaHFrameBackx8
import Derived.Test.YtmfbmagbpceomaaHFrameBackx9
import Derived.Test.YtmfbmagbpceomaaHFrameBackx10
namespace Go.Proofs.Ytmfbmagbpceomaa.HFrameBack
open Go.RowKit Go.Proofs.YtmfbmagbpceomaaW.PrintWords Go.Proofs.YtmfbmagbpceomaaW.PrintLast Go.Proofs.YtmfbmagbpceomaaW.PrintMore
attribute [local go_sem] max2_int min2_int max_two min_two max_three min_three max_four min_four   -- for this text's walks alone
set_option linter.unusedVariables false
set_option linter.unusedSimpArgs false

end Go.Proofs.Ytmfbmagbpceomaa.HFrameBack
