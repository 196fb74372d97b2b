-- Written by a program of this session (wip/tools/handprint.py) out of the translation; hand-written parts among it. Lean checks it.
import Derived.Test.YtmfbmagbpceomaaHFrameBytesx0
import Derived.Test.YtmfbmagbpceomaaHFrameBytesx1
import Derived.Test.YtmfbmagbpceomaaHFrameBytesx2
import Derived.Test.YtmfbmagbpceomaaHFrameBytesx3
import Derived.Test.YtmfbmagbpceomaaHFrameBytesx4
import Derived.Test.YtmfbmagbpceomaaHFrameBytesx5
import Derived.Test.YtmfbmagbpceomaaHFrameBytesx6
import Derived.Test.YtmfbmagbpceomaaHFrameBytesx7
import Derived.Test.YtmfbmagbpceomaaHFrameBytesx8
import Derived.Test.YtmfbmagbpceomaaHFrameBytesx9
import Derived.Test.YtmfbmagbpceomaaHFrameBytesx10
import Derived.Test.YtmfbmagbpceomaaHFrameBytesx11
import Derived.Test.YtmfbmagbpceomaaHFrameBytesx12
import Derived.Test.YtmfbmagbpceomaaHFrameBytesx13
import Derived.Test.YtmfbmagbpceomaaHFrameBytesx14
import Derived.Test.YtmfbmagbpceomaaHFrameBytesx15
import Derived.Test.YtmfbmagbpceomaaHFrameBytesx16
import Derived.Test.YtmfbmagbpceomaaHFrameBytesx17
import Derived.Test.YtmfbmagbpceomaaHFrameBytesx18
namespace Go.Proofs.Ytmfbmagbpceomaa.HFrameBytes
open Go.RowKit Go.Proofs.YtmfbmagbpceomaaW.PrintWords Go.Proofs.YtmfbmagbpceomaaW.PrintLast Go.Proofs.YtmfbmagbpceomaaW.PrintMore
attribute [local go_sem] max2_int min2_int max_two min_two max_three min_three max_four min_four   -- for this text's walks alone
set_option linter.unusedVariables false
set_option linter.unusedSimpArgs false

end Go.Proofs.Ytmfbmagbpceomaa.HFrameBytes
