-- written by a widened copy of the print, a program of this session; Lean checks it.
import Derived.Test.YtbekobpjigbbkaaPFrameDecodesx0
import Derived.Test.YtbekobpjigbbkaaPFrameDecodesx1
import Derived.Test.YtbekobpjigbbkaaPFrameDecodesx2
import Derived.Test.YtbekobpjigbbkaaPFrameDecodesx3
import Derived.Test.YtbekobpjigbbkaaPFrameDecodesx4
import Derived.Test.YtbekobpjigbbkaaPFrameDecodesx5
import Derived.Test.YtbekobpjigbbkaaPFrameDecodesx6
import Derived.Test.YtbekobpjigbbkaaPFrameDecodesx7
import Derived.Test.YtbekobpjigbbkaaPFrameDecodesx8
import Derived.Test.YtbekobpjigbbkaaPFrameDecodesx9
namespace Go.Proofs.Ytbekobpjigbbkaa.PFrameDecodes
open Go.RowKit Go.Proofs.YtbekobpjigbbkaaW.PrintWords Go.Proofs.YtbekobpjigbbkaaW.PrintLast Go.Proofs.YtbekobpjigbbkaaW.PrintMore
attribute [local go_sem] max2_int min2_int max_two min_two max_three min_three max_four min_four   -- for this text's walks alone
set_option linter.unusedVariables false
set_option linter.unusedSimpArgs false

end Go.Proofs.Ytbekobpjigbbkaa.PFrameDecodes
