-- written by a widened copy of the print, a program of this session; Lean checks it.
import Derived.Test.YtbekobpjigbbkaaPFrameCodesx0
import Derived.Test.YtbekobpjigbbkaaPFrameCodesx1
import Derived.Test.YtbekobpjigbbkaaPFrameCodesx2
import Derived.Test.YtbekobpjigbbkaaPFrameCodesx3
import Derived.Test.YtbekobpjigbbkaaPFrameCodesx4
import Derived.Test.YtbekobpjigbbkaaPFrameCodesx5
import Derived.Test.YtbekobpjigbbkaaPFrameCodesx6
import Derived.Test.YtbekobpjigbbkaaPFrameCodesx7
namespace Go.Proofs.Ytbekobpjigbbkaa.PFrameCodes
open Go.RowKit Go.Proofs.YtbekobpjigbbkaaW.PrintWords Go.Proofs.YtbekobpjigbbkaaW.PrintLast Go.Proofs.YtbekobpjigbbkaaW.PrintMore
attribute [local go_sem] max2_int min2_int max_two min_two max_three min_three max_four min_four   -- for this text's walks alone
set_option linter.unusedVariables false
set_option linter.unusedSimpArgs false

end Go.Proofs.Ytbekobpjigbbkaa.PFrameCodes
