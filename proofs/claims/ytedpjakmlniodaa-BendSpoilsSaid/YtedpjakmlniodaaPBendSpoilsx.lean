-- written by a widened copy of the print, a program of this session; Lean checks it.
import Derived.Test.YtedpjakmlniodaaPBendSpoilsx0
import Derived.Test.YtedpjakmlniodaaPBendSpoilsx1
import Derived.Test.YtedpjakmlniodaaPBendSpoilsx2
import Derived.Test.YtedpjakmlniodaaPBendSpoilsx3
import Derived.Test.YtedpjakmlniodaaPBendSpoilsx4
import Derived.Test.YtedpjakmlniodaaPBendSpoilsx5
import Derived.Test.YtedpjakmlniodaaPBendSpoilsx6
namespace Go.Proofs.Ytedpjakmlniodaa.PBendSpoils
open Go.RowKit Go.Proofs.YtedpjakmlniodaaW.PrintWords Go.Proofs.YtedpjakmlniodaaW.PrintLast Go.Proofs.YtedpjakmlniodaaW.PrintMore
attribute [local go_sem] max2_int min2_int max_two min_two max_three min_three max_four min_four   -- for this text's walks alone
set_option linter.unusedVariables false
set_option linter.unusedSimpArgs false

end Go.Proofs.Ytedpjakmlniodaa.PBendSpoils
