-- written by a widened copy of the print, a program of this session; Lean checks it.
import Derived.Test.YtedpjakmlniodaaPBendBurstsx0
import Derived.Test.YtedpjakmlniodaaPBendBurstsx1
import Derived.Test.YtedpjakmlniodaaPBendBurstsx2
import Derived.Test.YtedpjakmlniodaaPBendBurstsx3
import Derived.Test.YtedpjakmlniodaaPBendBurstsx4
import Derived.Test.YtedpjakmlniodaaPBendBurstsx5
import Derived.Test.YtedpjakmlniodaaPBendBurstsx6
import Derived.Test.YtedpjakmlniodaaPBendBurstsx7
namespace Go.Proofs.Ytedpjakmlniodaa.PBendBursts
open Go.RowKit Go.Proofs.YtedpjakmlniodaaW.PrintWords Go.Proofs.YtedpjakmlniodaaW.PrintLast Go.Proofs.YtedpjakmlniodaaW.PrintMore
attribute [local go_sem] max2_int min2_int max_two min_two max_three min_three max_four min_four   -- for this text's walks alone
set_option linter.unusedVariables false
set_option linter.unusedSimpArgs false

end Go.Proofs.Ytedpjakmlniodaa.PBendBursts
