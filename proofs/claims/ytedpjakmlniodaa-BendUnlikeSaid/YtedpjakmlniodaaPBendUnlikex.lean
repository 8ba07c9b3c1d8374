-- written by a widened copy of the print, a program of this session; Lean checks it.
import Derived.Test.YtedpjakmlniodaaPBendUnlikex0
import Derived.Test.YtedpjakmlniodaaPBendUnlikex1
import Derived.Test.YtedpjakmlniodaaPBendUnlikex2
import Derived.Test.YtedpjakmlniodaaPBendUnlikex3
import Derived.Test.YtedpjakmlniodaaPBendUnlikex4
import Derived.Test.YtedpjakmlniodaaPBendUnlikex5
import Derived.Test.YtedpjakmlniodaaPBendUnlikex6
import Derived.Test.YtedpjakmlniodaaPBendUnlikex7
import Derived.Test.YtedpjakmlniodaaPBendUnlikex8
import Derived.Test.YtedpjakmlniodaaPBendUnlikex9
namespace Go.Proofs.Ytedpjakmlniodaa.PBendUnlike
open Go.RowKit Go.Proofs.YtedpjakmlniodaaW.PrintWords Go.Proofs.YtedpjakmlniodaaW.PrintLast Go.Proofs.YtedpjakmlniodaaW.PrintMore
attribute [local go_sem] max2_int min2_int max_two min_two max_three min_three max_four min_four   -- for this text's walks alone
set_option linter.unusedVariables false
set_option linter.unusedSimpArgs false

end Go.Proofs.Ytedpjakmlniodaa.PBendUnlike
