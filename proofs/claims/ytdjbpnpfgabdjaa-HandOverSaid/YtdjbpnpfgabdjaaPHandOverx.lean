-- written by a widened copy of the print, a program of this session; Lean checks it.
import Derived.Test.YtdjbpnpfgabdjaaPHandOverx0
import Derived.Test.YtdjbpnpfgabdjaaPHandOverx1
import Derived.Test.YtdjbpnpfgabdjaaPHandOverx2
import Derived.Test.YtdjbpnpfgabdjaaPHandOverx3
import Derived.Test.YtdjbpnpfgabdjaaPHandOverx4
import Derived.Test.YtdjbpnpfgabdjaaPHandOverx5
namespace Go.Proofs.Ytdjbpnpfgabdjaa.PHandOver
open Go.RowKit Go.Proofs.YtdjbpnpfgabdjaaW.PrintWords Go.Proofs.YtdjbpnpfgabdjaaW.PrintLast Go.Proofs.YtdjbpnpfgabdjaaW.PrintMore
attribute [local go_sem] max2_int min2_int max_two min_two max_three min_three max_four min_four   -- for this text's walks alone
set_option linter.unusedVariables false
set_option linter.unusedSimpArgs false

end Go.Proofs.Ytdjbpnpfgabdjaa.PHandOver
