-- written by a widened copy of the print, a program of this session; Lean checks it.
import Derived.Test.YtlbcffdjdbjgcaaPSendNumbersx0
import Derived.Test.YtlbcffdjdbjgcaaPSendNumbersx1
import Derived.Test.YtlbcffdjdbjgcaaPSendNumbersx2
import Derived.Test.YtlbcffdjdbjgcaaPSendNumbersx3
import Derived.Test.YtlbcffdjdbjgcaaPSendNumbersx4
import Derived.Test.YtlbcffdjdbjgcaaPSendNumbersx5
import Derived.Test.YtlbcffdjdbjgcaaPSendNumbersx6
namespace Go.Proofs.Ytlbcffdjdbjgcaa.PSendNumbers
open Go.RowKit Go.Proofs.YtlbcffdjdbjgcaaW.PrintWords Go.Proofs.YtlbcffdjdbjgcaaW.PrintLast Go.Proofs.YtlbcffdjdbjgcaaW.PrintMore
attribute [local go_sem] max2_int min2_int max_two min_two max_three min_three max_four min_four   -- for this text's walks alone
set_option linter.unusedVariables false
set_option linter.unusedSimpArgs false

end Go.Proofs.Ytlbcffdjdbjgcaa.PSendNumbers
