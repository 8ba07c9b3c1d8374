-- written by a widened copy of the print, a program of this session; Lean checks it.
import Derived.Test.YtlbcffdjdbjgcaaPSendPushesx0
import Derived.Test.YtlbcffdjdbjgcaaPSendPushesx1
import Derived.Test.YtlbcffdjdbjgcaaPSendPushesx2
import Derived.Test.YtlbcffdjdbjgcaaPSendPushesx3
import Derived.Test.YtlbcffdjdbjgcaaPSendPushesx4
import Derived.Test.YtlbcffdjdbjgcaaPSendPushesx5
import Derived.Test.YtlbcffdjdbjgcaaPSendPushesx6
import Derived.Test.YtlbcffdjdbjgcaaPSendPushesx7
import Derived.Test.YtlbcffdjdbjgcaaPSendPushesx8
namespace Go.Proofs.Ytlbcffdjdbjgcaa.PSendPushes
open Go.RowKit Go.Proofs.YtlbcffdjdbjgcaaW.PrintWords Go.Proofs.YtlbcffdjdbjgcaaW.PrintLast Go.Proofs.YtlbcffdjdbjgcaaW.PrintMore
attribute [local go_sem] max2_int min2_int max_two min_two max_three min_three max_four min_four   -- for this text's walks alone
set_option linter.unusedVariables false
set_option linter.unusedSimpArgs false

end Go.Proofs.Ytlbcffdjdbjgcaa.PSendPushes
