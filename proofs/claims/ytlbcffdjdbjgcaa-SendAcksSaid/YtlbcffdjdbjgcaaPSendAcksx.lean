-- written by a widened copy of the print, a program of this session; Lean checks it.
import Derived.Test.YtlbcffdjdbjgcaaPSendAcksx0
import Derived.Test.YtlbcffdjdbjgcaaPSendAcksx1
import Derived.Test.YtlbcffdjdbjgcaaPSendAcksx2
import Derived.Test.YtlbcffdjdbjgcaaPSendAcksx3
import Derived.Test.YtlbcffdjdbjgcaaPSendAcksx4
import Derived.Test.YtlbcffdjdbjgcaaPSendAcksx5
import Derived.Test.YtlbcffdjdbjgcaaPSendAcksx6
import Derived.Test.YtlbcffdjdbjgcaaPSendAcksx7
namespace Go.Proofs.Ytlbcffdjdbjgcaa.PSendAcks
open Go.RowKit Go.Proofs.YtlbcffdjdbjgcaaW.PrintWords Go.Proofs.YtlbcffdjdbjgcaaW.PrintLast Go.Proofs.YtlbcffdjdbjgcaaW.PrintMore
attribute [local go_sem] max2_int min2_int max_two min_two max_three min_three max_four min_four   -- for this text's walks alone
set_option linter.unusedVariables false
set_option linter.unusedSimpArgs false

end Go.Proofs.Ytlbcffdjdbjgcaa.PSendAcks
