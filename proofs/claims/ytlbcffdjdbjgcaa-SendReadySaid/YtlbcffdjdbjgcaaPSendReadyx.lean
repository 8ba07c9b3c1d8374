-- written by a widened copy of the print, a program of this session; Lean checks it.
import Derived.Test.YtlbcffdjdbjgcaaPSendReadyx0
import Derived.Test.YtlbcffdjdbjgcaaPSendReadyx1
import Derived.Test.YtlbcffdjdbjgcaaPSendReadyx2
import Derived.Test.YtlbcffdjdbjgcaaPSendReadyx3
import Derived.Test.YtlbcffdjdbjgcaaPSendReadyx4
import Derived.Test.YtlbcffdjdbjgcaaPSendReadyx5
import Derived.Test.YtlbcffdjdbjgcaaPSendReadyx6
import Derived.Test.YtlbcffdjdbjgcaaPSendReadyx7
import Derived.Test.YtlbcffdjdbjgcaaPSendReadyx8
import Derived.Test.YtlbcffdjdbjgcaaPSendReadyx9
namespace Go.Proofs.Ytlbcffdjdbjgcaa.PSendReady
open Go.RowKit Go.Proofs.YtlbcffdjdbjgcaaW.PrintWords Go.Proofs.YtlbcffdjdbjgcaaW.PrintLast Go.Proofs.YtlbcffdjdbjgcaaW.PrintMore
attribute [local go_sem] max2_int min2_int max_two min_two max_three min_three max_four min_four   -- for this text's walks alone
set_option linter.unusedVariables false
set_option linter.unusedSimpArgs false

end Go.Proofs.Ytlbcffdjdbjgcaa.PSendReady
