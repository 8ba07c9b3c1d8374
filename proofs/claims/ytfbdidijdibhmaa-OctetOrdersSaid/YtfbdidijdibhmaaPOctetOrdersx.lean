-- written by a widened copy of the print, a program of this session; Lean checks it.
import Derived.Test.YtfbdidijdibhmaaPOctetOrdersx0
import Derived.Test.YtfbdidijdibhmaaPOctetOrdersx1
import Derived.Test.YtfbdidijdibhmaaPOctetOrdersx2
namespace Go.Proofs.Ytfbdidijdibhmaa.POctetOrders
open Go.RowKit Go.Proofs.YtfbdidijdibhmaaW.PrintWords Go.Proofs.YtfbdidijdibhmaaW.PrintLast Go.Proofs.YtfbdidijdibhmaaW.PrintMore
attribute [local go_sem] max2_int min2_int max_two min_two max_three min_three max_four min_four   -- for this text's walks alone
set_option linter.unusedVariables false
set_option linter.unusedSimpArgs false

end Go.Proofs.Ytfbdidijdibhmaa.POctetOrders
