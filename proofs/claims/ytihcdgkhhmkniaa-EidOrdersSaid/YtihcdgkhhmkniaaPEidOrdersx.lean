-- written by a widened copy of the print, a program of this session; Lean checks it.
import Derived.Test.YtihcdgkhhmkniaaPEidOrdersx0
import Derived.Test.YtihcdgkhhmkniaaPEidOrdersx1
import Derived.Test.YtihcdgkhhmkniaaPEidOrdersx2
import Derived.Test.YtihcdgkhhmkniaaPEidOrdersx3
import Derived.Test.YtihcdgkhhmkniaaPEidOrdersx4
namespace Go.Proofs.Ytihcdgkhhmkniaa.PEidOrders
open Go.RowKit Go.Proofs.YtihcdgkhhmkniaaW.PrintWords Go.Proofs.YtihcdgkhhmkniaaW.PrintLast Go.Proofs.YtihcdgkhhmkniaaW.PrintMore
attribute [local go_sem] max2_int min2_int max_two min_two max_three min_three max_four min_four   -- for this text's walks alone
set_option linter.unusedVariables false
set_option linter.unusedSimpArgs false

end Go.Proofs.Ytihcdgkhhmkniaa.PEidOrders
