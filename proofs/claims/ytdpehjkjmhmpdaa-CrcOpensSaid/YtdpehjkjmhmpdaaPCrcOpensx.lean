-- written by a widened copy of the print, a program of this session; Lean checks it.
import Derived.Test.YtdpehjkjmhmpdaaPCrcOpensx0
import Derived.Test.YtdpehjkjmhmpdaaPCrcOpensx1
import Derived.Test.YtdpehjkjmhmpdaaPCrcOpensx2
import Derived.Test.YtdpehjkjmhmpdaaPCrcOpensx3
namespace Go.Proofs.Ytdpehjkjmhmpdaa.PCrcOpens
open Go.RowKit Go.Proofs.YtdpehjkjmhmpdaaW.PrintWords Go.Proofs.YtdpehjkjmhmpdaaW.PrintLast Go.Proofs.YtdpehjkjmhmpdaaW.PrintMore
attribute [local go_sem] max2_int min2_int max_two min_two max_three min_three max_four min_four   -- for this text's walks alone
set_option linter.unusedVariables false
set_option linter.unusedSimpArgs false

end Go.Proofs.Ytdpehjkjmhmpdaa.PCrcOpens
