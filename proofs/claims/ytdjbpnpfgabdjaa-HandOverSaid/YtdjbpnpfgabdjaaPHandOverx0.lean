-- written by a widened copy of the print, a program of this session; Lean checks it.
import Derived.Test.YtdjbpnpfgabdjaaProg
import Derived.Below
import Derived.Deep.Draws
import Derived.Deep.AppendLies
import Derived.Maps.AppendAt
import Derived.OwnWalk
import Derived.Laws.BytesArg
import Derived.Laws.MakeOwn
import Derived.Laws.OwnMore
import Derived.Deep.OwnRows
import Derived.Tactics
import Derived.Lib.ConvBytes
import Derived.Laws.Slices
import Derived.WalkKit
import Derived.KernelRfl
import Derived.RowKit3
import Derived.Deep.LoopGhost
import Derived.Deep.QuietTactic
import Derived.BigQuiet
import Derived.WideLaws
import Derived.Deep.DeepCutAuto
import Derived.Deep.CutBlock
import Derived.Deep.RegionHeld3
import Derived.Laws.Rows
import Derived.Lib.AppendStr
import Derived.ArgAppend
import Derived.Laws.IdiomCopy
import Derived.OrdersHeld
import Derived.Laws.BitsLemmas
import Derived.RowKit
import Derived.Test.YtdjbpnpfgabdjaaWWords
import Derived.Test.YtdjbpnpfgabdjaaWLast
import Derived.Test.YtdjbpnpfgabdjaaWTab
import Derived.Test.YtdjbpnpfgabdjaaWFour
import Derived.Test.YtdjbpnpfgabdjaaWQPut
import Derived.Test.YtdjbpnpfgabdjaaWApart
import Derived.Test.YtdjbpnpfgabdjaaWArr
import Derived.Test.YtdjbpnpfgabdjaaWZeros
import Derived.Test.YtdjbpnpfgabdjaaWFoot
import Derived.Test.YtdjbpnpfgabdjaaWKept
import Derived.Test.YtdjbpnpfgabdjaaWShare
import Derived.Test.YtdjbpnpfgabdjaaWN
import Derived.Test.YtdjbpnpfgabdjaaWFootNe
import Derived.Test.YtdjbpnpfgabdjaaWAt
import Derived.Test.YtdjbpnpfgabdjaaWEqStruct
import Derived.Test.YtdjbpnpfgabdjaaWRepsOne
import Derived.Test.YtdjbpnpfgabdjaaWInv
import Derived.Test.YtdjbpnpfgabdjaaWInvWords
import Derived.Test.YtdjbpnpfgabdjaaWGuard
import Derived.Test.YtdjbpnpfgabdjaaWNEv
import Derived.Test.YtdjbpnpfgabdjaaWMore
namespace Go.Proofs.Ytdjbpnpfgabdjaa.PHandOver
open Go.RowKit Go.Proofs.YtdjbpnpfgabdjaaW.PrintWords Go.Proofs.YtdjbpnpfgabdjaaW.PrintLast Go.Proofs.YtdjbpnpfgabdjaaW.PrintMore
attribute [local go_sem] max2_int min2_int max_two min_two max_three min_three max_four min_four   -- for this text's walks alone
set_option linter.unusedVariables false
set_option linter.unusedSimpArgs false



def errW : Option Int → Value
  | none => .nilIface
  | some c => .iface 0 (.int .i64 c)
theorem errW_none : errW none = .nilIface := rfl
theorem errW_some (c : Int) : errW (some c) = .iface 0 (.int .i64 c) := rfl

-- the values' own types

end Go.Proofs.Ytdjbpnpfgabdjaa.PHandOver
