-- written by a widened copy of the print, a program of this session; Lean checks it.
import Derived.Test.YtihcdgkhhmkniaaProg
import Derived.Below
import Derived.Deep.Draws
import Derived.Deep.AppendLies
import Derived.Maps.AppendAt
import Derived.OwnWalk
import Derived.Laws.BytesArg
import Derived.Laws.MakeOwn
import Derived.Laws.OwnMore
import Derived.Deep.OwnRows
import Derived.Tactics
import Derived.Lib.ConvBytes
import Derived.Laws.Slices
import Derived.WalkKit
import Derived.KernelRfl
import Derived.RowKit3
import Derived.Deep.LoopGhost
import Derived.Deep.QuietTactic
import Derived.BigQuiet
import Derived.WideLaws
import Derived.Deep.DeepCutAuto
import Derived.Deep.CutBlock
import Derived.Deep.RegionHeld3
import Derived.Laws.Rows
import Derived.Lib.AppendStr
import Derived.ArgAppend
import Derived.Laws.IdiomCopy
import Derived.OrdersHeld
import Derived.Laws.BitsLemmas
import Derived.RowKit
import Derived.Test.YtihcdgkhhmkniaaWWords
import Derived.Test.YtihcdgkhhmkniaaWLast
import Derived.Test.YtihcdgkhhmkniaaWTab
import Derived.Test.YtihcdgkhhmkniaaWFour
import Derived.Test.YtihcdgkhhmkniaaWQPut
import Derived.Test.YtihcdgkhhmkniaaWApart
import Derived.Test.YtihcdgkhhmkniaaWArr
import Derived.Test.YtihcdgkhhmkniaaWZeros
import Derived.Test.YtihcdgkhhmkniaaWFoot
import Derived.Test.YtihcdgkhhmkniaaWKept
import Derived.Test.YtihcdgkhhmkniaaWShare
import Derived.Test.YtihcdgkhhmkniaaWN
import Derived.Test.YtihcdgkhhmkniaaWFootNe
import Derived.Test.YtihcdgkhhmkniaaWAt
import Derived.Test.YtihcdgkhhmkniaaWEqStruct
import Derived.Test.YtihcdgkhhmkniaaWRepsOne
import Derived.Test.YtihcdgkhhmkniaaWInv
import Derived.Test.YtihcdgkhhmkniaaWInvWords
import Derived.Test.YtihcdgkhhmkniaaWGuard
import Derived.Test.YtihcdgkhhmkniaaWNEv
import Derived.Test.YtihcdgkhhmkniaaWMore
namespace Go.Proofs.Ytihcdgkhhmkniaa.PEidOrders
open Go.RowKit Go.Proofs.YtihcdgkhhmkniaaW.PrintWords Go.Proofs.YtihcdgkhhmkniaaW.PrintLast Go.Proofs.YtihcdgkhhmkniaaW.PrintMore
attribute [local go_sem] max2_int min2_int max_two min_two max_three min_three max_four min_four   -- for this text's walks alone
set_option linter.unusedVariables false
set_option linter.unusedSimpArgs false



def errW : Option Int → Value
  | none => .nilIface
  | some c => .iface 0 (.int .i64 c)
theorem errW_none : errW none = .nilIface := rfl
theorem errW_some (c : Int) : errW (some c) = .iface 0 (.int .i64 c) := rfl

theorem info3 : (Try.prog.info? 3).map (fun i => (i.zero, i.size, i.bytes)) = some (some (.int .i64 0), 1, 8) := by kernel_rfl
-- the values' own types

end Go.Proofs.Ytihcdgkhhmkniaa.PEidOrders
