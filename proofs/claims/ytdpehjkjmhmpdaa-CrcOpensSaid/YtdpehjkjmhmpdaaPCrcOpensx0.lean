-- written by a widened copy of the print, a program of this session; Lean checks it.
import Derived.Test.YtdpehjkjmhmpdaaProg
import Derived.Below
import Derived.Deep.Draws
import Derived.Deep.AppendLies
import Derived.Maps.AppendAt
import Derived.OwnWalk
import Derived.Laws.BytesArg
import Derived.Laws.MakeOwn
import Derived.Laws.OwnMore
import Derived.Deep.OwnRows
import Derived.Tactics
import Derived.Lib.ConvBytes
import Derived.Laws.Slices
import Derived.WalkKit
import Derived.KernelRfl
import Derived.RowKit3
import Derived.Deep.LoopGhost
import Derived.Deep.QuietTactic
import Derived.BigQuiet
import Derived.WideLaws
import Derived.Deep.DeepCutAuto
import Derived.Deep.CutBlock
import Derived.Deep.RegionHeld3
import Derived.Laws.Rows
import Derived.Lib.AppendStr
import Derived.ArgAppend
import Derived.Laws.IdiomCopy
import Derived.OrdersHeld
import Derived.Laws.BitsLemmas
import Derived.RowKit
import Derived.Test.YtdpehjkjmhmpdaaWWords
import Derived.Test.YtdpehjkjmhmpdaaWLast
import Derived.Test.YtdpehjkjmhmpdaaWTab
import Derived.Test.YtdpehjkjmhmpdaaWFour
import Derived.Test.YtdpehjkjmhmpdaaWQPut
import Derived.Test.YtdpehjkjmhmpdaaWApart
import Derived.Test.YtdpehjkjmhmpdaaWArr
import Derived.Test.YtdpehjkjmhmpdaaWZeros
import Derived.Test.YtdpehjkjmhmpdaaWFoot
import Derived.Test.YtdpehjkjmhmpdaaWKept
import Derived.Test.YtdpehjkjmhmpdaaWShare
import Derived.Test.YtdpehjkjmhmpdaaWN
import Derived.Test.YtdpehjkjmhmpdaaWFootNe
import Derived.Test.YtdpehjkjmhmpdaaWAt
import Derived.Test.YtdpehjkjmhmpdaaWEqStruct
import Derived.Test.YtdpehjkjmhmpdaaWRepsOne
import Derived.Test.YtdpehjkjmhmpdaaWInv
import Derived.Test.YtdpehjkjmhmpdaaWInvWords
import Derived.Test.YtdpehjkjmhmpdaaWGuard
import Derived.Test.YtdpehjkjmhmpdaaWNEv
import Derived.Test.YtdpehjkjmhmpdaaWMore
namespace Go.Proofs.Ytdpehjkjmhmpdaa.PCrcOpens
open Go.RowKit Go.Proofs.YtdpehjkjmhmpdaaW.PrintWords Go.Proofs.YtdpehjkjmhmpdaaW.PrintLast Go.Proofs.YtdpehjkjmhmpdaaW.PrintMore
attribute [local go_sem] max2_int min2_int max_two min_two max_three min_three max_four min_four   -- for this text's walks alone
set_option linter.unusedVariables false
set_option linter.unusedSimpArgs false



def errW : Option Int → Value
  | none => .nilIface
  | some c => .iface 0 (.int .i64 c)
theorem errW_none : errW none = .nilIface := rfl
theorem errW_some (c : Int) : errW (some c) = .iface 0 (.int .i64 c) := rfl

theorem info4 : (Try.prog.info? 4).map (fun i => (i.zero, i.size, i.bytes)) = some (some (.bool false), 1, 1) := by kernel_rfl
theorem info5 : (Try.prog.info? 5).map (fun i => (i.zero, i.size, i.bytes)) = some (some (.int .u8 0), 1, 1) := by kernel_rfl
-- the values' own types

end Go.Proofs.Ytdpehjkjmhmpdaa.PCrcOpens
