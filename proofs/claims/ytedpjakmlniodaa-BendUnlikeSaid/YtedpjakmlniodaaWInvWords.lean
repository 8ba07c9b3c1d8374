-- words that the printed texts of this claim need; a program of this session has left out the others; Lean checks them.
import Derived.Test.YtedpjakmlniodaaWInv
import Derived.Test.YtedpjakmlniodaaWFootNe
namespace Go.Proofs.YtedpjakmlniodaaW.PrintWords
open Go.RowKit
end Go.Proofs.YtedpjakmlniodaaW.PrintWords
namespace Go.Proofs.YtedpjakmlniodaaW.PrintLast
section
variable {ops : Array Oper} {a : Act} {o og : Oper} {g : Nat} {t : Tmp} {u : Bool}
end
end Go.Proofs.YtedpjakmlniodaaW.PrintLast
