-- words that the printed texts of this claim need; a program of this session has left out the others; Lean checks them.
import Derived.Test.YtbekobpjigbbkaaWInv
import Derived.Test.YtbekobpjigbbkaaWFootNe
namespace Go.Proofs.YtbekobpjigbbkaaW.PrintWords
open Go.RowKit
end Go.Proofs.YtbekobpjigbbkaaW.PrintWords
namespace Go.Proofs.YtbekobpjigbbkaaW.PrintLast
section
variable {ops : Array Oper} {a : Act} {o og : Oper} {g : Nat} {t : Tmp} {u : Bool}
end
end Go.Proofs.YtbekobpjigbbkaaW.PrintLast
